/- Sc03. -/
import Derived.Test.YtjnklbfhelbjgaaGreatSc00
import Derived.Deep.CutRange
import Derived.Test.YtjnklbfhelbjgaaGreatSc01
import Derived.Laws.AppendOwnNone
import Derived.Deep.RegionWith
import Derived.Test.YtjnklbfhelbjgaaGreatSc02
import Derived.Deep.LoopGhost
import Derived.Deep.RegionHeld3
import Derived.Deep.DrawnRows
set_option maxRecDepth 100000
set_option maxHeartbeats 32000000
set_option linter.all false
namespace Go.Proofs.YtjnklbfhelbjgaaGreat
open Go.RowKit Go.IntWalk
theorem limb_any {B:Nat}{A:Option Addr}{n c:Nat}{L:List Nat}{w:World}(h:RdU w B A n c L)(k:Nat){ki:Int}(hk:ki=k)(hkl:k<=17592186044416) :
  Calls Tryz.prog 237 #[.slice A n c,.int .i64 ki] w fun e w'=>∃ x:Nat,e=.returned (.int .u64 x)/\Hid (x=Dg.ld L k)/\w=w':=by
 subst hk
 have HLEN:=ah h.len
 by_cases hkn:k < n
 ·obtain ⟨hx,ad,rfl,hb,hc⟩:=h.at_ k (Dg.ld L k) (Dg.get_of_ld (by rw [HLEN.out];exact hkn))
  generalize hgx:Dg.ld L k=x at hx hc
  clear hgx
  go_enter Tryz.func237,Tryz.ntmps237
  go_wp2
  go_ret
  exact ⟨x,rfl,ah rfl,rfl⟩
 ·have hz:Dg.ld L k=0:=Dg.ld_ge (by rw [HLEN.out];omega)
  have HZ:=ah hz
  clear hz
  go_enter Tryz.func237,Tryz.ntmps237
  go_wp2
  go_ret
  exact ⟨0,rfl,ah HZ.out.symm,rfl⟩
theorem take_set_succ {L O:List Nat}{t x:Nat}(hO:t < O.length)(hL:t < L.length)(h:O.take t=L.take t)(hx:x=Dg.ld L t):(O.set t x).take (t+1)=L.take (t+1):=by
 rw [List.take_succ_eq_append_getElem (by simpa using hO),List.take_succ_eq_append_getElem hL,List.take_set_of_le (Nat.le_refl t),h,hx,Dg.ld_lt hL]
 simp
theorem refNorm_any {A:Option Addr}{n c:Nat}{L:List Nat}{w:World}(h:RdU w w.heap.size A n c L)(hn:n<=17592186044416) :
  Calls Tryz.prog 197 #[.slice A n c] w (RetN (Dg.val L) w):=by
 have hw:=h.wd
 have hlen:=ah h.len
 go_enter Tryz.func197,Tryz.ntmps197
 go_wp2
 go_loop [3] (fun a=>∃ k:Nat,k<=n/\a=.int .i64 k/\Hid (∀ i,k<=i->Dg.ld L i=0)) (fun a=>(intOf a).toNat)
 case atStart=>exact ⟨n,nR,rfl,ah fun i hi=>Dg.ld_ge (by rw [hlen.out];exact hi)⟩
 case round =>
  obtain ⟨k,hk,rfl,h0⟩:=hrel
  have hgo:(k=0 ∨ Dg.ld L (k-1) ≠ 0) ∨ ∃ j,k=j+1/\Dg.ld L j=0:=by
   rcases Nat.eq_zero_or_pos k with h1 | h1
   ·exact .inl (.inl h1)
   ·by_cases h2:Dg.ld L (k-1)=0
    ·exact .inr ⟨k-1,by omega,h2⟩
    ·exact .inl (.inr h2)
  rcases hgo with hstop | ⟨j,rfl,hz⟩
  ·have hd:=tr_done hw (by rw [hlen.out];exact hk) h0.out hstop
   have HD:=ah hd
   have HS:=ah hstop
   clear hd
   have hmk:=make_nat k (by omega)
   have hB0:=(Below.refl w.heap.size w).alloc nR (.cells (madeCells #[.int .u32 0] k) 171)
   have hU0:=UB.made w k
   rcases Nat.eq_zero_or_pos k with hk0 | hk0
   ·have hkI:¬ (0:Int) < (k:Int):=by omega
    clear hstop hk0
    go_wp2_with fail
    have hB0:=hB0
    generalize w.alloc (.cells (madeCells #[.int .u32 0] k) 171)=W1 at hB0 hU0 ⊢
    clear hmk
    obtain ⟨g,hg⟩:∃ g,g=w.heap.size:=⟨_,rfl⟩
    rw [<- hg] at hU0 ⊢
    have HG:=ah hg
    clear hg
    go_wp2_with fail
    go_loopw [5] (fun i wr=>∃ (t:Nat) (O:List Nat),i=.int .i64 t/\t<=k/\UB wr g O/\Hid (O.length=k/\Dg.Wd O/\O.take t=L.take t)/\Below w.heap.size w wr) (fun i _=>k-(intOf i).toNat)
    case atStart=>exact ⟨0,_,rfl,nZ,hU0,ah ⟨by simp,Dg.Wd.zeros _,by simp⟩,hB0⟩
    case round =>
     clear hU0 hB0
     obtain ⟨t,O,rfl,ht,hU,hO,hB⟩:=hrel
     by_cases htk:t < k
     ·exact absurd htk (by omega)
     ·obtain rfl:t=k:=by omega
      go_wp2
      go_ret
      have hO1:=hU.own hO.out.2.1 (b:=w.heap.size) (by have:=HG.out;omega) (k:=t) (by rw [hO.out.1];exact nR) (by rw [hO.out.1];unfold maxLen;omega)
      rw [hO.out.1,hO.out.2.2,HD.out.2] at hO1
      exact ⟨_,_,_,_,rfl,hO1,ah rfl,hB⟩
   ·obtain ⟨j,hj⟩:∃ j,j=k-1:=⟨_,rfl⟩
    obtain ⟨hx,ad,rfl,hb,hc⟩:=h.at_ j (Dg.ld L j) (Dg.get_of_ld (by rw [hlen.out];omega))
    have hne:Dg.ld L j ≠ 0:=by
     rcases hstop with h1 | h1
     ·omega
     ·rw [hj];exact h1
    have hz':((Dg.ld L j:Int) == 0)=false:=by simpa using hne
    have hidx:(k:Int)-1=(j:Int):=by omega
    have hjn:(j:Int) < n:=by omega
    clear hstop hne hj
    generalize Dg.ld L j=x at hx hc hz'
    go_wp2_with fail
    clear hx hb hc hz' hidx hjn
    have hB0:=hB0
    generalize w.alloc (.cells (madeCells #[.int .u32 0] k) 171)=W1 at hB0 hU0 ⊢
    clear hmk
    obtain ⟨g,hg⟩:∃ g,g=w.heap.size:=⟨_,rfl⟩
    rw [<- hg] at hU0 ⊢
    have HG:=ah hg
    clear hg
    go_wp2_with fail
    go_loopw [5] (fun i wr=>∃ (t:Nat) (O:List Nat),i=.int .i64 t/\t<=k/\UB wr g O/\Hid (O.length=k/\Dg.Wd O/\O.take t=L.take t)/\Below w.heap.size w wr) (fun i _=>k-(intOf i).toNat)
    case atStart=>exact ⟨0,_,rfl,nZ,hU0,ah ⟨by simp,Dg.Wd.zeros _,by simp⟩,hB0⟩
    case round =>
     clear hU0 hB0
     obtain ⟨t,O,rfl,ht,hU,hO,hB⟩:=hrel
     by_cases htk:t < k
     ·obtain ⟨hx,ad',e1,hb,hc⟩:=h.at_ t (Dg.ld L t) (Dg.get_of_ld (by rw [hlen.out];omega))
      injection e1 with e1
      subst e1
      have hc:=(hB.cell (p:=ad.add t) (by rw [add_blk];exact hb)).trans hc
      obtain ⟨x,ex⟩:∃ x,x=Dg.ld L t:=⟨_,rfl⟩
      rw [<- ex] at hx hc
      have EX:=ah ex
      clear ex
      have hcell:=hU.cell (Dg.get_of_ld (L:=O) (i:=t) (by rw [hO.out.1];exact htk))
      generalize Dg.ld O t=o0 at hcell
      have hfz:=hU.frozen t
      have hU1:=hU.set t x
      have hB1:=hB.setCell (p:=⟨g,t,none⟩) (by show w.heap.size<=g;have:=HG.out;omega) (.int .u32 x)
      have htn:(t:Int) < n:=by omega
      go_wp2
      go_roundw
      case rel=>exact ⟨t+1,_,by go_num,htk,hU1,ah ⟨by rw [List.length_set];exact hO.out.1,hO.out.2.1.set t hx,take_set_succ (by rw [hO.out.1];exact htk) (by rw [hlen.out];omega) hO.out.2.2 EX.out⟩,hB1⟩
      case measure=>simp [intOf];omega
     ·obtain rfl:t=k:=by omega
      go_wp2
      go_ret
      have hO1:=hU.own hO.out.2.1 (b:=w.heap.size) (by have:=HG.out;omega) (k:=t) (by rw [hO.out.1];exact nR) (by rw [hO.out.1];unfold maxLen;omega)
      rw [hO.out.1,hO.out.2.2,HD.out.2] at hO1
      exact ⟨_,_,_,_,rfl,hO1,ah rfl,hB⟩
  ·have hi:=hk
   obtain ⟨hx,ad,rfl,hb,hc⟩:=h.at_ j (Dg.ld L j) (Dg.get_of_ld (by rw [hlen.out];omega))
   have hc0:w.cell? (ad.add j)=some (.int .u32 0):=by rw [hc,hz];rfl
   have HZ:=ah hz
   clear hz hc
   go_wp2
   go_round
   case rel=>exact ⟨j,by omega,rfl,ah fun i hi=>by
    rcases Nat.lt_or_ge j i with h1 | h1
    ·exact h0.out i h1
    ·rw [show i=j by omega];exact HZ.out⟩
   case measure=>simp [intOf]
theorem refOf_any (n:Nat){ni:Int}(hni:ni=n)(hn:n < 18446744073709551616)(w:World) :
  Calls Tryz.prog 155 #[.int .u64 ni] w (RetN n w):=by
 subst hni
 have h1:n % 4294967296 < 4294967296:=Nat.mod_lt _ (by omega)
 have h2:n / 4294967296 < 4294967296:=by omega
 go_enter Tryz.func155,Tryz.ntmps155
 go_wp2_with fail
 refine (refNorm_any (cells_two h1 h2 _ (by simp)) (by omega)).mono ?_
 rintro _ w1 ⟨A1,m1,c1,x1,rfl,hO,hx,hb⟩
 have hB:=(Below.refl w.heap.size w).alloc nR (.cells #[.int .u32 ((n:Int) % 4294967296),.int .u32 ((n:Int) / 4294967296)] 171)
 have HX:=ah (hx.out.trans (Dg.val_two n))
 go_wp2
 go_ret
 exact ⟨_,_,_,_,rfl,hO.base hB.size,HX,hB.trans (hb.mono hB.size)⟩
theorem val_zero_iff {L:List Nat}:Dg.val L=0 ↔ ∀ i,Dg.ld L i=0:=by
 constructor
 ·intro h i
  by_cases hi:i < L.length
  ·have h1:=Dg.term_le' (f:=Dg.ld L) hi
   rw [Dg.vf_eq_val nR,h] at h1
   have h2:0 < 4294967296 ^ i:=Nat.pow_pos (by omega)
   rcases Nat.eq_zero_or_pos (Dg.ld L i) with h3 | h3
   ·exact h3
   ·have:=Nat.mul_pos h3 h2
    omega
  ·exact Dg.ld_ge (by omega)
 ·intro h
  rw [<- Dg.vf_eq_val nR,Dg.vf_congr (g:=fun _=>0) (fun j _=>h j)]
  generalize L.length=n
  induction n with
  | zero=>rfl
  | succ n ih=>rw [Dg.vf_succ,ih];simp
def RetIff (P:Prop)(w:World)(e:Ending)(w':World):Prop:=∃ b:Bool,e=.returned (.bool b)/\Hid (b=true ↔ P)/\w=w'
theorem refZero_any {B:Nat}{A:Option Addr}{n c:Nat}{L:List Nat}{w:World}(h:RdU w B A n c L)(hn:n<=17592186044416) :
  Calls Tryz.prog 122 #[.slice A n c] w (RetIff (Dg.val L=0) w):=by
 have HLEN:=ah h.len
 go_enter Tryz.func122,Tryz.ntmps122
 go_wp2
 go_loop [7] (fun i=>∃ k:Nat,k<=n/\i=.int .i64 k/\Hid (∀ t,t < k->Dg.ld L t=0)) (fun i=>n-(intOf i).toNat)
 case atStart=>exact ⟨0,nZ,rfl,ah fun t ht=>by omega⟩
 case round =>
  obtain ⟨k,hk,rfl,hz⟩:=hrel
  by_cases hkn:k < n
  ·obtain ⟨hx,ad,rfl,hb,hc⟩:=h.at_ k (Dg.ld L k) (Dg.get_of_ld (by rw [HLEN.out];exact hkn))
   obtain ⟨x,ex⟩:∃ x,x=Dg.ld L k:=⟨_,rfl⟩
   rw [<- ex] at hx hc
   have EX:=ah ex
   clear ex
   by_cases hx0:x=0
   ·subst hx0
    go_wp2
    go_round
    case rel=>exact ⟨k+1,by omega,by go_num,ah fun t ht=>by
     rcases Nat.lt_or_ge t k with h1 | h1
     ·exact hz.out t h1
     ·rw [show t=k by omega];exact EX.out.symm⟩
    case measure=>simp [intOf];omega
   ·have hxn:((x:Int) != 0)=true:=by simpa using hx0
    have HX0:=ah hx0
    clear hx0
    go_wp2
    go_ret
    exact ⟨false,rfl,ah ⟨fun h=>(by cases h),fun h=>absurd (EX.out.trans (val_zero_iff.1 h k)) HX0.out⟩,rfl⟩
  ·go_wp2
   go_ret
   exact ⟨true,rfl,ah ⟨fun _=>val_zero_iff.2 fun t=>by
    rcases Nat.lt_or_ge t k with h1 | h1
    ·exact hz.out t h1
    ·exact Dg.ld_ge (by rw [HLEN.out];omega),fun _=>rfl⟩,rfl⟩
theorem make_one (n:Nat)(hn:n<=17592186044415)(w:World) :
  (Instr.makeSlice 23 (.int .i64 ((n:Int)+1)) (.int .i64 ((n:Int)+1))).run Tryz.prog w=.ok (.slice (some ⟨w.heap.size,0,none⟩) (n+1) (n+1)) (w.alloc (.cells (madeCells #[.int .u32 0] (n+1)) 171)):=make_nat (n+1) (by omega) w
theorem radd_step {O a b:List Nat}{k q s:Nat}(hk:k < O.length)(hI:Dg.vf (Dg.ld O) k+q*4294967296 ^ k=Dg.vf (Dg.ld a) k+Dg.vf (Dg.ld b) k)(hs:s=Dg.ld a k+Dg.ld b k+q) :
  Dg.vf (Dg.ld (O.set k (s % 4294967296))) (k+1)+s / 4294967296*4294967296 ^ (k+1)=Dg.vf (Dg.ld a) (k+1)+Dg.vf (Dg.ld b) (k+1):=by
 rw [Dg.vf_succ,Dg.vf_succ,Dg.vf_succ,Dg.ld_set_same _ hk,Dg.vf_set _ (Nat.le_refl k),Nat.pow_succ]
 have h:=Nat.div_add_mod s 4294967296
 have h3:(4294967296*(s / 4294967296)+s % 4294967296)*4294967296 ^ k=(Dg.ld a k+Dg.ld b k+q)*4294967296 ^ k:=by rw [h,hs]
 generalize s / 4294967296=x at *
 generalize s % 4294967296=y at *
 generalize 4294967296 ^ k=B at *
 grind
theorem refAdd1_any {A A':Option Addr}{n c n' c':Nat}{L L':List Nat}{w:World}(h:RdU w w.heap.size A n c L)(h':RdU w w.heap.size A' n' c' L')(hn:n<=8796093022207)(hn':n'<=8796093022207) :
  Calls Tryz.prog 212 #[.slice A n c,.slice A' n' c'] w (RetN (Dg.val L+Dg.val L') w):=by
 have HLEN:=ah h.len
 have HLEN':=ah h'.len
 obtain ⟨m,hm⟩:∃ m,m=max n n':=⟨_,rfl⟩
 have hmk:=make_one m (by omega)
 have hB0:=(Below.refl w.heap.size w).alloc nR (.cells (madeCells #[.int .u32 0] (m+1)) 171)
 have hU0:=UB.made w (m+1)
 have hmb:m<=8796093022207:=by omega
 have HM:=ah hm
 go_enter Tryz.func212,Tryz.ntmps212
 go_upto_if 15 with fail
 go_cut [5] from 7 (fun v wx=>v=.int .i64 m/\wx=w)
 case first =>
  by_cases hlt:n < n'
  ·have e:m=n':=by omega
   clear hm
   subst e
   go_wp2
   go_meet
   exact ⟨rfl,rfl⟩
  ·have e:m=n:=by omega
   clear hm
   subst e
   go_wp2
   go_meet
   exact ⟨rfl,rfl⟩
 case rest =>
  obtain ⟨rfl,rfl⟩:=hcut
  clear hm
  go_wp2_with fail
  generalize wc.alloc (.cells (madeCells #[.int .u32 0] (m+1)) 171)=W1 at hB0 hU0 ⊢
  clear hmk
  obtain ⟨g,hg⟩:∃ g,g=wc.heap.size:=⟨_,rfl⟩
  rw [<- hg] at hU0 ⊢
  have HG:=ah hg
  clear hg
  go_wp2_with fail
  go_loopw [7,23] (fun qv iv wr=>∃ (k q:Nat) (O:List Nat),iv=.int .i64 k/\qv=.int .u64 q/\k<=m+1/\q<=1/\UB wr g O/\Hid (O.length=m+1/\Dg.Wd O/\Dg.vf (Dg.ld O) k+q*4294967296 ^ k=Dg.vf (Dg.ld L) k+Dg.vf (Dg.ld L') k)/\Below wc.heap.size wc wr) (fun _ iv _=>m+1-(intOf iv).toNat)
  case atStart=>exact ⟨0,0,_,rfl,rfl,nZ,by omega,hU0,ah ⟨by simp,Dg.Wd.zeros _,by simp [Dg.vf]⟩,hB0⟩
  case round =>
   clear hU0 hB0
   obtain ⟨k,q,O,rfl,rfl,hk,hq,hU,hO,hB⟩:=hrel
   by_cases hkm:k < m+1
   ·have hcell:=hU.cell (Dg.get_of_ld (L:=O) (i:=k) (by rw [hO.out.1];exact hkm))
    generalize Dg.ld O k=o0 at hcell
    have hfz:=hU.frozen k
    go_wp2_with fail
    refine (limb_any (h.below hB) k rfl (by omega)).mono ?_
    rintro _ _ ⟨x,rfl,hx,rfl⟩
    go_wp2_with fail
    refine (limb_any (h'.below hB) k rfl (by omega)).mono ?_
    rintro _ _ ⟨y,rfl,hy,rfl⟩
    have hxl:x < 4294967296:=by rw [hx.out];exact Dg.ld_word h.wd k
    have hyl:y < 4294967296:=by rw [hy.out];exact Dg.ld_word h'.wd k
    obtain ⟨s,hs⟩:∃ s,s=x+y+q:=⟨_,rfl⟩
    have hst:=radd_step (O:=O) (by rw [hO.out.1];exact hkm) hO.out.2.2 (s:=s) (by rw [hs,hx.out,hy.out])
    have HST:=ah hst
    have hU1:UB (wr.setCell ⟨g,k,none⟩ (.int .u32 (((x:Int)+y+q) % 4294967296))) g (O.set k (s % 4294967296)):=by
     rw [show ((x:Int)+y+q) % 4294967296=((s % 4294967296:Nat):Int) by omega];exact hU.set k _
    have hB1:=hB.setCell (p:=⟨g,k,none⟩) (by show wc.heap.size<=g;have:=HG.out;omega) (.int .u32 (((x:Int)+y+q) % 4294967296))
    have HS:=ah hs
    clear hs hst
    go_wp2
    go_roundw
    case rel=>exact ⟨k+1,s / 4294967296,_,by go_num,int_i (by have:=HS.out;omega),by omega,by have:=HS.out;omega,hU1,ah ⟨by rw [List.length_set];exact hO.out.1,hO.out.2.1.set k (Nat.mod_lt _ (by omega)),HST.out⟩,hB1⟩
    case measure=>simp [intOf];omega
   ·obtain rfl:k=m+1:=by omega
    have hq0:Dg.val O=Dg.val L+Dg.val L':=by
     have e:=hO.out.2.2
     rw [Dg.vf_eq_val (by rw [hO.out.1];exact nR),Dg.vf_eq_val (L:=L) (by rw [HLEN.out];have:=HM.out;omega),Dg.vf_eq_val (L:=L') (by rw [HLEN'.out];have:=HM.out;omega)] at e
     have h1:Dg.val L < 4294967296 ^ m:=Nat.lt_of_lt_of_le (Dg.val_lt h.wd) (Nat.pow_le_pow_right (by omega) (by rw [HLEN.out];have:=HM.out;omega))
     have h2:Dg.val L' < 4294967296 ^ m:=Nat.lt_of_lt_of_le (Dg.val_lt h'.wd) (Nat.pow_le_pow_right (by omega) (by rw [HLEN'.out];have:=HM.out;omega))
     rw [Nat.pow_succ] at e
     generalize 4294967296 ^ m=B at *
     have hq2:q=0 ∨ q=1:=by omega
     rcases hq2 with rfl | rfl <;> omega
    have HV:=ah hq0
    clear hq0
    have hO3:=hU.rd hO.out.2.1 hU.lt (k:=m+1) (by rw [hO.out.1];exact nR) (by rw [hO.out.1];unfold maxLen;omega)
    rw [hO.out.1,List.take_of_length_le (by rw [hO.out.1];exact nR)] at hO3
    go_wp2_with fail
    refine (refNorm_any hO3 (by omega)).mono ?_
    rintro _ W4 ⟨A4,m4,c4,x4,rfl,ho4,hx4,hb4⟩
    go_wp2
    go_ret
    exact ⟨_,_,_,_,rfl,ho4.base hB.size,ah (hx4.out.trans HV.out),hB.trans (hb4.mono hB.size)⟩
theorem rsub_step {O a b:List Nat}{k q q' d:Nat}(hk:k < O.length)(hI:Dg.vf (Dg.ld O) k+Dg.vf (Dg.ld b) k=Dg.vf (Dg.ld a) k+q*4294967296 ^ k)(hs:d+Dg.ld b k+q=Dg.ld a k+4294967296*q') :
  Dg.vf (Dg.ld (O.set k d)) (k+1)+Dg.vf (Dg.ld b) (k+1)=Dg.vf (Dg.ld a) (k+1)+q'*4294967296 ^ (k+1):=by
 rw [Dg.vf_succ,Dg.vf_succ,Dg.vf_succ,Dg.ld_set_same _ hk,Dg.vf_set _ (Nat.le_refl k),Nat.pow_succ]
 have h3:(d+Dg.ld b k+q)*4294967296 ^ k=(Dg.ld a k+4294967296*q')*4294967296 ^ k:=by rw [hs]
 generalize 4294967296 ^ k=B at *
 grind
theorem rsmall_step {O a:List Nat}{k q z s:Nat}(hk:k < O.length)(hI:Dg.vf (Dg.ld O) k+q*4294967296 ^ k=Dg.vf (Dg.ld a) k*z)(hs:s=Dg.ld a k*z+q) :
  Dg.vf (Dg.ld (O.set k (s % 4294967296))) (k+1)+s / 4294967296*4294967296 ^ (k+1)=Dg.vf (Dg.ld a) (k+1)*z:=by
 rw [Dg.vf_succ,Dg.vf_succ,Dg.ld_set_same _ hk,Dg.vf_set _ (Nat.le_refl k),Nat.pow_succ]
 have h:=Nat.div_add_mod s 4294967296
 have h3:(4294967296*(s / 4294967296)+s % 4294967296)*4294967296 ^ k=(Dg.ld a k*z+q)*4294967296 ^ k:=by rw [h,hs]
 generalize s / 4294967296=x at *
 generalize s % 4294967296=y at *
 generalize 4294967296 ^ k=B at *
 grind
theorem refNSub_any {A A':Option Addr}{n c n' c':Nat}{L L':List Nat}{w:World}(h:RdU w w.heap.size A n c L)(h':RdU w w.heap.size A' n' c' L')(hn:n<=8796093022207)(hle:Dg.val L'<=Dg.val L) :
  Calls Tryz.prog 214 #[.slice A n c,.slice A' n' c'] w (RetN (Dg.val L-Dg.val L') w):=by
 have HLEN:=ah h.len
 have hmk:=make_nat n (by omega)
 have hB0:=(Below.refl w.heap.size w).alloc nR (.cells (madeCells #[.int .u32 0] (n)) 171)
 have hU0:=UB.made w (n)
 go_enter Tryz.func214,Tryz.ntmps214
 go_wp2_with fail
 generalize w.alloc (.cells (madeCells #[.int .u32 0] (n)) 171)=W1 at hB0 hU0 ⊢
 clear hmk
 obtain ⟨g,hg⟩:∃ g,g=w.heap.size:=⟨_,rfl⟩
 rw [<- hg] at hU0 ⊢
 have HG:=ah hg
 clear hg
 go_wp2_with fail
 go_loopw [6,14] (fun qv iv wr=>∃ (k q:Nat) (O:List Nat),iv=.int .i64 k/\qv=.int .u64 q/\k<=n/\q<=1/\UB wr g O/\Hid (O.length=n/\Dg.Wd O/\Dg.vf (Dg.ld O) k+Dg.vf (Dg.ld L') k=Dg.vf (Dg.ld L) k+q*4294967296 ^ k)/\Below w.heap.size w wr) (fun _ iv _=>n-(intOf iv).toNat)
 case atStart=>exact ⟨0,0,_,rfl,rfl,nZ,by omega,hU0,ah ⟨by simp,Dg.Wd.zeros _,by simp [Dg.vf]⟩,hB0⟩
 case round =>
  clear hU0 hB0
  obtain ⟨k,q,O,rfl,rfl,hk,hq,hU,hO,hB⟩:=hrel
  by_cases hkm:k < n
  ·have hcell:=hU.cell (Dg.get_of_ld (L:=O) (i:=k) (by rw [hO.out.1];exact hkm))
   generalize Dg.ld O k=o0 at hcell
   have hfz:=hU.frozen k
   go_wp2_with fail
   refine (limb_any (h.below hB) k rfl (by omega)).mono ?_
   rintro _ _ ⟨x,rfl,hx,rfl⟩
   go_wp2_with fail
   refine (limb_any (h'.below hB) k rfl (by omega)).mono ?_
   rintro _ _ ⟨y,rfl,hy,rfl⟩
   have hxl:x < 4294967296:=by rw [hx.out];exact Dg.ld_word h.wd k
   have hyl:y < 4294967296:=by rw [hy.out];exact Dg.ld_word h'.wd k
   obtain ⟨s,hs⟩:∃ s,s=4294967296+x-y-q:=⟨_,rfl⟩
   have HST:=ah (rsub_step (O:=O) (by rw [hO.out.1];exact hkm) hO.out.2.2 (d:=s % 4294967296) (q':=1-s / 4294967296) (by rw [<- hx.out,<- hy.out];omega))
   have hU1:UB (wr.setCell ⟨g,k,none⟩ (.int .u32 ((4294967296+(x:Int)-y-q) % 4294967296))) g (O.set k (s % 4294967296)):=by
    rw [show (4294967296+(x:Int)-y-q) % 4294967296=((s % 4294967296:Nat):Int) by omega];exact hU.set k _
   have hB1:=hB.setCell (p:=⟨g,k,none⟩) (by show w.heap.size<=g;have:=HG.out;omega) (.int .u32 ((4294967296+(x:Int)-y-q) % 4294967296))
   have HS:=ah hs
   clear hs
   go_wp2
   go_roundw
   case rel=>exact ⟨k+1,1-s / 4294967296,_,by go_num,int_i (by have:=HS.out;omega),by omega,by omega,hU1,ah ⟨by rw [List.length_set];exact hO.out.1,hO.out.2.1.set k (Nat.mod_lt _ (by omega)),HST.out⟩,hB1⟩
   case measure=>simp [intOf];omega
  ·obtain rfl:k=n:=by omega
   have hq0:Dg.val O=Dg.val L-Dg.val L':=by
    have e:=hO.out.2.2
    have h1:Dg.val L < 4294967296 ^ k:=by have:=Dg.val_lt h.wd;rwa [HLEN.out] at this
    have h2:Dg.vf (Dg.ld L') k=Dg.val L':=by
     have e1:=Dg.vf_eq_val (L:=L') (n:=k+L'.length) (by omega)
     rw [<- e1]
     exact (Dg.vf_cut (by omega) (fun x a b=>Dg.zero_above (f:=Dg.ld L') (M:=k+L'.length) (by rw [e1];omega) a b)).symm
    rw [h2,Dg.vf_eq_val (by rw [hO.out.1];exact nR),Dg.vf_eq_val (L:=L) (by rw [HLEN.out];exact nR)] at e
    have h3:=Dg.val_lt hO.out.2.1
    rw [hO.out.1] at h3
    generalize 4294967296 ^ k=B at *
    have hq2:q=0 ∨ q=1:=by omega
    rcases hq2 with rfl | rfl <;> omega
   have HV:=ah hq0
   clear hq0
   have hO3:=hU.rd hO.out.2.1 hU.lt (k:=k) (by rw [hO.out.1];exact nR) (by rw [hO.out.1];unfold maxLen;omega)
   rw [hO.out.1,List.take_of_length_le (by rw [hO.out.1];exact nR)] at hO3
   go_wp2_with fail
   refine (refNorm_any hO3 (by omega)).mono ?_
   rintro _ W4 ⟨A4,m4,c4,x4,rfl,ho4,hx4,hb4⟩
   go_wp2
   go_ret
   exact ⟨_,_,_,_,rfl,ho4.base hB.size,ah (hx4.out.trans HV.out),hB.trans (hb4.mono hB.size)⟩
theorem refSmall_any (z:Nat){A:Option Addr}{n c:Nat}{L:List Nat}{w:World}(h:RdU w w.heap.size A n c L)(hn:n<=8796093022207)(hz:z < 4294967296) :
  Calls Tryz.prog 239 #[.slice A n c,.int .u32 z] w (RetN (Dg.val L*z) w):=by
 have HLEN:=ah h.len
 have hmk:=make_one n (by omega)
 have hB0:=(Below.refl w.heap.size w).alloc nR (.cells (madeCells #[.int .u32 0] (n+1)) 171)
 have hU0:=UB.made w (n+1)
 go_enter Tryz.func239,Tryz.ntmps239
 go_wp2_with fail
 generalize w.alloc (.cells (madeCells #[.int .u32 0] (n+1)) 171)=W1 at hB0 hU0 ⊢
 clear hmk
 obtain ⟨g,hg⟩:∃ g,g=w.heap.size:=⟨_,rfl⟩
 rw [<- hg] at hU0 ⊢
 have HG:=ah hg
 clear hg
 go_wp2_with fail
 go_loopw [6,15] (fun qv iv wr=>∃ (k q:Nat) (O:List Nat),iv=.int .i64 k/\qv=.int .u64 q/\k<=n+1/\q < 4294967296/\UB wr g O/\Hid (O.length=n+1/\Dg.Wd O/\Dg.vf (Dg.ld O) k+q*4294967296 ^ k=Dg.vf (Dg.ld L) k*z)/\Below w.heap.size w wr) (fun _ iv _=>n+1-(intOf iv).toNat)
 case atStart=>exact ⟨0,0,_,rfl,rfl,nZ,by omega,hU0,ah ⟨by simp,Dg.Wd.zeros _,by simp [Dg.vf]⟩,hB0⟩
 case round =>
  clear hU0 hB0
  obtain ⟨k,q,O,rfl,rfl,hk,hq,hU,hO,hB⟩:=hrel
  by_cases hkm:k < n+1
  ·have hcell:=hU.cell (Dg.get_of_ld (L:=O) (i:=k) (by rw [hO.out.1];exact hkm))
   generalize Dg.ld O k=o0 at hcell
   have hfz:=hU.frozen k
   go_wp2_with fail
   refine (limb_any (h.below hB) k rfl (by omega)).mono ?_
   rintro _ _ ⟨x,rfl,hx,rfl⟩
   have hxl:x < 4294967296:=by rw [hx.out];exact Dg.ld_word h.wd k
   have hxz:=Nat.mul_le_mul (show x<=4294967295 by omega) (show z<=4294967295 by omega)
   obtain ⟨pv,hpv⟩:∃ pv,pv=x*z:=⟨_,rfl⟩
   obtain ⟨s,hs⟩:∃ s,s=pv+q:=⟨_,rfl⟩
   rw [<- hpv] at hxz
   have hmul:IntKind.u64.wrap ((x:Int)*z)=(pv:Int):=by
    rw [hpv,show (x:Int)*z=((x*z:Nat):Int) from (Int.natCast_mul x z).symm,<- hpv,u64_in _ (by omega)]
   have hadd:IntKind.u64.wrap ((pv:Int)+q)=(s:Int):=by rw [hs,u64_in _ (by omega)];simp
   have HST:=ah (rsmall_step (O:=O) (z:=z) (by rw [hO.out.1];exact hkm) hO.out.2.2 (s:=s) (by rw [hs,hpv,hx.out]))
   have hcl:s / 4294967296 < 4294967296:=by omega
   have hdm:(s:Int) % 4294967296=((s % 4294967296:Nat):Int):=by omega
   have hdd:(s:Int) / 4294967296=((s / 4294967296:Nat):Int):=by omega
   have hU1:UB (wr.setCell ⟨g,k,none⟩ (.int .u32 ((s:Int) % 4294967296))) g (O.set k (s % 4294967296)):=by
    rw [hdm];exact hU.set k _
   have hB1:=hB.setCell (p:=⟨g,k,none⟩) (by show w.heap.size<=g;have:=HG.out;omega) (.int .u32 ((s:Int) % 4294967296))
   have HDD:=ah hdd
   have HCL:=ah hcl
   clear hs hpv hxz hdm hdd hcl
   go_wp2
   go_roundw
   case rel=>exact ⟨k+1,s / 4294967296,_,by go_num,int_i (by rw [HDD.out,u64_in _ (by have:=HCL.out;omega)]),by omega,HCL.out,hU1,ah ⟨by rw [List.length_set];exact hO.out.1,hO.out.2.1.set k (Nat.mod_lt _ (by omega)),HST.out⟩,hB1⟩
   case measure=>simp [intOf];omega
  ·obtain rfl:k=n+1:=by omega
   have hq0:Dg.val O=Dg.val L*z:=by
    have e:=hO.out.2.2
    have h1:Dg.val L < 4294967296 ^ n:=by have:=Dg.val_lt h.wd;rwa [HLEN.out] at this
    rw [Dg.vf_eq_val (by rw [hO.out.1];exact nR),Dg.vf_eq_val (L:=L) (by rw [HLEN.out];omega)] at e
    have h2:Dg.val L*z < 4294967296 ^ (n+1):=by
     rw [Nat.pow_succ]
     exact Nat.mul_lt_mul_of_lt_of_le h1 (Nat.le_of_lt hz) (by omega)
    generalize 4294967296 ^ (n+1)=B at *
    have hq2:q=0:=by
     rcases Nat.eq_zero_or_pos q with h3 | h3
     ·exact h3
     ·have:=Nat.mul_le_mul_right B h3
      omega
    rw [hq2] at e
    omega
   have HV:=ah hq0
   clear hq0
   have hO3:=hU.rd hO.out.2.1 hU.lt (k:=n+1) (by rw [hO.out.1];exact nR) (by rw [hO.out.1];unfold maxLen;omega)
   rw [hO.out.1,List.take_of_length_le (by rw [hO.out.1];exact nR)] at hO3
   go_wp2_with fail
   refine (refNorm_any hO3 (by omega)).mono ?_
   rintro _ W4 ⟨A4,m4,c4,x4,rfl,ho4,hx4,hb4⟩
   go_wp2
   go_ret
   exact ⟨_,_,_,_,rfl,ho4.base hB.size,ah (hx4.out.trans HV.out),hB.trans (hb4.mono hB.size)⟩
theorem refCmp_any {A A':Option Addr}{n c n' c':Nat}{L L':List Nat}{w:World}(h:RdU w w.heap.size A n c L)(h':RdU w w.heap.size A' n' c' L')(hn:n<=8796093022207)(hn':n'<=8796093022207) :
  Calls Tryz.prog 213 #[.slice A n c,.slice A' n' c'] w (RetZ (Dg.cmp (Dg.val L) (Dg.val L')) w):=by
 have HLEN:=ah h.len
 have HLEN':=ah h'.len
 obtain ⟨m,hm⟩:∃ m,m=max n n':=⟨_,rfl⟩
 have hmb:m<=8796093022207:=by omega
 have HM:=ah hm
 go_enter Tryz.func213,Tryz.ntmps213
 go_upto_if 12 with fail
 go_cut [5] from 7 (fun v wx=>v=.int .i64 m/\wx=w)
 case first =>
  by_cases hlt:n < n'
  ·have e:m=n':=by omega
   clear hm
   subst e
   go_wp2
   go_meet
   exact ⟨rfl,rfl⟩
  ·have e:m=n:=by omega
   clear hm
   subst e
   go_wp2
   go_meet
   exact ⟨rfl,rfl⟩
 case rest =>
  obtain ⟨rfl,rfl⟩:=hcut
  clear hm
  go_wp2_with fail
  go_loop [6] (fun i=>∃ j:Nat,j<=m/\i=.int .i64 ((j:Int)-1)/\Hid (∀ x,j<=x->Dg.ld L x=Dg.ld L' x)) (fun i=>(intOf i+1).toNat)
  case atStart=>exact ⟨m,nR,rfl,ah fun x hx=>by rw [Dg.ld_ge (by rw [HLEN.out];have:=HM.out;omega),Dg.ld_ge (by rw [HLEN'.out];have:=HM.out;omega)]⟩
  case round =>
   obtain ⟨j,hj,rfl,hE⟩:=hrel
   rcases Nat.eq_zero_or_pos j with h0 | h0
   ·subst h0
    go_wp2
    go_ret
    exact ⟨0,rfl,ah (Dg.cmp_eq (Dg.eq_of_ld fun x=>hE.out x nZ)).symm,rfl⟩
   ·obtain ⟨t,rfl⟩:∃ t,j=t+1:=⟨j-1,by omega⟩
    have HT:Hid (∀ x,t < x->Dg.ld L x=Dg.ld L' x):=ah fun x hx=>hE.out x hx
    clear hE
    go_wp2_with fail
    refine (limb_any h t (by omega) (by omega)).mono ?_
    rintro _ _ ⟨x,rfl,hx,rfl⟩
    go_wp2_with fail
    refine (limb_any h' t (by omega) (by omega)).mono ?_
    rintro _ _ ⟨y,rfl,hy,rfl⟩
    rcases Nat.lt_trichotomy x y with hlt | heq | hgt
    ·have HC:=ah (Dg.cmp_lt (Dg.lt_of_top h.wd HT.out (show Dg.ld L t < Dg.ld L' t by rw [<- hx.out,<- hy.out];exact hlt)))
     go_wp2
     go_ret
     exact ⟨-1,rfl,ah HC.out.symm,rfl⟩
    ·subst heq
     go_wp2_with fail
     refine (limb_any h t (by omega) (by omega)).mono ?_
     rintro _ _ ⟨x2,rfl,hx2,rfl⟩
     go_wp2_with fail
     refine (limb_any h' t (by omega) (by omega)).mono ?_
     rintro _ _ ⟨y2,rfl,hy2,rfl⟩
     have e2:x2=x:=hx2.out.trans hx.out.symm
     have e3:y2=x:=hy2.out.trans hy.out.symm
     subst e2 e3
     go_wp2
     go_round
     case rel=>exact ⟨t,by omega,int_i (by omega),ah fun z hz=>by
      rcases Nat.lt_or_ge t z with h1 | h1
      ·exact HT.out z h1
      ·rw [show z=t by omega,<- hx.out,<- hy.out]⟩
     case measure=>simp [intOf]
    ·have hnl:¬ (x:Int) < (y:Int):=by omega
     have HC:=ah (Dg.cmp_gt (Dg.lt_of_top h'.wd (fun x hx=>(HT.out x hx).symm) (show Dg.ld L' t < Dg.ld L t by rw [<- hx.out,<- hy.out];exact hgt)))
     go_wp2_with fail
     refine (limb_any h t (by omega) (by omega)).mono ?_
     rintro _ _ ⟨x2,rfl,hx2,rfl⟩
     go_wp2_with fail
     refine (limb_any h' t (by omega) (by omega)).mono ?_
     rintro _ _ ⟨y2,rfl,hy2,rfl⟩
     have e2:x2=x:=hx2.out.trans hx.out.symm
     have e3:y2=y:=hy2.out.trans hy.out.symm
     subst e2 e3
     go_wp2
     go_ret
     exact ⟨1,rfl,ah HC.out.symm,rfl⟩
theorem half_dig (x y:Nat)(hx:x < 4294967296):(x+4294967296*y) / 2 ^ 1 % 4294967296=x / 2+y % 2*2147483648:=by
 simp only [Nat.pow_one]
 omega
theorem half_any {A:Option Addr}{n c:Nat}{L:List Nat}{w:World}(h:RdU w w.heap.size A n c L)(hn:n<=8796093022207) :
  Calls Tryz.prog 226 #[.slice A n c] w (RetN (Dg.val L / 2) w):=by
 have HLEN:=ah h.len
 have hmk:=make_nat n (by omega)
 have hB0:=(Below.refl w.heap.size w).alloc nR (.cells (madeCells #[.int .u32 0] n) 171)
 have hU0:=UB.made w n
 go_enter Tryz.func226,Tryz.ntmps226
 go_wp2_with fail
 generalize w.alloc (.cells (madeCells #[.int .u32 0] n) 171)=W1 at hB0 hU0 ⊢
 clear hmk
 obtain ⟨g,hg⟩:∃ g,g=w.heap.size:=⟨_,rfl⟩
 rw [<- hg] at hU0 ⊢
 have HG:=ah hg
 clear hg
 go_wp2_with fail
 go_loopw [10] (fun iv wr=>∃ (k:Nat) (O:List Nat),iv=.int .i64 k/\k<=n/\UB wr g O/\Hid (O.length=n/\Dg.Wd O/\∀ z,z < k->Dg.ld O z=Dg.val L / 2 ^ 1 / 4294967296 ^ z % 4294967296)/\Below w.heap.size w wr) (fun iv _=>n-(intOf iv).toNat)
 case atStart=>exact ⟨0,_,rfl,nZ,hU0,ah ⟨by simp,Dg.Wd.zeros _,fun z hz=>by omega⟩,hB0⟩
 case round =>
  clear hU0 hB0
  obtain ⟨k,O,rfl,hk,hU,hO,hB⟩:=hrel
  by_cases hkm:k < n
  ·have hcell:=hU.cell (Dg.get_of_ld (L:=O) (i:=k) (by rw [hO.out.1];exact hkm))
   generalize Dg.ld O k=o0 at hcell
   have hfz:=hU.frozen k
   go_wp2_with fail
   refine (limb_any (h.below hB) k rfl (by omega)).mono ?_
   rintro _ _ ⟨x,rfl,hx,rfl⟩
   go_wp2_with fail
   refine (limb_any (h.below hB) (k+1) (by omega) (by omega)).mono ?_
   rintro _ _ ⟨y,rfl,hy,rfl⟩
   have hxl:x < 4294967296:=by rw [hx.out];exact Dg.ld_word h.wd k
   have hyl:y < 4294967296:=by rw [hy.out];exact Dg.ld_word h.wd _
   have hrd:=Dg.right_dig h.wd (i:=k) (s:=1) (by rw [HLEN.out];exact hkm) (pow_dvd32 (by omega))
   rw [<- hx.out,<- hy.out,half_dig x y hxl] at hrd
   obtain ⟨d,hd⟩:∃ d,d=x / 2+y % 2*2147483648:=⟨_,rfl⟩
   rw [<- hd] at hrd
   have hdl:d < 4294967296:=by omega
   have hdI:(x:Int) / 2+(y:Int) % 2*2147483648=(d:Int):=by omega
   have hU1:UB (wr.setCell ⟨g,k,none⟩ (.int .u32 ((x:Int) / 2+(y:Int) % 2*2147483648))) g (O.set k d):=by
    rw [hdI];exact hU.set k _
   have hB1:=hB.setCell (p:=⟨g,k,none⟩) (by show w.heap.size<=g;have:=HG.out;omega) (.int .u32 ((x:Int) / 2+(y:Int) % 2*2147483648))
   have HRD:=ah hrd
   clear hd hrd hdI
   go_wp2
   go_roundw
   case rel=>exact ⟨k+1,_,by go_num,by omega,hU1,ah ⟨by rw [List.length_set];exact hO.out.1,hO.out.2.1.set k hdl,fun z hz=>by
    rcases Nat.lt_or_ge z k with h1 | h1
    ·rw [Dg.ld_set_other d (by omega)];exact hO.out.2.2 z h1
    ·obtain rfl:z=k:=by omega
     rw [Dg.ld_set_same d (by rw [hO.out.1];omega)];exact HRD.out⟩,hB1⟩
   case measure=>simp [intOf];omega
  ·obtain rfl:k=n:=by omega
   have HV:=ah (Dg.right_val h.wd (s:=1) HLEN.out hO.out.1 hO.out.2.2)
   have hO3:=hU.rd hO.out.2.1 hU.lt (k:=k) (by rw [hO.out.1];exact nR) (by rw [hO.out.1];unfold maxLen;omega)
   rw [hO.out.1,List.take_of_length_le (by rw [hO.out.1];exact nR)] at hO3
   go_wp2_with fail
   refine (refNorm_any hO3 (by omega)).mono ?_
   rintro _ W4 ⟨A4,m4,c4,x4,rfl,ho4,hx4,hb4⟩
   go_wp2
   go_ret
   exact ⟨_,_,_,_,rfl,ho4.base hB.size,ah (hx4.out.trans (by rw [HV.out,Nat.pow_one])),hB.trans (hb4.mono hB.size)⟩
def NilOk (A:Option Addr)(n c:Nat):Prop:=A=none->n=0/\c=0
theorem OwU.nilOk {w:World}{b:Nat}{A:Option Addr}{n c:Nat}{L:List Nat}(h:OwU w b A n c L):NilOk A n c:=fun e=>by
 rcases h.form with ⟨_,h1,h2,_⟩ | ⟨g,h1,_⟩
 ·exact ⟨h1,h2⟩
 ·rw [h1] at e;cases e
theorem one_own {w:World}{z:Nat}(hz:z < 4294967296):OwU (w.alloc (.cells #[.int .u32 z] 171)) w.heap.size (some ⟨w.heap.size,0,none⟩) 1 1 [z]:=by
 have hU:UB (w.alloc (.cells #[.int .u32 z] 171)) w.heap.size [z]:=UB.new w [z]
 exact hU.own (k:=1) (fun x hx=>by simp at hx;omega) nR nR (by unfold maxLen;simp)
theorem row_sl {W:World}{base:Nat}{T:TypeId}{size:Nat}{v:Value}{n:Nat}{xs:List Value}(h:W.ownsRow base T size v n xs):∃ a c,v=.slice a n c:=by
 rcases h.2 with ⟨rfl,h0⟩ | ⟨g,cap,_,rfl,_⟩
 ·exact ⟨none,0,by rw [h0]⟩
 ·exact ⟨_,_,rfl⟩
theorem shift_any (z:Nat){A:Option Addr}{n c:Nat}{L:List Nat}{w:World}(h:RdU w w.heap.size A n c L)(hnil:NilOk A n c)(hn:n<=8796093022207)(hz:z < 4294967296) :
  Calls Tryz.prog 238 #[.slice A n c,.int .u32 z] w (RetN (z+4294967296*Dg.val L) w):=by
 have HLEN:=ah h.len
 obtain ⟨i0,hi,hz0,hz1,hz2⟩:=info_parts infoW
 have hO:=one_own (w:=w) hz
 have hB0:=(Below.refl w.heap.size w).alloc nR (.cells #[.int .u32 z] 171)
 have hR:=h.next hB0
 rcases A with _ | ad
 ·obtain ⟨rfl,rfl⟩:=hnil rfl
  have hL:L=[]:=List.eq_nil_of_length_eq_zero HLEN.out
  subst hL
  have hO2:=hO.rd
  go_enter Tryz.func238,Tryz.ntmps238
  go_wp2_with (at_builtin;refine wpList_append_own_none rfl _ _ 23 rfl w.heap.size 171 i0 1 Tryz.underlying23 hi _ _ _ rfl hO.own rfl ?_)
  refine (refNorm_any hO2 (by omega)).mono ?_
  rintro _ W4 ⟨A4,m4,c4,x4,rfl,ho4,hx4,hb4⟩
  go_wp2
  go_ret
  exact ⟨_,_,_,_,rfl,ho4.base hB0.size,ah (hx4.out.trans (by simp [Dg.val])),hB0.trans (hb4.mono hB0.size)⟩
 ·have hsrc:∀ (j:Nat) v,(uc L)[j]?=some v->(w.alloc (.cells #[.int .u32 z] 171)).cell? (ad.add j)=some v:=by
   intro j v hv
   have hlt:0 < (uc L).length:=by
    rcases Nat.lt_or_ge j (uc L).length with h1 | h1
    ·omega
    ·rw [gN h1] at hv;cases hv
   obtain ⟨_,ad',e,hc⟩:=hR.src ad hlt
   injection e with e
   subst e
   exact hc j v hv
  have HSRC:=ah hsrc
  have hucl:(uc L).length=n*1:=by rw [uc_len,HLEN.out,Nat.mul_one]
  have HUCL:=ah hucl
  have hwd:=h.wd
  clear hsrc hucl
  go_enter Tryz.func238,Tryz.ntmps238
  go_wp2_with (at_builtin;refine wpList_append_own _ rfl _ _ 23 rfl w.heap.size 171 i0 (.int .u32 0) 1 4 Tryz.underlying23 hi hz0 hz1 hz2 rfl (by decide) _ _ _ rfl hO.own ad n c (uc L) rfl HUCL.out HSRC.out (uc_one L) (by unfold maxLen;omega) (by omega) (by simp) ?_;intro v' w1 hown' hgrow _;obtain ⟨A',c',rfl⟩:=row_sl hown')
  have hB1:=hB0.grown hgrow (by simp) (fun k e=>by cases e;exact nR)
  have hO2:OwU w1 w.heap.size A' (1+n) c' (z :: L):=⟨by rw [show uc (z :: L)=uc [z] ++ uc L from rfl];exact hown',Dg.Wd.cons hz hwd⟩
  refine (refNorm_any hO2.rd (by omega)).mono ?_
  rintro _ W4 ⟨A4,m4,c4,x4,rfl,ho4,hx4,hb4⟩
  go_wp2
  go_ret
  exact ⟨_,_,_,_,rfl,ho4.base hB1.size,ah hx4.out,hB1.trans (hb4.mono hB1.size)⟩
theorem prod_len {L M:List Nat}(hL:Dg.Wd L)(hM:Dg.Wd M):(Dg.dg (Dg.val L*Dg.val M)).length<=L.length+M.length:=by
 rw [Dg.dg_len_lt,Nat.pow_add]
 exact Nat.mul_lt_mul'' (Dg.val_lt hL) (Dg.val_lt hM)
theorem mul_step {a:Nat}{M:List Nat}{t:Nat}(h:t < M.length):4294967296*(a*Dg.val (M.drop (t+1)))+a*Dg.ld M t=a*Dg.val (M.drop t):=by
 rw [Dg.val_drop h]
 generalize Dg.val (M.drop (t+1))=x
 grind
theorem OwU.short {W:World}{b m c x k:Nat}{A:Option Addr}(h:OwU W b A m c (Dg.dg x))(hx:x < 4294967296 ^ k):m<=k:=by
 rw [<- h.len];exact Dg.dg_len_lt.2 hx
theorem shift_lt {x k:Nat}(h:x < 4294967296 ^ k):4294967296*x < 4294967296 ^ (k+1):=by
 rw [Nat.pow_succ]
 generalize 4294967296 ^ k=z at *
 omega
theorem add_base (g t:Nat):(⟨g,0,none⟩:Addr).add t=⟨g,t,none⟩:=by
 unfold Addr.add
 split
 ·subst_vars;rfl
 ·simp
theorem shift_zero {A:Option Addr}{n c:Nat}{L:List Nat}{w:World}(h:RdU w w.heap.size A n c L)(hnil:NilOk A n c)(hn:n<=8796093022207) :
  Calls Tryz.prog 238 #[.slice A n c,.int .u32 0] w (RetN (4294967296*Dg.val L) w):=by
 have e:=shift_any 0 h hnil hn (by omega)
 rw [Nat.zero_add] at e
 exact e
theorem refNMul_any {A A':Option Addr}{n c n' c':Nat}{L L':List Nat}{w:World}(h:RdU w w.heap.size A n c L)(h':RdU w w.heap.size A' n' c' L')(hn:n<=4398046511103)(hn':n'<=4398046511103) :
  Calls Tryz.prog 215 #[.slice A n c,.slice A' n' c'] w (RetN (Dg.val L*Dg.val L') w):=by
 have HLEN:=ah h.len
 have HLEN':=ah h'.len
 go_enter Tryz.func215,Tryz.ntmps215
 go_wp2_with fail
 refine (refNorm_any h (by omega)).mono ?_
 rintro _ W1 ⟨A1,m1,c1,x1,rfl,ho1,hx1,hb1⟩
 go_wp2_with fail
 refine (refNorm_any (h'.next hb1) (by omega)).mono ?_
 rintro _ W2 ⟨A2,m2,c2,x2,rfl,ho2,hx2,hb2⟩
 have hr1:=(ho1.next hb2).rd
 have hr2:=ho2.rd
 have hm1:m1<=n:=by
  rw [<- ho1.len,hx1.out,Dg.dg_len_lt,<- HLEN.out];exact Dg.val_lt h.wd
 have hm2:m2<=n':=by
  rw [<- ho2.len,hx2.out,Dg.dg_len_lt,<- HLEN'.out];exact Dg.val_lt h'.wd
 have HV:=ah (show Dg.val (Dg.dg x1)=Dg.val L/\Dg.val (Dg.dg x2)=Dg.val L' from ⟨by rw [Dg.val_dg,hx1.out],by rw [Dg.val_dg,hx2.out]⟩)
 have hB:=hb1.trans (hb2.mono hb1.size)
 have hf2:=ho2.form
 clear ho1 ho2 hx1 hx2 hb1 hb2
 generalize Dg.dg x1=M1 at hr1 HV
 generalize Dg.dg x2=M2 at hr2 HV hf2
 have HL1:=ah hr1.len
 have HL2:=ah hr2.len
 go_wp2_with fail
 go_loopw [5,6] (fun ov iv wr=>∃ (k m c x:Nat) (A:Option Addr),iv=.int .i64 ((k:Int)-1)/\ov=.slice A m c/\k<=m2/\OwU wr W2.heap.size A m c (Dg.dg x)/\Hid (x=Dg.val M1*Dg.val (M2.drop k))/\Below W2.heap.size W2 wr) (fun _ iv _=>(intOf iv+1).toNat)
 case atStart=>exact ⟨m2,0,0,0,none,rfl,rfl,nR,by rw [Dg.dg_zero];exact OwU.nil _ _,ah (by rw [List.drop_of_length_le (by rw [HL2.out];exact nR)];simp [Dg.val]),bR⟩
 case round =>
  obtain ⟨k,m,c0,x,A0,rfl,rfl,hk,ho,hx,hbr⟩:=hrel
  have hm:m<=8796093022206:=by
   have e:=prod_len hr1.wd (hr2.wd.drop k)
   rw [<- hx.out,ho.len,List.length_drop,HL1.out,HL2.out] at e
   omega
  rcases Nat.eq_zero_or_pos k with h0 | h0
  ·subst h0
   go_wp2_with fail
   refine (refNorm_any ho.rd (by omega)).mono ?_
   rintro _ W4 ⟨A4,m4,c4,x4,rfl,ho4,hx4,hb4⟩
   go_wp2
   go_ret
   exact ⟨_,_,_,_,rfl,ho4.base (nT hB.size hbr.size),ah (by rw [hx4.out,Dg.val_dg,hx.out,List.drop_zero,HV.out.1,HV.out.2]),(hB.trans (hbr.mono hB.size)).trans (hb4.mono (nT hB.size hbr.size))⟩
  ·obtain ⟨t,rfl⟩:∃ t,k=t+1:=⟨k-1,by omega⟩
   rcases hf2 with ⟨_,h2,_⟩ | ⟨g,rfl,_,hgl,hc2,_⟩
   ·omega
   obtain ⟨_,ad,e,_,hcell⟩:=hr2.at_ t (Dg.ld M2 t) (Dg.get_of_ld (by rw [HL2.out];omega))
   injection e with e
   subst e
   have hyl:Dg.ld M2 t < 4294967296:=Dg.ld_word hr2.wd t
   obtain ⟨y,hy⟩:∃ y,y=Dg.ld M2 t:=⟨_,rfl⟩
   rw [<- hy] at hcell hyl
   have HY:=ah hy
   clear hy
   rw [add_base] at hcell
   have hcellr:=(hbr.cell (p:=⟨g,t,none⟩) hgl).trans hcell
   have hbd:=hbr.drew
   have hod:=ho.next (Below.refl wr.heap.size wr).drew
   have HSH:=ah (shift_zero hod.rd hod.nilOk (by omega))
   have HC4:=ah (show ∀ W:World,Below wr.drew.heap.size wr.drew W->W.cell? ⟨g,t,none⟩=some (.int .u32 y) from fun W hb=>((hbd.trans (hb.mono hbd.size)).cell (p:=⟨g,t,none⟩) hgl).trans hcell)
   have HSM:=ah (show ∀ W:World,Below wr.drew.heap.size wr.drew W->Calls Tryz.prog 239 #[.slice A1 m1 c1,.int .u32 y] W (RetN (Dg.val M1*y) W) from fun W hb=>refSmall_any y (hr1.next (hbd.trans (hb.mono hbd.size))) (by omega) hyl)
   have HM4:=ah (show ∀ (W:World) (b m' c x':Nat) (A:Option Addr),OwU W b A m' c (Dg.dg x')->Hid (x'=4294967296*Dg.val (Dg.dg x))->m'<=8796093022207 from fun W b m' c x' A ho' hx'=>nT (ho'.short (k:=m+1) (by rw [hx'.out,Dg.val_dg];exact shift_lt (Dg.dg_len_lt.1 (Nat.le_of_eq ho.len)))) (by omega))
   have HM5:=ah (show ∀ (W:World) (b m' c x':Nat) (A:Option Addr),OwU W b A m' c (Dg.dg x')->Hid (x'=Dg.val M1*y)->m'<=8796093022207 from fun W b m' c x' A ho' hx'=>nT (ho'.short (k:=m1+1) (by rw [hx'.out];exact Nat.mul_lt_mul'' (HL1.out ▸ Dg.val_lt hr1.wd) hyl)) (by omega))
   go_upto_region 6 with fail
   go_region_with (first
    | (go_at_call 238;refine HSH.out.mono ?_;rintro _ W4 ⟨A4,m4,c4,x4,rfl,ho4,hx4,hb4⟩;have hcell4:=HC4.out W4 hb4)
    | (go_at_call 239;refine (HSM.out W4 hb4).mono ?_;rintro _ W5 ⟨A5,m5,c5,x5,rfl,ho5,hx5,hb5⟩)
    | (go_at_call 212;refine (refAdd1_any (ho4.next hb5).rd ho5.rd (HM4.out _ _ _ _ _ _ ho4 hx4) (HM5.out _ _ _ _ _ _ ho5 hx5)).mono ?_;rintro _ W6 ⟨A6,m6,c6,x6,rfl,ho6,hx6,hb6⟩))
   all_goals
    go_wp2
    go_roundw
    case rel =>
     have hb46:=hbd.trans ((hb4.trans ((hb5.trans (hb6.mono hb5.size)).mono hb4.size)).mono hbd.size)
     exact ⟨t,m6,c6,x6,A6,by go_num,rfl,by omega,ho6.base (nT hbd.size (nT hb4.size hb5.size)),ah (by rw [hx6.out,Dg.val_dg,Dg.val_dg,hx4.out,hx5.out,Dg.val_dg,hx.out,HY.out];exact mul_step (by rw [HL2.out];omega)),hb46⟩
    case measure=>simp [intOf]
def RetNE (q r:Nat)(w:World)(e:Ending)(w':World):Prop :=
 ∃ (A A':Option Addr) (m c m' c' x y:Nat),e=.returned (.tuple #[.slice A m c,.slice A' m' c',.int .i64 0])/\OwU w' w.heap.size A m c (Dg.dg x)/\OwU w' w.heap.size A' m' c' (Dg.dg y)/\Hid (x=q/\y=r)/\Below w.heap.size w w'
theorem drewN_below (w:World)(d:Nat):Below w.heap.size w (w.drewN d):=by
 have h:=Below.refl w.heap.size w
 exact ⟨h.os,h.tape,h.output,h.size,h.block⟩
theorem dg_len_mono {x y:Nat}(h:x<=y):(Dg.dg x).length<=(Dg.dg y).length:=Dg.dg_len_lt.2 (Nat.lt_of_le_of_lt h (Dg.dg_len_lt.1 nR))
theorem nDiv_any {A A':Option Addr}{n c n' c':Nat}{L L':List Nat}{w:World}(h:RdU w w.heap.size A n c L)(h':RdU w w.heap.size A' n' c' L')(hn:n<=1000000000000)(hn':n'<=1000000000000)(hp:0 < Dg.val L') :
  Calls Tryz.prog 223 #[.slice A n c,.slice A' n' c'] w (RetNE (Dg.val L / Dg.val L') (Dg.val L % Dg.val L') w):=by
 have hlen:=ah h.len
 have hlen':=ah h'.len
 have HP:=ah hp
 clear hp
 go_enter Tryz.func223,Tryz.ntmps223
 go_wp2_with fail
 refine (trim_any h (by omega)).mono ?_
 rintro _ _ ⟨k,rfl,hk,rfl⟩
 go_wp2_with fail
 refine (trim_any h' (by omega)).mono ?_
 rintro _ _ ⟨k',rfl,hk',rfl⟩
 have hkn:k<=n:=by have:=hk.out.1;rw [hlen.out] at this;exact this
 have hkn':k'<=n':=by have:=hk'.out.1;rw [hlen'.out] at this;exact this
 have hR:=h.take hkn
 have hR':=h'.take hkn'
 have HV:=ah (show Dg.val (L.take k)=Dg.val L/\Dg.val (L'.take k')=Dg.val L' from ⟨by rw [hk.out.2,Dg.val_dg],by rw [hk'.out.2,Dg.val_dg]⟩)
 have HN:=ah (show L.take k=Dg.dg (Dg.val (L.take k))/\L'.take k'=Dg.dg (Dg.val (L'.take k')) from ⟨by rw [HV.out.1];exact hk.out.2,by rw [HV.out.2];exact hk'.out.2⟩)
 clear hk hk' h h' hlen hlen'
 generalize L.take k=M at *
 generalize L'.take k'=M' at *
 have HL:=ah (cJ hR.len hR'.len)
 have hk0:0 < k':=by
  rcases Nat.eq_zero_or_pos k' with e | e
  ·exfalso
   have e1:=HL.out.2
   rw [e,List.length_eq_zero_iff] at e1
   have e2:=HP.out
   rw [<- HV.out.2,e1] at e2
   exact absurd e2 (by decide)
  ·exact e
 have hq0:((k':Int) == 0)=false:=by simp;omega
 go_wp2_with fail
 refine (cmp_any hR hR' (by omega) (by omega)).mono ?_
 rintro _ _ ⟨z,rfl,hz,d,rfl⟩
 have hBd:=drewN_below w d
 rcases Nat.lt_or_ge (Dg.val M) (Dg.val M') with hlt | hge
 ·have e:=hz.out.trans (Dg.cmp_lt hlt)
  have HLT:=ah hlt
  clear hlt hz
  subst e
  go_wp2_with fail
  refine (own_any (hR.drewN d) (by omega)).mono ?_
  rintro _ W4 ⟨A4,m4,c4,x4,rfl,ho4,hx4,hb4⟩
  go_wp2
  go_ret3
  exact ⟨_,_,_,_,_,_,0,x4,rfl,by rw [Dg.dg_zero];exact OwU.nil _ _,ho4,ah ⟨by rw [<- HV.out.1,<- HV.out.2,Nat.div_eq_of_lt HLT.out],by rw [hx4.out,<- HV.out.1,<- HV.out.2,Nat.mod_eq_of_lt HLT.out]⟩,hBd.trans hb4⟩
 ·have HGE:=ah hge
  have hz0:0<=z:=by
   rw [hz.out]
   rcases Nat.lt_or_eq_of_le hge with h1 | h1
   ·rw [Dg.cmp_gt h1];decide
   ·rw [Dg.cmp_eq h1.symm];decide
  have hzi:decide (z < 0)=false:=by simp;omega
  have hkk:k'<=k:=by
   have e:=dg_len_mono hge
   rwa [<- HN.out.1,<- HN.out.2,HL.out.1,HL.out.2] at e
  clear hge hz
  by_cases h1:k'=1
  ·subst h1
   obtain ⟨hx,ad,rfl,hb,hc⟩:=(hR'.drewN d).at_ 0 (Dg.ld M' 0) (Dg.get_of_ld (by rw [HL.out.2];decide))
   have HX:=ah (show Dg.ld M' 0=Dg.val M' by
    have e:=HL.out.2
    match M',e with
    | [x],_=>simp [Dg.ld,Dg.val])
   have hx0:0 < Dg.ld M' 0:=by rw [HX.out,HV.out.2];exact HP.out
   generalize Dg.ld M' 0=x at *
   have hc0:(w.drewN d).cell? ad=some (.int .u32 x):=by simpa [Addr.add] using hc
   clear hc hq0
   go_wp2_with fail
   refine (short_any x (hR.drewN d) (by omega) hx0 hx).mono ?_
   rintro _ W4 ⟨A4,m4,c4,x4,r4,rfl,ho4,hx4,hb4⟩
   have hr4:r4 < 4294967296:=by rw [hx4.out.2];exact Nat.lt_trans (Nat.mod_lt _ hx0) hx
   have hr4i:(r4:Int) < 4294967296:=by omega
   go_wp2_with fail
   refine (nOf_any r4 (by simp) (by omega) W4).mono ?_
   rintro _ W5 ⟨A5,m5,c5,x5,rfl,ho5,hx5,hb5⟩
   go_wp2
   go_ret3
   exact ⟨_,_,_,_,_,_,x4,x5,rfl,ho4.next hb5,ho5.base hb4.size,ah ⟨by rw [hx4.out.1,HV.out.1,HX.out,HV.out.2],by rw [hx5.out,hx4.out.2,HV.out.1,HX.out,HV.out.2]⟩,hBd.trans (hb4.trans (hb5.mono hb4.size))⟩
  ·obtain ⟨p,rfl⟩:∃ p,k'=p+2:=⟨k'-2,by omega⟩
   obtain ⟨dd,rfl⟩:∃ dd,k=p+2+dd:=⟨k-(p+2),by omega⟩
   have hq1:(((p+2:Nat):Int) == 1)=false:=by simp;omega
   go_wp2_with fail
   refine (long_any p dd (hR.drewN d) (hR'.drewN d) (by omega) HN.out.1 HN.out.2).mono ?_
   rintro _ W4 ⟨A4,A5,m4,c4,m5,c5,x4,x5,rfl,ho4,ho5,hx4,hb4⟩
   go_wp2
   go_ret3
   exact ⟨_,_,_,_,_,_,x4,x5,rfl,ho4,ho5,ah (by rw [hx4.out.1,hx4.out.2,HV.out.1,HV.out.2];exact ⟨rfl,rfl⟩),hBd.trans hb4⟩
theorem nGcd_any {A A':Option Addr}{n c n' c':Nat}{L L':List Nat}{w:World}(h:RdU w w.heap.size A n c L)(h':RdU w w.heap.size A' n' c' L')(hn:n<=1000000000000)(hn':n'<=1000000000000) :
  Calls Tryz.prog 222 #[.slice A n c,.slice A' n' c'] w (RetN (Nat.gcd (Dg.val L) (Dg.val L')) w):=by
 have HLEN:=ah h.len
 have HLEN':=ah h'.len
 go_enter Tryz.func222,Tryz.ntmps222
 go_wp2_with fail
 refine (own_any h (by omega)).mono ?_
 rintro _ W1 ⟨A1,m1,c1,x1,rfl,ho1,hx1,hb1⟩
 go_wp2_with fail
 refine (own_any (h'.next hb1) (by omega)).mono ?_
 rintro _ W2 ⟨A2,m2,c2,x2,rfl,ho2,hx2,hb2⟩
 obtain ⟨N,hN⟩:∃ N,N=max n n':=⟨_,rfl⟩
 have hm1:m1<=N:=nT (ho1.short (k:=n) (by rw [hx1.out,<- HLEN.out];exact Dg.val_lt h.wd)) (by omega)
 have hm2:m2<=N:=nT (ho2.short (k:=n') (by rw [hx2.out,<- HLEN'.out];exact Dg.val_lt h'.wd)) (by omega)
 have hN':N<=1000000000000:=by omega
 have hB:=hb1.trans (hb2.mono hb1.size)
 have hA1:=(ho1.next hb2)
 have hA2:=ho2.base hb1.size
 have HX:=ah (show Nat.gcd x1 x2=Nat.gcd (Dg.val L) (Dg.val L') by rw [hx1.out,hx2.out])
 clear ho1 ho2 hb1 hb2 hx1 hx2 h h' HLEN HLEN' hN hn hn'
 go_wp2_with fail
 go_loopg [0,1] x2 (fun gg av bv wr=>∃ (A A':Option Addr) (m c x m' c' y:Nat),av=.slice A m c/\bv=.slice A' m' c'/\y<=gg/\OwU wr w.heap.size A m c (Dg.dg x)/\OwU wr w.heap.size A' m' c' (Dg.dg y)/\m<=N/\m'<=N/\Hid (Nat.gcd x y=Nat.gcd x1 x2)/\Below w.heap.size w wr)
 case atStart=>exact ⟨A1,A2,m1,c1,x1,m2,c2,x2,rfl,rfl,nR,hA1,hA2,hm1,hm2,ah rfl,hB⟩
 case round =>
  clear hA1 hA2 hB hm1 hm2
  obtain ⟨A,A',m,c,x,m',c',y,rfl,rfl,hxy,hA1,hA2,hm,hm',hg,hB⟩:=hrel
  rcases Nat.eq_zero_or_pos m' with h0 | h0
  ·have HY:=ah (show y=0 by
    have e:=hA2.len
    rw [h0,List.length_eq_zero_iff,Dg.dg_nil] at e
    exact e)
   subst h0
   go_wp2_with fail
   refine (own_any hA1.rd (by omega)).mono ?_
   rintro _ W4 ⟨A4,m4,c4,x4,rfl,ho4,hx4,hb4⟩
   go_wp2
   go_ret
   exact ⟨_,_,_,x4,rfl,ho4.base hB.size,ah (by rw [hx4.out,Dg.val_dg,<- HX.out,<- hg.out,HY.out,Nat.gcd_zero_right]),hB.trans (hb4.mono hB.size)⟩
  ·have hy:0 < y:=by
    rcases Nat.eq_zero_or_pos y with e | e
    ·exfalso
     have e2:=hA2.len
     rw [e,Dg.dg_zero] at e2
     simp at e2
     omega
    ·exact e
   have hmp:(decide ((m':Int) > 0))=true:=by simp;omega
   go_wp2_with fail
   refine (nDiv_any hA1.rd hA2.rd (by omega) (by omega) (by rw [Dg.val_dg];exact hy)).mono ?_
   rintro _ W4 ⟨A4,A5,m4,c4,m5,c5,x4,x5,rfl,ho4,ho5,hx4,hb4⟩
   have HX5:=ah (show x5=x % y by rw [hx4.out.2,Dg.val_dg,Dg.val_dg])
   go_wp2
   go_roundg x5
   case rel=>exact ⟨_,_,m',c',y,m5,c5,x5,rfl,rfl,nR,hA2.next hb4,ho5.base hB.size,hm',nT (ho5.short (k:=m') (by rw [HX5.out];exact Nat.lt_trans (Nat.mod_lt _ hy) (Dg.dg_len_lt.1 (Nat.le_of_eq hA2.len)))) hm',ah (by rw [HX5.out,<- hg.out,Nat.gcd_comm y,<- Nat.gcd_rec,Nat.gcd_comm]),hB.trans (hb4.mono hB.size)⟩
   case measure =>
    have:=Nat.mod_lt x hy
    have e:=HX5.out
    omega
end Go.Proofs.YtjnklbfhelbjgaaGreat
namespace Zz
def sg (b:Bool)(n:Nat):Int:=if b then -(n:Int) else n
theorem sg_false (n:Nat):sg false n=n:=rfl
theorem sg_true (n:Nat):sg true n=-(n:Int):=rfl
theorem sg_zero (b:Bool):sg b 0=0:=by cases b <;> simp [sg]
theorem abs_sg (b:Bool)(n:Nat):(sg b n).natAbs=n:=by cases b <;> simp [sg]
theorem sg_lt (b:Bool)(n:Nat):sg b n < 0 ↔ b=true ∧ n ≠ 0:=by cases b <;> simp [sg] <;> omega
theorem sg_abs (z:Int):sg (decide (z < 0)) z.natAbs=z:=by
 by_cases h:z < 0
 ·rw [decide_eq_true h,sg_true];omega
 ·rw [decide_eq_false h,sg_false];omega
theorem sg_not (b:Bool)(n:Nat):sg (!b) n=-sg b n:=by cases b <;> simp [sg]
theorem sg_add (b:Bool)(x y:Nat):sg b x+sg b y=sg b (x+y):=by cases b <;> simp [sg] <;> omega
theorem sg_sub {b c:Bool}{x y:Nat}(h:c ≠ b)(hl:y ≤ x):sg b x+sg c y=sg b (x-y):=by cases b <;> cases c <;> simp [sg] at h ⊢ <;> omega
theorem sg_mul (b c:Bool)(x y:Nat):sg b x*sg c y=sg (b != c) (x*y):=by cases b <;> cases c <;> simp [sg,Int.neg_mul,Int.mul_neg]
theorem sg_div (b c:Bool)(x y:Nat):(sg b x).tdiv (sg c y)=sg (b != c) (x / y):=by cases b <;> cases c <;> simp [sg,Int.neg_tdiv,Int.tdiv_neg]
theorem sg_mod (b c:Bool)(x y:Nat):(sg b x).tmod (sg c y)=sg b (x % y):=by cases b <;> cases c <;> simp [sg,Int.neg_tmod,Int.tmod_neg] <;> rfl
def zl (z:Int):Nat:=(Dg.dg z.natAbs).length
theorem zl_le {z:Int}{k:Nat}:zl z ≤ k ↔ z.natAbs < 4294967296 ^ k:=Dg.dg_len_lt
theorem zl_lt (z:Int):z.natAbs < 4294967296 ^ zl z:=zl_le.1 (Nat.le_refl _)
theorem zl_of_le {x y:Int}(h:x.natAbs ≤ y.natAbs):zl x ≤ zl y:=zl_le.2 (Nat.lt_of_le_of_lt h (zl_lt y))
theorem zl_zero:zl 0=0:=by unfold zl;simp [Dg.dg_zero]
theorem zl_neg (z:Int):zl (-z)=zl z:=by unfold zl;rw [Int.natAbs_neg]
theorem zl_abs (z:Int):zl z.natAbs=zl z:=by unfold zl;simp
theorem zl_small {z:Int}(h:z.natAbs < 4294967296):zl z ≤ 1:=zl_le.2 (by simpa using h)
theorem zl_mul (x y:Int):zl (x*y) ≤ zl x+zl y:=by
 rw [zl_le,Int.natAbs_mul,Nat.pow_add]
 exact Nat.mul_lt_mul'' (zl_lt x) (zl_lt y)
theorem zl_add (x y:Int):zl (x+y) ≤ max (zl x) (zl y)+1:=by
 rw [zl_le,Nat.pow_succ]
 have h1:=zl_lt x
 have h2:=zl_lt y
 have h3:4294967296 ^ zl x ≤ 4294967296 ^ max (zl x) (zl y):=Nat.pow_le_pow_right (by omega) (by omega)
 have h4:4294967296 ^ zl y ≤ 4294967296 ^ max (zl x) (zl y):=Nat.pow_le_pow_right (by omega) (by omega)
 omega
theorem zl_sub (x y:Int):zl (x-y) ≤ max (zl x) (zl y)+1:=by
 rw [Int.sub_eq_add_neg]
 have:=zl_add x (-y)
 rwa [zl_neg] at this
theorem zl_tdiv (x y:Int):zl (x.tdiv y) ≤ zl x:=zl_of_le (by rw [Int.natAbs_tdiv];exact Nat.div_le_self _ _)
theorem zl_tmod_lt (x:Int){y:Int}(h:y ≠ 0):zl (x.tmod y) ≤ zl y:=zl_of_le (by rw [Int.natAbs_tmod];exact Nat.le_of_lt (Nat.mod_lt _ (by omega)))
theorem zl_gcd_left (x y:Int)(h:x ≠ 0):zl (Int.gcd x y) ≤ zl x:=zl_of_le (by
 simp only [Int.natAbs_natCast]
 exact Nat.le_of_dvd (by omega) (Nat.gcd_dvd_left _ _))
theorem zl_gcd (x y:Int):zl (Int.gcd x y) ≤ max (zl x) (zl y):=by
 by_cases h:x=0
 ·subst h
  rw [show (Int.gcd 0 y:Int)=(y.natAbs:Int) by simp,zl_abs]
  omega
 ·have:=zl_gcd_left x y h
  omega
end Zz
namespace Go.Proofs.YtjnklbfhelbjgaaGreat
open Go.RowKit Go.IntWalk
def RdZ (w:World)(B:Nat)(s:Bool)(A:Option Addr)(n c:Nat)(z:Int):Prop:=∃ M,RdU w B A n c M/\z=Zz.sg s (Dg.val M)
section
variable {w w':World}{B B' b b':Nat}{s:Bool}{A:Option Addr}{n c:Nat}{z:Int}
theorem RdZ.below (h:RdZ w B s A n c z)(hb:Below B w w'):RdZ w' B s A n c z:=by
 obtain ⟨M,h,e⟩:=h
 exact ⟨M,h.below hb,e⟩
theorem RdZ.more (h:RdZ w B s A n c z)(hB:B<=B'):RdZ w B' s A n c z:=by
 obtain ⟨M,h,e⟩:=h
 exact ⟨M,h.more hB,e⟩
theorem RdZ.next (h:RdZ w w.heap.size s A n c z)(hb:Below w.heap.size w w'):RdZ w' w'.heap.size s A n c z:=(h.below hb).more hb.size
theorem RdZ.len (h:RdZ w B s A n c z):Zz.zl z<=n:=by
 obtain ⟨M,h,rfl⟩:=h
 rw [Zz.zl_le,Zz.abs_sg,<- h.len]
 exact Dg.val_lt h.wd
theorem RdZ.raw (h:RdZ w B s A n c z):∃ M,RdU w B A n c M/\Hid (z=Zz.sg s (Dg.val M)):=by
 obtain ⟨M,h,e⟩:=h
 exact ⟨M,h,ah e⟩
structure OwZ (w:World)(b:Nat)(s:Bool)(A:Option Addr)(n c:Nat)(z:Int):Prop where
 own:OwU w b A n c (Dg.dg z.natAbs)
 sgn:s=decide (z < 0)
theorem OwZ.rd (h:OwZ w b s A n c z):RdZ w w.heap.size s A n c z:=⟨_,h.own.rd,by rw [Dg.val_dg,h.sgn,Zz.sg_abs]⟩
theorem OwZ.next (h:OwZ w b s A n c z)(hb:Below w.heap.size w w'):OwZ w' b s A n c z:=⟨h.own.next hb,h.sgn⟩
theorem OwZ.base (h:OwZ w b s A n c z)(hb:b'<=b):OwZ w b' s A n c z:=⟨h.own.base hb,h.sgn⟩
theorem OwZ.len (h:OwZ w b s A n c z):n=Zz.zl z:=h.own.len.symm
theorem OwZ.zero (w:World)(b:Nat):OwZ w b false none 0 0 0:=⟨by rw [show (0:Int).natAbs=0 from rfl,Dg.dg_zero];exact OwU.nil w b,by decide⟩
theorem OwZ.mk' {t:Bool}{x:Nat}(h:OwU w b A n c (Dg.dg x)):OwZ w b (t && decide (0 < n)) A n c (Zz.sg t x):=by
 refine ⟨by rw [Zz.abs_sg];exact h,?_⟩
 have h0:n=0 ↔ x=0:=by
  rw [<- h.len,List.length_eq_zero_iff,Dg.dg_nil]
 have h1:(0 < n) ↔ (x ≠ 0):=by omega
 have h2:=Zz.sg_lt t x
 cases t
 ·simp [Zz.sg]
 ·simp only [Bool.true_and]
  rw [decide_eq_decide,h1,h2]
  simp
def RetI (z:Int)(w:World)(e:Ending)(w':World):Prop :=
 ∃ (s:Bool) (A:Option Addr) (n c:Nat) (y:Int),e=.returned (.agg #[.bool s,.slice A n c])/\OwZ w' w.heap.size s A n c y/\Hid (y=z)/\Below w.heap.size w w'
def RetII (q r:Int)(w:World)(e:Ending)(w':World):Prop :=
 ∃ (s:Bool) (A:Option Addr) (n c:Nat) (y:Int) (s':Bool) (A':Option Addr) (n' c':Nat) (y':Int),e=.returned (.tuple #[.agg #[.bool s,.slice A n c],.agg #[.bool s',.slice A' n' c'],.int .i64 0])/\OwZ w' w.heap.size s A n c y/\OwZ w' w.heap.size s' A' n' c' y'/\Hid (y=q/\y'=r)/\Below w.heap.size w w'
end
attribute [local go_sem ↓] Go.wp_at_zero Go.wp_at_succ
def ZC (w:World)(g:Nat)(s:Bool)(A:Option Addr)(n c:Nat):Prop:=w.heap[g]?=some (.cells #[.bool s,.slice A n c] 25 (0,0))
section
variable {w w':World}{g B:Nat}{s:Bool}{A:Option Addr}{n c:Nat}
theorem ZC.lt (h:ZC w g s A n c):g < w.heap.size:=(Array.getElem?_eq_some_iff.1 h).1
theorem ZC.c0 (h:ZC w g s A n c):w.cell? ⟨g,0,none⟩=some (.bool s):=by
 rw [cell_of_row w g 0 _ _ _ h];rfl
theorem ZC.c1 (h:ZC w g s A n c):w.cell? ⟨g,1,none⟩=some (.slice A n c):=by
 rw [cell_of_row w g 1 _ _ _ h];rfl
theorem ZC.fz (h:ZC w g s A n c)(j:Nat):w.frozen? ⟨g,j,none⟩=false:=frozen_of_row w g j _ _ h
theorem ZC.below (h:ZC w g s A n c)(hb:Below B w w')(hg:g < B):ZC w' g s A n c:=(hb.block g hg).trans h
theorem ZC.next (h:ZC w g s A n c)(hb:Below w.heap.size w w'):ZC w' g s A n c:=h.below hb h.lt
theorem ZC.alloc (h:ZC w g s A n c)(o:Obj):ZC (w.alloc o) g s A n c:=(Below.heap_alloc w o g h.lt).trans h
theorem ZC.new (w:World)(s:Bool)(A:Option Addr)(n c:Nat):ZC (w.alloc (.cells #[.bool s,.slice A n c] 25)) w.heap.size s A n c:=heap_alloc_new w _
theorem ZC.drewN (h:ZC w g s A n c)(k:Nat):ZC (w.drewN k) g s A n c:=h
theorem ZC.store (h:ZC w g s A n c)(s':Bool)(A':Option Addr)(n' c':Nat):ZC ((w.setCell ⟨g,0,none⟩ (.bool s')).setCell ⟨g,1,none⟩ (.slice A' n' c')) g s' A' n' c':=by
 unfold ZC at h ⊢
 simp [World.setCell,Array.getElem?_modify,h]
theorem own_far {b k m:Nat}{L:List Nat}{A:Option Addr}(h:OwU w b A k m L){p:Addr}(hp:p.block < b)(u:Value):OwU (w.setCell p u) b A k m L:=by
 refine ⟨⟨h.own.1,?_⟩,h.wd⟩
 rcases h.own.2 with h0 | ⟨g,cap,cur,h1,h2,h3,h4⟩
 ·exact .inl h0
 ·exact .inr ⟨g,cap,cur,h1,h2,(Below.heap_setCell w p u g (by omega)).trans h3,h4⟩
theorem OwZ.far {b k m:Nat}{t:Bool}{A:Option Addr}{z:Int}(h:OwZ w b t A k m z){p:Addr}(hp:p.block < b)(u:Value):OwZ (w.setCell p u) b t A k m z:=⟨own_far h.own hp u,h.sgn⟩
theorem put_int {v:World}{b:Nat}{t:Bool}{A':Option Addr}{k m:Nat}{z:Int}(h:ZC w g s A n c)(hB:Below v.heap.size v w)(hg:v.heap.size<=g)(ho:OwZ w b t A' k m z)(hb:g < b) :
  ZC ((w.setCell ⟨g,0,none⟩ (.bool t)).setCell ⟨g,1,none⟩ (.slice A' k m)) g t A' k m /\
  OwZ ((w.setCell ⟨g,0,none⟩ (.bool t)).setCell ⟨g,1,none⟩ (.slice A' k m)) b t A' k m z /\
  Below v.heap.size v ((w.setCell ⟨g,0,none⟩ (.bool t)).setCell ⟨g,1,none⟩ (.slice A' k m)) :=
 ⟨h.store t A' k m,(ho.far (p:=⟨g,0,none⟩) hb _).far (p:=⟨g,1,none⟩) hb _,(hB.setCell (p:=⟨g,0,none⟩) hg _).setCell (p:=⟨g,1,none⟩) hg _⟩
theorem ZC.far (h:ZC w g s A n c){p:Addr}(hp:g ≠ p.block)(u:Value):ZC (w.setCell p u) g s A n c:=(Below.heap_setCell w p u g hp).trans h
end
theorem make1_any (t:Bool){x b:Nat}{A:Option Addr}{n c:Nat}{w:World}(h:OwU w b A n c (Dg.dg x)) :
  Calls Tryz.prog 141 #[.bool t,.slice A n c] w fun e w'=>∃ s:Bool,e=.returned (.agg #[.bool s,.slice A n c])/\OwZ w' b s A n c (Zz.sg t x)/\Below w.heap.size w w':=by
 have HR:=ah (show ∀ s:Bool,s=(t && decide (0 < n))->∃ s':Bool,Ending.returned (.agg #[.bool s,.slice A n c])=.returned (.agg #[.bool s',.slice A n c])/\OwZ (w.alloc (.cells #[.bool s,.slice A n c] 25)) b s' A n c (Zz.sg t x)/\Below w.heap.size w (w.alloc (.cells #[.bool s,.slice A n c] 25)) from fun s hs=>by
  have hB:=(Below.refl w.heap.size w).alloc nR (.cells #[.bool s,.slice A n c] 25)
  exact ⟨s,rfl,by rw [hs] at hB ⊢;exact (OwZ.mk' h).next hB,hB⟩)
 clear h
 go_enter Tryz.func141,Tryz.ntmps141
 cases t
 ·go_wp2
  exact bodyPost_ret (by simp [results,Tryz.results141,go_sem]) rfl (HR.out _ rfl)
 ·go_wp2
  exact bodyPost_ret (by simp [results,Tryz.results141,go_sem]) rfl (HR.out _ rfl)
def RetK (k:Int)(w:World)(e:Ending)(w':World):Prop:=∃ y:Int,e=.returned (.int .i64 y)/\Hid (y=k)/\Below w.heap.size w w'
theorem sign_sg (s:Bool)(x:Nat):(Zz.sg s x).sign=if x=0 then 0 else if s then -1 else 1:=by
 by_cases h:x=0
 ·subst h;rw [Zz.sg_zero];rfl
 ·rw [if_neg h]
  cases s
  ·rw [Zz.sg_false,Int.sign_eq_one_of_pos (by omega)];rfl
  ·rw [Zz.sg_true,Int.sign_eq_neg_one_of_neg (by omega)];rfl
theorem sign_any {s:Bool}{A:Option Addr}{n c:Nat}{z:Int}{w:World}(h:RdZ w w.heap.size s A n c z)(hn:n<=17592186044416) :
  Calls Tryz.prog 36 #[.agg #[.bool s,.slice A n c]] w (RetK z.sign w):=by
 obtain ⟨M,h,hz⟩:=h.raw
 have hB:=(Below.refl w.heap.size w).alloc nR (.cells #[.bool s,.slice A n c] 25)
 have hZ:=ZC.new w s A n c
 have h1:=h.next hB
 go_enter Tryz.func36,Tryz.ntmps36
 go_wp2_with fail
 refine (len_any h1 hn).mono ?_
 rintro _ _ ⟨k,rfl,hk,rfl⟩
 have HS:=ah (show z.sign=if k=0 then 0 else if s then -1 else 1 by
  rw [hz.out,sign_sg]
  by_cases e:k=0
  ·rw [if_pos e,if_pos (hk.out.1 e)]
  ·rw [if_neg e,if_neg fun e2=>e (hk.out.2 e2)])
 clear hk hz h1 h
 generalize w.alloc (.cells #[.bool s,.slice A n c] 25)=W1 at *
 have hc0:=hZ.c0
 have hc1:=hZ.c1
 rcases Nat.eq_zero_or_pos k with e | e
 ·subst e
  go_wp2
  go_ret
  exact ⟨_,rfl,ah (by rw [HS.out];rfl),hB⟩
 ·have ek:((k:Int) == 0)=false:=by simp;omega
  have HK:=ah e
  clear e
  cases s
  ·go_wp2
   go_ret
   exact ⟨_,rfl,ah (by rw [HS.out,if_neg (by have:=HK.out;omega)];rfl),hB⟩
  ·go_wp2
   go_ret
   exact ⟨_,rfl,ah (by rw [HS.out,if_neg (by have:=HK.out;omega)];rfl),hB⟩
theorem of_any (z:Int)(h1:-9223372036854775808<=z)(h2:z < 9223372036854775808)(w:World) :
  Calls Tryz.prog 88 #[.int .i64 z] w (RetI z w):=by
 have hB:=(Below.refl w.heap.size w).alloc nR (.cells #[.bool false,.slice none 0 0] 25)
 have hZ:=ZC.new w false none 0 0
 go_enter Tryz.func88,Tryz.ntmps88
 by_cases hz:z < 0
 ·go_wp2_with fail
  generalize w.alloc (.cells #[.bool false,.slice none 0 0] 25)=W1 at *
  refine (nOf_any z.natAbs (by omega) (by omega) W1).mono ?_
  rintro _ W2 ⟨A2,m2,c2,x2,rfl,ho2,hx2,hb2⟩
  go_wp2_with fail
  refine (make1_any true ho2).mono ?_
  rintro _ W3 ⟨s3,rfl,ho3,hb3⟩
  have hZ3:=(hZ.next hb2).next hb3
  have hB3:=hB.trans ((hb2.trans (hb3.mono hb2.size)).mono hB.size)
  have hc0:=hZ3.c0
  have hc1:=hZ3.c1
  have hf0:=hZ3.fz 0
  have hf1:=hZ3.fz 1
  have HB:=ah (show w.heap.size < W1.heap.size from hZ.lt)
  clear hb2 hb3 ho2
  go_wp2
  have hp:=put_int hZ3 hB3 nR ho3 HB.out
  generalize (W3.setCell ⟨w.heap.size,0,none⟩ (.bool s3)).setCell ⟨w.heap.size,1,none⟩ (.slice A2 m2 c2)=W4 at hp ⊢
  obtain ⟨hZ4,ho4,hB4⟩:=hp
  exact bodyPost_ret (by simp [results,Tryz.results88,go_sem,hZ4.c0,hZ4.c1]) rfl ⟨_,_,_,_,_,rfl,ho4.base (Nat.le_of_lt HB.out),ah (by rw [hx2.out,Zz.sg_true];omega),hB4⟩
 ·have hz0:0<=z:=by omega
  clear hz
  go_wp2_with fail
  generalize w.alloc (.cells #[.bool false,.slice none 0 0] 25)=W1 at *
  refine (nOf_any z.natAbs (by omega) (by omega) W1).mono ?_
  rintro _ W2 ⟨A2,m2,c2,x2,rfl,ho2,hx2,hb2⟩
  go_wp2_with fail
  refine (make1_any false ho2).mono ?_
  rintro _ W3 ⟨s3,rfl,ho3,hb3⟩
  have hZ3:=(hZ.next hb2).next hb3
  have hB3:=hB.trans ((hb2.trans (hb3.mono hb2.size)).mono hB.size)
  have hc0:=hZ3.c0
  have hc1:=hZ3.c1
  have hf0:=hZ3.fz 0
  have hf1:=hZ3.fz 1
  have HB:=ah (show w.heap.size < W1.heap.size from hZ.lt)
  clear hb2 hb3 ho2
  go_wp2
  have hp:=put_int hZ3 hB3 nR ho3 HB.out
  generalize (W3.setCell ⟨w.heap.size,0,none⟩ (.bool s3)).setCell ⟨w.heap.size,1,none⟩ (.slice A2 m2 c2)=W4 at hp ⊢
  obtain ⟨hZ4,ho4,hB4⟩:=hp
  exact bodyPost_ret (by simp [results,Tryz.results88,go_sem,hZ4.c0,hZ4.c1]) rfl ⟨_,_,_,_,_,rfl,ho4.base (Nat.le_of_lt HB.out),ah (by rw [hx2.out,Zz.sg_false];omega),hB4⟩
theorem boxed1 (w:World)(s:Bool)(A:Option Addr)(n c:Nat) :
  ZC ((w.alloc (.cells #[.bool s,.slice A n c] 25)).alloc (.cells #[.bool false,.slice none 0 0] 25)) w.heap.size s A n c /\
  ZC ((w.alloc (.cells #[.bool s,.slice A n c] 25)).alloc (.cells #[.bool false,.slice none 0 0] 25)) (w.heap.size+1) false none 0 0 /\
  Below w.heap.size w ((w.alloc (.cells #[.bool s,.slice A n c] 25)).alloc (.cells #[.bool false,.slice none 0 0] 25)) :=
 ⟨(ZC.new w s A n c).alloc _,by simpa using ZC.new (w.alloc (.cells #[.bool s,.slice A n c] 25)) false none 0 0,((Below.refl w.heap.size w).alloc nR (.cells #[.bool s,.slice A n c] 25)).alloc (by simp) (.cells #[.bool false,.slice none 0 0] 25)⟩
theorem boxed2 (w:World)(s:Bool)(A:Option Addr)(n c:Nat)(s':Bool)(A':Option Addr)(n' c':Nat) :
  ZC (((w.alloc (.cells #[.bool s,.slice A n c] 25)).alloc (.cells #[.bool s',.slice A' n' c'] 25)).alloc (.cells #[.bool false,.slice none 0 0] 25)) w.heap.size s A n c /\
  ZC (((w.alloc (.cells #[.bool s,.slice A n c] 25)).alloc (.cells #[.bool s',.slice A' n' c'] 25)).alloc (.cells #[.bool false,.slice none 0 0] 25)) (w.heap.size+1) s' A' n' c' /\
  ZC (((w.alloc (.cells #[.bool s,.slice A n c] 25)).alloc (.cells #[.bool s',.slice A' n' c'] 25)).alloc (.cells #[.bool false,.slice none 0 0] 25)) (w.heap.size+1+1) false none 0 0 /\
  Below w.heap.size w (((w.alloc (.cells #[.bool s,.slice A n c] 25)).alloc (.cells #[.bool s',.slice A' n' c'] 25)).alloc (.cells #[.bool false,.slice none 0 0] 25)) :=
 ⟨((ZC.new w s A n c).alloc _).alloc _,by simpa using (ZC.new (w.alloc (.cells #[.bool s,.slice A n c] 25)) s' A' n' c').alloc (.cells #[.bool false,.slice none 0 0] 25),by simpa using ZC.new ((w.alloc (.cells #[.bool s,.slice A n c] 25)).alloc (.cells #[.bool s',.slice A' n' c'] 25)) false none 0 0,
   (((Below.refl w.heap.size w).alloc nR (.cells #[.bool s,.slice A n c] 25)).alloc (by simp) (.cells #[.bool s',.slice A' n' c'] 25)).alloc (by simp;omega) (.cells #[.bool false,.slice none 0 0] 25)⟩
theorem abs_any {s:Bool}{A:Option Addr}{n c:Nat}{z:Int}{w:World}(h:RdZ w w.heap.size s A n c z)(hn:n<=17592186044416) :
  Calls Tryz.prog 173 #[.agg #[.bool s,.slice A n c]] w (RetI z.natAbs w):=by
 obtain ⟨M,h,hz⟩:=h.raw
 obtain ⟨hZ,hR,hB⟩:=boxed1 w s A n c
 have h1:=h.next hB
 have HSZ:=ah (Nat.lt_trans (Nat.lt_succ_self _) hR.lt)
 go_enter Tryz.func173,Tryz.ntmps173
 go_wp2_with fail
 generalize (w.alloc (.cells #[.bool s,.slice A n c] 25)).alloc (.cells #[.bool false,.slice none 0 0] 25)=W1 at *
 refine (norm_any h1 (by omega)).mono ?_
 rintro _ W2 ⟨A2,m2,c2,x2,rfl,ho2,hx2,hb2⟩
 go_wp2_with fail
 refine (make1_any false ho2).mono ?_
 rintro _ W3 ⟨s3,rfl,ho3,hb3⟩
 have hR3:=(hR.next hb2).next hb3
 have hB3:=hB.trans ((hb2.trans (hb3.mono hb2.size)).mono hB.size)
 have hc0:=hR3.c0
 have hc1:=hR3.c1
 have hf0:=hR3.fz 0
 have hf1:=hR3.fz 1
 have HB:=ah hR.lt
 clear hb2 hb3 ho2 hZ hR h1
 go_wp2
 have hp:=put_int hR3 hB3 (Nat.le_succ _) ho3 HB.out
 generalize (W3.setCell ⟨w.heap.size+1,0,none⟩ (.bool s3)).setCell ⟨w.heap.size+1,1,none⟩ (.slice A2 m2 c2)=W4 at hp ⊢
 obtain ⟨hZ4,ho4,hB4⟩:=hp
 exact bodyPost_ret (by simp [results,Tryz.results173,go_sem,hZ4.c0,hZ4.c1]) rfl ⟨_,_,_,_,_,rfl,ho4.base (Nat.le_of_lt HSZ.out),ah (by rw [hx2.out,Zz.sg_false,hz.out,Zz.abs_sg]),hB4⟩
end Go.Proofs.YtjnklbfhelbjgaaGreat
