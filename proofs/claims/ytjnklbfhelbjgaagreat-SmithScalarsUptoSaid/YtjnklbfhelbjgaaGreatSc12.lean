/- Sc12. -/
import Derived.Test.YtjnklbfhelbjgaaGreatSc11
import Derived.Test.YtjnklbfhelbjgaaGreatSc09
import Derived.Test.YtjnklbfhelbjgaaGreatSc00
import Derived.Test.YtjnklbfhelbjgaaGreatSc03
import Derived.Test.YtjnklbfhelbjgaaGreatSc05
import Derived.Test.YtjnklbfhelbjgaaGreatSc10
import Derived.RangeFuncNested
import Derived.RangeFuncBound
import Derived.RangeFuncCalls
import Derived.RangeFuncLeaves
import Derived.RangeFuncBox
import Derived.OwnWalkIn
import Derived.TacticsInMore
import Derived.LoopNIn
import Derived.LoopIn
import Derived.Shelf.Abstract
set_option maxRecDepth 100000
set_option maxHeartbeats 32000000
set_option linter.all false
namespace Go.Proofs.YtjnklbfhelbjgaaGreat
open Go.RowKit Go.IntWalk
theorem add_off (g off t:Nat):(⟨g,off,none⟩:Addr).add t=⟨g,off+t,none⟩:=by
 unfold Addr.add
 split
 ·subst_vars;rfl
 ·rfl
def OwIp (w:World)(b:Nat)(A:Option Addr)(n c:Nat)(L:List Int):Prop :=
 ∃ E:List Ent,E.length=n/\Ents w b E L/\n<=c/\c<=maxLen/\(n=0 ∨ ∃ (g off:Nat) (cs:Array Value),A=some ⟨g,off,none⟩/\b<=g/\w.heap[g]?=some (.cells cs 25 (0,0))/\∀ (i:Nat) (v:Value),(zcs E)[i]?=some v->cs[off+i]?=some v)
section
variable {w w':World}{b b':Nat}{A:Option Addr}{n c:Nat}{L:List Int}
theorem Ents.keep {E:List Ent}(h:Ents w b E L)(hk:KeepT w w'):Ents w' b E L:=⟨h.1,fun j e z he hz=>(h.2 j e z he hz).keep hk⟩
theorem OwIp.len (h:OwIp w b A n c L):L.length=n:=by
 obtain ⟨E,h1,h2,_⟩:=h
 rw [<- h2.1,h1]
theorem OwIp.le (h:OwIp w b A n c L):n<=c/\c<=maxLen:=by
 obtain ⟨E,_,_,h3,h4,_⟩:=h
 exact ⟨h3,h4⟩
theorem OwIp.next (h:OwIp w b A n c L)(hb:Below w.heap.size w w'):OwIp w' b A n c L:=by
 obtain ⟨E,h1,h2,h3,h4,h5⟩:=h
 refine ⟨E,h1,h2.next hb,h3,h4,h5.imp id ?_⟩
 rintro ⟨g,off,cs,k1,k2,k3,k4⟩
 exact ⟨g,off,cs,k1,k2,(hb.block g (Array.getElem?_eq_some_iff.1 k3).1).trans k3,k4⟩
theorem OwIp.base (h:OwIp w b A n c L)(hb:b'<=b):OwIp w b' A n c L:=by
 obtain ⟨E,h1,h2,h3,h4,h5⟩:=h
 refine ⟨E,h1,h2.base hb,h3,h4,h5.imp id ?_⟩
 rintro ⟨g,off,cs,k1,k2,k3,k4⟩
 exact ⟨g,off,cs,k1,nT hb k2,k3,k4⟩
theorem OwIp.keep (h:OwIp w b A n c L)(hk:KeepI w w'):OwIp w' b A n c L:=by
 obtain ⟨E,h1,h2,h3,h4,h5⟩:=h
 refine ⟨E,h1,h2.keep hk.1,h3,h4,h5.imp id ?_⟩
 rintro ⟨g,off,cs,k1,k2,k3,k4⟩
 exact ⟨g,off,cs,k1,k2,hk.2 _ _ _ k3,k4⟩
theorem OwIp.nil (w:World)(b:Nat)(A:Option Addr){c:Nat}(hc:c<=maxLen):OwIp w b A 0 c []:=⟨[],rfl,⟨rfl,fun j e z he _=>by simp at he⟩,nZ,hc,.inl rfl⟩
theorem OwZs.ip (h:OwZs w b A n c L):OwIp w b A n c L:=by
 rcases h.form with ⟨rfl,rfl,rfl⟩ | ⟨g,rfl,h1,h2,h3,h4⟩
 ·have:=h.len
  rw [List.eq_nil_of_length_eq_zero this]
  exact OwIp.nil w b none nZ
 ·obtain ⟨E,hr,hE,hel⟩:=h
  refine ⟨E,hE,hel,h3,h4,.inr ?_⟩
  rcases hr.2 with ⟨k1,_⟩ | ⟨g2,cap,cur,k1,k2,k3,k4,k5,k6,k7⟩
  ·cases k1
  ·injection k1 with k1 _ _
   injection k1 with k1
   injection k1 with k1 _ _
   subst k1
   refine ⟨g,0,cur,rfl,k2,k3,fun i v hv=>?_⟩
   have hi:i < (zcs E).length:=by
    rcases Nat.lt_or_ge i (zcs E).length with h5 | h5
    ·exact h5
    ·rw [gN h5] at hv;cases hv
   have hi2:i < n*2:=by rw [zcs_len,hE] at hi;exact hi
   rw [<- k7,List.getElem?_take_of_lt hi2] at hv
   simpa using hv
theorem zcs_take (E:List Ent):∀ (k i:Nat) (v:Value),(zcs (E.take k))[i]?=some v->(zcs E)[i]?=some v:=by
 induction E with
 | nil=>intro k i v h;simpa using h
 | cons e E ih =>
   intro k i v h
   cases k with
   | zero=>simp [zcs] at h
   | succ k =>
     rw [List.take_succ_cons,zcs_cons] at h
     rw [zcs_cons]
     rcases Nat.lt_or_ge i (zc e).length with h1 | h1
     ·rw [List.getElem?_append_left h1] at h ⊢
      exact h
     ·rw [List.getElem?_append_right h1] at h ⊢
      exact ih k _ v h
theorem zcs_drop (E:List Ent)(k i:Nat)(hk:k<=E.length):(zcs (E.drop k))[i]?=(zcs E)[k*2+i]?:=by
 have e:zcs E=zcs (E.take k) ++ zcs (E.drop k):=by rw [<- zcs_append,List.take_append_drop]
 have hl:(zcs (E.take k)).length=k*2:=by rw [zcs_len,List.length_take,Nat.min_eq_left hk]
 rw [e,List.getElem?_append_right (by omega),hl]
 congr 1
 omega
theorem Ents.take {E:List Ent}(h:Ents w b E L)(k:Nat):Ents w b (E.take k) (L.take k):=by
 refine ⟨by rw [List.length_take,List.length_take,h.1],fun j e z he hz=>?_⟩
 have hj:j < k:=by
  rcases Nat.lt_or_ge j k with h1 | h1
  ·exact h1
  ·rw [gN (by rw [List.length_take];omega)] at he;cases he
 rw [List.getElem?_take_of_lt hj] at he hz
 exact h.2 j e z he hz
theorem Ents.drop {E:List Ent}(h:Ents w b E L)(k:Nat):Ents w b (E.drop k) (L.drop k):=by
 refine ⟨by rw [List.length_drop,List.length_drop,h.1],fun j e z he hz=>?_⟩
 rw [List.getElem?_drop] at he hz
 exact h.2 _ e z he hz
theorem OwIp.take (h:OwIp w b A n c L){k:Nat}(hk:k<=n):OwIp w b A k k (L.take k):=by
 obtain ⟨E,h1,h2,h3,h4,h5⟩:=h
 refine ⟨E.take k,by rw [List.length_take];omega,h2.take k,nR,by omega,?_⟩
 rcases h5 with h5 | ⟨g,off,cs,k1,k2,k3,k4⟩
 ·exact .inl (by omega)
 ·exact .inr ⟨g,off,cs,k1,k2,k3,fun i v hv=>k4 i v (zcs_take E k i v hv)⟩
theorem OwIp.drop {ad:Addr}(h:OwIp w b (some ad) n c L){k:Nat}(hk:k<=n):OwIp w b (some (ad.add (k*2))) (n-k) (c-k) (L.drop k):=by
 obtain ⟨E,h1,h2,h3,h4,h5⟩:=h
 refine ⟨E.drop k,by rw [List.length_drop];omega,h2.drop k,by omega,by omega,?_⟩
 rcases h5 with h5 | ⟨g,off,cs,k1,k2,k3,k4⟩
 ·exact .inl (by omega)
 ·injection k1 with k1
  subst k1
  refine .inr ⟨g,off+k*2,cs,by rw [add_off],k2,k3,fun i v hv=>?_⟩
  rw [zcs_drop E k i (by omega)] at hv
  have:=k4 _ v hv
  rwa [<- Nat.add_assoc] at this
theorem OwIp.rs {N:Nat}(h:OwIp w b A n c L)(hN:∀ z ∈ L,Zz.zl z<=N):RdRs w w.heap.size N A n c (L.map ofZ):=by
 have hl:=h.len
 have hle:=h.le
 obtain ⟨E,h1,h2,h3,h4,h5⟩:=h
 refine ⟨by rw [List.length_map];exact hl,hle.1,hle.2,fun j r hz=>?_⟩
 rw [List.getElem?_map] at hz
 obtain ⟨z,hzz,rfl⟩:=Option.map_eq_some_iff.1 hz
 have hj:j < L.length:=by
  rcases Nat.lt_or_ge j L.length with h6 | h6
  ·exact h6
  ·rw [gN h6] at hzz;cases hzz
 rcases h5 with h5 | ⟨g,off,cs,rfl,k2,k3,k4⟩
 ·omega
 ·have hjE:j < E.length:=by omega
  have he:=gE hjE
  have hz':=h2.2 j _ z he hzz
  obtain ⟨c0,c1⟩:=zcs_at E j _ he
  refine ⟨_,_,_,_,rfl,(Array.getElem?_eq_some_iff.1 k3).1,?_,?_,hz'.own.rd,?_⟩
  ·rw [add_off,cell_of_row w g _ _ _ _ k3,k4 _ _ c0]
   exact congrArg some (congrArg Value.bool hz'.sgn)
  ·rw [add_off]
   show w.cell? ⟨g,off+j*2+1,none⟩=_
   rw [cell_of_row w g _ _ _ _ k3]
   exact k4 _ _ c1
  ·rw [hz'.len];exact hN z (gM hzz)
end
def EntMs (w:World)(b:Nat)(E:List (Option Addr × Nat × Nat))(LL:List (List Int)):Prop:=E.length=LL.length/\∀ (j:Nat) (e:Option Addr × Nat × Nat) (L:List Int),E[j]?=some e->LL[j]?=some L->OwIp w b e.1 e.2.1 e.2.2 L
def OwMs (w:World)(b:Nat)(A:Option Addr)(n c:Nat)(LL:List (List Int)):Prop :=
 ∃ E:List (Option Addr × Nat × Nat),w.ownsRow b 65 1 (.slice A n c) n (E.map psl)/\E.length=n/\EntMs w b E LL
section
variable {w w':World}{b b':Nat}{A:Option Addr}{n c:Nat}{LL:List (List Int)}{E:List (Option Addr × Nat × Nat)}
theorem EntMs.next (h:EntMs w b E LL)(hb:Below w.heap.size w w'):EntMs w' b E LL:=⟨h.1,fun j e z he hz=>(h.2 j e z he hz).next hb⟩
theorem EntMs.base (h:EntMs w b E LL)(hb:b'<=b):EntMs w b' E LL:=⟨h.1,fun j e z he hz=>(h.2 j e z he hz).base hb⟩
theorem EntMs.keep (h:EntMs w b E LL)(hk:KeepI w w'):EntMs w' b E LL:=⟨h.1,fun j e z he hz=>(h.2 j e z he hz).keep hk⟩
theorem EntMs.snoc (h:EntMs w b E LL){e:Option Addr × Nat × Nat}{L:List Int}(he:OwIp w b e.1 e.2.1 e.2.2 L):EntMs w b (E ++ [e]) (LL ++ [L]):=by
 refine ⟨by rw [List.length_append,List.length_append,h.1];rfl,fun j e' z' h1 h2=>?_⟩
 rcases Nat.lt_or_ge j E.length with hj | hj
 ·rw [List.getElem?_append_left hj] at h1
  rw [List.getElem?_append_left (by rw [<- h.1];exact hj)] at h2
  exact h.2 j e' z' h1 h2
 ·rw [List.getElem?_append_right hj] at h1
  rw [List.getElem?_append_right (by rw [<- h.1];exact hj)] at h2
  rw [<- h.1] at h2
  have hj0:j-E.length=0:=by
   rcases Nat.eq_zero_or_pos (j-E.length) with e0 | e0
   ·exact e0
   ·rw [gN (by simp;omega)] at h1;cases h1
  rw [hj0] at h1 h2
  simp at h1 h2
  subst h1 h2
  exact he
theorem OwMs.len (h:OwMs w b A n c LL):LL.length=n:=by
 obtain ⟨E,_,h2,h3⟩:=h
 rw [<- h3.1,h2]
theorem OwMs.nil (w:World)(b:Nat):OwMs w b none 0 0 []:=⟨[],World.ownsRow_nil _ _ _ _,rfl,rfl,fun j e z he _=>by simp at he⟩
theorem OwMs.next (h:OwMs w b A n c LL)(hb:Below w.heap.size w w'):OwMs w' b A n c LL:=by
 obtain ⟨E,h1,h2,h3⟩:=h
 exact ⟨E,row_next h1 hb,h2,h3.next hb⟩
theorem OwMs.base (h:OwMs w b A n c LL)(hb:b'<=b):OwMs w b' A n c LL:=by
 obtain ⟨E,h1,h2,h3⟩:=h
 exact ⟨E,row_base h1 hb,h2,h3.base hb⟩
theorem OwMs.form (h:OwMs w b A n c LL):(A=none/\n=0/\c=0) ∨ ∃ g,A=some ⟨g,0,none⟩/\b<=g/\g < w.heap.size/\n<=c/\c<=maxLen:=by
 obtain ⟨E,h,_,_⟩:=h
 rcases h.2 with ⟨h1,h2⟩ | ⟨g,cap,cur,h1,h2,h3,h4,h5,_⟩
 ·injection h1 with h1 h1' h1''
  exact .inl ⟨h1,h2,h1''⟩
 ·injection h1 with h1 h1' h1''
  subst h1''
  exact .inr ⟨g,h1,h2,(Array.getElem?_eq_some_iff.1 h3).1,h4,h5⟩
theorem ms_more {wb w1:World}{v':Value}{e:Option Addr × Nat × Nat}{L:List Int}{t:TypeId}(he:OwIp w b e.1 e.2.1 e.2.2 L)(hwb:wb=w.alloc (.cells #[.slice e.1 e.2.1 e.2.2] t))(hE:wb.ownsRow b 65 1 (.slice A n c) n (E.map psl))(hEl:E.length=n)(hEn:EntMs wb b E LL)
  (hown':w1.ownsRow b 65 1 v' (n+1) (E.map psl ++ [.slice e.1 e.2.1 e.2.2])) (hg:wb.grownBy w1 (Value.slice A n c).ownBlock) :
  ∃ (A':Option Addr) (c':Nat),v'=.slice A' (n+1) c'/\OwMs w1 b A' (n+1) c' (LL ++ [L]):=by
 obtain ⟨A',c',rfl⟩:=row_sl hown'
 have hba:Below w.heap.size w wb:=by rw [hwb];exact (Below.refl w.heap.size w).alloc nR _
 have hk:=keepI_grown hE hg
 refine ⟨A',c',rfl,E ++ [e],?_,by rw [List.length_append,hEl];rfl,?_⟩
 ·rw [List.map_append];exact hown'
 ·exact (hEn.snoc (he.next hba)).keep hk
theorem oml_at (h:OwMs w b A n c LL){j:Nat}(hj:j < n) :
  ∃ (g:Nat) (A1:Option Addr) (n1 c1:Nat) (L:List Int),A=some ⟨g,0,none⟩/\g < w.heap.size/\w.cell? ⟨g,j,none⟩=some (.slice A1 n1 c1)/\OwIp w b A1 n1 c1 L/\Hid (LL[j]?=some L):=by
 have hl:=h.len
 rcases h.form with ⟨_,h0,_⟩ | ⟨g,rfl,h1,h2,h3,h4⟩
 ·omega
 ·obtain ⟨E,hr,hE,hel⟩:=h
  have hjE:j < E.length:=by omega
  have hjL:j < LL.length:=by omega
  refine ⟨g,E[j].1,E[j].2.1,E[j].2.2,LL[j],rfl,h2,?_,hel.2 j _ _ (gE hjE) (gE hjL),ah (gE hjL)⟩
  have:=hr.cellAt j (by omega)
  rw [this,List.getElem?_map,gE hjE]
  rfl
end
section
variable {w w':World}{b:Nat}{G:Option Addr}{r k N K:Nat}{LL:List (List Int)}
theorem OwMs.rd (h:OwMs w b G r k LL)(hN:∀ L ∈ LL,L.length<=K/\∀ z ∈ L,Zz.zl z<=N):RdRss w w.heap.size N K G r k (LL.map (·.map ofZ)):=by
 have hl:=h.len
 have hf:r<=k/\k<=maxLen:=by
  rcases h.form with ⟨_,rfl,rfl⟩ | ⟨g,_,_,_,h3,h4⟩
  ·exact ⟨nR,nZ⟩
  ·exact ⟨h3,h4⟩
 refine ⟨by rw [List.length_map];exact hl,hf.1,hf.2,fun j R hR=>?_⟩
 rw [List.getElem?_map] at hR
 obtain ⟨L,hL,rfl⟩:=Option.map_eq_some_iff.1 hR
 have hj:j < LL.length:=by
  rcases Nat.lt_or_ge j LL.length with h6 | h6
  ·exact h6
  ·rw [gN h6] at hL;cases hL
 obtain ⟨g,A1,n1,c1,L',rfl,h2,h3,h4,h5⟩:=oml_at h (show j < r by omega)
 rw [h5.out] at hL
 injection hL with hL
 subst hL
 have hm:=hN L' (gM h5.out)
 exact ⟨_,A1,n1,c1,rfl,h2,by rw [add_base];exact h3,h4.rs hm.2,by rw [<- h4.len];exact hm.1⟩
theorem OwMs.num {s:Bool}{A D:Option Addr}{n c g p q:Nat}(h:OwMs w b G r k LL)(hm:MC w g s A n c D p q)(hg:g < b)(u:Value):OwMs (w.setCell ⟨g,2,none⟩ u) b G r k LL:=by
 obtain ⟨E,h1,h2,h3⟩:=h
 exact ⟨E,row_far h1 hg u,h2,h3.keep (keepI_mc hm 2 u)⟩
theorem OwMs.put {s:Bool}{A D:Option Addr}{n c g p q:Nat}(h:OwMs w b G r k LL)(hm:MC w g s A n c D p q)(hg:g < b)(s':Bool)(A':Option Addr)(n' c':Nat)(G':Option Addr)(r' k':Nat):OwMs (putM w g s' A' n' c' G' r' k') b G r k LL:=by
 obtain ⟨E,h1,h2,h3⟩:=h
 exact ⟨E,row_far (row_far (row_far h1 (p:=⟨g,0,none⟩) hg _) (p:=⟨g,1,none⟩) hg _) (p:=⟨g,2,none⟩) hg _,h2,h3.keep (keepI_put hm s' A' n' c' G' r' k')⟩
end
theorem toZ_ofZ (z:Int):toZ (ofZ z)=z:=by
 show Zz.sg (decide (z < 0)) (Dg.val (Dg.dg z.natAbs))=z
 rw [Dg.val_dg,Zz.sg_abs]
def ent (d:Int)(RR:List RawRow):List (List Rat):=RR.map fun R=>R.map fun x=>Rat.divInt (toZ x) d
def entZ (d:Int)(LL:List (List Int)):List (List Rat):=LL.map fun L=>L.map fun z=>Rat.divInt z d
theorem ent_ofZ (d:Int)(LL:List (List Int)):ent d (LL.map (·.map ofZ))=entZ d LL:=by
 unfold ent entZ
 rw [List.map_map]
 refine List.map_congr_left fun L _=>?_
 show (L.map ofZ).map _=_
 rw [List.map_map]
 refine List.map_congr_left fun z _=>?_
 show Rat.divInt (toZ (ofZ z)) d=_
 rw [toZ_ofZ]
def nlen (v:Nat):Nat:=if (Dg.dg v).length=0 then 0 else 32*((Dg.dg v).length-1)+Lib.bitLen (Dg.ld (Dg.dg v) ((Dg.dg v).length-1))
theorem nlen_nil {v:Nat}(h:Dg.dg v=[]):nlen v=0:=by unfold nlen;rw [h];rfl
theorem nlen_top {v j x:Nat}(h:(Dg.dg v).length=j+1)(hx:Dg.ld (Dg.dg v) j=x):nlen v=32*j+Lib.bitLen x:=by
 unfold nlen
 rw [if_neg (by omega),h]
 show 32*(j+1-1)+Lib.bitLen (Dg.ld (Dg.dg v) (j+1-1))=_
 rw [Nat.add_sub_cancel,hx]
theorem nlen_any {A:Option Addr}{n c:Nat}{L:List Nat}{w:World}(h:RdU w w.heap.size A n c L)(hn:n<=17592186044416) :
  Calls Tryz.prog 84 #[.slice A n c] w fun e w'=>∃ z:Nat,e=.returned (.int .i64 z)/\Hid (z=nlen (Dg.val L))/\w=w':=by
 have hlen:=ah h.len
 go_enter Tryz.func84,Tryz.ntmps84
 go_wp2_with fail
 refine (trim_any h (by omega)).mono ?_
 rintro _ _ ⟨k,rfl,hk,rfl⟩
 have hkl:=hk.out.1
 have hkn:k<=n:=by rw [hlen.out] at hkl;exact hkl
 rcases Nat.eq_zero_or_pos k with h0 | h0
 ·subst h0
  have HZ:=ah (hk.out.2.symm.trans (List.take_zero))
  clear hkl
  go_wp2
  go_ret
  exact ⟨0,rfl,ah (nlen_nil HZ.out).symm,rfl⟩
 ·obtain ⟨j,rfl⟩:∃ j,k=j+1:=⟨k-1,by omega⟩
  have hj:j < (L.take (j+1)).length:=by rw [List.length_take];omega
  obtain ⟨hx,ad,rfl,hb,hc⟩:=(h.take hkn).at_ j (Dg.ld (L.take (j+1)) j) (Dg.get_of_ld hj)
  have hpos:Dg.ld (L.take (j+1)) j ≠ 0:=by
   have hne:L.take (j+1) ≠ []:=fun e=>by rw [e] at hj;simp at hj
   have hnm:=Dg.dg_nm (Dg.val L)
   rw [<- hk.out.2] at hnm
   have hh:=hnm hne
   rw [List.getLast_eq_getElem] at hh
   rw [Dg.ld_lt hj]
   simpa [List.length_take,Nat.min_eq_left hkl] using hh
  have HNL:=ah (show ∀ x,Dg.ld (L.take (j+1)) j=x->nlen (Dg.val L)=32*j+Lib.bitLen x from fun x hx=>nlen_top (by rw [<- hk.out.2,List.length_take];omega) (by rw [<- hk.out.2];exact hx))
  obtain ⟨x,hxe⟩:∃ x,Dg.ld (L.take (j+1)) j=x:=⟨_,rfl⟩
  have HXE:=ah (HNL.out x hxe)
  rw [hxe] at hx hc hpos
  clear hj hkl hxe HNL
  have HP:=ah hpos
  clear hpos
  go_wp2_with fail
  refine (bits_Len32 _ _ (by omega) (by omega)).mono ?_
  rintro _ _ ⟨rfl,rfl⟩
  have hbl:=ah (Lib.bitLen_half x HP.out (by omega))
  have hle:Lib.bitLen x<=64:=Lib.bitLen_le x 64 nR (by omega)
  go_wp2
  go_ret
  refine ⟨32*j+Lib.bitLen x,?_,ah HXE.out.symm,rfl⟩
  exact ret_i (by simp)
theorem rnlen_any {A:Option Addr}{n c:Nat}{L:List Nat}{w:World}(h:RdU w w.heap.size A n c L)(hn:n<=17592186044416) :
  Calls Tryz.prog 150 #[.slice A n c] w (RetK (nlen (Dg.val L):Int) w):=by
 go_enter Tryz.func150,Tryz.ntmps150
 go_wp2_with fail
 refine (refNorm_any h hn).mono ?_
 rintro _ W2 ⟨A2,n2,c2,x,rfl,ho,hx,hb⟩
 obtain rfl:x=Dg.val L:=hx.out
 have HB:=ah hb
 have hlen:(Dg.dg (Dg.val L)).length=n2:=ho.len
 have HJB:=ah (show n2<=n from by rw [<- hlen,<- h.len];exact Dg.dg_len_lt.2 (Dg.val_lt h.wd))
 have hm1:=ho.rd.le
 have hm2:=ho.rd.mx
 unfold maxLen at hm2
 rcases Nat.eq_zero_or_pos n2 with h0 | h0
 ·subst h0
  have HZ:=ah (List.eq_nil_of_length_eq_zero hlen)
  clear hb hlen ho hm1 hm2
  go_wp2
  go_ret
  exact ⟨0,rfl,ah (by rw [nlen_nil HZ.out];rfl),HB.out⟩
 ·obtain ⟨j,rfl⟩:∃ j,n2=j+1:=⟨n2-1,by omega⟩
  have hj:j < (Dg.dg (Dg.val L)).length:=by omega
  obtain ⟨hx4,ad,rfl,hb4,hc4⟩:=ho.rd.at_ j (Dg.ld (Dg.dg (Dg.val L)) j) (Dg.get_of_ld hj)
  have HNL:=ah (nlen_top hlen rfl)
  generalize Dg.ld (Dg.dg (Dg.val L)) j=y at *
  have HN:=ah HNL.out
  have hjb:j<=17592186044416:=by have:=HJB.out;omega
  have hyl:Lib.bitLen y<=64:=Lib.bitLen_le y 64 nR (by omega)
  have HYL:=ah hyl
  clear hb hlen ho hj hm1 hm2
  go_wp2_with fail
  go_loopw [3,4] (fun nv xv wr=>∃ (m y:Nat),nv=.int .i64 (m:Int)/\xv=.int .u32 (y:Int)/\y < 4294967296/\m<=32*j+64/\Hid (m+Lib.bitLen y=nlen (Dg.val L))/\wr=W2) (fun _ xv _=>(intOf xv).toNat)
  case atStart=>exact ⟨32*j,y,by go_num,rfl,hx4,by omega,ah HN.out.symm,rfl⟩
  case round =>
   obtain ⟨m,y,rfl,rfl,hy,hm,hv,rfl⟩:=hrel
   by_cases h0:y=0
   ·subst h0
    have HV:=ah (show m=nlen (Dg.val L) from by rw [<- hv.out];rfl)
    clear hv
    go_wp2
    go_ret
    exact ⟨_,rfl,ah (by rw [HV.out]),HB.out⟩
   ·have hyp:(0:Int) < (y:Int):=by omega
    have hbl:=Lib.bitLen_half y h0 (by omega)
    have hle:Lib.bitLen y<=64:=Lib.bitLen_le y 64 nR (by omega)
    have HV:=ah (show (m+1)+Lib.bitLen (y / 2)=nlen (Dg.val L) from by rw [<- hv.out];omega)
    have HJ:=ah (show m+1<=32*j+64 from by
     have h1:=HV.out
     have h2:=HN.out
     have h3:=HYL.out
     omega)
    clear h0 hbl hle
    go_wp2
    go_roundw
    case rel=>exact ⟨m+1,y / 2,by go_num,by go_num,by omega,HJ.out,HV,by first | rfl | trivial⟩
    case measure=>simp [intOf];omega
attribute [local go_sem ↓] Go.wp_at_zero Go.wp_at_succ
def RetKE (Φ:Int->Int->Prop)(w:World)(e:Ending)(w':World):Prop :=
 ∃ (v:Int) (kk:Int),e=.returned (.tuple #[.int .i64 v,.int .i64 kk])/\Hid (Φ v kk)/\Below w.heap.size w w'
theorem made_int {f N:Nat}{A:Option Addr}{n c:Nat}{L:List (Int × Int)}{w:World}{Φ:Int->Int->Prop}(h:RdQs w w.heap.size N A n c L)(hn:n<=1048576)(hN:N<=1000000000000)(heg:∀ args w,(callFunc f args).run Tryz.prog w=.ok (.enter f args) w)(hall:∀ p ∈ L,p.2 ≠ 0)
  (hdo:∀ (W:World) (A':Option Addr) (c':Nat),Below w.heap.size w W->OwQs W w.heap.size A' n c' (L.map qval)->Calls Tryz.prog f #[.slice A' n c'] W (RetKE Φ W)) :
  Calls Tryz.prog 188 #[.func (.func f) #[] #[],.slice A n c] w (RetKE Φ w):=by
 have HD:=ah hdo
 have HAL:=ah hall
 have HLEN:=ah h.len
 have hmk:=fun W:World=>make_qroom n (by omega) W
 obtain ⟨i0,hi,hz0,hz1,hz2⟩:=info_parts infoQ
 obtain ⟨W1,HW1⟩:∃ W,W=w.alloc (.cells (madeCells #[.bool false,.slice none 0 0,.bool false,.slice none 0 0] (n*4)) 47):=⟨_,rfl⟩
 have hb1:Below w.heap.size w W1:=by rw [HW1];exact bA
 have hO1:OwQs W1 w.heap.size (some ⟨w.heap.size,0,none⟩) 0 n []:=by rw [HW1];exact OwQs.room w n (by unfold maxLen;omega)
 have HW1:=ah HW1
 clear hdo hall
 go_enter Tryz.func188,Tryz.ntmps188
 go_wp2_with fail
 rw [<- HW1.out]
 clear HW1
 clear HW1
 go_loopw [7,17] (fun ov iv wr=>∃ (j c':Nat) (A':Option Addr) (M:List Rat),ov=.slice A' j c'/\iv=.int .i64 j/\j<=n/\OwQs wr w.heap.size A' j c' M/\Hid (M=(L.take j).map qval)/\Below w.heap.size w wr) (fun _ iv _=>n-(intOf iv).toNat)
 case atStart=>exact ⟨0,n,_,[],rfl,rfl,nZ,hO1,ah rfl,hb1⟩
 case round =>
  clear hO1 hb1
  obtain ⟨j,c',A',M,rfl,rfl,hj,ho,hM,hB⟩:=hrel
  by_cases hjn:j=n
  ·subst hjn
   have HO:=ah (show OwQs wr w.heap.size A' j c' (L.map qval) by rw [<- List.take_of_length_le (l:=L) (by rw [HLEN.out];exact nR),<- hM.out];exact ho)
   have HBW:=ah hB
   clear ho hB hM
   go_wp2_with fail
   refine (HD.out wr A' c' HBW.out HO.out).mono ?_
   rintro _ W5 ⟨v,kk,rfl,hy,hb5⟩
   go_wp2
   exact bodyPost_ret (by simp [results,Tryz.results188,go_sem]) rfl ⟨v,kk,rfl,hy,HBW.out.trans (hb5.mono HBW.out.size)⟩
  ·have hjl:j < n:=by omega
   clear hjn
   have hjli:(j:Int) < (n:Int):=by omega
   obtain ⟨ad,s1,A1,n1,c1,s2,A2,n2,c2,z1,d1,rfl,hbk,hx0,hx1,hx2,hx3,hr1,hr2,hn1,hn2,hp⟩:=qs_at h hjl
   obtain ⟨hy0,hy1,hy2,hy3⟩:=qs_cells hB hbk hx0 hx1 hx2 hx3
   obtain ⟨W2,HW2⟩:∃ W,W=wr.alloc (.cells #[.bool s1,.slice A1 n1 c1,.bool s2,.slice A2 n2 c2] 47):=⟨_,rfl⟩
   have hb2:Below wr.heap.size wr W2:=by rw [HW2];exact bA
   have hB2:=hB.trans (hb2.mono hB.size)
   have HO:=ah (ho.next hb2)
   have HRD:=ah (cJ (hr1.next hB2) (hr2.next hB2))
   have HB2:=ah hB2
   have HNN:=ah (cJ (nT hn1 hN) (nT hn2 hN))
   have HD1:=ah (show d1 ≠ 0 from HAL.out _ (gM hp.out))
   have HW2:=ah HW2
   clear ho hB hb2 hB2 hr1 hr2 hx0 hx1 hx2 hx3
   go_wp2_with fail
   rw [<- HW2.out]
   clear HW2 hy0 hy1 hy2 hy3
   clear HW2
   refine (qnorm_any HRD.out.1 HRD.out.2 HNN.out.1 HNN.out.2 HD1.out).mono ?_
   rintro _ W3 ⟨s3,A3,n3,c3,s4,A4,n4,c4,y,rfl,ho3,hy,hb3⟩
   have hB3:=HB2.out.trans (hb3.mono HB2.out.size)
   obtain ⟨W4,HW4⟩:∃ W,W=W3.alloc (.cells #[.bool s3,.slice A3 n3 c3,.bool s4,.slice A4 n4 c4] 47):=⟨_,rfl⟩
   have hb4:Below W3.heap.size W3 W4:=by rw [HW4];exact bA
   have hB4:=hB3.trans (hb4.mono hB3.size)
   obtain ⟨E,hE,hEl,hEn⟩:=(HO.out.next hb3).next hb4
   have HO4:=ah ((ho3.base HB2.out.size).next hb4)
   rw [HW4] at hE hB4 hEn
   rw [HW4] at HO4
   have HE:=ah hE
   have HEN:=ah (cJ hEl hEn)
   have HM2:=ah (show M ++ [y]=(L.take (j+1)).map qval by rw [hM.out,hy.out];exact mapq_snoc hp.out)
   have HB4:=ah hB4
   clear hE hEl hEn hb3 ho3 hb4 hB3 hB4 hy HO hM
   clear HW4
   go_wp2_with (at_builtin;refine wpList_append_own _ rfl _ _ 72 rfl w.heap.size 47 i0 (.agg #[.bool false,.slice none 0 0,.bool false,.slice none 0 0]) 4 64 Tryz.underlying72 hi hz0 hz1 hz2 rfl (by decide) _ _ _ rfl (HE.out.alloc _) ⟨W3.heap.size+1,0,none⟩ 1 1 [.bool s3,.slice A3 n3 c3,.bool s4,.slice A4 n4 c4] rfl rfl (by simpa using qcell_new (W3.alloc (.cells #[.bool s3,.slice A3 n3 c3,.bool s4,.slice A4 n4 c4] 47)) (.bool s3) (.slice A3 n3 c3) (.bool s4) (.slice A4 n4 c4) 47) (by simp [Value.oneCell']) (by unfold maxLen;omega) (by omega) (by have:=HB4.out.size;simp at this ⊢;omega) ?_;intro v' w1 hown' hgrow _)
   have hmore:=qs_more (e:=((s3,A3,n3,c3),(s4,A4,n4,c4))) (x:=y) HO4.out rfl (HE.out.alloc _) HEN.out.1 HEN.out.2 hown' hgrow
   have HB5:=ah ((HB4.out.alloc HB4.out.size (.cells #[.bool s3,.slice A3 n3 c3,.bool s4,.slice A4 n4 c4] 47)).grown hgrow (by have:=HB4.out.size;simp at this ⊢;omega) (own_block HE.out))
   obtain ⟨A5,c5,rfl,ho5⟩:=hmore
   clear hown' hgrow HE HEN HO4
   go_wp2
   go_roundw
   case rel=>exact ⟨j+1,c5,A5,M ++ [y],rfl,by go_num,by omega,ho5,HM2,HB5.out⟩
   case measure=>simp [intOf];omega
def qbits (x:Rat):Nat:=max (nlen x.num.natAbs) (nlen x.den)
def ht (L:List Rat):Nat:=L.foldl (fun h x=>max h (qbits x)) 0
theorem ht_snoc (L:List Rat)(x:Rat):ht (L ++ [x])=max (ht L) (qbits x):=by unfold ht;rw [List.foldl_append];rfl
theorem max3_if (v z1 z2:Nat):(if (if v < z1 then (z1:Int) else (v:Int)) < (z2:Int) then (z2:Int) else if v < z1 then (z1:Int) else (v:Int))=((max (max v z1) z2:Nat):Int):=by
 rcases Nat.lt_or_ge v z1 with h1 | h1
 ·simp only [if_pos h1]
  rcases Nat.lt_or_ge z1 z2 with h2 | h2
  ·rw [if_pos (by omega)];omega
  ·rw [if_neg (by omega)];omega
 ·simp only [if_neg (Nat.not_lt.2 h1)]
  rcases Nat.lt_or_ge v z2 with h2 | h2
  ·rw [if_pos (by omega)];omega
  ·rw [if_neg (by omega)];omega
theorem qheightIn_any {N b:Nat}{A:Option Addr}{n c:Nat}{L:List Rat}{w:World}(h:OwQs w b A n c L)(hx:∀ x ∈ L,Qs N x)(hN:N<=1000000000000)(hn:n<=1048576) :
  Calls Tryz.prog 189 #[.slice A n c] w (RetKE (fun v kk=>v=(ht L:Int)/\kk=0) w):=by
 have H:=ah (show ∀ W,Below w.heap.size w W->OwQs W b A n c L from fun W hb=>h.next hb)
 have HL:=ah h.len
 have HX:=ah hx
 clear h hx
 go_enter Tryz.func189,Tryz.ntmps189
 go_wp2_with fail
 go_loopw [4,9] (fun nv iv wr=>∃ (j v:Nat),nv=.int .i64 (v:Int)/\iv=.int .i64 (j:Int)/\j<=n/\Hid (v=ht (L.take j))/\Below w.heap.size w wr) (fun _ iv _=>n-(intOf iv).toNat)
 case atStart=>exact ⟨0,0,rfl,rfl,nZ,ah rfl,bR⟩
 case round =>
  obtain ⟨j,v,rfl,rfl,hj,hv,hB⟩:=hrel
  by_cases hjn:j=n
  ·have HV:=ah (show v=ht L from by rw [hv.out,hjn,List.take_of_length_le (by rw [HL.out];exact nR)])
   subst hjn
   have HF:=ah hB
   clear hB hv
   go_wp2
   go_ret2
   exact ⟨_,0,rfl,ah ⟨by rw [HV.out],rfl⟩,HF.out⟩
  ·have hjl:j < n:=by omega
   have hjli:(j:Int) < (n:Int):=by omega
   clear hjn
   obtain ⟨ad,s1,A1,n1,c1,s2,A2,n2,c2,x,rfl,hbk,hx0,hx1,hx2,hx3,ho,hp⟩:=oq_at (H.out wr hB) hjl
   obtain ⟨W5,HW5⟩:∃ W,W=wr.alloc (.cells #[.bool s1,.slice A1 n1 c1,.bool s2,.slice A2 n2 c2] 47):=⟨_,rfl⟩
   have hb5:Below wr.heap.size wr W5:=by rw [HW5];exact bA
   have hQ5:QC W5 wr.heap.size s1 A1 n1 c1 s2 A2 n2 c2:=by rw [HW5];exact QC.new wr s1 A1 n1 c1 s2 A2 n2 c2
   have HXS:=ah (HX.out x (gM hp.out))
   have HO5:=ah (show RdU W5.drew W5.drew.heap.size A1 n1 c1 (Dg.dg x.num.natAbs)/\RdU W5.drew W5.drew.heap.size A2 n2 c2 (Dg.dg x.den) from ⟨((ho.next hb5).num.own.next (Below.refl W5.heap.size W5).drew).rd,((ho.next hb5).den.own.next (Below.refl W5.heap.size W5).drew).rd⟩)
   have HNN:=ah (show n1<=N/\n2<=N from ⟨by rw [ho.num.len];exact HXS.out.1,by rw [ho.den.len];exact HXS.out.2⟩)
   have HQ5:=ah hQ5
   have HF:=ah (hB.trans ((hb5.drew).mono hB.size))
   have HV:=ah (show max (max v (nlen x.num.natAbs)) (nlen x.den)=ht (L.take (j+1)) from by
    rw [List.take_add_one,hp.out,show (some x).toList=[x] from rfl,ht_snoc,hv.out,qbits,Nat.max_assoc])
   have HW5:=ah HW5
   clear hb5 hQ5 ho hB hv hp
   go_upto_region 5 with fail
   rw [<- HW5.out]
   clear HW5 hx0 hx1 hx2 hx3
   clear HW5
   have q1:=HQ5.out.c1
   have q3:=HQ5.out.c3
   go_region_held3 (fun w'=>w'.cell? ⟨wr.heap.size,1,none⟩=some (.slice A1 n1 c1)/\w'.cell? ⟨wr.heap.size,3,none⟩=some (.slice A2 n2 c2))
    (exact ⟨q1,q3⟩)
    (first
     | (have hz:=HZ1.out;clear hz;go_at_call 84;refine (nlen_any HO5.out.2 (by have:=HNN.out;omega)).mono ?_;rintro _ _ ⟨z2,rfl,hz2,rfl⟩;have HZ2:=ah (show z2=nlen x.den by rw [hz2.out,Dg.val_dg]))
     | (go_at_call 84;refine (nlen_any HO5.out.1 (by have:=HNN.out;omega)).mono ?_;rintro _ _ ⟨z1,rfl,hz1,rfl⟩;have HZ1:=ah (show z1=nlen x.num.natAbs by rw [hz1.out,Dg.val_dg])))
   all_goals
    have HVV:=ah (show max (max v z1) z2=ht (L.take (j+1)) from by rw [<- HV.out,HZ1.out,HZ2.out])
    rw [max3_if v z1 z2]
    clear q1 q3 hz1 hz2 HZ1 HZ2
    go_wp2
    go_roundw
    case rel=>exact ⟨j+1,max (max v z1) z2,rfl,by go_num,by omega,HVV,HF.out⟩
    case measure=>simp [intOf];omega
theorem qheight_any {N:Nat}{A:Option Addr}{n c:Nat}{L:List (Int × Int)}{w:World}(h:RdQs w w.heap.size N A n c L)(hd:∀ p ∈ L,p.2 ≠ 0)(hn:n<=1048576)(hN:N<=1000000000000)(h1N:1<=N) :
  Calls Tryz.prog 135 #[.slice A n c] w (RetKE (fun v kk=>v=(ht (L.map qval):Int)/\kk=0) w):=by
 have heg:=enters_of Tryz.func189 (by kernel_rfl) rfl
 have HS:=ah (show ∀ x ∈ L.map qval,Qs N x from fun x hx=>by
  obtain ⟨i,_,rfl⟩:=Pq.mem_co hx
  exact h.sz hd h1N i)
 go_enter Tryz.func135,Tryz.ntmps135
 go_wp2_with fail
 refine (made_int (N:=N) (Φ:=fun v kk=>v=(ht (L.map qval):Int)/\kk=0) h hn hN heg hd (fun W A' c' hb ho=>qheightIn_any (N:=N) ho HS.out hN hn)).mono ?_
 rintro _ W2 ⟨v,kk,rfl,hv,hb2⟩
 go_wp2
 go_ret2
 exact ⟨v,kk,rfl,hv,hb2⟩
theorem ht_fold (L:List Rat):∀ h:Nat,L.foldl (fun h x=>max h (qbits x)) h=max h (ht L):=by
 induction L with
 | nil=>intro h;simp [ht]
 | cons x L ih =>
   intro h
   have e:ht (x :: L)=max (max 0 (qbits x)) (ht L):=by
    unfold ht
    rw [List.foldl_cons,ih]
    rfl
   rw [List.foldl_cons,ih,e]
   omega
theorem ht_append (a b:List Rat):ht (a ++ b)=max (ht a) (ht b):=by
 show (a ++ b).foldl _ 0=_
 rw [List.foldl_append,ht_fold]
 rfl
theorem ht_mem {L:List Rat}{x:Rat}(h:x ∈ L):qbits x<=ht L:=by
 obtain ⟨a,b,rfl⟩:=List.append_of_mem h
 rw [ht_append,show x :: b=[x] ++ b from rfl,ht_append]
 have:ht [x]=max 0 (qbits x):=rfl
 omega
theorem nlen_len (v:Nat):(Dg.dg v).length<=nlen v+1:=by
 unfold nlen
 split
 ·omega
 ·omega
theorem qbits_qs {x:Rat}{k:Nat}(h:qbits x<=k):Qs (k+1) x:=by
 unfold qbits at h
 have h1:=nlen_len x.num.natAbs
 have h2:=nlen_len x.den
 refine ⟨?_,?_⟩
 ·show (Dg.dg x.num.natAbs).length<=k+1
  omega
 ·show (Dg.dg (x.den:Int).natAbs).length<=k+1
  rw [Int.natAbs_natCast]
  omega
theorem chk_zero {d:Int}{RR:List RawRow}(h:chk d RR=0):d ≠ 0/\Evn RR:=by
 unfold chk at h
 by_cases h0:d=0
 ·rw [if_pos h0] at h;omega
 ·rw [if_neg h0] at h
  by_cases h1:Evn RR
  ·exact ⟨h0,h1⟩
  ·rw [if_neg h1] at h;omega
theorem ent_len (d:Int)(RR:List RawRow):(ent d RR).length=RR.length:=by simp [ent]
theorem ent_sz {w:World}{B N K:Nat}{A:Option Addr}{n c:Nat}{RR:List RawRow}{d:Int}(h:RdRss w B N K A n c RR)(hd:d ≠ 0)(hN:Zz.zl d<=N):∀ L ∈ ent d RR,L.length<=K/\∀ x ∈ L,Qs N x:=by
 intro L hL
 obtain ⟨R,hR,rfl⟩:=List.mem_map.1 hL
 obtain ⟨j,hj⟩:=List.getElem?_of_mem hR
 obtain ⟨ad,A1,n1,c1,_,_,_,h4,h5⟩:=h.at_ j R hj
 refine ⟨by rw [List.length_map,h4.len];exact h5,fun x hx=>?_⟩
 obtain ⟨z,hz,rfl⟩:=List.mem_map.1 hx
 obtain ⟨i,hi⟩:=List.getElem?_of_mem hz
 obtain ⟨_,_,_,_,_,_,_,_,k1,k2⟩:=h4.at_ i z hi
 refine Qs.divInt hd ?_ hN
 have hl:z.2.length<=N:=by rw [k1.len];exact k2
 refine nT ?_ hl
 have hw:=k1.wd
 unfold Zz.zl toZ
 exact Dg.dg_len_lt.2 (by
  have e:(Zz.sg z.1 (Dg.val z.2)).natAbs=Dg.val z.2:=by unfold Zz.sg;cases z.1 <;> simp
  rw [e]
  exact Dg.val_lt hw)
end Go.Proofs.YtjnklbfhelbjgaaGreat
namespace Go.Proofs.YtjnklbfhelbjgaaGreat
open Go.RowKit Go.IntWalk Go.Shelf
attribute [local go_sem] Oper.semAt_some
structure KpO (n b:Nat)(W W':World):Prop where
 lo:Below n W W'
 at_:W'.heap[b]?=W.heap[b]?
theorem KpO.refl (n b:Nat)(W:World):KpO n b W W:=⟨bR,rfl⟩
theorem KpO.trans {n b:Nat}{A B C:World}(h:KpO n b A B)(k:KpO n b B C):KpO n b A C:=⟨h.lo.trans k.lo,k.at_.trans h.at_⟩
theorem KpO.put {n b:Nat}{w:World}(hn:n<=w.heap.size)(hb:b < w.heap.size)(W:World)(l:Nat)(o o':Obj)(hw:w.heap.size<=l)(h:W.heap[l]?=some o)(hc:o.isCells=false)(hk:o.isWalk=false):KpO n b W (W.putObj l o') :=
 ⟨belowK_b hn W l o o' hw h hc hk,World.putObj_heap_other (by omega)⟩
theorem KpO.alloc {n b:Nat}{W:World}(hn:n<=W.heap.size)(hb:b < W.heap.size)(o:Obj):KpO n b W (W.alloc o):=⟨(Below.refl n W).alloc hn o,Below.heap_alloc W o b hb⟩
theorem exists_list {α:Type}{P:Nat->α->Prop}:∀ n:Nat,(∀ j,j < n->∃ x,P j x)->∃ l:List α,l.length=n/\∀ j x,l[j]?=some x->P j x
 | 0,_=>⟨[],rfl,fun j x h=>by simp at h⟩
 | n + 1, h => by
   obtain ⟨l,hl,hP⟩:=exists_list n fun j hj=>h j (by omega)
   obtain ⟨x,hx⟩:=h n (by omega)
   refine ⟨l ++ [x],by simp [hl],fun j y hy=>?_⟩
   rcases Nat.lt_or_ge j n with h1 | h1
   ·rw [List.getElem?_append_left (by omega)] at hy
    exact hP j y hy
   ·rw [List.getElem?_append_right (by omega)] at hy
    have hj:j=n:=by
     rcases Nat.eq_zero_or_pos (j-l.length) with e | e
     ·omega
     ·rw [gN (by simp;omega)] at hy;cases hy
    subst hj
    rw [hl,Nat.sub_self] at hy
    simp at hy
    rw [<- hy]
    exact hx
theorem flat_take {α:Type}{XX:List (List α)}{i:Nat}{row:List α}(h:XX[i]?=some row):(XX.take i).flatten ++ row=(XX.take (i+1)).flatten:=by
 rw [List.take_add_one,h,List.flatten_append]
 simp
theorem app_take {α:Type}{pre row:List α}{j:Nat}{x:α}(h:row[j]?=some x):(pre ++ row.take j) ++ [x]=pre ++ row.take (j+1):=by
 rw [List.take_add_one,h,List.append_assoc]
 rfl
theorem flat_lt {α:Type}{XX:List (List α)}{i j:Nat}{row:List α}(h:XX[i]?=some row)(hj:j < row.length):((XX.take i).flatten ++ row.take j).length < XX.flatten.length:=by
 have e:XX=XX.take i ++ (row :: XX.drop (i+1)):=by
  have hi:i < XX.length:=by
   rcases Nat.lt_or_ge i XX.length with h1 | h1
   ·exact h1
   ·rw [gN h1] at h;cases h
  rw [gE hi] at h
  injection h with h
  rw [<- h,<- List.drop_eq_getElem_cons hi,List.take_append_drop]
 conv=>rhs;rw [e]
 rw [List.flatten_append,List.length_append,List.length_append,List.flatten_cons,List.length_append,List.length_take]
 omega
abbrev GQ (W0:World)(b:Nat):={ q:(Ent × Ent) × Rat // OwQ W0 b q.1.1.1 q.1.1.2.1 q.1.1.2.2.1 q.1.1.2.2.2 q.1.2.1 q.1.2.2.1 q.1.2.2.2.1 q.1.2.2.2.2 q.2 }
def gQ {W0:World}{b:Nat}(x:GQ W0 b):Value:=.agg #[.bool x.1.1.1.1,.slice x.1.1.1.2.1 x.1.1.1.2.2.1 x.1.1.1.2.2.2,.bool x.1.1.2.1,.slice x.1.1.2.2.1 x.1.1.2.2.2.1 x.1.1.2.2.2.2]
structure GridQ {W0:World}{b:Nat}(w:World)(B:Nat)(A:Option Addr)(n:Nat)(XX:List (List (GQ W0 b))):Prop where
 len:XX.length=n
 at_:∀ (i:Nat) (row:List (GQ W0 b)),XX[i]?=some row->∃ (ad:Addr) (A1:Option Addr) (n1 c1:Nat),A=some ad/\ad.block < B/\w.cell? (ad.add i)=some (.slice A1 n1 c1)/\row.length=n1/\n1<=maxLen /\
  ∀ (j:Nat) (x:GQ W0 b),row[j]?=some x->∃ ad1:Addr,A1=some ad1/\ad1.block < B/\w.cell? (ad1.add (j*4))=some (.bool x.1.1.1.1)/\w.cell? ⟨(ad1.add (j*4)).block,(ad1.add (j*4)).off+1,none⟩=some (.slice x.1.1.1.2.1 x.1.1.1.2.2.1 x.1.1.1.2.2.2)/\w.cell? ⟨(ad1.add (j*4)).block,(ad1.add (j*4)).off+2,none⟩=some (.bool x.1.1.2.1)/\w.cell? ⟨(ad1.add (j*4)).block,(ad1.add (j*4)).off+3,none⟩=some (.slice x.1.1.2.2.1 x.1.1.2.2.2.1 x.1.1.2.2.2.2)
theorem GridQ.below {W0:World}{b:Nat}{w w':World}{B:Nat}{A:Option Addr}{n:Nat}{XX:List (List (GQ W0 b))}(h:GridQ w B A n XX)(hb:Below B w w'):GridQ w' B A n XX :=
 ⟨h.len,fun i row hi=>by
  obtain ⟨ad,A1,n1,c1,h1,h2,h3,h4,h5,h6⟩:=h.at_ i row hi
  refine ⟨ad,A1,n1,c1,h1,h2,(hb.cell (p:=ad.add i) (by rw [add_blk];exact h2)).trans h3,h4,h5,fun j x hx=>?_⟩
  obtain ⟨ad1,e1,e2,k0,k1,k2,k3⟩:=h6 j x hx
  have hk:(ad1.add (j*4)).block < B:=by rw [add_blk];exact e2
  exact ⟨ad1,e1,e2,(hb.cell (p:=ad1.add (j*4)) hk).trans k0,(hb.cell (p:=⟨(ad1.add (j*4)).block,(ad1.add (j*4)).off+1,none⟩) hk).trans k1,(hb.cell (p:=⟨(ad1.add (j*4)).block,(ad1.add (j*4)).off+2,none⟩) hk).trans k2,(hb.cell (p:=⟨(ad1.add (j*4)).block,(ad1.add (j*4)).off+3,none⟩) hk).trans k3⟩⟩
theorem each1Q_in (n:Nat)(hn:1<=n)(l Bs n₁:Nat){W0:World}{b:Nat}{A:Option Addr}{m c:Nat}{XX:List (List (GQ W0 b))}(hm:m<=maxLen)(J Jx:List (GQ W0 b)->World->Prop)(hJ:∀ pre W o,J pre W->J pre (W.alloc o))
  (hY:∀ pre (x:GQ W0 b) W,J pre W->pre.length < XX.flatten.length->YieldAt Fence.wide (n-1) Tryz.prog l #[gQ x] W fun e W' =>
   (e=.returned (.bool true)/\J (pre ++ [x]) W'/\KpO n₁ Bs W W') ∨ (e=.returned (.bool false)/\Jx (pre ++ [x]) W'))
  (W:World) (hR:GridQ W n₁ A m XX) (hcs:W.cell? ⟨Bs,0,none⟩=some (.slice A m c)) (hn1:n₁<=W.heap.size) (hBs:Bs < W.heap.size) (h0:J [] W) :
  CallsIn Fence.wide n Tryz.prog 168 #[.func (.yield l) #[] #[],.pointer (some ⟨Bs,0,none⟩)] W fun e W'=>(∃ v,e=.returned v) /\
   ((∃ ys,ys=XX.flatten/\J ys W') ∨ (∃ pre,True/\Jx pre W')):=by
 have HLEN:=ah hR.len
 have HR:=ah (show ∀ W',Below n₁ W W'->GridQ W' n₁ A m XX from fun W' hb=>hR.below hb)
 have HN:=ah (cJ hn1 hBs)
 unfold maxLen at hm
 clear hR hn1 hBs
 refine callsIn_of_wp Tryz.func168 rfl trivial ?_ rfl
 simp only [Tryz.ntmps168,List.size_toArray,List.length_cons,List.length_nil,Nat.reduceAdd,Nat.reduceSub,Array.replicate_succ,Array.replicate_zero,List.push_toArray,List.append_toArray,List.nil_append,List.cons_append]
 gi_wp2
 clear hcs
 gi_loopw [9] (fun iv wr=>∃ i:Nat,i<=m/\iv=.int .i64 (i:Int)/\J (XX.take i).flatten wr/\KpO n₁ Bs W wr) (fun iv _=>m-(intOf iv).toNat)
 case atStart=>exact ⟨0,nZ,rfl,by simpa using h0,KpO.refl _ _ _⟩
 case round =>
  clear h0
  obtain ⟨i,hi,rfl,hJi,hB⟩:=hrel
  by_cases him:i=m
  ·have HJ:=ah (show J XX.flatten wr by rw [List.take_of_length_le (by rw [HLEN.out,him];exact nR)] at hJi;exact hJi)
   subst him
   clear hJi hB
   gi_wp2
   go_end0
   exact ⟨⟨_,rfl⟩,.inl ⟨_,rfl,HJ.out⟩⟩
  ·have hil:i < m:=by omega
   have hili:(i:Int) < (m:Int):=by omega
   clear him
   obtain ⟨row,hrow⟩:∃ row,XX[i]?=some row:=⟨XX[i]'(by rw [HLEN.out];exact hil),gE _⟩
   obtain ⟨ad,A1,n1,c1,rfl,hbk,hx,hl,hn1,hat⟩:=(HR.out wr hB.lo).at_ i row hrow
   have HROW:=ah (cJ hrow hl)
   have HAT:=ah hat
   have HJI:=ah hJi
   have HB:=ah hB
   unfold maxLen at hn1
   clear hrow hl hJi hB hat
   obtain ⟨wo,rfl⟩:∃ V,V=wr:=⟨_,rfl⟩
   gi_wp2
   clear hx
   gi_loopw [15] (fun jv wr=>∃ j:Nat,j<=n1/\jv=.int .i64 (j:Int)/\J ((XX.take i).flatten ++ row.take j) wr/\KpO n₁ Bs wo wr) (fun jv _=>n1-(intOf jv).toNat)
   case atStart=>exact ⟨0,nZ,rfl,by simpa using HJI.out,KpO.refl _ _ _⟩
   case round =>
    obtain ⟨j,hj,rfl,hJj,hBj⟩:=hrel
    by_cases hjn:j=n1
    ·have HJ:=ah (show J (XX.take (i+1)).flatten wr by rw [List.take_of_length_le (l:=row) (by rw [HROW.out.2,hjn];exact nR),flat_take HROW.out.1] at hJj;exact hJj)
     have HBj:=ah (HB.out.trans hBj)
     subst hjn
     clear hJj hBj
     gi_wp2
     go_roundw
     case rel=>exact ⟨i+1,by omega,by go_num,HJ.out,HBj.out⟩
     case measure=>simp [intOf];omega
    ·have hjl:j < n1:=by omega
     have hjli:(j:Int) < (n1:Int):=by omega
     clear hjn
     obtain ⟨x,hxr⟩:∃ x,row[j]?=some x:=⟨row[j]'(by rw [HROW.out.2];exact hjl),gE _⟩
     obtain ⟨ad1,rfl,hbk1,k0,k1,k2,k3⟩:=HAT.out j x hxr
     obtain ⟨y0,y1,y2,y3⟩:=qs_cells hBj.lo hbk1 k0 k1 k2 k3
     have hY1:=fun W' h1=>hY ((XX.take i).flatten ++ row.take j) x W' h1 (flat_lt HROW.out.1 (by rw [HROW.out.2];exact hjl))
     have HT:=ah (show ((XX.take i).flatten ++ row.take j) ++ [x]=(XX.take i).flatten ++ row.take (j+1) from app_take hxr)
     have HKA:=ah (show ∀ o,KpO n₁ Bs wr (wr.alloc o) from fun o=>KpO.alloc (nT HN.out.1 (HB.out.trans hBj).lo.size) (Nat.lt_of_lt_of_le HN.out.2 (HB.out.trans hBj).lo.size) o)
     have HBj:=ah hBj
     clear hxr hBj k0 k1 k2 k3 hY
     obtain ⟨⟨⟨⟨s2,A2,n2,c2⟩,s3,A3,n3,c3⟩,v⟩,hv⟩:=x
     dsimp only [gQ] at y0 y1 y2 y3 hY1
     obtain ⟨fn,tmps,assign,body,hy,hRd⟩:=hY1 (wr.alloc (.cells #[.bool s2,.slice A2 n2 c2,.bool s3,.slice A3 n3 c3] 47)) (hJ _ _ _ hJj)
     clear hY1 hJj
     gi_wp2
     refine hRd.mono ?_
     rintro e W3 (⟨rfl,hJ3,hk3⟩ | ⟨rfl,hJx3⟩)
     ·have HJ3:=ah hJ3
      have HK3:=ah (HBj.out.trans ((HKA.out _).trans hk3))
      clear hJ3 hk3
      gi_wp2
      go_roundw
      case rel=>exact ⟨j+1,by omega,by go_num,by rw [<- HT.out];exact HJ3.out,HK3.out⟩
      case measure=>simp [intOf];omega
     ·have HJx3:=ah hJx3
      clear hJx3
      gi_wp2
      refine bodyPost_ret (results_none rfl _ _ _) rfl ?_
      exact ⟨⟨_,rfl⟩,.inr ⟨_,trivial,HJx3.out⟩⟩
theorem eachQ_stops (n:Nat)(hn:1<=n)(Bs n₁:Nat){W0:World}{b:Nat}{A:Option Addr}{m c:Nat}{XX:List (List (GQ W0 b))}(hm:m<=maxLen)(w:World)(hn1:n₁<=w.heap.size)(hBs:Bs < w.heap.size)(hR:GridQ w n₁ A m XX)(hcs:w.cell? ⟨Bs,0,none⟩=some (.slice A m c)) :
  SeqStopsK Fence.wide n Tryz.prog 168 #[.pointer (some ⟨Bs,0,none⟩)] (fun x:GQ W0 b=>#[gQ x]) (KpO n₁ Bs)
   (fun xs=>xs=XX.flatten) (fun _=>True) XX.flatten.length w:=by
 intro l J Jx W hW hJ _ hY h0
 exact each1Q_in n hn l Bs n₁ hm J Jx (fun pre W o h=>hJ pre W _ none h (World.grownBy_alloc W o none) (fun r e=>by cases e)) hY W (hR.below (hW.mono hn1)) ((hW.cell (p:=⟨Bs,0,none⟩) hBs).trans hcs) (nT hn1 hW.size) (Nat.lt_of_lt_of_le hBs hW.size) h0
theorem eachQ_any {A:Option Addr}{m c:Nat}(w:World) :
  Calls Tryz.prog 117 #[.slice A m c] w fun e w' =>
   e=.returned (.func (.func 168) #[] #[.pointer (some ⟨w.heap.size,0,none⟩)])/\w.alloc (.cells #[.slice A m c] 148)=w':=by
 go_enter Tryz.func117,Tryz.ntmps117
 go_wp2
 go_ret
 exact ⟨rfl,rfl⟩
abbrev GZ (W0:World)(b:Nat):={ q:Ent × (Bool × List Nat) // q.1.1=q.2.1/\RdU W0 b q.1.2.1 q.1.2.2.1 q.1.2.2.2 q.2.2/\q.1.2.2.1<=400000000000 }
def gZ {W0:World}{b:Nat}(x:GZ W0 b):Value:=.agg #[.bool x.1.1.1,.slice x.1.1.2.1 x.1.1.2.2.1 x.1.1.2.2.2]
structure GridZ {W0:World}{b:Nat}(w:World)(B:Nat)(A:Option Addr)(n:Nat)(XX:List (List (GZ W0 b))):Prop where
 len:XX.length=n
 at_:∀ (i:Nat) (row:List (GZ W0 b)),XX[i]?=some row->∃ (ad:Addr) (A1:Option Addr) (n1 c1:Nat),A=some ad/\ad.block < B/\w.cell? (ad.add i)=some (.slice A1 n1 c1)/\row.length=n1/\n1<=maxLen /\
  ∀ (j:Nat) (x:GZ W0 b),row[j]?=some x->∃ ad1:Addr,A1=some ad1/\ad1.block < B/\w.cell? (ad1.add (j*2))=some (.bool x.1.1.1)/\w.cell? ⟨(ad1.add (j*2)).block,(ad1.add (j*2)).off+1,none⟩=some (.slice x.1.1.2.1 x.1.1.2.2.1 x.1.1.2.2.2)
theorem GridZ.below {W0:World}{b:Nat}{w w':World}{B:Nat}{A:Option Addr}{n:Nat}{XX:List (List (GZ W0 b))}(h:GridZ w B A n XX)(hb:Below B w w'):GridZ w' B A n XX :=
 ⟨h.len,fun i row hi=>by
  obtain ⟨ad,A1,n1,c1,h1,h2,h3,h4,h5,h6⟩:=h.at_ i row hi
  refine ⟨ad,A1,n1,c1,h1,h2,(hb.cell (p:=ad.add i) (by rw [add_blk];exact h2)).trans h3,h4,h5,fun j x hx=>?_⟩
  obtain ⟨ad1,e1,e2,k0,k1⟩:=h6 j x hx
  have hk:(ad1.add (j*2)).block < B:=by rw [add_blk];exact e2
  exact ⟨ad1,e1,e2,(hb.cell (p:=ad1.add (j*2)) hk).trans k0,(hb.cell (p:=⟨(ad1.add (j*2)).block,(ad1.add (j*2)).off+1,none⟩) hk).trans k1⟩⟩
theorem each1Z_in (n:Nat)(hn:1<=n)(l Bs n₁:Nat){W0:World}{b:Nat}{A:Option Addr}{m c:Nat}{XX:List (List (GZ W0 b))}(hm:m<=maxLen)(J Jx:List (GZ W0 b)->World->Prop)(hJ:∀ pre W o,J pre W->J pre (W.alloc o))
  (hY:∀ pre (x:GZ W0 b) W,J pre W->pre.length < XX.flatten.length->YieldAt Fence.wide (n-1) Tryz.prog l #[gZ x] W fun e W' =>
   (e=.returned (.bool true)/\J (pre ++ [x]) W'/\KpO n₁ Bs W W') ∨ (e=.returned (.bool false)/\Jx (pre ++ [x]) W'))
  (W:World) (hR:GridZ W n₁ A m XX) (hcs:W.cell? ⟨Bs,0,none⟩=some (.slice A m c)) (hn1:n₁<=W.heap.size) (hBs:Bs < W.heap.size) (h0:J [] W) :
  CallsIn Fence.wide n Tryz.prog 211 #[.func (.yield l) #[] #[],.pointer (some ⟨Bs,0,none⟩)] W fun e W'=>(∃ v,e=.returned v) /\
   ((∃ ys,ys=XX.flatten/\J ys W') ∨ (∃ pre,True/\Jx pre W')):=by
 have HLEN:=ah hR.len
 have HR:=ah (show ∀ W',Below n₁ W W'->GridZ W' n₁ A m XX from fun W' hb=>hR.below hb)
 have HN:=ah (cJ hn1 hBs)
 unfold maxLen at hm
 clear hR hn1 hBs
 refine callsIn_of_wp Tryz.func211 rfl trivial ?_ rfl
 simp only [Tryz.ntmps211,List.size_toArray,List.length_cons,List.length_nil,Nat.reduceAdd,Nat.reduceSub,Array.replicate_succ,Array.replicate_zero,List.push_toArray,List.append_toArray,List.nil_append,List.cons_append]
 gi_wp2
 clear hcs
 gi_loopw [9] (fun iv wr=>∃ i:Nat,i<=m/\iv=.int .i64 (i:Int)/\J (XX.take i).flatten wr/\KpO n₁ Bs W wr) (fun iv _=>m-(intOf iv).toNat)
 case atStart=>exact ⟨0,nZ,rfl,by simpa using h0,KpO.refl _ _ _⟩
 case round =>
  clear h0
  obtain ⟨i,hi,rfl,hJi,hB⟩:=hrel
  by_cases him:i=m
  ·have HJ:=ah (show J XX.flatten wr by rw [List.take_of_length_le (by rw [HLEN.out,him];exact nR)] at hJi;exact hJi)
   subst him
   clear hJi hB
   gi_wp2
   go_end0
   exact ⟨⟨_,rfl⟩,.inl ⟨_,rfl,HJ.out⟩⟩
  ·have hil:i < m:=by omega
   have hili:(i:Int) < (m:Int):=by omega
   clear him
   obtain ⟨row,hrow⟩:∃ row,XX[i]?=some row:=⟨XX[i]'(by rw [HLEN.out];exact hil),gE _⟩
   obtain ⟨ad,A1,n1,c1,rfl,hbk,hx,hl,hn1,hat⟩:=(HR.out wr hB.lo).at_ i row hrow
   have HROW:=ah (cJ hrow hl)
   have HAT:=ah hat
   have HJI:=ah hJi
   have HB:=ah hB
   unfold maxLen at hn1
   clear hrow hl hJi hB hat
   obtain ⟨wo,rfl⟩:∃ V,V=wr:=⟨_,rfl⟩
   gi_wp2
   clear hx
   gi_loopw [15] (fun jv wr=>∃ j:Nat,j<=n1/\jv=.int .i64 (j:Int)/\J ((XX.take i).flatten ++ row.take j) wr/\KpO n₁ Bs wo wr) (fun jv _=>n1-(intOf jv).toNat)
   case atStart=>exact ⟨0,nZ,rfl,by simpa using HJI.out,KpO.refl _ _ _⟩
   case round =>
    obtain ⟨j,hj,rfl,hJj,hBj⟩:=hrel
    by_cases hjn:j=n1
    ·have HJ:=ah (show J (XX.take (i+1)).flatten wr by rw [List.take_of_length_le (l:=row) (by rw [HROW.out.2,hjn];exact nR),flat_take HROW.out.1] at hJj;exact hJj)
     have HBj:=ah (HB.out.trans hBj)
     subst hjn
     clear hJj hBj
     gi_wp2
     go_roundw
     case rel=>exact ⟨i+1,by omega,by go_num,HJ.out,HBj.out⟩
     case measure=>simp [intOf];omega
    ·have hjl:j < n1:=by omega
     have hjli:(j:Int) < (n1:Int):=by omega
     clear hjn
     obtain ⟨x,hxr⟩:∃ x,row[j]?=some x:=⟨row[j]'(by rw [HROW.out.2];exact hjl),gE _⟩
     obtain ⟨ad1,rfl,hbk1,k0,k1⟩:=HAT.out j x hxr
     obtain ⟨y0,y1⟩:=zs_cells hBj.lo hbk1 k0 k1
     have hY1:=fun W' h1=>hY ((XX.take i).flatten ++ row.take j) x W' h1 (flat_lt HROW.out.1 (by rw [HROW.out.2];exact hjl))
     have HT:=ah (show ((XX.take i).flatten ++ row.take j) ++ [x]=(XX.take i).flatten ++ row.take (j+1) from app_take hxr)
     have HKA:=ah (show ∀ o,KpO n₁ Bs wr (wr.alloc o) from fun o=>KpO.alloc (nT HN.out.1 (HB.out.trans hBj).lo.size) (Nat.lt_of_lt_of_le HN.out.2 (HB.out.trans hBj).lo.size) o)
     have HBj:=ah hBj
     clear hxr hBj k0 k1 hY
     obtain ⟨⟨⟨s2,A2,n2,c2⟩,v⟩,hv⟩:=x
     dsimp only [gZ] at y0 y1 hY1
     obtain ⟨fn,tmps,assign,body,hy,hRd⟩:=hY1 (wr.alloc (.cells #[.bool s2,.slice A2 n2 c2] 25)) (hJ _ _ _ hJj)
     clear hY1 hJj
     gi_wp2
     refine hRd.mono ?_
     rintro e W3 (⟨rfl,hJ3,hk3⟩ | ⟨rfl,hJx3⟩)
     ·have HJ3:=ah hJ3
      have HK3:=ah (HBj.out.trans ((HKA.out _).trans hk3))
      clear hJ3 hk3
      gi_wp2
      go_roundw
      case rel=>exact ⟨j+1,by omega,by go_num,by rw [<- HT.out];exact HJ3.out,HK3.out⟩
      case measure=>simp [intOf];omega
     ·have HJx3:=ah hJx3
      clear hJx3
      gi_wp2
      refine bodyPost_ret (results_none rfl _ _ _) rfl ?_
      exact ⟨⟨_,rfl⟩,.inr ⟨_,trivial,HJx3.out⟩⟩
theorem eachZ_stops (n:Nat)(hn:1<=n)(Bs n₁:Nat){W0:World}{b:Nat}{A:Option Addr}{m c:Nat}{XX:List (List (GZ W0 b))}(hm:m<=maxLen)(w:World)(hn1:n₁<=w.heap.size)(hBs:Bs < w.heap.size)(hR:GridZ w n₁ A m XX)(hcs:w.cell? ⟨Bs,0,none⟩=some (.slice A m c)) :
  SeqStopsK Fence.wide n Tryz.prog 211 #[.pointer (some ⟨Bs,0,none⟩)] (fun x:GZ W0 b=>#[gZ x]) (KpO n₁ Bs)
   (fun xs=>xs=XX.flatten) (fun _=>True) XX.flatten.length w:=by
 intro l J Jx W hW hJ _ hY h0
 exact each1Z_in n hn l Bs n₁ hm J Jx (fun pre W o h=>hJ pre W _ none h (World.grownBy_alloc W o none) (fun r e=>by cases e)) hY W (hR.below (hW.mono hn1)) ((hW.cell (p:=⟨Bs,0,none⟩) hBs).trans hcs) (nT hn1 hW.size) (Nat.lt_of_lt_of_le hBs hW.size) h0
theorem eachZ_any {A:Option Addr}{m c:Nat}(w:World) :
  Calls Tryz.prog 172 #[.slice A m c] w fun e w' =>
   e=.returned (.func (.func 211) #[] #[.pointer (some ⟨w.heap.size,0,none⟩)])/\w.alloc (.cells #[.slice A m c] 165)=w':=by
 go_enter Tryz.func172,Tryz.ntmps172
 go_wp2
 go_ret
 exact ⟨rfl,rfl⟩
def KeepC (W W':World):Prop:=∀ (i:Nat) (cs:Array Value) (t:TypeId) (f:Nat × Nat),W.heap[i]?=some (.cells cs t f)->W'.heap[i]?=some (.cells cs t f)
theorem keepC_own {W W':World}{row:Option Nat}(hg:W.grownBy W' row)(hr:∀ r,row=some r->∃ o:Obj,W.heap[r]?=some o/\o.isCells=false):KeepC W W':=fun _ _ _ _ hi=>(grownBy_keeps_cells hg hr hi rfl).trans hi
theorem KeepC.q {W W':World}(h:KeepC W W'):KeepQ W W':=⟨fun i c f=>h i c _ f,fun i c f=>h i c _ f⟩
theorem KeepC.i {W W':World}(h:KeepC W W'):KeepI W W':=⟨fun i c f=>h i c _ f,fun i c f=>h i c _ f⟩
theorem KeepC.row {W W':World}(h:KeepC W W'){b n k:Nat}{e:TypeId}{v:Value}{xs:List Value}(hr:W.ownsRow b e k v n xs):W'.ownsRow b e k v n xs:=by
 refine ⟨hr.1,?_⟩
 rcases hr.2 with h0 | ⟨g,cap,cur,h1,h2,h3,h4⟩
 ·exact .inl h0
 ·exact .inr ⟨g,cap,cur,h1,h2,h _ _ _ _ h3,h4⟩
variable {n:Nat}{P:Program}
theorem rangeFunc_box {α:Type}{g:Operand}{ps:Array Tmp}{assign body:Code}{Q:Exit->Act->World->Prop}{a:Act}{w:World}
  (h1:1<=n) {gf:Nat} {lb:Array Value} (hg:a.eval g=.func (.func gf) #[] lb) (eg:∀ args w,(callFunc gf args).run P w=.ok (.enter gf args) w)
  {enc:α->Value} {n₁ Bs:Nat} {S:List α->Prop} {N:Nat} (hseq:SeqStopsK Fence.wide (n-1) P gf lb (fun x=>#[enc x]) (KpO n₁ Bs) S (fun _=>True) N w)
  (hn1:n₁<=w.heap.size) (hBs:Bs < w.heap.size) (hps:1=ps.size)
  (I:List α->World->Prop) (hI:OwnFrom w.heap.size I) (hsz:∀ pre W,I pre W->w.heap.size<=W.heap.size) (h0:I [] w) (t:TypeId) (cls:α->Array Value) {fr:α->Nat->Act}
  (hassign:∀ (l:Nat) (x:α) (W:World) (K:Act->World->Prop) (B:Nat),B=W.heap.size->K (fr x B) (W.alloc (.cells (cls x) t)) ->
   assign.wpIn (Fence.wide.inRound l) (n-1-1) P (Exit.then K (fun _ _ _=>False)) { tmps:=(ps.zip #[enc x]).foldl (fun t (p,v)=>t.setIfInBounds p v) a.tmps,defers:=[] } W)
  (hbody:∀ (l:Nat) (pre:List α) (x:α) (B:Nat) (W:World),I pre W->w.heap.size<=B->W.heap[B]?=some (.cells (cls x) t (0,0))->pre.length < N->body.wpIn (Fence.wide.inRound l) (n-1-1) P (ownPostG w.heap.size (KpO n₁ Bs) I (fun _ _ _=>False) (pre ++ [x]) W) (fr x B) W)
  (hdone:∀ (D:Nat) (xs:List α) (W:World),w.heap.size<=D->S xs->I xs W->W.heap[D]?=some (.deferred (some []))->Q .normal { a with defers:={ target:=.collected D,args:=#[] } :: a.defers } W) :
  (Code.rangeFunc g ps assign body).wpIn Fence.wide n P Q a w :=
 wpIn_rangeFunc_ownH (F:=Fence.wide) rfl h1 hg trivial eg hseq KpO.trans (KpO.put hn1 hBs) bR (fun _=>hps) I (fun _ _ _=>False) hI (fun _ _ _ _ _ hs _ _=>hs) h0
  (fun x a' W=>∃ B,w.heap.size<=B/\a'=fr x B/\W.heap[B]?=some (.cells (cls x) t (0,0)))
  (fun x a' _ W W' row hs hgr hr=>by
   obtain ⟨B,h1,h2,h3⟩:=hs
   exact ⟨B,h1,h2,(keepC_own hgr (fun r e=>(hr r e).2)) _ _ _ _ h3⟩)
  (fun l pre x W K hi hK=>hassign l x W K W.heap.size rfl (hK _ _ ((KeepsOthers.alloc W _).from _) (KpO.alloc (nT hn1 (hsz _ _ hi)) (Nat.lt_of_lt_of_le hBs (hsz _ _ hi)) _) (hI.alloc _ hi) ⟨_,hsz _ _ hi,rfl,World.alloc_heap_new W _⟩))
  (fun l pre x a' W _ _ hi hx hl=>by
   obtain ⟨B,h1,h2,h3⟩:=hx
   subst h2
   exact hbody l pre x B W hi h1 h3 hl)
  hdone (fun _ _ _ _ _ _ hs _=>hs.elim)
end Go.Proofs.YtjnklbfhelbjgaaGreat
namespace Go.Proofs.YtjnklbfhelbjgaaGreat
open Go.RowKit Go.IntWalk
attribute [local go_sem ↓] Go.wp_at_zero Go.wp_at_succ
def RwV (d:Int)(RR:List RawRow)(LL:List (List Rat))(kk:Int):Prop:=(chk d RR=0/\LL=ent d RR/\kk=0) ∨ (chk d RR ≠ 0/\LL=[]/\kk=chk d RR)
def RetRw (d:Int)(RR:List RawRow)(w:World)(e:Ending)(w':World):Prop :=
 ∃ (A:Option Addr) (n c:Nat) (LL:List (List Rat)) (kk:Int),e=.returned (.tuple #[.slice A n c,.int .i64 kk])/\OwQss w' w.heap.size A n c LL/\Hid (RwV d RR LL kk)/\Below w.heap.size w w'
theorem ent_take {d:Int}{RR:List RawRow}{j:Nat}{R:RawRow}(h:RR[j]?=some R):ent d (RR.take j) ++ [R.map fun x=>Rat.divInt (toZ x) d]=ent d (RR.take (j+1)):=by
 unfold ent
 rw [List.take_add_one,h,List.map_append]
 rfl
theorem row_take {d:Int}{R:RawRow}{j:Nat}{x:Bool × List Nat}(h:R[j]?=some x):((R.take j).map fun x=>Rat.divInt (toZ x) d) ++ [Rat.divInt (toZ x) d]=(R.take (j+1)).map fun x=>Rat.divInt (toZ x) d:=by
 rw [List.take_add_one,h,List.map_append]
 rfl
theorem scell_new (w:World)(v:Value)(t:TypeId):∀ j a,[v][j]?=some a->(w.alloc (.cells #[v] t)).cell? ((⟨w.heap.size,0,none⟩:Addr).add j)=some a:=by
 intro j a hj
 match j,hj with
 | 0,hj=>simp at hj;subst hj;simp [Addr.add]
 | (j+1),hj=>simp at hj
theorem mRows_any {N K:Nat}{s:Bool}{A G:Option Addr}{n c r k:Nat}{d:Int}{RR:List RawRow}{w:World}(h:RdZ w w.heap.size s A n c d)(h':RdRss w w.heap.size N K G r k RR)(hn:n<=1000000000000)(hN:N<=1000000000000)(hr:r<=1048576)(hK:K<=1048576) :
  Calls Tryz.prog 35 #[.agg #[.bool s,.slice A n c,.slice G r k]] w (RetRw d RR w):=by
 obtain ⟨W1,HW1⟩:∃ W,W=w.alloc (.cells #[.bool s,.slice A n c,.slice G r k] 28):=⟨_,rfl⟩
 have hM:MC W1 w.heap.size s A n c G r k:=by rw [HW1];exact MC.new w s A n c G r k
 have hB:Below w.heap.size w W1:=by rw [HW1];exact bA
 obtain ⟨i0,hi,hz0,hz1,hz2⟩:=info_parts infoQ
 obtain ⟨i1,hjf,hy0,hy1,hy2⟩:=info_parts infoQr
 have HB:=ah hB
 have HX:=ah (show ∀ W,Below W1.heap.size W1 W->MC W w.heap.size s A n c G r k/\RdZ W W.heap.size s A n c d/\RdRss W W.heap.size N K G r k RR from fun W hb=>⟨hM.next hb,(h.next hB).next hb,(h'.next hB).next hb⟩)
 have HL:=ah h'.len
 have m0:=hM.c0
 have m1:=hM.c1
 have m2:=hM.c2
 rw [HW1] at m0 m1 m2
 have HW1:=ah HW1
 clear h h' hM hB
 go_enter Tryz.func35,Tryz.ntmps35
 go_wp2_with fail
 rw [<- HW1.out]
 clear HW1
 clear HW1
 refine (mcheck_any (HX.out _ bR).2.1 (HX.out _ bR).2.2 (by omega) hr).mono ?_
 rintro _ W2 ⟨v,rfl,hv,hb2⟩
 have HB2:=ah (show Below w.heap.size w W2 from HB.out.trans (hb2.mono HB.out.size))
 have HX2:=ah (show ∀ W,Below W2.heap.size W2 W->MC W w.heap.size s A n c G r k/\RdZ W W.heap.size s A n c d/\RdRss W W.heap.size N K G r k RR from fun W hb=>HX.out W (hb2.trans (hb.mono hb2.size)))
 have q2:=(HX2.out _ bR).1.c2
 clear m0 m1 m2 hb2
 by_cases h0:v=0
 case neg =>
  have hvb:(v == 0)=false:=by simp [h0]
  have HC:=ah (show chk d RR ≠ 0 from by rw [<- hv.out];exact h0)
  clear q2
  go_wp2
  go_ret2
  exact ⟨none,0,0,[],v,rfl,OwQss.nil _ _,ah (.inr ⟨HC.out,rfl,hv.out⟩),HB2.out⟩
 have HC:=ah (show chk d RR=0 from by rw [<- hv.out];exact h0)
 have HD0:=ah (chk_zero HC.out).1
 subst h0
 clear hv HX
 go_wp2_with fail
 clear q2
 go_loopw [5,21] (fun ov iv wr=>∃ (j c':Nat) (A':Option Addr),ov=.slice A' j c'/\iv=.int .i64 j/\j<=r/\OwQss wr W2.heap.size A' j c' (ent d (RR.take j))/\Below W2.heap.size W2 wr) (fun _ iv _=>r-(intOf iv).toNat)
 case atStart=>exact ⟨0,0,none,rfl,rfl,nZ,OwQss.nil _ _,bR⟩
 case round =>
  obtain ⟨j,c',A',rfl,rfl,hj,ho,hB⟩:=hrel
  by_cases hjr:j=r
  ·have HO:=ah (show OwQss wr w.heap.size A' j c' (ent d RR) by rw [<- List.take_of_length_le (l:=RR) (i:=j) (by rw [HL.out,hjr];exact nR)];exact ho.base HB2.out.size)
   have HBF:=tM HB2 hB
   subst hjr
   clear ho hB
   go_wp2
   go_ret2
   exact ⟨A',j,c',_,0,rfl,HO.out,ah (.inl ⟨HC.out,rfl,rfl⟩),HBF.out⟩
  ·have hjl:j < r:=by omega
   have hjli:(j:Int) < (r:Int):=by omega
   obtain ⟨wo,rfl⟩:∃ V,V=wr:=⟨_,rfl⟩
   clear hjr
   obtain ⟨ad,A1,n1,c1,R,rfl,hbk,hx,hr1,hn1,hp⟩:=rss_at (HX2.out wo hB).2.2 hjl
   have hmk:=fun W:World=>make_qroom n1 (by omega) W
   obtain ⟨W3,HW3⟩:∃ W,W=wo.alloc (.cells (madeCells #[.bool false,.slice none 0 0,.bool false,.slice none 0 0] (n1*4)) 47):=⟨_,rfl⟩
   have hb3:Below wo.heap.size wo W3:=by rw [HW3];exact bA
   have HO3:=ah (show OwQs W3 wo.heap.size (some ⟨wo.heap.size,0,none⟩) 0 n1 [] by rw [HW3];exact OwQs.room wo n1 (by unfold maxLen;omega))
   have HOT:=ah ho
   have HB3:=ah (cJ hB hb3)
   have HRR:=ah (cJ hr1 hr1.len)
   have HJL:=ah (show j+1<=1048576 by omega)
   have HW3:=ah HW3
   clear ho hB hb3 hr1
   go_wp2_with fail
   rw [<- HW3.out]
   clear HW3 hx
   clear HW3
   clear hmk
   go_loopw [8,30] (fun ov iv wr=>∃ (i c5:Nat) (A5:Option Addr),ov=.slice A5 i c5/\iv=.int .i64 i/\i<=n1/\OwQs wr wo.heap.size A5 i c5 ((R.take i).map fun x=>Rat.divInt (toZ x) d)/\Below wo.heap.size wo wr/\W3.heap.size<=wr.heap.size) (fun _ iv _=>n1-(intOf iv).toNat)
   case atStart=>exact ⟨0,n1,_,rfl,rfl,nZ,HO3.out,HB3.out.2,nR⟩
   case round =>
    obtain ⟨i,c5,A5,rfl,rfl,hi5,ho5,hB5,hS5⟩:=hrel
    by_cases hin:i=n1
    ·have HO5:=ah (show OwQp wr W2.heap.size A5 i c5 (R.map fun x=>Rat.divInt (toZ x) d) by rw [<- List.take_of_length_le (l:=R) (i:=i) (by rw [HRR.out.2,hin];exact nR)];exact ho5.p.base HB3.out.1.size)
     have HB5:=ah hB5
     obtain ⟨E,hE,hEl,hEn⟩:=HOT.out.next hB5
     have HE:=ah hE
     have HEN:=ah (cJ hEl hEn)
     subst hin
     clear ho5 hB5 hE hEl hEn hS5
     go_wp2_with (at_builtin;refine wpList_append_own _ rfl _ _ 68 rfl W2.heap.size 72 i1 (.slice none 0 0) 1 24 Tryz.underlying68 hjf hy0 hy1 hy2 rfl (by decide) _ _ _ rfl (HE.out.alloc _) ⟨wr.heap.size,0,none⟩ 1 1 [.slice A5 i c5] rfl rfl (scell_new wr (.slice A5 i c5) 72) (by simp [Value.oneCell']) (by have:=HJL.out;unfold maxLen;omega) (by have:=HJL.out;omega) (by have h1:=HB5.out.size;have h2:=HB3.out.1.size;simp;omega) ?_;intro v' w1 hown' hgrow _)
     obtain ⟨A9,c9,rfl,ho9⟩:=qss_more (e:=(A5,i,c5)) (L:=R.map fun x=>Rat.divInt (toZ x) d) HO5.out rfl (HE.out.alloc _) HEN.out.1 (HEN.out.2.next (bR.alloc nR (.cells #[.slice A5 i c5] 72))) hown' hgrow
     have hbx:=HB3.out.1.trans (HB5.out.mono HB3.out.1.size)
     have HB9:=ah ((hbx.alloc hbx.size (.cells #[.slice A5 i c5] 72)).grown hgrow (by have:=hbx.size;simp;omega) (own_block HE.out))
     have HO9:=ah (show OwQss w1 W2.heap.size A9 (j+1) c9 (ent d (RR.take (j+1))) by rw [<- ent_take hp.out];exact ho9)
     clear hown' hgrow HE HEN ho9 hbx
     go_wp2
     go_roundw
     case rel=>exact ⟨j+1,c9,A9,rfl,by go_num,by omega,HO9.out,HB9.out⟩
     case measure=>simp [intOf];omega
    ·have hil:i < n1:=by omega
     have hili:(i:Int) < (n1:Int):=by omega
     clear hin
     obtain ⟨ad2,s6,M6,A6,n6,c6,rfl,hbk6,hz60,hz61,hr6,hn6,hp6⟩:=rs_at (HRR.out.1.next hB5) hil
     obtain ⟨W6,HW6⟩:∃ W,W=wr.alloc (.cells #[.bool s6,.slice A6 n6 c6] 25):=⟨_,rfl⟩
     have hb6:Below wr.heap.size wr W6:=by rw [HW6];exact bA
     have hb26:=HB3.out.1.trans ((hB5.trans (hb6.mono hB5.size)).mono HB3.out.1.size)
     obtain ⟨hM6,hd6,_⟩:=HX2.out W6 hb26
     have HZ6:=ah (cJ (show RdZ W6 W6.heap.size s6 A6 n6 c6 (toZ (s6,M6)) from ⟨M6,hr6.next hb6,rfl⟩) hd6)
     have HO6:=ah (ho5.next hb6)
     have HB6:=ah (hB5.trans (hb6.mono hB5.size))
     have HS6:=ah (nT hS5 hb6.size)
     have a0:=hM6.c0
     have a1:=hM6.c1
     rw [HW6] at a0 a1
     have HW6:=ah HW6
     clear hb6 hb26 hM6 hd6 hr6 ho5 hB5 hS5
     go_wp2_with fail
     rw [<- HW6.out]
     clear HW6 a0 a1 hz60 hz61
     clear HW6
     refine (qmake_any HZ6.out.1 HZ6.out.2 (by omega) hn HD0.out).mono ?_
     rintro _ W7 ⟨s7,A7,n7,c7,s8,A8,n8,c8,y,rfl,ho7,hy,hb7⟩
     obtain ⟨W8,HW8⟩:∃ W,W=W7.alloc (.cells #[.bool s7,.slice A7 n7 c7,.bool s8,.slice A8 n8 c8] 47):=⟨_,rfl⟩
     have hb8:Below W7.heap.size W7 W8:=by rw [HW8];exact bA
     have hB8:=HB6.out.trans ((hb7.trans (hb8.mono hb7.size)).mono HB6.out.size)
     obtain ⟨E,hE,hEl,hEn⟩:=(HO6.out.next hb7).next hb8
     have HO8:=ah ((ho7.base (b':=wo.heap.size) HB6.out.size).next hb8)
     rw [HW8] at hE hB8 hEn
     rw [HW8] at HO8
     have HE:=ah hE
     have HEN:=ah (cJ hEl hEn)
     have HY:=ah (show ((R.take i).map fun x=>Rat.divInt (toZ x) d) ++ [y]=(R.take (i+1)).map fun x=>Rat.divInt (toZ x) d by rw [hy.out];exact row_take hp6.out)
     have HB8:=ah hB8
     have HS8:=ah (show W3.heap.size<=W7.heap.size from nT HS6.out hb7.size)
     clear hE hEl hEn hb7 ho7 hb8 hB8 hy
     clear HW8
     go_wp2_with (at_builtin;refine wpList_append_own _ rfl _ _ 72 rfl wo.heap.size 47 i0 (.agg #[.bool false,.slice none 0 0,.bool false,.slice none 0 0]) 4 64 Tryz.underlying72 hi hz0 hz1 hz2 rfl (by decide) _ _ _ rfl (HE.out.alloc _) ⟨W7.heap.size+1,0,none⟩ 1 1 [.bool s7,.slice A7 n7 c7,.bool s8,.slice A8 n8 c8] rfl rfl (by simpa using qcell_new (W7.alloc (.cells #[.bool s7,.slice A7 n7 c7,.bool s8,.slice A8 n8 c8] 47)) (.bool s7) (.slice A7 n7 c7) (.bool s8) (.slice A8 n8 c8) 47) (by simp [Value.oneCell']) (by unfold maxLen;omega) (by omega) (by have:=HB8.out.size;simp at this ⊢;omega) ?_;intro v' w1 hown' hgrow _)
     obtain ⟨A9,c9,rfl,ho9⟩:=qs_more (e:=((s7,A7,n7,c7),(s8,A8,n8,c8))) (x:=y) HO8.out rfl (HE.out.alloc _) HEN.out.1 HEN.out.2 hown' hgrow
     have HB9:=ah ((HB8.out.alloc HB8.out.size (.cells #[.bool s7,.slice A7 n7 c7,.bool s8,.slice A8 n8 c8] 47)).grown hgrow (by have:=HB8.out.size;simp at this ⊢;omega) (own_block HE.out))
     have HO9:=ah (show OwQs w1 wo.heap.size A9 (i+1) c9 ((R.take (i+1)).map fun x=>Rat.divInt (toZ x) d) by rw [<- HY.out];exact ho9)
     have HS9:=ah (show W3.heap.size<=w1.heap.size by have h1:=hgrow.size;have h2:=HS8.out;simp at h1;omega)
     clear hown' hgrow HE HEN HO8 ho9
     go_wp2
     go_roundw
     case rel=>exact ⟨i+1,c9,A9,rfl,by go_num,by omega,HO9.out,HB9.out,HS9.out⟩
     case measure=>simp [intOf];omega
end Go.Proofs.YtjnklbfhelbjgaaGreat
