/- Sc16. -/
import Derived.Test.YtjnklbfhelbjgaaGreatSc15
import Derived.Test.YtjnklbfhelbjgaaGreatSc12
import Derived.Test.YtjnklbfhelbjgaaGreatSc10
import Derived.Test.YtjnklbfhelbjgaaGreatSc06
import Derived.Deep.RegionWith
import Derived.Test.YtjnklbfhelbjgaaGreatSc11
import Derived.Shelf.Small.Bits
import Derived.Test.YtjnklbfhelbjgaaGreatProg
import Derived.Test.YtjnklbfhelbjgaaGreatSc14
import Derived.Test.YtjnklbfhelbjgaaGreatSc00
set_option maxRecDepth 100000
set_option maxHeartbeats 32000000
set_option linter.all false
namespace Go.Proofs.YtjnklbfhelbjgaaGreat
open Go.RowKit Go.IntWalk
attribute [local go_sem ↓] Go.wp_at_zero Go.wp_at_succ
def Tg (w:World)(b t:Nat)(MM:List (List (List Rat)))(k:Nat):Prop:=∃ (A:Option Addr) (n c:Nat),PX w t 102 [.slice A n c,.int .i64 (k:Int)]/\b<=t/\OwPp w b A n c MM
structure Fine (N:Nat)(MM:List (List (List Rat))):Prop where
 rows:MM.length<=1048576
 cols:∀ LL ∈ MM,LL.length<=1048576
 len:∀ LL ∈ MM,∀ L ∈ LL,L.length<=1048576
 sz:∀ LL ∈ MM,∀ L ∈ LL,∀ x ∈ L,Qs N x
section
variable {w w':World}{b b' t k N N' K J:Nat}{A:Option Addr}{n c:Nat}{MM:List (List (List Rat))}{PP:List (List (List RawQ))}{kk kk':Int}
theorem Tg.next (h:Tg w b t MM k)(hb:Below w.heap.size w w'):Tg w' b t MM k:=by
 obtain ⟨A,n,c,h1,h2,h3⟩:=h
 exact ⟨A,n,c,h1.next hb,h2,OwL.next stayPp h3 hb⟩
theorem rq_one (h:RdRpp w w.heap.size N K J A n c PP){RR:List (List RawQ)}(h1:RR ∈ PP):∃ (A1:Option Addr) (n1 c1:Nat),RdRp w w.heap.size N K A1 n1 c1 RR/\n1<=J:=by
 obtain ⟨j,hj,rfl⟩:=List.mem_iff_getElem.1 h1
 obtain ⟨ad,A1,n1,c1,_,_,_,h5,h6⟩:=h.at_ j _ (gE hj)
 exact ⟨A1,n1,c1,h5,h6⟩
theorem rq_two {RR:List (List RawQ)}(h:RdRp w w.heap.size N K A n c RR){R:List RawQ}(h1:R ∈ RR):∃ (A1:Option Addr) (n1 c1:Nat),RdRQ w w.heap.size A1 n1 c1 R/\n1<=K/\rsz R<=N:=by
 obtain ⟨j,hj,rfl⟩:=List.mem_iff_getElem.1 h1
 obtain ⟨ad,A1,n1,c1,_,_,_,h5,h6⟩:=h.at_ j _ (gE hj)
 exact ⟨A1,n1,c1,h5,h6⟩
theorem fine_nn (h:RdRpp w w.heap.size N K J A n c PP)(hok:okPP PP)(hn:n<=1048576)(hJ:J<=1048576)(hK:K<=1048576)(h1N:1<=N):Fine N (nn PP):=by
 refine ⟨by rw [nn,List.length_map,h.len];exact hn,fun LL hL=>?_,fun LL hL L hl=>?_,fun LL hL L hl x hx=>?_⟩
 ·obtain ⟨RR,h1,rfl⟩:=List.mem_map.1 hL
  obtain ⟨A1,n1,c1,h2,h3⟩:=rq_one h h1
  rw [List.length_map,h2.len]
  omega
 ·obtain ⟨RR,h1,rfl⟩:=List.mem_map.1 hL
  obtain ⟨R,h4,rfl⟩:=List.mem_map.1 hl
  obtain ⟨A1,n1,c1,h2,h3⟩:=rq_one h h1
  obtain ⟨A2,n2,c2,h5,h6,h7⟩:=rq_two h2 h4
  have e1:=nq_len (R.map toQ)
  have e2:R.length=n2:=h5.len
  rw [List.length_map] at e1
  show (nq (R.map toQ)).length<=_
  omega
 ·obtain ⟨RR,h1,rfl⟩:=List.mem_map.1 hL
  obtain ⟨R,h4,rfl⟩:=List.mem_map.1 hl
  obtain ⟨A1,n1,c1,h2,h3⟩:=rq_one h h1
  obtain ⟨A2,n2,c2,h5,h6,h7⟩:=rq_two h2 h4
  exact nq_qs (h5.rd h7) (hok RR h1 R h4) h1N x hx
def bigv (MM:List (List (List Rat))):Prop:=∃ LL ∈ MM,∃ L ∈ LL,101 < L.length ∨ 4096 < ht L
def colq (MM:List (List (List Rat))):Nat:=(MM.headD []).length
def Rect (MM:List (List (List Rat))):Prop:=∀ LL ∈ MM,LL.length=colq MM
def Bigg (MM:List (List (List Rat))):Prop:=24 < MM.length ∨ 24 < colq MM ∨ bigv MM
def FitV (PP:List (List (List RawQ)))(kk:Int):Prop:=(kk=6/\¬okPP PP) ∨ (kk=2/\okPP PP/\¬Rect (nn PP)) ∨ (kk=4/\okPP PP/\Rect (nn PP)/\Bigg (nn PP)) ∨ (kk=0/\okPP PP/\Rect (nn PP)/\¬Bigg (nn PP))
theorem FitV.uniq (h:FitV PP kk)(h':FitV PP kk'):kk=kk':=by
 rcases h with ⟨h1,h2⟩ | ⟨h1,h2,h3⟩ | ⟨h1,h2,h3,h4⟩ | ⟨h1,h2,h3,h4⟩ <;> rcases h' with ⟨g1,g2⟩ | ⟨g1,g2,g3⟩ | ⟨g1,g2,g3,g4⟩ | ⟨g1,g2,g3,g4⟩ <;> first | exact absurd h2 g2 | exact absurd g2 h2 | exact absurd h3 g3 | exact absurd g3 h3 | exact absurd h4 g4 | exact absurd g4 h4 | exact h1.trans g1.symm
theorem FitV.zero (h:FitV PP 0):okPP PP/\Rect (nn PP)/\¬Bigg (nn PP):=by
 rcases h with ⟨h1,_⟩ | ⟨h1,_⟩ | ⟨h1,_⟩ | ⟨_,h2⟩
 ·exact absurd h1 (by decide)
 ·exact absurd h1 (by decide)
 ·exact absurd h1 (by decide)
 ·exact h2
end
theorem bigv_more {MM:List (List (List Rat))}{j:Nat}{LL:List (List Rat)}(hp:MM[j]?=some LL)(h:¬bigv (MM.take j))(h1:∀ L ∈ LL,¬(101 < L.length ∨ 4096 < ht L)):¬bigv (MM.take (j+1)):=by
 rintro ⟨L1,hL1,L2,hL2,e⟩
 rw [List.take_add_one,hp] at hL1
 rcases List.mem_append.1 hL1 with h2 | h2
 ·exact h ⟨L1,h2,L2,hL2,e⟩
 ·simp at h2
  subst h2
  exact h1 L2 hL2 e
theorem big_any {N b t k:Nat}{MM:List (List (List Rat))}{w:World}(h:Tg w b t MM k)(hF:Fine N MM)(hN:N<=1000000000000)(h1N:1<=N) :
  Calls Tryz.prog 111 #[.pointer (some ⟨t,0,none⟩)] w (RetBo (bigv MM) w):=by
 obtain ⟨A,n,c,hT,hbt,ho⟩:=h
 have HL:=ah ho.len
 have HF:=ah hF
 have HX:=ah (show ∀ W,Below w.heap.size w W->OwPp W b A n c MM from fun W hb=>OwL.next stayPp ho hb)
 have k0:=hT.cell (i:=0) rfl
 have hn:n<=1048576:=by rw [<- ho.len];exact hF.rows
 clear ho hT hF
 go_enter Tryz.func111,Tryz.ntmps111
 go_wp2_with fail
 clear k0
 go_loopw [14] (fun iv wr=>∃ (j:Nat),iv=.int .i64 (j:Int)/\j<=n/\Hid (¬bigv (MM.take j))/\Below w.heap.size w wr) (fun iv _=>n-(intOf iv).toNat)
 case atStart=>exact ⟨0,rfl,nZ,ah (by rintro ⟨L,hL,_⟩;simp at hL),bR⟩
 case round =>
  obtain ⟨j,rfl,hj,hbg,hB⟩:=hrel
  by_cases hjn:j=n
  ·have HV:=ah (show ¬bigv MM by rw [<- List.take_of_length_le (l:=MM) (i:=j) (by rw [HL.out,hjn];exact nR)];exact hbg.out)
   have HBF:=ah hB
   subst hjn
   clear hbg hB
   go_wp2
   go_ret
   exact ⟨false,rfl,ah ⟨fun e=>by simp at e,fun e=>absurd e HV.out⟩,HBF.out⟩
  ·have hjl:j < n:=by omega
   have hjli:(j:Int) < (n:Int):=by omega
   obtain ⟨wo,rfl⟩:∃ V,V=wr:=⟨_,rfl⟩
   clear hjn
   obtain ⟨g,A1,n1,c1,LL,rfl,hgl,hx,ho1,hp⟩:=(HX.out wo hB).at_ hjl
   have HB3:=ah hB
   have HO1:=ah (show ∀ W,Below wo.heap.size wo W->OwP W b A1 n1 c1 LL from fun W hb=>OwL.next stayQP ho1 hb)
   have HL1:=ah ho1.len
   have HM:=ah (gM hp.out)
   have hn1:n1<=1048576:=by rw [<- ho1.len];exact HF.out.cols LL HM.out
   clear hB ho1
   go_wp2_with fail
   clear hx
   go_loopw [20] (fun iv wr=>∃ (i:Nat),iv=.int .i64 (i:Int)/\i<=n1/\Hid (∀ L ∈ LL.take i,¬(101 < L.length ∨ 4096 < ht L))/\Below wo.heap.size wo wr) (fun iv _=>n1-(intOf iv).toNat)
   case atStart=>exact ⟨0,rfl,nZ,ah (fun L hL=>by simp at hL),bR⟩
   case round =>
    obtain ⟨i,rfl,hi5,hq5,hB5⟩:=hrel
    by_cases hin:i=n1
    ·have HV:=ah (bigv_more hp.out hbg.out (by rw [<- List.take_of_length_le (l:=LL) (i:=i) (by rw [HL1.out,hin];exact nR)];exact hq5.out))
     have HB9:=tM HB3 hB5
     subst hin
     clear hq5 hB5 hbg
     go_wp2
     go_roundw
     case rel=>exact ⟨j+1,by go_num,by omega,HV,HB9.out⟩
     case measure=>simp [intOf];omega
    ·have hil:i < n1:=by omega
     have hili:(i:Int) < (n1:Int):=by omega
     clear hin
     obtain ⟨g6,A6,n6,c6,L,rfl,hgl6,hx6,ho6,hp6⟩:=(HO1.out wr hB5).at_ hil
     have HB5:=ah hB5
     have HM6:=ah (gM hp6.out)
     have HR6:=ah (ho6.rd (HF.out.sz LL HM.out L HM6.out))
     have HL6:=ah ho6.len
     have hn6:n6<=1048576:=by rw [<- ho6.len];exact HF.out.len LL HM.out L HM6.out
     clear ho6 hB5
     go_wp2_with fail
     clear hx6
     refine (qheight_any HR6.out (pr_okD' L) hn6 hN h1N).mono ?_
     rintro _ W7 ⟨v,kk,rfl,hv,hb7⟩
     have HB7:=tM HB5 hb7
     have HB8:=tM HB3 HB7.out
     have HV:=ah (show v=(ht L:Int) by rw [hv.out.1,pr_map'])
     clear hv hb7
     by_cases hl:101 < n6
     ·have hli:(100:Int) < (n6:Int)-1:=by omega
      have HY:=ah (show bigv MM from ⟨LL,HM.out,L,HM6.out,.inl (by rw [HL6.out];exact hl)⟩)
      clear hl
      go_wp2
      go_ret
      exact ⟨true,rfl,ah ⟨fun _=>HY.out,fun _=>rfl⟩,HB8.out⟩
     ·have hli:¬(100:Int) < (n6:Int)-1:=by omega
      have HNL:=ah (show ¬101 < L.length by rw [HL6.out];exact hl)
      clear hl
      by_cases hh:4096 < ht L
      ·have hzi:(4096:Int) < v:=by rw [HV.out];omega
       have HY:=ah (show bigv MM from ⟨LL,HM.out,L,HM6.out,.inr hh⟩)
       clear hh
       go_wp2
       go_ret
       exact ⟨true,rfl,ah ⟨fun _=>HY.out,fun _=>rfl⟩,HB8.out⟩
      ·have hzi:¬(4096:Int) < v:=by rw [HV.out];omega
       have HQ:=ah (show ∀ L ∈ LL.take (i+1),¬(101 < L.length ∨ 4096 < ht L) from fun L' h'=>by
        rw [List.take_add_one,hp6.out] at h'
        rcases List.mem_append.1 h' with h2 | h2
        ·exact hq5.out L' h2
        ·simp at h2
         subst h2
         exact fun e=>e.elim HNL.out hh)
       clear hh hq5
       go_wp2
       go_roundw
       case rel=>exact ⟨i+1,by go_num,by omega,HQ,HB7.out⟩
       case measure=>simp [intOf];omega
def rowF {α:Type}(n:Nat)(F:Nat->α):List α:=(List.range n).map F
section
variable {α:Type}{n j:Nat}{F G:Nat->α}{x d:α}{LL:List α}
theorem rowF_len (n:Nat)(F:Nat->α):(rowF n F).length=n:=by unfold rowF;simp
theorem rowF_get (hj:j < n):(rowF n F)[j]?=some (F j):=by unfold rowF;simp [hj]
theorem rowF_ext (hl:LL.length=n)(h:∀ j,j < n->LL[j]?=some (F j)):LL=rowF n F:=by
 refine List.ext_getElem? fun i=>?_
 rcases Nat.lt_or_ge i n with hi | hi
 ·rw [h i hi,rowF_get hi]
 ·rw [gN (by omega),gN (by rw [rowF_len];exact hi)]
theorem rowF_list (LL:List α)(d:α):rowF LL.length (fun i=>LL.getD i d)=LL:=(rowF_ext rfl fun j hj=>by rw [List.getD_eq_getElem?_getD,gE hj];rfl).symm
end
theorem nilsP_made (n:Nat):madeCells #[Value.slice none 0 0] n=((List.replicate n ((none,0,0):Option Addr × Nat × Nat)).map psl).toArray:=by
 unfold madeCells
 apply Array.ext
 ·simp
 ·intro i h1 h2
  simp [Nat.mod_one,psl]
section
variable {α:Type}{T:TypeId}{P:World->Nat->Option Addr->Nat->Nat->α->Prop}{w wr w1:World}{b n c g j t:Nat}{A A2:Option Addr}{n2 c2:Nat}{LL:List α}{L:α}{E:List (Option Addr × Nat × Nat)}
end
section
variable {w wr w1:World}{b n c t:Nat}{A:Option Addr}{MM:List (List (List Rat))}{LL:List (List Rat)}{E:List (Option Addr × Nat × Nat)}{z v':Value}{o:Obj}
theorem tp_more {e:Option Addr × Nat × Nat}(hT:PX wr t 102 [.slice A n c,z])(hE:wr.ownsRow b 30 1 (.slice A n c) n (E.map psl))(hEl:E.length=n)(hEn:EntL OwP wr b E MM)(he:OwP wr b e.1 e.2.1 e.2.2 LL)
  (hown':w1.ownsRow b 30 1 v' (n+1) (E.map psl ++ [.slice e.1 e.2.1 e.2.2])) (hg:(wr.alloc o).grownBy w1 (Value.slice A n c).ownBlock) :
  ∃ (A':Option Addr) (c':Nat),v'=.slice A' (n+1) c'/\w1.cell? ⟨t,0,none⟩=some (.slice A n c)/\w1.frozen? ⟨t,0,none⟩=false/\PX (w1.setCell ⟨t,0,none⟩ v') t 102 [v',z]/\OwPp (w1.setCell ⟨t,0,none⟩ v') b A' (n+1) c' (MM ++ [LL]):=by
 have hba:Below wr.heap.size wr (wr.alloc o):=bA
 have hE2:=row_next hE hba
 obtain ⟨A',c',hv,h5⟩:=OwL.more stayPp he hE2 hEl hEn hown' hg
 obtain ⟨A9,c9,hv9,k1,k2,k3,k4,k5,k6⟩:=tpush hT hE hown' hg
 have hT1:=(hT.next hba).grown hE2 (by decide) hg
 refine ⟨A',c',hv,k1,k2,k3,?_⟩
 exact OwL.keep (OwL.stay (stayQ (by decide) (by decide)) (by decide)) (by decide) h5 (hT1.keepL 0 v')
end
def RetFt (PP:List (List (List RawQ)))(w:World)(e:Ending)(w':World):Prop :=
 (∃ kk:Int,e=.returned (.tuple #[.pointer none,.int .i64 kk])/\Hid (kk ≠ 0/\FitV PP kk)/\Below w.heap.size w w') ∨
 (∃ t:Nat,e=.returned (.tuple #[.pointer (some ⟨t,0,none⟩),.int .i64 0])/\Hid (FitV PP 0)/\Tg w' w.heap.size t (nn PP) (colq (nn PP))/\Below w.heap.size w w')
theorem RetFt.bad {PP:List (List (List RawQ))}{w w':World}{kk:Int}(h:FitV PP kk)(h0:kk ≠ 0)(hb:Below w.heap.size w w'):RetFt PP w (.returned (.tuple #[.pointer none,.int .i64 kk])) w':=.inl ⟨kk,rfl,ah ⟨h0,h⟩,hb⟩
theorem okPP_more {PP:List (List (List RawQ))}{j:Nat}{RR:List (List RawQ)}(hp:PP[j]?=some RR)(h:okPP (PP.take j))(h1:∀ R ∈ RR,okD (R.map toQ)):okPP (PP.take (j+1)):=fun R1 h2=>by
 rw [List.take_add_one,hp] at h2
 rcases List.mem_append.1 h2 with h3 | h3
 ·exact h R1 h3
 ·simp at h3
  subst h3
  exact h1
theorem okD_more {RR:List (List RawQ)}{i:Nat}{R:List RawQ}(hp:RR[i]?=some R)(h:∀ R ∈ RR.take i,okD (R.map toQ))(h1:okD (R.map toQ)):∀ R ∈ RR.take (i+1),okD (R.map toQ):=fun R1 h2=>by
 rw [List.take_add_one,hp] at h2
 rcases List.mem_append.1 h2 with h3 | h3
 ·exact h R1 h3
 ·simp at h3
  subst h3
  exact h1
theorem nn_more {PP:List (List (List RawQ))}{j:Nat}{RR:List (List RawQ)}(hp:PP[j]?=some RR):nn (PP.take j) ++ [RR.map nqp]=nn (PP.take (j+1)):=by
 unfold nn
 rw [List.take_add_one,hp,List.map_append]
 rfl
theorem rect_more {MM:List (List (List Rat))}{j k:Nat}{LL:List (List Rat)}(hp:MM[j]?=some LL)(h:∀ L ∈ MM.take j,L.length=k)(h1:LL.length=k):∀ L ∈ MM.take (j+1),L.length=k:=fun R1 h2=>by
 rw [List.take_add_one,hp] at h2
 rcases List.mem_append.1 h2 with h3 | h3
 ·exact h R1 h3
 ·simp at h3
  subst h3
  exact h1
theorem colq_zero {MM:List (List (List Rat))}{LL:List (List Rat)}(hp:MM[0]?=some LL):LL.length=colq MM:=by
 cases MM with
 | nil=>cases hp
 | cons a t=>simp at hp;subst hp;rfl
theorem fit_any {N K J:Nat}{A:Option Addr}{n c:Nat}{PP:List (List (List RawQ))}{w:World}(h:RdRpp w w.heap.size N K J A n c PP)(hn:n<=1048576)(hJ:J<=1048576)(hK:K<=1048576)(hN:N<=1000000000)(h1N:1<=N) :
  Calls Tryz.prog 63 #[.slice A n c] w (RetFt PP w):=by
 have HL:=ah h.len
 obtain ⟨i0,hi,hz0,hz1,hz2⟩:=info_parts infoPoly
 obtain ⟨i1,hjf,hy0,hy1,hy2⟩:=info_parts infoRow
 have HX:=ah (show ∀ W,Below w.heap.size w W->RdRpp W W.heap.size N K J A n c PP from fun W hb=>h.next hb)
 have HFN:=ah (fun hok:okPP PP=>fine_nn h hok hn hJ hK h1N)
 clear h
 obtain ⟨W1,HW1⟩:∃ W,W=w.alloc (.cells #[.slice none 0 0,.int .i64 0] 102):=⟨_,rfl⟩
 have hb1:Below w.heap.size w W1:=by rw [HW1];exact bA
 obtain ⟨t,ht⟩:∃ g,g=w.heap.size:=⟨_,rfl⟩
 have HN0:=ah (show PX W1 t 102 [.slice none 0 0,.int .i64 0] by rw [HW1,ht];exact PX.new w _ [.slice none 0 0,.int .i64 0])
 have HGW:=ah (show w.heap.size<=t by rw [ht];exact nR)
 have HB0:=ah hb1
 have HW1:=ah HW1
 clear hb1
 go_enter Tryz.func63,Tryz.ntmps63
 go_wp2_with fail
 rw [<- HW1.out,<- ht]
 clear HW1 ht
 clear HW1
 go_loopw [18] (fun iv wr=>∃ (j c':Nat) (A':Option Addr),iv=.int .i64 (j:Int)/\j<=n/\Hid (PX wr t 102 [.slice A' j c',.int .i64 0])/\OwPp wr w.heap.size A' j c' (nn (PP.take j))/\Hid (okPP (PP.take j))/\Below w.heap.size w wr) (fun iv _=>n-(intOf iv).toNat)
 case atStart=>exact ⟨0,0,none,rfl,nZ,HN0,OwL.nil _ _ _ _,ah (fun R hR=>by simp at hR),HB0.out⟩
 case round =>
  obtain ⟨j,c',A',rfl,hj,hT,ho,hok,hB⟩:=hrel
  by_cases hjr:j=n
  ·have HO:=ah (show OwPp wr w.heap.size A' j c' (nn PP) by rw [<- List.take_of_length_le (l:=PP) (i:=j) (by rw [HL.out,hjr];exact nR)];exact ho)
   have HOK:=ah (show okPP PP by rw [<- List.take_of_length_le (l:=PP) (i:=j) (by rw [HL.out,hjr];exact nR)];exact hok.out)
   have HBF:=ah hB
   have HT:=hT
   subst hjr
   have m0:=HT.out.cell (i:=0) rfl
   clear ho hB hok hT
   go_wp2_with fail
   clear m0
   obtain ⟨wo,rfl⟩:∃ V,V=wr:=⟨_,rfl⟩
   have HLN:=ah HO.out.len
   go_loopw [57] (fun iv wr=>∃ (i:Nat) (kv:Nat),iv=.int .i64 (i:Int)/\i<=j/\Hid (kv=if i=0 then 0 else colq (nn PP))/\Hid (PX wr t 102 [.slice A' j c',.int .i64 (kv:Int)])/\OwPp wr w.heap.size A' j c' (nn PP)/\Hid (∀ L ∈ (nn PP).take i,L.length=colq (nn PP))/\Below w.heap.size w wr) (fun iv _=>j-(intOf iv).toNat)
   case atStart=>exact ⟨0,0,rfl,nZ,ah rfl,HT,HO.out,ah (fun L hL=>by simp at hL),HBF.out⟩
   case round =>
    obtain ⟨i,kv,rfl,hi5,hkv,hT5,ho5,hr5,hB5⟩:=hrel
    by_cases hin:i=j
    ·have HR5:=ah (show Rect (nn PP) by
      have h1:=hr5.out
      rw [List.take_of_length_le (by rw [HLN.out,hin];exact nR)] at h1
      exact h1)
     have HKV:=ah (show kv=colq (nn PP) by
      rw [hkv.out]
      by_cases h0:i=0
      ·rw [if_pos h0]
       have h1:=HLN.out
       rw [<- hin,h0] at h1
       rw [List.length_eq_zero_iff.1 h1]
       rfl
      ·rw [if_neg h0])
     have HTG:=ah (show Tg wr w.heap.size t (nn PP) (colq (nn PP)) from ⟨A',j,c',by rw [<- HKV.out];exact hT5.out,HGW.out,ho5⟩)
     have HB5:=ah hB5
     have m0:=hT5.out.cell (i:=0) rfl
     have m1:=hT5.out.cell (i:=1) rfl
     have HFN2:=ah (HFN.out HOK.out)
     subst hin
     clear hB5 ho5 hT5 hr5 hkv
     by_cases h24:24 < i
     ·have h24i:(24:Int) < (i:Int):=by omega
      have HV:=ah (show FitV PP 4 from .inr (.inr (.inl ⟨rfl,HOK.out,HR5.out,.inl (by rw [HLN.out];exact h24)⟩)))
      clear h24
      go_wp2
      go_ret2
      exact RetFt.bad HV.out (by decide) HB5.out
     ·have h24i:¬(24:Int) < (i:Int):=by omega
      clear h24
      by_cases k24:24 < kv
      ·have k24i:(24:Int) < (kv:Int):=by omega
       have HV:=ah (show FitV PP 4 from .inr (.inr (.inl ⟨rfl,HOK.out,HR5.out,.inr (.inl (by rw [<- HKV.out];exact k24))⟩)))
       clear k24
       go_wp2
       go_ret2
       exact RetFt.bad HV.out (by decide) HB5.out
      ·have k24i:¬(24:Int) < (kv:Int):=by omega
       have HK24:=ah k24
       clear k24
       go_wp2_with fail
       refine (big_any HTG.out HFN2.out (by omega) h1N).mono ?_
       rintro _ W7 ⟨v,rfl,hv,hb7⟩
       have HB7:=tM HB5 hb7
       have HV:=hv
       have HTG7:=ah (HTG.out.next hb7)
       clear hv hb7
       cases v
       case true =>
        have HF:=ah (show FitV PP 4 from .inr (.inr (.inl ⟨rfl,HOK.out,HR5.out,.inr (.inr (HV.out.1 rfl))⟩)))
        clear HV
        go_wp2
        go_ret2
        exact RetFt.bad HF.out (by decide) HB7.out
       case false =>
        have HF:=ah (show FitV PP 0 from .inr (.inr (.inr ⟨rfl,HOK.out,HR5.out,fun e=>by
         rcases e with e | e | e
         ·rw [HLN.out] at e;omega
         ·rw [<- HKV.out] at e;exact HK24.out e
         ·have:=HV.out.2 e
          cases this⟩)))
        clear HV
        go_wp2
        go_ret2
        exact .inr ⟨t,rfl,HF,HTG7.out,HB7.out⟩
    ·have hil:i < j:=by omega
     have hili:(i:Int) < (j:Int):=by omega
     clear hin
     obtain ⟨g6,A6,n6,c6,LL,e6,hgl6,hx6,ho6,hp6⟩:=ho5.at_ hil
     have HL6:=ah ho6.len
     have HO5:=ah ho5
     have HB5:=ah hB5
     by_cases h0:i=0
     ·have HC:=ah (show n6=colq (nn PP) by
       rw [<- HL6.out]
       refine colq_zero ?_
       rw [<- h0]
       exact hp6.out)
      subst h0
      have f1:=hT5.out.frozen 1
      have m1:=hT5.out.cell (i:=1) rfl
      have HT6:=ah (show PX (wr.setCell ⟨t,1,none⟩ (.int .i64 (n6:Int))) t 102 [.slice A' j c',.int .i64 (n6:Int)] from hT5.out.store 1 _)
      have HO6:=ah (show OwPp (wr.setCell ⟨t,1,none⟩ (.int .i64 (n6:Int))) w.heap.size A' j c' (nn PP) from OwL.keep (OwL.stay (stayQ (by decide) (by decide)) (by decide)) (by decide) HO5.out (hT5.out.keepL 1 _))
      have HB6:=ah (show Below w.heap.size w (wr.setCell ⟨t,1,none⟩ (.int .i64 (n6:Int))) from HB5.out.setCell (p:=⟨t,1,none⟩) HGW.out _)
      have q1:=HT6.out.cell (i:=1) rfl
      have HR6:=ah (rect_more hp6.out hr5.out (by rw [HL6.out];exact HC.out))
      subst e6
      clear ho5 hB5 ho6 hr5 hT5 hkv
      go_wp2
      go_roundw
      case rel=>exact ⟨0+1,n6,by go_num,by omega,ah (by rw [if_neg (by omega)];exact HC.out),HT6,HO6.out,HR6,HB6.out⟩
      case measure=>simp [intOf];omega
     ·have hi0:¬(i:Int)=0:=by omega
      have hi0b:((i:Int) == 0)=false:=by simp;omega
      have HKC:=ah (show kv=colq (nn PP) by rw [hkv.out,if_neg h0])
      have m1:=hT5.out.cell (i:=1) rfl
      have HT5:=hT5
      have HI0:=ah h0
      subst e6
      clear ho5 hB5 ho6 hT5 hkv h0
      by_cases hne:n6=kv
      ·have hb3:(n6:Int)=(kv:Int):=by omega
       have HR6:=ah (rect_more hp6.out hr5.out (by rw [HL6.out,hne];exact HKC.out))
       have HKV:=ah (show kv=if i+1=0 then 0 else colq (nn PP) by rw [if_neg (by omega)];exact HKC.out)
       subst hne
       clear hr5
       go_wp2
       go_roundw
       case rel=>exact ⟨i+1,n6,by go_num,by omega,HKV,HT5,HO5.out,HR6,HB5.out⟩
       case measure=>simp [intOf];omega
      ·have hb3:¬(n6:Int)=(kv:Int):=by omega
       have HV:=ah (show FitV PP 2 from .inr (.inl ⟨rfl,HOK.out,fun e=>hne (by rw [HKC.out,<- HL6.out];exact e LL (gM hp6.out))⟩))
       clear hne hr5
       go_wp2
       go_ret2
       exact RetFt.bad HV.out (by decide) HB5.out
  ·have hjl:j < n:=by omega
   have hjli:(j:Int) < (n:Int):=by omega
   obtain ⟨wo,rfl⟩:∃ V,V=wr:=⟨_,rfl⟩
   clear hjr
   obtain ⟨ad,A1,n1,c1,RR,rfl,hbk,hx,hr1,hn1,hp⟩:=rpp_at (HX.out wo hB) hjl
   have HOT:=ah ho
   have HT:=hT
   have HB3:=ah hB
   have HRR:=ah (show ∀ W,Below wo.heap.size wo W->RdRp W W.heap.size N K A1 n1 c1 RR from fun W hb=>hr1.next hb)
   have HLR:=ah hr1.len
   have HJL:=ah (show j+1<=1048576 by omega)
   have HOK:=hok
   clear ho hB hr1 hT hok
   go_wp2_with fail
   clear hx
   go_loopw [7,24] (fun ov iv wr=>∃ (i c5:Nat) (A5:Option Addr),ov=.slice A5 i c5/\iv=.int .i64 (i:Int)/\i<=n1/\OwP wr wo.heap.size A5 i c5 ((RR.take i).map nqp)/\Hid (∀ R ∈ RR.take i,okD (R.map toQ))/\Below wo.heap.size wo wr) (fun _ iv _=>n1-(intOf iv).toNat)
   case atStart=>exact ⟨0,0,none,rfl,rfl,nZ,OwL.nil _ _ _ _,ah (fun R hR=>by simp at hR),bR⟩
   case round =>
    obtain ⟨i,c5,A5,rfl,rfl,hi5,ho5,hk5,hB5⟩:=hrel
    by_cases hin:i=n1
    ·have HO5:=ah (show OwP wr w.heap.size A5 i c5 (RR.map nqp) by rw [<- List.take_of_length_le (l:=RR) (i:=i) (by rw [HLR.out,hin];exact nR)];exact OwL.base stayQP ho5 HB3.out.size)
     have HK5:=ah (show ∀ R ∈ RR,okD (R.map toQ) by rw [<- List.take_of_length_le (l:=RR) (i:=i) (by rw [HLR.out,hin];exact nR)];exact hk5.out)
     have HB5:=ah hB5
     have HT5:=ah (HT.out.next hB5)
     obtain ⟨E,hE,hEl,hEn⟩:=OwL.next stayPp HOT.out hB5
     have HE:=ah hE
     have HEN:=ah (cJ hEl hEn)
     have m0:=HT5.out.cell (i:=0) rfl
     have hba:Below wr.heap.size wr (wr.alloc (.cells #[.slice A5 i c5] 30)):=bA
     have m0':(wr.alloc (.cells #[.slice A5 i c5] 30)).cell? ⟨t,0,none⟩=some (.slice A' j c'):=(HT5.out.next hba).cell (i:=0) rfl
     subst hin
     clear ho5 hB5 hE hEl hEn hk5
     go_wp2_with (at_builtin;(refine wpList_append_own _ rfl _ _ 45 rfl w.heap.size 30 i1 (.slice none 0 0) 1 24 Tryz.underlying45 hjf hy0 hy1 hy2 rfl (by decide) _ _ _ rfl (HE.out.alloc _) ⟨wr.heap.size,0,none⟩ 1 1 [.slice A5 i c5] rfl rfl (scell1 wr (.slice A5 i c5) 30) (by simp [Value.oneCell']) (by have:=HJL.out;unfold maxLen;omega) (by have:=HJL.out;omega) (by have h1:=HB5.out.size;have h2:=HB3.out.size;simp;omega) ?_);intro v' w1 hown' hgrow _;(obtain ⟨A9,c9,rfl,e1,e2,hT9,ho9⟩:=tp_more (e:=(A5,i,c5)) HT5.out HE.out HEN.out.1 HEN.out.2 HO5.out hown' hgrow))
     obtain ⟨X0,HX0⟩:∃ W,W=w1.setCell ⟨t,0,none⟩ (.slice A9 (j+1) c9):=⟨_,rfl⟩
     have hbx:=HB3.out.trans (HB5.out.mono HB3.out.size)
     have HB9:=ah (show Below w.heap.size w X0 by
      rw [HX0]
      exact (((hbx.alloc hbx.size (.cells #[.slice A5 i c5] 30)).grown hgrow (by have:=hbx.size;simp;omega) (own_block HE.out))).setCell (p:=⟨t,0,none⟩) HGW.out _)
     rw [<- HX0] at hT9 ho9
     have HT9:=ah hT9
     have HO9:=ah (show OwPp X0 w.heap.size A9 (j+1) c9 (nn (PP.take (j+1))) by
      rw [<- nn_more hp.out]
      exact ho9)
     have HOK9:=ah (okPP_more hp.out HOK.out HK5.out)
     rw [<- HX0]
     clear hown' hgrow HE HEN ho9 hbx hT9 e1 e2 m0 m0' hba HX0
     go_roundw
     case rel=>exact ⟨j+1,c9,A9,by go_num,by omega,HT9,HO9.out,HOK9,HB9.out⟩
     case measure=>simp [intOf];omega
    ·have hil:i < n1:=by omega
     have hili:(i:Int) < (n1:Int):=by omega
     clear hin
     obtain ⟨ad2,A6,n6,c6,R,rfl,hbk6,hx6,hr6,hn6,hs6,hp6⟩:=rp_at (HRR.out wr hB5) hil
     have HO5:=ah ho5
     have HB5:=ah hB5
     have HR6:=ah (hr6.rd hs6)
     clear ho5 hB5 hr6 hs6
     go_wp2_with fail
     clear hx6
     refine (qpnorm_any HR6.out (by omega) (by omega) h1N).mono ?_
     intro _ W7 hpost
     rcases hpost with ⟨hd6,A7,n7,c7,M7,rfl,ho7,hM7,hb7⟩ | ⟨hd6,rfl,hb7⟩
     ·have HB7:=tM HB5 hb7
      obtain ⟨E,hE,hEl,hEn⟩:=OwL.next stayQP HO5.out hb7
      have HO7:=ah (show OwQp W7 wo.heap.size A7 n7 c7 (nqp R) by
       have e0:=hM7.out
       show OwQp W7 wo.heap.size A7 n7 c7 (Pq.nrm ((R.map toQ).map qval))
       rw [<- e0]
       exact ho7.base HB5.out.size)
      have HK7:=ah (okD_more hp6.out hk5.out hd6)
      have HE:=ah hE
      have HEN:=ah (cJ hEl hEn)
      clear hE hEl hEn hb7 ho7 hM7 hd6 hk5
      go_wp2_with (at_builtin;refine wpList_append_own _ rfl _ _ 30 rfl wo.heap.size 73 i0 (.slice none 0 0) 1 24 Tryz.underlying30 hi hz0 hz1 hz2 rfl (by decide) _ _ _ rfl (HE.out.alloc _) ⟨W7.heap.size,0,none⟩ 1 1 [.slice A7 n7 c7] rfl rfl (scell1 W7 (.slice A7 n7 c7) 73) (by simp [Value.oneCell']) (by unfold maxLen;omega) (by omega) (by have:=HB7.out.size;simp;omega) ?_;intro v' w1 hown' hgrow _)
      obtain ⟨A9,c9,rfl,ho9⟩:=OwL.more stayQP (e:=(A7,n7,c7)) HO7.out (HE.out.alloc _) HEN.out.1 HEN.out.2 hown' hgrow
      have HB9:=ah ((HB7.out.alloc HB7.out.size (.cells #[.slice A7 n7 c7] 73)).grown hgrow (by have:=HB7.out.size;simp;omega) (own_block HE.out))
      have HO9:=ah (show OwP w1 wo.heap.size A9 (i+1) c9 ((RR.take (i+1)).map nqp) by
       rw [List.take_add_one,hp6.out]
       rw [List.map_append];exact ho9)
      clear hown' hgrow HE HEN ho9
      go_wp2
      go_roundw
      case rel=>exact ⟨i+1,c9,A9,rfl,by go_num,by omega,HO9.out,HK7,HB9.out⟩
      case measure=>simp [intOf];omega
     ·have HV:=ah (show FitV PP 6 from .inl ⟨rfl,fun e=>by
       obtain ⟨p,hp1,hp0⟩:=hd6
       exact e RR (gM hp.out) R (gM hp6.out) p hp1 hp0⟩)
      have HB9:=ah (HB3.out.trans ((HB5.out.trans (hb7.mono HB5.out.size)).mono HB3.out.size))
      clear hd6 hb7 hk5
      go_wp2
      go_ret2
      exact RetFt.bad HV.out (by decide) HB9.out
theorem isp_zl {f:Nat->Int}{M:List Int}{N:Nat}(h:Pz.IsP f M)(hf:∀ i,Zz.zl (f i)<=N):∀ z ∈ M,Zz.zl z<=N:=fun z hz=>by
 obtain ⟨i,_,rfl⟩:=Pz.mem_co hz
 rw [h.2]
 exact hf i
theorem zmul_any {N N':Nat}{A A':Option Addr}{n c n' c':Nat}{L L':List Int}{w:World}(h:RdZs w w.heap.size N A n c L)(h':RdZs w w.heap.size N' A' n' c' L')(hn:n<=4294967290)(hn':n'<=4294967290)(hN:N<=2199023255551)(hN':N'<=2199023255551) :
  Calls Tryz.prog 219 #[.slice A n c,.slice A' n' c'] w (RetP (Pz.cvp (Pz.co L) (Pz.co L') n) w):=by
 have HC:=ah (cJ (zl_co h) (zl_co h'))
 have HLN:=ah (cJ h.len h'.len)
 go_enter Tryz.func219,Tryz.ntmps219
 go_wp2_with fail
 refine (znorm_any h (by omega) (by omega)).mono ?_
 rintro _ W1 ⟨A1,m1,c1,M1,rfl,ho1,hM1,hb1⟩
 go_wp2_with fail
 refine (znorm_any (h'.next hb1) (by omega) (by omega)).mono ?_
 rintro _ W2 ⟨A2,m2,c2,M2,rfl,ho2,hM2,hb2⟩
 have hr1:=(ho1.next hb2).rd (N:=N) (isp_zl hM1.out HC.out.1)
 have hr2:=ho2.rd (N:=N') (isp_zl hM2.out HC.out.2)
 have hm1:m1<=n:=by rw [<- ho1.len];exact hM1.out.len fun i hi=>Pz.co_ge (by rw [HLN.out.1];exact hi)
 have hm2:m2<=n':=by rw [<- ho2.len];exact hM2.out.len fun i hi=>Pz.co_ge (by rw [HLN.out.2];exact hi)
 have HLM:=ah (cJ ho1.len ho2.len)
 have HB:=ah (hb1.trans (hb2.mono hb1.size))
 have HEQ:=ah (show ∀ t,Pz.cvp (Pz.co L) (Pz.co L') n t=Pz.cvp (Pz.co M1) (Pz.co M2) m1 t from fun t=>by
  rw [Pz.cvp_congr (fun i=>(hM1.out.2 i).symm) (fun i=>(hM2.out.2 i).symm)]
  exact Pz.cvp_stop' (fun i hi=>Pz.co_ge (by rw [HLM.out.1];exact hi)) hm1 t)
 have HCM:=ah (show (∀ i,Zz.zl (Pz.co M1 i)<=N)/\(∀ i,Zz.zl (Pz.co M2 i)<=N') from ⟨fun i=>by rw [hM1.out.2];exact HC.out.1 i,fun i=>by rw [hM2.out.2];exact HC.out.2 i⟩)
 clear ho1 ho2 hb1 hb2 h h'
 rcases Nat.eq_zero_or_pos m1 with e1 | e1
 ·subst e1
  go_wp2
  go_ret
  exact ⟨none,0,0,[],rfl,OwZs.nil _ _,ah ⟨Pz.nz_nil,fun t=>by rw [HEQ.out t,Pz.co_nil];rfl⟩,HB.out⟩
 rcases Nat.eq_zero_or_pos m2 with e2 | e2
 ·subst e2
  have hmb:((m1:Int) == 0)=false:=by simp;omega
  go_wp2
  go_ret
  exact ⟨none,0,0,[],rfl,OwZs.nil _ _,ah ⟨Pz.nz_nil,fun t=>by
   rw [HEQ.out t,Pz.co_nil]
   have e3:∀ i,Pz.cvp (Pz.co M1) (Pz.co M2) i t=0:=by
    intro i
    induction i with
    | zero=>rfl
    | succ i ih =>
      rw [Pz.cvp_succ,ih,Pz.co_ge (L:=M2) (i:=t-i) (by rw [HLM.out.2];omega)]
      simp
   exact (e3 m1).symm⟩,HB.out⟩
 have hmb:((m1:Int) == 0)=false:=by simp;omega
 have hmb':((m2:Int) == 0)=false:=by simp;omega
 obtain ⟨m,hm⟩:∃ m,m=m1+m2-1:=⟨_,rfl⟩
 have hmi:(m1:Int)+m2-1=m:=by omega
 have hmk:=make_zs m (by omega)
 have hZ0:=ZB.made W2 m
 have hE0:=EntF.zeros (W2.alloc (.cells (zcs (List.replicate m (false,none,0,0))).toArray 25)) w.heap.size m
 have hbm:Below W2.heap.size W2 (W2.alloc (.cells (zcs (List.replicate m (false,none,0,0))).toArray 25)):=bA
 have HM:=ah hm
 clear hm
 go_wp2_with fail
 obtain ⟨g,hg⟩:∃ g,g=W2.heap.size:=⟨_,rfl⟩
 generalize W2.alloc (.cells (zcs (List.replicate m (false,none,0,0))).toArray 25)=W3 at *
 rw [<- hg] at hZ0 hr1 hr2 hbm ⊢
 have HG:=ah (show w.heap.size<=g by rw [hg];exact HB.out.size)
 have HBG:=ah (show ∀ W:World,Below g W2 W->Below w.heap.size w W from fun W hb=>HB.out.trans (hb.mono HG.out))
 have HR1:=ah hr1
 have HR2:=ah hr2
 clear hmk hg hr1 hr2
 go_loopw [31] (fun iv wr=>∃ (i:Nat) (E:List Ent),iv=.int .i64 i/\i<=m1/\ZB wr g E/\Hid (E.length=m)/\EntF wr w.heap.size E (Pz.cvp (Pz.co M1) (Pz.co M2) i)/\Below g W2 wr) (fun iv _=>m1-(intOf iv).toNat)
 case atStart=>exact ⟨0,_,rfl,nZ,hZ0,ah (by simp),hE0,hbm⟩
 case round =>
  clear hZ0 hE0 hbm
  obtain ⟨i,E,rfl,hi,hZ,hEl,hE,hBg⟩:=hrel
  have hB:=HBG.out _ hBg
  by_cases him:i=m1
  ·subst him
   have ho:=(hZ.own hE HG.out hEl.out (by unfold maxLen;omega))
   have hrd:=ho.rd (N:=N+N'+1) (fun z hz=>by
    obtain ⟨t,_,rfl⟩:=List.mem_map.1 hz
    exact Pz.cvp_zl HCM.out.1 HCM.out.2 (by omega) t)
   go_wp2_with fail
   refine (znorm_any hrd (by omega) (by omega)).mono ?_
   rintro _ W4 ⟨A4,n4,c4,M4,rfl,ho4,hM4,hb4⟩
   go_wp2
   go_ret
   refine ⟨_,_,_,M4,rfl,ho4.base hB.size,ah (hM4.out.congr fun t=>?_),hB.trans (hb4.mono hB.size)⟩
   rw [HEQ.out t]
   rcases Nat.lt_or_ge t m with ht | ht
   ·rw [Pz.co_get (z:=Pz.cvp (Pz.co M1) (Pz.co M2) i t) (by rw [List.getElem?_map,List.getElem?_range ht];rfl)]
   ·rw [Pz.co_ge (by simpa using ht),Pz.cvp_above (k:=m2) (fun i hi=>Pz.co_ge (by rw [HLM.out.2];exact hi)) (by have:=HM.out;omega)]
  ·have hil:i < m1:=by omega
   clear him
   have hili:(i:Int) < (m1:Int):=by omega
   obtain ⟨ad,s,A3,n3,c3,x,rfl,hbk,hx0,hx1,hrx,hn3,hx⟩:=zs_at HR1.out hil
   obtain ⟨hy0,hy1⟩:=zs_cells hBg hbk hx0 hx1
   obtain ⟨W4,HW4⟩:∃ W,W=wr.alloc (.cells #[.bool s,.slice A3 n3 c3] 25):=⟨_,rfl⟩
   have hX:ZC W4 wr.heap.size s A3 n3 c3:=by rw [HW4];exact ZC.new wr s A3 n3 c3
   have hb4:Below wr.heap.size wr W4:=by rw [HW4];exact bA
   have HW4:=ah HW4
   have HX:=ah (show Pz.co M1 i=x from Pz.co_get hx.out)
   go_wp2_with fail
   rw [<- HW4.out]
   clear HW4 hx0 hx1 hx hy0 hy1
   clear HW4
   obtain ⟨gx,hgx⟩:∃ g,g=wr.heap.size:=⟨_,rfl⟩
   rw [<- hgx] at hX ⊢
   have HGX:=ah (show g < gx by rw [hgx];exact hZ.lt)
   clear hgx
   have hZ4:=hZ.next hb4
   have hE4:=hE.next hb4
   have hB4:=hBg.trans (hb4.mono (Nat.le_of_lt hZ.lt))
   have HRX:=ah hrx
   clear hZ hE hB hBg hrx hb4
   go_loopw [38] (fun kv wr=>∃ (k:Nat) (E:List Ent),kv=.int .i64 k/\k<=m2/\ZB wr g E/\Hid (E.length=m)/\EntF wr w.heap.size E (Pz.cvm (Pz.co M1) (Pz.co M2) i k)/\Below g W2 wr/\ZC wr gx s A3 n3 c3) (fun kv _=>m2-(intOf kv).toNat)
   case atStart=>exact ⟨0,E,rfl,nZ,hZ4,hEl,hE4.congr fun t=>(Pz.cvm_zero _ _ _ _).symm,hB4,hX⟩
   case round =>
    clear hZ4 hE4 hB4 hX hEl
    obtain ⟨k,E,rfl,hk,hZ,hEl,hE,hBg,hX⟩:=hrel
    by_cases hkm:k=m2
    ·subst hkm
     go_wp2
     go_roundw
     case rel=>exact ⟨i+1,E,by go_num,by omega,hZ,hEl,hE.congr fun t=>Pz.cvm_end (fun j hj=>Pz.co_ge (by rw [HLM.out.2];exact hj)) i t,hBg⟩
     case measure=>simp [intOf];omega
    ·have hkl:k < m2:=by omega
     clear hkm
     have hkli:(k:Int) < (m2:Int):=by omega
     obtain ⟨ad',s',A5,n5,c5,y,rfl,hbk',hx0,hx1,hry,hn5,hy⟩:=zs_at HR2.out hkl
     obtain ⟨hy0,hy1⟩:=zs_cells hBg hbk' hx0 hx1
     obtain ⟨t,ht⟩:∃ t,t=i+k:=⟨_,rfl⟩
     have hti:(i:Int)+k=(t:Int):=by omega
     have htl:t < m:=by have:=HM.out;omega
     have htli:(t:Int) < (m:Int):=by omega
     have htw:IntKind.i64.wrap ((i:Int)+k)=(t:Int):=by rw [IntWalk.i64_in _ (by omega)];exact hti
     have ht0:(0:Int)<=(t:Int):=by omega
     obtain ⟨W5,HW5⟩:∃ W,W=wr.alloc (.cells #[.bool s',.slice A5 n5 c5] 25):=⟨_,rfl⟩
     have hY:ZC W5 wr.heap.size s' A5 n5 c5:=by rw [HW5];exact ZC.new wr s' A5 n5 c5
     have hb5:Below wr.heap.size wr W5:=by rw [HW5];exact bA
     have HW5:=ah HW5
     have HYV:=ah (show Pz.co M2 k=y from Pz.co_get hy.out)
     go_upto_region 11 with fail
     rw [<- HW5.out]
     clear HW5 hx0 hx1 hy0 hy1 hy
     clear HW5
     obtain ⟨gy,hgy⟩:∃ g,g=wr.heap.size:=⟨_,rfl⟩
     rw [<- hgy] at hY ⊢
     clear hgy
     have hZ5:=hZ.next hb5
     have HX5:=ah (hX.next hb5)
     have HY5:=ah hY
     have HZ5:=ah hZ5
     have HE5:=ah (hE.next hb5)
     have HB5:=ah (hBg.trans (hb5.mono (Nat.le_of_lt hZ.lt)))
     have HRY:=ah hry
     have HT:=ah ht
     obtain ⟨e,he⟩:∃ e,E[t]?=some e:=⟨E[t]'(by rw [hEl.out];exact htl),gE _⟩
     obtain ⟨s0,A0,n0,c0⟩:=e
     have HE0:=ah (HE5.out t _ he)
     have HEE:=ah he
     have HN0:=ah (show n0<=N+N'+1 by
      have e3:=HE0.out.len
      simp only at e3
      rw [e3]
      exact Pz.cvm_zl HCM.out.1 HCM.out.2 (by omega) k t)
     clear hZ hX hY hb5 hE hBg hry ht he hZ5 hti
     have HBD:=ah (Below.refl W5.heap.size W5).drew
     have HGS:=ah (show g<=W5.heap.size from Nat.le_of_lt HZ5.out.lt)
     have HMU:=ah (imul_any (((HRX.out.below HB5.out).more HGS.out).next HBD.out) (((HRY.out.below HB5.out).more HGS.out).next HBD.out) (by omega) (by omega))
     have HLX:=ah (show Zz.zl x<=N/\Zz.zl y<=N' from ⟨by rw [<- HX.out];exact HCM.out.1 i,by rw [<- HYV.out];exact HCM.out.2 k⟩)
     obtain ⟨k0,k1⟩:=HZ5.out.cells HEE.out
     have hx0:=HX5.out.c0
     have hx1:=HX5.out.c1
     have hy0:=HY5.out.c0
     have hy1:=HY5.out.c1
     simp only at k0 k1
     go_region_with (first
      | (go_at_call 146;refine HMU.out.mono ?_;rintro _ W6 ⟨s6,A6,n6,c6,z6,rfl,ho6,hz6,hb6⟩;have HB6:=ah (HBD.out.trans hb6);have la0:=((HZ5.out.next HB6.out).cells HEE.out).1;have la1:=((HZ5.out.next HB6.out).cells HEE.out).2;simp only at la0 la1)
      | (go_at_call 167;refine (add_any (HE0.out.next HB6.out).rd ho6.rd (by have:=HN0.out;omega) (by rw [ho6.len,hz6.out];have:=Zz.zl_mul x y;have:=HLX.out;omega)).mono ?_;rintro _ W7 ⟨s7,A7,n7,c7,z7,rfl,ho7,hz7,hb7⟩;have HB7:=tM HB6 hb7;have lb0:=((HZ5.out.next HB7.out).cells HEE.out).1;have lb1:=((HZ5.out.next HB7.out).cells HEE.out).2;have lf0:=(HZ5.out.next HB7.out).frozen (t*2);have lf1:=(HZ5.out.next HB7.out).frozen (t*2+1);simp only at lb0 lb1))
     all_goals
      have HZ7:=ah ((HZ5.out.next HB7.out).store t (s7,A7,n7,c7))
      have HE7:=ah ((HE5.out.next HB7.out).store (j:=t) (e:=(s7,A7,n7,c7)) (z:=z7) (HZ5.out.next HB7.out) (ho7.base (nT HG.out (nT HGS.out HB6.out.size))))
      have HX7:=ah (((HX5.out.next HB7.out).far (p:=⟨g,t*2,none⟩) (Nat.ne_of_gt HGX.out) (.bool s7)).far (p:=⟨g,t*2+1,none⟩) (Nat.ne_of_gt HGX.out) (.slice A7 n7 c7))
      have HBF:=ah (((HB5.out.trans (HB7.out.mono HGS.out)).setCell (p:=⟨g,t*2,none⟩) nR (.bool s7)).setCell (p:=⟨g,t*2+1,none⟩) nR (.slice A7 n7 c7))
      have HFA:=ah (show z7=Pz.cvm (Pz.co M1) (Pz.co M2) i k (i+k)+Pz.co M1 i*Pz.co M2 k by rw [hz7.out,hz6.out,HT.out,HX.out,HYV.out])
      clear k0 k1 hx0 hx1 hy0 hy1 la0 la1 lb0 lb1 lf0 lf1 hb6 hb7 ho6 ho7
      go_wp2
      go_roundw
      case rel=>exact ⟨k+1,E.set t (s7,A7,n7,c7),by go_num,by omega,HZ7.out,ah (by rw [List.length_set];exact hEl.out),HE7.out.congr fun u=>by rw [Pz.cvm_step,HT.out,HFA.out],HBF.out,HX7.out⟩
      case measure=>simp [intOf];omega
theorem qmul_poly {N S T:Nat}{A A':Option Addr}{n c n' c':Nat}{La Lb:List Rat}{Z Y:Nat->Int}{D E:Int}{w:World}(h:RdQs w w.heap.size N A n c (La.map pr))(h':RdQs w w.heap.size N A' n' c' (Lb.map pr))(hC:Com S (Pq.co La) Z D)(hC':Com T (Pq.co Lb) Y E)(hnn:n+n'<=1048576)(hN:N<=200000000000)(hST:S+T+1<=200000000000)(h1N:1<=N) :
  Calls Tryz.prog 183 #[.slice A n c,.slice A' n' c'] w (RetPq (Pq.cv (Pq.co La) (Pq.co Lb)) w):=by
 have hla:=h.lenp
 have hlb:=h'.lenp
 have HPC:=ah (cJ (parts_com hC) (parts_com hC'))
 have HDN:=ah (cJ (com_denF hC) (com_denF hC'))
 have HL:=ah (cJ hla hlb)
 have hn:n<=1048576:=by omega
 have hn':n'<=1048576:=by omega
 clear hla hlb hC hC'
 go_enter Tryz.func183,Tryz.ntmps183
 go_wp2_with fail
 refine (parts_any h HDN.out.1 hn hN (by omega) h1N).mono ?_
 rintro _ W2 ⟨s2,A2,n2,c2,y2,A3,n3,c3,P,rfl,ho2,ho3,hv2,hb2⟩
 obtain ⟨rfl,rfl⟩:=hv2.out
 obtain ⟨W3,HW3⟩:∃ W,W=W2.alloc (.cells #[.bool s2,.slice A2 n2 c2] 25):=⟨_,rfl⟩
 have hb3:Below W2.heap.size W2 W3:=by rw [HW3];exact bA
 have hX:ZC W3 W2.heap.size s2 A2 n2 c2:=by rw [HW3];exact ZC.new W2 s2 A2 n2 c2
 have hb13:=hb2.trans (hb3.mono hb2.size)
 have h'3:=h'.next hb13
 have ho2:=ho2.next hb3
 have ho3:=ho3.next hb3
 have HW3:=ah HW3
 clear hb2 hb3 h h' hv2
 go_wp2_with fail
 rw [<- HW3.out]
 clear HW3
 clear HW3
 generalize W2.heap.size=g2 at *
 refine (parts_any h'3 HDN.out.2 hn' hN (by omega) h1N).mono ?_
 rintro _ W4 ⟨s4,A4,n4,c4,y4,A5,n5,c5,Q,rfl,ho4,ho5,hv4,hb4⟩
 obtain ⟨rfl,rfl⟩:=hv4.out
 obtain ⟨W5,HW5⟩:∃ W,W=W4.alloc (.cells #[.bool s4,.slice A4 n4 c4] 25):=⟨_,rfl⟩
 have hb5:Below W4.heap.size W4 W5:=by rw [HW5];exact bA
 have hY:ZC W5 W4.heap.size s4 A4 n4 c4:=by rw [HW5];exact ZC.new W4 s4 A4 n4 c4
 have hb35:=hb4.trans (hb5.mono hb4.size)
 have hX5:=hX.next hb35
 have ho2:=ho2.next hb35
 have ho3:=ho3.next hb35
 have ho4:=ho4.next hb5
 have ho5:=ho5.next hb5
 have HB5:=ah (hb13.trans (hb35.mono hb13.size))
 have HLP:=ah (show n3=n/\n5=n' from ⟨by rw [<- ho3.len,<- HL.out.1];exact List.length_map ..,by rw [<- ho5.len,<- HL.out.2];exact List.length_map ..⟩)
 have HW5:=ah HW5
 clear hb4 hb5 hb13 hb35 hX h'3 hv4
 go_upto_region 3 with fail
 rw [<- HW5.out]
 clear HW5
 clear HW5
 generalize W4.heap.size=g4 at *
 have HCE:=ah (show ∀ W:World,Below W5.heap.size W5 W->W.cell? ⟨g2,0,none⟩=some (.bool s2)/\W.cell? ⟨g2,1,none⟩=some (.slice A2 n2 c2)/\W.cell? ⟨g4,0,none⟩=some (.bool s4)/\W.cell? ⟨g4,1,none⟩=some (.slice A4 n4 c4) from fun W hb=>⟨(hX5.next hb).c0,(hX5.next hb).c1,(hY.next hb).c0,(hY.next hb).c1⟩)
 have HZ:=ah (show ∀ W:World,Below W5.heap.size W5 W->RdZ W W.heap.size s2 A2 n2 c2 (denL La)/\RdZ W W.heap.size s4 A4 n4 c4 (denL Lb)/\RdZs W W.heap.size S A3 n3 c3 (numL La)/\RdZs W W.heap.size T A5 n5 c5 (numL Lb) from fun W hb=>⟨(ho2.next hb).rd,(ho4.next hb).rd,rd_st (ho3.next hb) HPC.out.1.sz,rd_st (ho5.next hb) HPC.out.2.sz⟩)
 have HNN:=ah (show n2<=S/\n4<=T from ⟨by rw [ho2.len];exact HPC.out.1.dz,by rw [ho4.len];exact HPC.out.2.dz⟩)
 have HBD:=ah (Below.refl W5.heap.size W5).drew
 have hn3:n3<=1048576:=by rw [HLP.out.1];exact hn
 have hn5:n5<=1048576:=by rw [HLP.out.2];exact hn'
 obtain ⟨a0,a1,b0,b1⟩:=HCE.out W5 bR
 clear ho2 ho3 ho4 ho5 hX5 hY
 go_region_held3 (fun w'=>w'.cell? ⟨g2,0,none⟩=some (.bool s2)/\w'.cell? ⟨g2,1,none⟩=some (.slice A2 n2 c2)/\w'.cell? ⟨g4,0,none⟩=some (.bool s4)/\w'.cell? ⟨g4,1,none⟩=some (.slice A4 n4 c4))
  (first | exact HCE.out _ HB8.out | exact HCE.out _ HB7.out | exact HCE.out _ HB6.out | exact HCE.out _ HBD.out)
  (first
   | (go_at_call 218;refine (qover_any (N:=S+T+1) HR6.out ho7.rd HN7.out HN6.out hST HNZ.out).mono ?_;rintro _ W8 ⟨A8,n8,c8,M8,rfl,ho8,hM8,hb8⟩;have HB8:=tM HB7 hb8)
   | (have hx:=HB6.out;clear hx;go_at_call 146;refine (imul_any (HZ.out _ HB6.out).1 (HZ.out _ HB6.out).2.1 (by have:=HNN.out;omega) (by have:=HNN.out;omega)).mono ?_;rintro _ W7 ⟨s7,A7,n7,c7,y7,rfl,ho7,hy7,hb7⟩;have HB7:=tM HB6 hb7;have HR6:=ah (HR6.out.next hb7);have HN7:=ah (show n7<=S+T+1 by { rw [ho7.len,hy7.out];have e1:=Zz.zl_mul (denL La) (denL Lb);have e2:=HPC.out.1.dz;have e3:=HPC.out.2.dz;omega });have HNZ:=ah (show y7 ≠ 0 by { rw [hy7.out];exact Int.mul_ne_zero HPC.out.1.ne HPC.out.2.ne }))
   | (go_at_call 219;refine (zmul_any (HZ.out _ HBD.out).2.2.1 (HZ.out _ HBD.out).2.2.2 (by omega) (by omega) (by omega) (by omega)).mono ?_;rintro _ W6 ⟨A6,n6,c6,M6,rfl,ho6,hM6,hb6⟩;have HB6:=ah (HBD.out.trans hb6);have HR6:=ah (rd_of' ho6 hM6.out.2 (fun t=>(com_pcv HPC.out.1 HPC.out.2 (n:=n3) (by omega)).sz t));have HN6:=ah (show n6<=1048576 by { rw [<- ho6.len];exact nT (Pz.nz_len hM6.out.1 (k:=n3+n5) fun i hi=>by { rw [hM6.out.2];exact Pz.cvp_above (k:=n5) (fun t ht=>Pz.co_ge (by { show (List.map _ Lb).length<=t;rw [List.length_map,HL.out.2,<- HLP.out.2];exact ht })) (by omega) }) (by rw [HLP.out.1,HLP.out.2];exact hnn) })))
 all_goals
  have HF:=tM HB5 HB8.out
  have HO:=ah (ho8.base (b':=w.heap.size) (nT HB5.out.size HB7.out.size))
  have HV:=ah (show Pq.IsP (Pq.cv (Pq.co La) (Pq.co Lb)) M8 from hM8.out.congr fun i=>by
   have e1:=(com_pcv HPC.out.1 HPC.out.2 (n:=n3) (by omega)).at_ i
   rw [hM6.out.2,hy7.out,<- e1]
   exact Pq.pcv_all _ (fun k hk=>Pq.co_ge (by rw [HL.out.1,<- HLP.out.1];exact hk)) i)
  clear a0 a1 b0 b1 hb6 hb7 hb8 ho6 ho7 ho8
  go_wp2
  go_ret
  exact ⟨_,_,_,M8,rfl,HO.out,HV,HF.out⟩
end Go.Proofs.YtjnklbfhelbjgaaGreat
namespace Go.Proofs.YtjnklbfhelbjgaaGreat
open Go.Shelf
end Go.Proofs.YtjnklbfhelbjgaaGreat
namespace Go.Proofs.YtjnklbfhelbjgaaGreat
open Go.RowKit Go.IntWalk
attribute [local go_sem ↓] Go.wp_at_zero Go.wp_at_succ
end Go.Proofs.YtjnklbfhelbjgaaGreat
