/- Sr13. -/
import Derived.Test.YtjnklbfhelbjgaaGreatSr12
import Derived.Test.YtjnklbfhelbjgaaGreatSr10
import Derived.Test.YtjnklbfhelbjgaaGreatSr07
import Derived.Test.YtjnklbfhelbjgaaGreatSr06
import Derived.Test.YtjnklbfhelbjgaaGreatSr00
set_option maxRecDepth 100000
set_option maxHeartbeats 32000000
set_option linter.all false
namespace Go.Proofs.YtjnklbfhelbjgaaGreat
open Go.RowKit Go.IntWalk
def rowF {α:Type}(n:Nat)(F:Nat->α):List α:=(List.range n).map F
section
variable {α:Type}{n j:Nat}{F G:Nat->α}{x d:α}{LL:List α}
theorem rowF_len (n:Nat)(F:Nat->α):(rowF n F).length=n:=by unfold rowF;simp
theorem rowF_get (hj:j < n):(rowF n F)[j]?=some (F j):=by unfold rowF;simp [hj]
theorem rowF_congr (h:∀ i,i < n->F i=G i):rowF n F=rowF n G:=List.map_congr_left fun i hi=>h i (List.mem_range.1 hi)
theorem rowF_ext (hl:LL.length=n)(h:∀ j,j < n->LL[j]?=some (F j)):LL=rowF n F:=by
 refine List.ext_getElem? fun i=>?_
 rcases Nat.lt_or_ge i n with hi | hi
 ·rw [h i hi,rowF_get hi]
 ·rw [gN (by omega),gN (by rw [rowF_len];exact hi)]
theorem rowF_set (n:Nat)(F:Nat->α)(j:Nat)(x:α):(rowF n F).set j x=rowF n (fun k=>if k=j then x else F k):=by
 refine rowF_ext (by rw [List.length_set,rowF_len]) fun i hi=>?_
 by_cases h:j=i
 ·subst h
  rw [List.getElem?_set_self (by rw [rowF_len];exact hi),if_pos rfl]
 ·rw [List.getElem?_set_ne h,rowF_get hi,if_neg (fun e=>h e.symm)]
theorem rowF_list (LL:List α)(d:α):rowF LL.length (fun i=>LL.getD i d)=LL:=(rowF_ext rfl fun j hj=>by rw [List.getD_eq_getElem?_getD,gE hj];rfl).symm
theorem rowF_snoc (n:Nat)(F:Nat->α):rowF n F ++ [F n]=rowF (n+1) F:=by unfold rowF;rw [List.range_succ,List.map_append];rfl
theorem rowF_mem (h:x ∈ rowF n F):∃ i,i < n/\F i=x:=by
 obtain ⟨i,hi,e⟩:=List.mem_map.1 h
 exact ⟨i,List.mem_range.1 hi,e⟩
end
theorem nilsP_made (n:Nat):madeCells #[Value.slice none 0 0] n=((List.replicate n ((none,0,0):Option Addr × Nat × Nat)).map psl).toArray:=by
 unfold madeCells
 apply Array.ext
 ·simp
 ·intro i h1 h2
  simp [Nat.mod_one,psl]
theorem make_ps (n:Nat)(hn:n<=1048576)(w:World) :
  (Instr.makeSlice 30 (.int .i64 (n:Int)) (.int .i64 (n:Int))).run Tryz.prog w=.ok (.slice (some ⟨w.heap.size,0,none⟩) n n) (w.alloc (.cells (madeCells #[.slice none 0 0] n) 73)) :=
 run_make_row' 30 73 (.slice none 0 0) 24 Tryz.underlying30 infoPoly rfl .i64 .i64 n (by omega) (by omega) w
theorem OwP.made (w:World){b n:Nat}(hb:b<=w.heap.size)(hn:n<=1048576):OwP (w.alloc (.cells (madeCells #[.slice none 0 0] n) 73)) b (some ⟨w.heap.size,0,none⟩) n n (rowF n fun _=>[]):=by
 refine ⟨List.replicate n (none,0,0),⟨by simp,.inr ⟨w.heap.size,n,_,rfl,hb,heap_alloc_new w _,nR,by unfold maxLen;omega,by rw [size_madeCells];omega,?_⟩⟩,List.length_replicate ..,by rw [List.length_replicate,rowF_len],fun j e L he hL=>?_⟩
 ·rw [nilsP_made]
  exact List.take_of_length_le (by simp)
 ·have hj:j < n:=by
   rcases Nat.lt_or_ge j n with h | h
   ·exact h
   ·rw [gN (by rw [List.length_replicate];exact h)] at he;cases he
  rw [rowF_get hj] at hL
  rw [List.getElem?_replicate,if_pos hj] at he
  injection he with he
  injection hL with hL
  subst he hL
  exact OwQp.nil _ _ _
section
variable {α:Type}{T:TypeId}{P:World->Nat->Option Addr->Nat->Nat->α->Prop}{w wr w1:World}{b n c g j t:Nat}{A A2:Option Addr}{n2 c2:Nat}{LL:List α}{L:α}{E:List (Option Addr × Nat × Nat)}
theorem OwL.put (hP:Stay T P)(h:OwL T P w b (some ⟨g,0,none⟩) n c LL)(hj:j < n)(he:P w b A2 n2 c2 L) :
  b<=g/\g < w.heap.size/\w.frozen? ⟨g,j,none⟩=false/\OwL T P (w.setCell ⟨g,j,none⟩ (.slice A2 n2 c2)) b (some ⟨g,0,none⟩) n c (LL.set j L)/\KeepL T w (w.setCell ⟨g,j,none⟩ (.slice A2 n2 c2)):=by
 obtain ⟨E,h1,h2,h3⟩:=h
 obtain ⟨g1,e1,e2,e3,e4,e5⟩:=own_px h1 (by omega)
 injection e1 with e1
 injection e1 with e1
 subst e1
 have hk:=e3.keepL j (.slice A2 n2 c2)
 refine ⟨e2,e3.lt,e3.frozen j,⟨E.set j (A2,n2,c2),⟨by rw [List.length_map,List.length_set,h2];omega,?_⟩,by rw [List.length_set];exact h2,(h3.set j (e:=(A2,n2,c2)) he).keep hP hk⟩,hk⟩
 rcases h1.2 with ⟨k1,_⟩ | ⟨g',cap,cur,k1,k2,k3,k4,k5,k6,k7⟩
 ·cases k1
 ·injection k1 with k1 k1' k1''
  injection k1 with k1
  injection k1 with k1
  subst k1 k1''
  refine .inr ⟨g,c,cur.setIfInBounds j (.slice A2 n2 c2),rfl,e2,heap_setCell_same w g j cur T _ k3,k4,k5,by simpa using k6,?_⟩
  rw [Array.toList_setIfInBounds,List.take_set,k7,List.map_set]
  rfl
theorem OwL.cell (h:OwL T P w b (some ⟨g,0,none⟩) n c LL)(hj:j < n):∃ (A1:Option Addr) (n1 c1:Nat) (L:α),g < w.heap.size/\w.cell? ⟨g,j,none⟩=some (.slice A1 n1 c1)/\P w b A1 n1 c1 L/\Hid (LL[j]?=some L):=by
 obtain ⟨g1,A1,n1,c1,L,e,h1,h2,h3,h4⟩:=h.at_ hj
 injection e with e
 injection e with e
 subst e
 exact ⟨A1,n1,c1,L,h1,h2,h3,h4⟩
end
section
variable {w wr w1:World}{b n c t:Nat}{A:Option Addr}{MM:List (List (List Rat))}{LL:List (List Rat)}{E:List (Option Addr × Nat × Nat)}{z v':Value}{o:Obj}
theorem tp_more {e:Option Addr × Nat × Nat}(hT:PX wr t 102 [.slice A n c,z])(hE:wr.ownsRow b 30 1 (.slice A n c) n (E.map psl))(hEl:E.length=n)(hEn:EntL OwP wr b E MM)(he:OwP wr b e.1 e.2.1 e.2.2 LL)
  (hown':w1.ownsRow b 30 1 v' (n+1) (E.map psl ++ [.slice e.1 e.2.1 e.2.2])) (hg:(wr.alloc o).grownBy w1 (Value.slice A n c).ownBlock) :
  ∃ (A':Option Addr) (c':Nat),v'=.slice A' (n+1) c'/\w1.cell? ⟨t,0,none⟩=some (.slice A n c)/\w1.frozen? ⟨t,0,none⟩=false/\PX (w1.setCell ⟨t,0,none⟩ v') t 102 [v',z]/\OwPp (w1.setCell ⟨t,0,none⟩ v') b A' (n+1) c' (MM ++ [LL]):=by
 have hba:Below wr.heap.size wr (wr.alloc o):=bA
 have hE2:=row_next hE hba
 obtain ⟨A',c',hv,h5⟩:=OwL.more stayPp he hE2 hEl hEn hown' hg
 obtain ⟨A9,c9,hv9,k1,k2,k3,k4,k5,k6⟩:=tpush hT hE hown' hg
 have hT1:=(hT.next hba).grown hE2 (by decide) hg
 refine ⟨A',c',hv,k1,k2,k3,?_⟩
 exact OwL.keep (OwL.stay (stayQ (by decide) (by decide)) (by decide)) (by decide) h5 (hT1.keepL 0 v')
end
attribute [local go_sem ↓] Go.wp_at_zero Go.wp_at_succ
def RetFt (PP:List (List (List RawQ)))(w:World)(e:Ending)(w':World):Prop :=
 (∃ kk:Int,e=.returned (.tuple #[.pointer none,.int .i64 kk])/\Hid (kk ≠ 0/\FitV PP kk)/\Below w.heap.size w w') ∨
 (∃ t:Nat,e=.returned (.tuple #[.pointer (some ⟨t,0,none⟩),.int .i64 0])/\Hid (FitV PP 0)/\Tg w' w.heap.size t (nn PP) (colq (nn PP))/\Below w.heap.size w w')
theorem RetFt.bad {PP:List (List (List RawQ))}{w w':World}{kk:Int}(h:FitV PP kk)(h0:kk ≠ 0)(hb:Below w.heap.size w w'):RetFt PP w (.returned (.tuple #[.pointer none,.int .i64 kk])) w':=.inl ⟨kk,rfl,ah ⟨h0,h⟩,hb⟩
theorem okPP_more {PP:List (List (List RawQ))}{j:Nat}{RR:List (List RawQ)}(hp:PP[j]?=some RR)(h:okPP (PP.take j))(h1:∀ R ∈ RR,okD (R.map toQ)):okPP (PP.take (j+1)):=fun R1 h2=>by
 rw [List.take_add_one,hp] at h2
 rcases List.mem_append.1 h2 with h3 | h3
 ·exact h R1 h3
 ·simp at h3
  subst h3
  exact h1
theorem okD_more {RR:List (List RawQ)}{i:Nat}{R:List RawQ}(hp:RR[i]?=some R)(h:∀ R ∈ RR.take i,okD (R.map toQ))(h1:okD (R.map toQ)):∀ R ∈ RR.take (i+1),okD (R.map toQ):=fun R1 h2=>by
 rw [List.take_add_one,hp] at h2
 rcases List.mem_append.1 h2 with h3 | h3
 ·exact h R1 h3
 ·simp at h3
  subst h3
  exact h1
theorem nn_more {PP:List (List (List RawQ))}{j:Nat}{RR:List (List RawQ)}(hp:PP[j]?=some RR):nn (PP.take j) ++ [RR.map nqp]=nn (PP.take (j+1)):=by
 unfold nn
 rw [List.take_add_one,hp,List.map_append]
 rfl
theorem rect_more {MM:List (List (List Rat))}{j k:Nat}{LL:List (List Rat)}(hp:MM[j]?=some LL)(h:∀ L ∈ MM.take j,L.length=k)(h1:LL.length=k):∀ L ∈ MM.take (j+1),L.length=k:=fun R1 h2=>by
 rw [List.take_add_one,hp] at h2
 rcases List.mem_append.1 h2 with h3 | h3
 ·exact h R1 h3
 ·simp at h3
  subst h3
  exact h1
theorem colq_zero {MM:List (List (List Rat))}{LL:List (List Rat)}(hp:MM[0]?=some LL):LL.length=colq MM:=by
 cases MM with
 | nil=>cases hp
 | cons a t=>simp at hp;subst hp;rfl
theorem fit_any {N K J:Nat}{A:Option Addr}{n c:Nat}{PP:List (List (List RawQ))}{w:World}(h:RdRpp w w.heap.size N K J A n c PP)(hn:n<=1048576)(hJ:J<=1048576)(hK:K<=1048576)(hN:N<=1000000000)(h1N:1<=N) :
  Calls Tryz.prog 63 #[.slice A n c] w (RetFt PP w):=by
 have HL:=ah h.len
 obtain ⟨i0,hi,hz0,hz1,hz2⟩:=info_parts infoPoly
 obtain ⟨i1,hjf,hy0,hy1,hy2⟩:=info_parts infoRow
 have HX:=ah (show ∀ W,Below w.heap.size w W->RdRpp W W.heap.size N K J A n c PP from fun W hb=>h.next hb)
 have HFN:=ah (fun hok:okPP PP=>fine_nn h hok hn hJ hK h1N)
 clear h
 obtain ⟨W1,HW1⟩:∃ W,W=w.alloc (.cells #[.slice none 0 0,.int .i64 0] 102):=⟨_,rfl⟩
 have hb1:Below w.heap.size w W1:=by rw [HW1];exact bA
 obtain ⟨t,ht⟩:∃ g,g=w.heap.size:=⟨_,rfl⟩
 have HN0:=ah (show PX W1 t 102 [.slice none 0 0,.int .i64 0] by rw [HW1,ht];exact PX.new w _ [.slice none 0 0,.int .i64 0])
 have HGW:=ah (show w.heap.size<=t by rw [ht];exact nR)
 have HB0:=ah hb1
 have HW1:=ah HW1
 clear hb1
 go_enter Tryz.func63,Tryz.ntmps63
 go_wp2_with fail
 rw [<- HW1.out,<- ht]
 clear HW1 ht
 clear HW1
 go_loopw [18] (fun iv wr=>∃ (j c':Nat) (A':Option Addr),iv=.int .i64 (j:Int)/\j<=n/\Hid (PX wr t 102 [.slice A' j c',.int .i64 0])/\OwPp wr w.heap.size A' j c' (nn (PP.take j))/\Hid (okPP (PP.take j))/\Below w.heap.size w wr) (fun iv _=>n-(intOf iv).toNat)
 case atStart=>exact ⟨0,0,none,rfl,nZ,HN0,OwL.nil _ _ _ _,ah (fun R hR=>by simp at hR),HB0.out⟩
 case round =>
  obtain ⟨j,c',A',rfl,hj,hT,ho,hok,hB⟩:=hrel
  by_cases hjr:j=n
  ·have HO:=ah (show OwPp wr w.heap.size A' j c' (nn PP) by rw [<- List.take_of_length_le (l:=PP) (i:=j) (by rw [HL.out,hjr];exact nR)];exact ho)
   have HOK:=ah (show okPP PP by rw [<- List.take_of_length_le (l:=PP) (i:=j) (by rw [HL.out,hjr];exact nR)];exact hok.out)
   have HBF:=ah hB
   have HT:=hT
   subst hjr
   have m0:=HT.out.cell (i:=0) rfl
   clear ho hB hok hT
   go_wp2_with fail
   clear m0
   obtain ⟨wo,rfl⟩:∃ V,V=wr:=⟨_,rfl⟩
   have HLN:=ah HO.out.len
   go_loopw [57] (fun iv wr=>∃ (i:Nat) (kv:Nat),iv=.int .i64 (i:Int)/\i<=j/\Hid (kv=if i=0 then 0 else colq (nn PP))/\Hid (PX wr t 102 [.slice A' j c',.int .i64 (kv:Int)])/\OwPp wr w.heap.size A' j c' (nn PP)/\Hid (∀ L ∈ (nn PP).take i,L.length=colq (nn PP))/\Below w.heap.size w wr) (fun iv _=>j-(intOf iv).toNat)
   case atStart=>exact ⟨0,0,rfl,nZ,ah rfl,HT,HO.out,ah (fun L hL=>by simp at hL),HBF.out⟩
   case round =>
    obtain ⟨i,kv,rfl,hi5,hkv,hT5,ho5,hr5,hB5⟩:=hrel
    by_cases hin:i=j
    ·have HR5:=ah (show Rect (nn PP) by
      have h1:=hr5.out
      rw [List.take_of_length_le (by rw [HLN.out,hin];exact nR)] at h1
      exact h1)
     have HKV:=ah (show kv=colq (nn PP) by
      rw [hkv.out]
      by_cases h0:i=0
      ·rw [if_pos h0]
       have h1:=HLN.out
       rw [<- hin,h0] at h1
       rw [List.length_eq_zero_iff.1 h1]
       rfl
      ·rw [if_neg h0])
     have HTG:=ah (show Tg wr w.heap.size t (nn PP) (colq (nn PP)) from ⟨A',j,c',by rw [<- HKV.out];exact hT5.out,HGW.out,ho5⟩)
     have HB5:=ah hB5
     have m0:=hT5.out.cell (i:=0) rfl
     have m1:=hT5.out.cell (i:=1) rfl
     have HFN2:=ah (HFN.out HOK.out)
     subst hin
     clear hB5 ho5 hT5 hr5 hkv
     by_cases h24:24 < i
     ·have h24i:(24:Int) < (i:Int):=by omega
      have HV:=ah (show FitV PP 4 from .inr (.inr (.inl ⟨rfl,HOK.out,HR5.out,.inl (by rw [HLN.out];exact h24)⟩)))
      clear h24
      go_wp2
      go_ret2
      exact RetFt.bad HV.out (by decide) HB5.out
     ·have h24i:¬(24:Int) < (i:Int):=by omega
      clear h24
      by_cases k24:24 < kv
      ·have k24i:(24:Int) < (kv:Int):=by omega
       have HV:=ah (show FitV PP 4 from .inr (.inr (.inl ⟨rfl,HOK.out,HR5.out,.inr (.inl (by rw [<- HKV.out];exact k24))⟩)))
       clear k24
       go_wp2
       go_ret2
       exact RetFt.bad HV.out (by decide) HB5.out
      ·have k24i:¬(24:Int) < (kv:Int):=by omega
       have HK24:=ah k24
       clear k24
       go_wp2_with fail
       refine (big_any HTG.out HFN2.out (by omega) h1N).mono ?_
       rintro _ W7 ⟨v,rfl,hv,hb7⟩
       have HB7:=tM HB5 hb7
       have HV:=hv
       have HTG7:=ah (HTG.out.next hb7)
       clear hv hb7
       cases v
       case true =>
        have HF:=ah (show FitV PP 4 from .inr (.inr (.inl ⟨rfl,HOK.out,HR5.out,.inr (.inr (HV.out.1 rfl))⟩)))
        clear HV
        go_wp2
        go_ret2
        exact RetFt.bad HF.out (by decide) HB7.out
       case false =>
        have HF:=ah (show FitV PP 0 from .inr (.inr (.inr ⟨rfl,HOK.out,HR5.out,fun e=>by
         rcases e with e | e | e
         ·rw [HLN.out] at e;omega
         ·rw [<- HKV.out] at e;exact HK24.out e
         ·have:=HV.out.2 e
          cases this⟩)))
        clear HV
        go_wp2
        go_ret2
        exact .inr ⟨t,rfl,HF,HTG7.out,HB7.out⟩
    ·have hil:i < j:=by omega
     have hili:(i:Int) < (j:Int):=by omega
     clear hin
     obtain ⟨g6,A6,n6,c6,LL,e6,hgl6,hx6,ho6,hp6⟩:=ho5.at_ hil
     have HL6:=ah ho6.len
     have HO5:=ah ho5
     have HB5:=ah hB5
     by_cases h0:i=0
     ·have HC:=ah (show n6=colq (nn PP) by
       rw [<- HL6.out]
       refine colq_zero ?_
       rw [<- h0]
       exact hp6.out)
      subst h0
      have f1:=hT5.out.frozen 1
      have m1:=hT5.out.cell (i:=1) rfl
      have HT6:=ah (show PX (wr.setCell ⟨t,1,none⟩ (.int .i64 (n6:Int))) t 102 [.slice A' j c',.int .i64 (n6:Int)] from hT5.out.store 1 _)
      have HO6:=ah (show OwPp (wr.setCell ⟨t,1,none⟩ (.int .i64 (n6:Int))) w.heap.size A' j c' (nn PP) from OwL.keep (OwL.stay (stayQ (by decide) (by decide)) (by decide)) (by decide) HO5.out (hT5.out.keepL 1 _))
      have HB6:=ah (show Below w.heap.size w (wr.setCell ⟨t,1,none⟩ (.int .i64 (n6:Int))) from HB5.out.setCell (p:=⟨t,1,none⟩) HGW.out _)
      have q1:=HT6.out.cell (i:=1) rfl
      have HR6:=ah (rect_more hp6.out hr5.out (by rw [HL6.out];exact HC.out))
      subst e6
      clear ho5 hB5 ho6 hr5 hT5 hkv
      go_wp2
      go_roundw
      case rel=>exact ⟨0+1,n6,by go_num,by omega,ah (by rw [if_neg (by omega)];exact HC.out),HT6,HO6.out,HR6,HB6.out⟩
      case measure=>simp [intOf];omega
     ·have hi0:¬(i:Int)=0:=by omega
      have hi0b:((i:Int) == 0)=false:=by simp;omega
      have HKC:=ah (show kv=colq (nn PP) by rw [hkv.out,if_neg h0])
      have m1:=hT5.out.cell (i:=1) rfl
      have HT5:=hT5
      have HI0:=ah h0
      subst e6
      clear ho5 hB5 ho6 hT5 hkv h0
      by_cases hne:n6=kv
      ·have hb3:(n6:Int)=(kv:Int):=by omega
       have HR6:=ah (rect_more hp6.out hr5.out (by rw [HL6.out,hne];exact HKC.out))
       have HKV:=ah (show kv=if i+1=0 then 0 else colq (nn PP) by rw [if_neg (by omega)];exact HKC.out)
       subst hne
       clear hr5
       go_wp2
       go_roundw
       case rel=>exact ⟨i+1,n6,by go_num,by omega,HKV,HT5,HO5.out,HR6,HB5.out⟩
       case measure=>simp [intOf];omega
      ·have hb3:¬(n6:Int)=(kv:Int):=by omega
       have HV:=ah (show FitV PP 2 from .inr (.inl ⟨rfl,HOK.out,fun e=>hne (by rw [HKC.out,<- HL6.out];exact e LL (gM hp6.out))⟩))
       clear hne hr5
       go_wp2
       go_ret2
       exact RetFt.bad HV.out (by decide) HB5.out
  ·have hjl:j < n:=by omega
   have hjli:(j:Int) < (n:Int):=by omega
   obtain ⟨wo,rfl⟩:∃ V,V=wr:=⟨_,rfl⟩
   clear hjr
   obtain ⟨ad,A1,n1,c1,RR,rfl,hbk,hx,hr1,hn1,hp⟩:=rpp_at (HX.out wo hB) hjl
   have HOT:=ah ho
   have HT:=hT
   have HB3:=ah hB
   have HRR:=ah (show ∀ W,Below wo.heap.size wo W->RdRp W W.heap.size N K A1 n1 c1 RR from fun W hb=>hr1.next hb)
   have HLR:=ah hr1.len
   have HJL:=ah (show j+1<=1048576 by omega)
   have HOK:=hok
   clear ho hB hr1 hT hok
   go_wp2_with fail
   clear hx
   go_loopw [7,24] (fun ov iv wr=>∃ (i c5:Nat) (A5:Option Addr),ov=.slice A5 i c5/\iv=.int .i64 (i:Int)/\i<=n1/\OwP wr wo.heap.size A5 i c5 ((RR.take i).map nqp)/\Hid (∀ R ∈ RR.take i,okD (R.map toQ))/\Below wo.heap.size wo wr) (fun _ iv _=>n1-(intOf iv).toNat)
   case atStart=>exact ⟨0,0,none,rfl,rfl,nZ,OwL.nil _ _ _ _,ah (fun R hR=>by simp at hR),bR⟩
   case round =>
    obtain ⟨i,c5,A5,rfl,rfl,hi5,ho5,hk5,hB5⟩:=hrel
    by_cases hin:i=n1
    ·have HO5:=ah (show OwP wr w.heap.size A5 i c5 (RR.map nqp) by rw [<- List.take_of_length_le (l:=RR) (i:=i) (by rw [HLR.out,hin];exact nR)];exact OwL.base stayQP ho5 HB3.out.size)
     have HK5:=ah (show ∀ R ∈ RR,okD (R.map toQ) by rw [<- List.take_of_length_le (l:=RR) (i:=i) (by rw [HLR.out,hin];exact nR)];exact hk5.out)
     have HB5:=ah hB5
     have HT5:=ah (HT.out.next hB5)
     obtain ⟨E,hE,hEl,hEn⟩:=OwL.next stayPp HOT.out hB5
     have HE:=ah hE
     have HEN:=ah (cJ hEl hEn)
     have m0:=HT5.out.cell (i:=0) rfl
     have hba:Below wr.heap.size wr (wr.alloc (.cells #[.slice A5 i c5] 30)):=bA
     have m0':(wr.alloc (.cells #[.slice A5 i c5] 30)).cell? ⟨t,0,none⟩=some (.slice A' j c'):=(HT5.out.next hba).cell (i:=0) rfl
     subst hin
     clear ho5 hB5 hE hEl hEn hk5
     go_wp2_with (at_builtin;(refine wpList_append_own _ rfl _ _ 45 rfl w.heap.size 30 i1 (.slice none 0 0) 1 24 Tryz.underlying45 hjf hy0 hy1 hy2 rfl (by decide) _ _ _ rfl (HE.out.alloc _) ⟨wr.heap.size,0,none⟩ 1 1 [.slice A5 i c5] rfl rfl (scell1 wr (.slice A5 i c5) 30) (by simp [Value.oneCell']) (by have:=HJL.out;unfold maxLen;omega) (by have:=HJL.out;omega) (by have h1:=HB5.out.size;have h2:=HB3.out.size;simp;omega) ?_);intro v' w1 hown' hgrow _;(obtain ⟨A9,c9,rfl,e1,e2,hT9,ho9⟩:=tp_more (e:=(A5,i,c5)) HT5.out HE.out HEN.out.1 HEN.out.2 HO5.out hown' hgrow))
     obtain ⟨X0,HX0⟩:∃ W,W=w1.setCell ⟨t,0,none⟩ (.slice A9 (j+1) c9):=⟨_,rfl⟩
     have hbx:=HB3.out.trans (HB5.out.mono HB3.out.size)
     have HB9:=ah (show Below w.heap.size w X0 by
      rw [HX0]
      exact (((hbx.alloc hbx.size (.cells #[.slice A5 i c5] 30)).grown hgrow (by have:=hbx.size;simp;omega) (own_block HE.out))).setCell (p:=⟨t,0,none⟩) HGW.out _)
     rw [<- HX0] at hT9 ho9
     have HT9:=ah hT9
     have HO9:=ah (show OwPp X0 w.heap.size A9 (j+1) c9 (nn (PP.take (j+1))) by
      rw [<- nn_more hp.out]
      exact ho9)
     have HOK9:=ah (okPP_more hp.out HOK.out HK5.out)
     rw [<- HX0]
     clear hown' hgrow HE HEN ho9 hbx hT9 e1 e2 m0 m0' hba HX0
     go_roundw
     case rel=>exact ⟨j+1,c9,A9,by go_num,by omega,HT9,HO9.out,HOK9,HB9.out⟩
     case measure=>simp [intOf];omega
    ·have hil:i < n1:=by omega
     have hili:(i:Int) < (n1:Int):=by omega
     clear hin
     obtain ⟨ad2,A6,n6,c6,R,rfl,hbk6,hx6,hr6,hn6,hs6,hp6⟩:=rp_at (HRR.out wr hB5) hil
     have HO5:=ah ho5
     have HB5:=ah hB5
     have HR6:=ah (hr6.rd hs6)
     clear ho5 hB5 hr6 hs6
     go_wp2_with fail
     clear hx6
     refine (qpnorm_any HR6.out (by omega) (by omega) h1N).mono ?_
     intro _ W7 hpost
     rcases hpost with ⟨hd6,A7,n7,c7,M7,rfl,ho7,hM7,hb7⟩ | ⟨hd6,rfl,hb7⟩
     ·have HB7:=tM HB5 hb7
      obtain ⟨E,hE,hEl,hEn⟩:=OwL.next stayQP HO5.out hb7
      have HO7:=ah (show OwQp W7 wo.heap.size A7 n7 c7 (nqp R) by
       have e0:=hM7.out
       show OwQp W7 wo.heap.size A7 n7 c7 (Pq.nrm ((R.map toQ).map qval))
       rw [<- e0]
       exact ho7.base HB5.out.size)
      have HK7:=ah (okD_more hp6.out hk5.out hd6)
      have HE:=ah hE
      have HEN:=ah (cJ hEl hEn)
      clear hE hEl hEn hb7 ho7 hM7 hd6 hk5
      go_wp2_with (at_builtin;refine wpList_append_own _ rfl _ _ 30 rfl wo.heap.size 73 i0 (.slice none 0 0) 1 24 Tryz.underlying30 hi hz0 hz1 hz2 rfl (by decide) _ _ _ rfl (HE.out.alloc _) ⟨W7.heap.size,0,none⟩ 1 1 [.slice A7 n7 c7] rfl rfl (scell1 W7 (.slice A7 n7 c7) 73) (by simp [Value.oneCell']) (by unfold maxLen;omega) (by omega) (by have:=HB7.out.size;simp;omega) ?_;intro v' w1 hown' hgrow _)
      obtain ⟨A9,c9,rfl,ho9⟩:=OwL.more stayQP (e:=(A7,n7,c7)) HO7.out (HE.out.alloc _) HEN.out.1 HEN.out.2 hown' hgrow
      have HB9:=ah ((HB7.out.alloc HB7.out.size (.cells #[.slice A7 n7 c7] 73)).grown hgrow (by have:=HB7.out.size;simp;omega) (own_block HE.out))
      have HO9:=ah (show OwP w1 wo.heap.size A9 (i+1) c9 ((RR.take (i+1)).map nqp) by
       rw [List.take_add_one,hp6.out]
       rw [List.map_append];exact ho9)
      clear hown' hgrow HE HEN ho9
      go_wp2
      go_roundw
      case rel=>exact ⟨i+1,c9,A9,rfl,by go_num,by omega,HO9.out,HK7,HB9.out⟩
      case measure=>simp [intOf];omega
     ·have HV:=ah (show FitV PP 6 from .inl ⟨rfl,fun e=>by
       obtain ⟨p,hp1,hp0⟩:=hd6
       exact e RR (gM hp.out) R (gM hp6.out) p hp1 hp0⟩)
      have HB9:=ah (HB3.out.trans ((HB5.out.trans (hb7.mono HB5.out.size)).mono HB3.out.size))
      clear hd6 hb7 hk5
      go_wp2
      go_ret2
      exact RetFt.bad HV.out (by decide) HB9.out
theorem qs_one {w:World}{N:Nat}{s s':Bool}{A A':Option Addr}{n c n' c':Nat}{z d:Int}(h:RdZ w w.heap.size s A n c z)(h':RdZ w w.heap.size s' A' n' c' d)(hn:n<=N)(hn':n'<=N){w1:World}(hw:w1=w.alloc (.cells #[.bool s,.slice A n c,.bool s',.slice A' n' c'] 47)) :
  RdQs w1 w1.heap.size N (some ⟨w.heap.size,0,none⟩) 1 1 [(z,d)]:=by
 have hb:Below w.heap.size w w1:=by rw [hw];exact bA
 have hq:QC w1 w.heap.size s A n c s' A' n' c':=by rw [hw];exact QC.new w s A n c s' A' n' c'
 refine ⟨rfl,nR,by unfold maxLen;omega,fun j p hp=>?_⟩
 match j,hp with
 | 0, hp =>
   simp at hp
   subst hp
   exact ⟨_,s,A,n,c,s',A',n',c',rfl,hq.lt,hq.c0,hq.c1,hq.c2,hq.c3,h.next hb,h'.next hb,hn,hn'⟩
 | j+1,hp=>simp at hp
theorem qScaleIn_any {b N c:Nat}{A:Option Addr}{P Q:List Rat}{w:World}(h:OwPs w b A 2 c [P,Q])(hP:∀ x ∈ P,Qs N x)(hQ:∀ x ∈ Q,Qs N x)(hp:P.length<=1048576)(hN:N<=200000000000)(h1N:1<=N) :
  Calls Tryz.prog 257 #[.slice A 2 c] w (RetPqE w.heap.size (fun M kk=>Pq.IsP (fun i=>Pq.co P i*Pq.co Q 0) M/\kk=0) w):=by
 obtain ⟨g,A1,n1,c1,L1,rfl,hbk,hx,ho1,hL1⟩:=opl_at h (show 0 < 2 by decide)
 obtain ⟨g',A2,n2,c2,L2,e,_,hy,ho2,hL2⟩:=opl_at h (show 1 < 2 by decide)
 injection e with e
 injection e with e
 subst e
 obtain rfl:P=L1:=by simpa using hL1.out
 obtain rfl:Q=L2:=by simpa using hL2.out
 have hn1:n1<=1048576:=by rw [<- ho1.len];exact hp
 have HX:=ah (show ∀ W,Below w.heap.size w W->(W.cell? ⟨g,0,none⟩=some (.slice A1 n1 c1)/\W.cell? ⟨g,1,none⟩=some (.slice A2 n2 c2))/\RdQs W W.heap.size N A1 n1 c1 (P.map pr)/\RdQs W W.heap.size N A2 n2 c2 (Q.map pr) from fun W hb=>⟨⟨(hb.cell (p:=⟨g,0,none⟩) hbk).trans hx,(hb.cell (p:=⟨g,1,none⟩) hbk).trans hy⟩,(ho1.next hb).rd hP,(ho2.next hb).rd hQ⟩)
 have HBD:=ah (Below.refl w.heap.size w).drew
 have HCX:=ah (show ∀ W,Below w.heap.size w W->_ from fun W hb=>(HX.out W hb).1)
 clear h hL1 hL2 ho1 ho2 hP hQ
 go_enter Tryz.func257,Tryz.ntmps257
 go_wp2_with fail
 go_region_held3 (fun w'=>w'.cell? ⟨g,0,none⟩=some (.slice A1 n1 c1)/\w'.cell? ⟨g,1,none⟩=some (.slice A2 n2 c2))
  (first | exact HCX.out _ HB3.out | exact HCX.out _ HB2.out | exact HCX.out _ HBD.out)
  (first
   | (go_at_call 114;refine (qat_any 0 (HX.out _ HBD.out).2.2 h1N).mono ?_;rintro _ W2 ⟨s5,A5,n5,c5,s6,A6,n6,c6,rfl,h5,h6,hn5,hn6,hb2⟩;have HB2:=tM HBD hb2)
   | (go_at_call 258;refine (qscale_any (HX.out _ HB2.out).2.1 h5 h6 hn5 hn6 hn1 hN h1N).mono ?_;rintro _ W3 ⟨A3,n3,c3,M3,rfl,ho3,hM3,hb3⟩;have HB3:=tM HB2 hb3))
 all_goals
  have HO:=ah (ho3.base (b':=w.heap.size) HB2.out.size)
  go_wp2
  go_ret2
  exact ⟨_,_,_,M3,0,rfl,HO.out,ah ⟨hM3.out,rfl⟩,HB3.out⟩
theorem qScale_any {N:Nat}{A A' A'':Option Addr}{n c n' c' n'' c'':Nat}{s s':Bool}{L:List (Int × Int)}{z d:Int}{w:World}(h:RdQs w w.heap.size N A n c L)(h':RdZ w w.heap.size s A' n' c' z)(h'':RdZ w w.heap.size s' A'' n'' c'' d)(hn:n<=1048576)(hn':n'<=N)(hn'':n''<=N)(hN:N<=200000000000)(h1N:1<=N) :
  Calls Tryz.prog 248 #[.slice A n c,.agg #[.bool s,.slice A' n' c',.bool s',.slice A'' n'' c'']] w (RetOp (okD L/\d ≠ 0) (fun i=>Pq.co (L.map qval) i*Rat.divInt z d) w):=by
 have HEG:=ah (enters_of Tryz.func257 (by kernel_rfl) rfl)
 obtain ⟨W1,HW1⟩:∃ W,W=w.alloc (.cells #[.bool s,.slice A' n' c',.bool s',.slice A'' n'' c''] 47):=⟨_,rfl⟩
 have hb1:Below w.heap.size w W1:=by rw [HW1];exact bA
 have hR:QC W1 w.heap.size s A' n' c' s' A'' n'' c'':=by rw [HW1];exact QC.new w s A' n' c' s' A'' n'' c''
 obtain ⟨W2,HW2⟩:∃ W,W=W1.alloc (.cells #[.bool s,.slice A' n' c',.bool s',.slice A'' n'' c''] 47):=⟨_,rfl⟩
 have hb2:Below W1.heap.size W1 W2:=by rw [HW2];exact bA
 obtain ⟨W3,HW3⟩:∃ W,W=W2.alloc (.cells #[.slice A n c,.slice (some ⟨W1.heap.size,0,none⟩) 1 1] 73):=⟨_,rfl⟩
 have hb3:Below W2.heap.size W2 W3:=by rw [HW3];exact bA
 have hr:=(h.next hb1).next hb2
 have hq:=qs_one (h'.next hb1) (h''.next hb1) hn' hn'' HW2
 have HRQ:=ah (cJ hr hq)
 have hps:=ah (ps_two (K:=1048576) hr hq hn (by decide) HW3)
 have HB3:=ah ((hb1.trans (hb2.mono hb1.size)).trans (hb3.mono (nT hb1.size hb2.size)))
 have a0:=hR.c0
 have a1:=hR.c1
 have a2:=hR.c2
 have a3:=hR.c3
 have HW:=ah (cJ HW1 (cJ HW2 HW3))
 have e1:W1.heap.size=w.heap.size+1:=by rw [HW1];simp
 have e2:W2.heap.size=w.heap.size+1+1:=by rw [HW2];simp [e1]
 have HE:=ah (cJ e1 e2)
 rw [HW1] at a0 a1 a2 a3
 clear h h' h'' hr hq hb1 hb2 hb3 hR HW1 HW2 HW3 e1 e2
 go_enter Tryz.func248,Tryz.ntmps248
 go_wp2_with fail
 rw [<- HE.out.2,<- HE.out.1,<- HW.out.1,<- HW.out.2.1,<- HW.out.2.2]
 clear a0 a1 a2 a3 HW
 refine (norms_poly (f:=257) (Φ:=fun M kk=>Pq.IsP (fun i=>Pq.co (L.map qval) i*Rat.divInt z d) M/\kk=0) hps.out (by decide) (by decide) (by omega) h1N HEG.out (fun hall W A' c' hb ho=>(qScaleIn_any (N:=N) (P:=nq L) (Q:=nq [(z,d)]) ho (nq_qs HRQ.out.1 (hall L (by simp)) h1N) (nq_qs HRQ.out.2 (hall [(z,d)] (by simp)) h1N) (nT (nq_len L) (by rw [HRQ.out.1.len];exact hn)) hN h1N).mono fun e w' ⟨A2,n2,c2,M2,kk,h1,h2,h3,h4⟩=>⟨A2,n2,c2,M2,kk,h1,h2.base hb.size,ah ⟨h3.out.1.congr fun i=>by simp only [co_nq];rfl,h3.out.2⟩,h4⟩)).mono ?_
 intro e W4 hpost
 rcases hpost with ⟨hall,A2,n2,c2,M2,kk,rfl,ho2,hM2,hb2⟩ | ⟨hex,rfl,hb2⟩
 ·have HOK:=ah (show okD L/\d ≠ 0 from ⟨hall L (by simp),hall [(z,d)] (by simp) (z,d) (by simp)⟩)
  have HO:=ah (ho2.base (b':=w.heap.size) HB3.out.size)
  have HB4:=tM HB3 hb2
  clear hall ho2 hb2
  go_wp2
  go_ret2
  exact .inl ⟨HOK.out,_,_,_,M2,kk,rfl,HO.out,hM2,HB4.out⟩
 ·have HOK:=ah (show ¬(okD L/\d ≠ 0) from fun ⟨h1,h2⟩=>by
   obtain ⟨L0,hL0,p,hp,hp0⟩:=hex
   rcases List.mem_cons.1 hL0 with rfl | h3
   ·exact h1 p hp hp0
   ·obtain rfl:=List.mem_singleton.1 h3
    obtain rfl:=List.mem_singleton.1 hp
    exact h2 hp0)
  have HB4:=tM HB3 hb2
  clear hex hb2
  go_wp2
  go_ret2
  exact .inr ⟨HOK.out,rfl,HB4.out⟩
structure Com (S:Nat)(f:Nat->Rat)(Z:Nat->Int)(D:Int):Prop where
 ne:D ≠ 0
 at_:∀ i,f i=Rat.divInt (Z i) D
 sz:∀ i,Zz.zl (Z i)<=S
 dz:Zz.zl D<=S
def qsz (L:List (Int × Int)):Nat:=(L.map fun p=>Zz.zl p.1+Zz.zl p.2).sum
theorem qsz_cons (p:Int × Int)(L:List (Int × Int)):qsz (p :: L)=Zz.zl p.1+Zz.zl p.2+qsz L:=by simp [qsz]
theorem Com.qs {S:Nat}{f:Nat->Rat}{Z:Nat->Int}{D:Int}(h:Com S f Z D)(i:Nat):Qs S (f i):=by
 rw [h.at_]
 exact Qs.divInt h.ne (h.sz i) h.dz
theorem Com.mono {S S':Nat}{f:Nat->Rat}{Z:Nat->Int}{D:Int}(h:Com S f Z D)(hS:S<=S'):Com S' f Z D:=⟨h.ne,h.at_,fun i=>nT (h.sz i) hS,nT h.dz hS⟩
theorem Com.congr {S:Nat}{f g:Nat->Rat}{Z:Nat->Int}{D:Int}(h:Com S f Z D)(e:∀ i,g i=f i):Com S g Z D:=⟨h.ne,fun i=>by rw [e,h.at_],h.sz,h.dz⟩
theorem com_list:∀ L:List (Int × Int),(∀ p ∈ L,p.2 ≠ 0)->∃ Z D,Com (1+qsz L) (Pq.co (L.map qval)) Z D
 | [],_=>⟨fun _=>0,1,by decide,fun i=>by rw [List.map_nil,Pq.co_nil];rfl,fun i=>by rw [Zz.zl_zero];omega,nT (Zz.zl_small (by decide)) (by omega)⟩
 | p :: L, h => by
   obtain ⟨Z,D,hD⟩:=com_list L fun q hq=>h q (List.mem_cons_of_mem _ hq)
   have hp:=h p (List.mem_cons_self ..)
   have e0:=Zz.zl_mul p.2 D
   have e1:=Zz.zl_mul p.1 D
   have e2:=hD.dz
   refine ⟨fun i=>if i=0 then p.1*D else Z (i-1)*p.2,p.2*D,Int.mul_ne_zero hp hD.ne,fun i=>?_,fun i=>?_,?_⟩
   ·cases i with
    | zero =>
      rw [List.map_cons,Pq.co_cons_zero,if_pos rfl]
      show Rat.divInt p.1 p.2=_
      rw [Rat.divInt_eq_divInt_iff hp (Int.mul_ne_zero hp hD.ne)]
      grind
    | succ i =>
      rw [List.map_cons,Pq.co_cons_succ,if_neg (by omega),hD.at_,Nat.add_sub_cancel,Rat.divInt_eq_divInt_iff hD.ne (Int.mul_ne_zero hp hD.ne)]
      grind
   ·rw [qsz_cons]
    by_cases hi:i=0
    ·rw [if_pos hi];omega
    ·rw [if_neg hi]
     have e3:=Zz.zl_mul (Z (i-1)) p.2
     have e4:=hD.sz (i-1)
     omega
   ·rw [qsz_cons];omega
theorem divInt_div (z d:Int):Rat.divInt z d=(z:Rat) / (d:Rat):=Rat.divInt_eq_div z d
theorem int_ne {d:Int}(h:d ≠ 0):(d:Rat) ≠ 0:=fun e=>h (by exact_mod_cast e)
theorem com_quo {S T:Nat}{f g:Nat->Rat}{Z Y:Nat->Int}{D E:Int}(h:Com S f Z D)(h':Com T g Y E){m n:Nat}(hn:g n ≠ 0):Qs (S+T) (f m / g n)/\∀ t,Qs (S+T) (f m / g n*g t):=by
 have hE:=int_ne h'.ne
 have hD:=int_ne h.ne
 have hY:Y n ≠ 0:=by
  intro e
  apply hn
  rw [h'.at_,e,Rat.zero_divInt]
 have hYq:=int_ne hY
 have e0:=Zz.zl_mul D (Y n)
 have e1:=h.dz
 have e2:=h'.sz n
 constructor
 ·have e:f m / g n=Rat.divInt (Z m*E) (D*Y n):=by
   rw [h.at_,h'.at_,divInt_div,divInt_div,divInt_div,Rat.intCast_mul,Rat.intCast_mul]
   grind
  rw [e]
  refine Qs.divInt (Int.mul_ne_zero h.ne hY) ?_ (by omega)
  have e3:=Zz.zl_mul (Z m) E
  have e4:=h.sz m
  have e5:=h'.dz
  omega
 ·intro t
  have e:f m / g n*g t=Rat.divInt (Z m*Y t) (D*Y n):=by
   rw [h.at_,h'.at_,h'.at_,divInt_div,divInt_div,divInt_div,divInt_div,Rat.intCast_mul,Rat.intCast_mul]
   grind
  rw [e]
  refine Qs.divInt (Int.mul_ne_zero h.ne hY) ?_ (by omega)
  have e3:=Zz.zl_mul (Z m) (Y t)
  have e4:=h.sz m
  have e5:=h'.sz t
  omega
theorem com_step {S T:Nat}{a b:List Rat}{Z Y:Nat->Int}{D E:Int}(h:Com S (Pq.co a) Z D)(h':Com T (Pq.co b) Y E)(hb:Pq.Nz b)(h0:0 < b.length)(hl:b.length<=a.length):∃ Z' D',Com (S+T+1) (Pq.co (Pq.dstep b a)) Z' D':=by
 have hn:=Pq.nz_top hb h0
 have hE:=int_ne h'.ne
 have hD:=int_ne h.ne
 have hY:Y (b.length-1) ≠ 0:=by
  intro e
  apply hn
  rw [h'.at_,e,Rat.zero_divInt]
 have hYq:=int_ne hY
 refine ⟨fun i=>Y (b.length-1)*Z i-(if i < a.length-b.length then 0 else Z (a.length-1)*Y (i-(a.length-b.length))),D*Y (b.length-1),Int.mul_ne_zero h.ne hY,fun i=>?_,fun i=>?_,?_⟩
 ·rw [Pq.co_dstep hl]
  by_cases h1:i < a.length-b.length
  ·rw [if_pos h1,if_pos h1,h.at_,divInt_div,divInt_div,Int.sub_zero,Rat.intCast_mul,Rat.intCast_mul]
   grind
  ·rw [if_neg h1,if_neg h1,h.at_,h.at_,h'.at_,h'.at_,divInt_div,divInt_div,divInt_div,divInt_div,divInt_div,Rat.intCast_sub,Rat.intCast_mul,Rat.intCast_mul,Rat.intCast_mul]
   grind
 ·have e1:=Zz.zl_mul (Y (b.length-1)) (Z i)
  have e2:=h'.sz (b.length-1)
  have e3:=h.sz i
  by_cases h1:i < a.length-b.length
  ·rw [if_pos h1,Int.sub_zero];omega
  ·rw [if_neg h1]
   have e4:=Zz.zl_sub (Y (b.length-1)*Z i) (Z (a.length-1)*Y (i-(a.length-b.length)))
   have e5:=Zz.zl_mul (Z (a.length-1)) (Y (i-(a.length-b.length)))
   have e6:=h.sz (a.length-1)
   have e7:=h'.sz (i-(a.length-b.length))
   omega
 ·have e1:=Zz.zl_mul D (Y (b.length-1))
  have e2:=h'.sz (b.length-1)
  have e3:=h.dz
  omega
theorem com_rest {T:Nat}{b:List Rat}{Y:Nat->Int}{E:Int}(h':Com T (Pq.co b) Y E)(hb:Pq.Nz b)(h0:0 < b.length):∀ (j S:Nat) (a:List Rat) (Z:Nat->Int) (D:Int),Com S (Pq.co a) Z D->∃ S' Z' D',Com S' (Pq.co (Pq.drest b j a)) Z' D'/\S'+(Pq.drest b j a).length*(T+1)<=S+a.length*(T+1)
 | 0,S,a,Z,D,h=>⟨S,Z,D,h,nR⟩
 | j + 1, S, a, Z, D, h => by
   by_cases hl:b.length<=a.length
   ·rw [Pq.drest_step hl]
    obtain ⟨Z1,D1,h1⟩:=com_step h h' hb h0 hl
    obtain ⟨S2,Z2,D2,h2,h3⟩:=com_rest h' hb h0 j _ _ _ _ h1
    refine ⟨S2,Z2,D2,h2,?_⟩
    have h4:=Pq.dstep_len hb h0 hl
    have h5:((Pq.dstep b a).length+1)*(T+1)<=a.length*(T+1):=Nat.mul_le_mul_right _ h4
    rw [Nat.succ_mul] at h5
    omega
   ·rw [Pq.drest,if_neg hl]
    exact ⟨S,Z,D,h,nR⟩
structure DivSz (N:Nat)(a b:List Rat):Prop where
 rest:∀ j,SzQ N (Pq.drest b j a)
 quo:∀ j,b.length<=(Pq.drest b j a).length->Qs N (Pq.co (Pq.drest b j a) ((Pq.drest b j a).length-1) / Pq.co b (b.length-1))/\∀ t,Qs N (Pq.co (Pq.drest b j a) ((Pq.drest b j a).length-1) / Pq.co b (b.length-1)*Pq.co b t)
 one:1<=N
theorem div_sz {S T N:Nat}{a b:List Rat}{Z Y:Nat->Int}{D E:Int}(h:Com S (Pq.co a) Z D)(h':Com T (Pq.co b) Y E)(hb:Pq.Nz b)(h0:0 < b.length)(h1:1<=S)(hN:S+a.length*(T+1)<=N):DivSz N a b:=by
 refine ⟨fun j i=>?_,fun j hj=>?_,by omega⟩
 ·obtain ⟨S',Z',D',h2,h3⟩:=com_rest h' hb h0 j _ _ _ _ h
  exact (h2.qs i).mono (by have:=Nat.zero_le ((Pq.drest b j a).length*(T+1));omega)
 ·obtain ⟨S',Z',D',h2,h3⟩:=com_rest h' hb h0 j _ _ _ _ h
  have h5:1*(T+1)<=(Pq.drest b j a).length*(T+1):=Nat.mul_le_mul_right _ (by omega)
  have hq:=com_quo (m:=(Pq.drest b j a).length-1) h2 h' (Pq.nz_top hb h0)
  exact ⟨hq.1.mono (by omega),fun t=>(hq.2 t).mono (by omega)⟩
def CC (w:World)(g:Nat)(s:Bool)(A:Option Addr)(n c:Nat)(A':Option Addr)(n' c':Nat):Prop:=w.heap[g]?=some (.cells #[.bool s,.slice A n c,.slice A' n' c'] 194 (0,0))
section
variable {w w':World}{g B:Nat}{s:Bool}{A A':Option Addr}{n c n' c':Nat}
theorem CC.lt (h:CC w g s A n c A' n' c'):g < w.heap.size:=(Array.getElem?_eq_some_iff.1 h).1
theorem CC.c0 (h:CC w g s A n c A' n' c'):w.cell? ⟨g,0,none⟩=some (.bool s):=by rw [cell_of_row w g 0 _ _ _ h];rfl
theorem CC.c1 (h:CC w g s A n c A' n' c'):w.cell? ⟨g,1,none⟩=some (.slice A n c):=by rw [cell_of_row w g 1 _ _ _ h];rfl
theorem CC.c2 (h:CC w g s A n c A' n' c'):w.cell? ⟨g,2,none⟩=some (.slice A' n' c'):=by rw [cell_of_row w g 2 _ _ _ h];rfl
theorem CC.fz (h:CC w g s A n c A' n' c')(j:Nat):w.frozen? ⟨g,j,none⟩=false:=frozen_of_row w g j _ _ h
theorem CC.next (h:CC w g s A n c A' n' c')(hb:Below w.heap.size w w'):CC w' g s A n c A' n' c':=(hb.block g h.lt).trans h
theorem CC.new (w:World)(s:Bool)(A:Option Addr)(n c:Nat)(A':Option Addr)(n' c':Nat):CC (w.alloc (.cells #[.bool s,.slice A n c,.slice A' n' c'] 194)) w.heap.size s A n c A' n' c':=heap_alloc_new w _
theorem CC.store (h:CC w g s A n c A' n' c')(t:Bool)(D:Option Addr)(k m:Nat)(D':Option Addr)(k' m':Nat):CC (((w.setCell ⟨g,0,none⟩ (.bool t)).setCell ⟨g,1,none⟩ (.slice D k m)).setCell ⟨g,2,none⟩ (.slice D' k' m')) g t D k m D' k' m':=by
 unfold CC at *
 simp [World.setCell,Array.getElem?_modify,h]
theorem CC.far (h:CC w g s A n c A' n' c'){p:Addr}(hp:g ≠ p.block)(u:Value):CC (w.setCell p u) g s A n c A' n' c':=(Below.heap_setCell w p u g hp).trans h
theorem below_putC (hb:Below B w w')(hg:B<=g)(x y z:Value):Below B w (((w'.setCell ⟨g,0,none⟩ x).setCell ⟨g,1,none⟩ y).setCell ⟨g,2,none⟩ z) :=
 ((hb.setCell (p:=⟨g,0,none⟩) hg _).setCell (p:=⟨g,1,none⟩) hg _).setCell (p:=⟨g,2,none⟩) hg _
end
def RetCm (d:Int)(P:List Int)(w:World)(e:Ending)(w':World):Prop :=
 ∃ (s:Bool) (A:Option Addr) (n c:Nat) (y:Int) (A':Option Addr) (n' c':Nat) (M:List Int) (kk:Int),e=.returned (.tuple #[.agg #[.bool s,.slice A n c,.slice A' n' c'],.int .i64 kk])/\OwZ w' w.heap.size s A n c y/\OwZs w' w.heap.size A' n' c' M/\Hid (y=d/\M=P/\kk=0)/\Below w.heap.size w w'
theorem made_common {f N:Nat}{A:Option Addr}{n c:Nat}{L:List (Int × Int)}{w:World}{d:Int}{P:List Int}(h:RdQs w w.heap.size N A n c L)(hn:n<=1048576)(hN:N<=1000000000000)(hall:∀ p ∈ L,p.2 ≠ 0)(heg:∀ args w,(callFunc f args).run Tryz.prog w=.ok (.enter f args) w)
  (hdo:∀ (W:World) (A':Option Addr) (c':Nat) (b:Nat),Below w.heap.size w W->w.heap.size<=b->OwQs W b A' n c' (L.map qval)->Calls Tryz.prog f #[.slice A' n c'] W (RetCm d P W)) :
  Calls Tryz.prog 169 #[.func (.func f) #[] #[],.slice A n c] w (RetCm d P w):=by
 have HD:=ah hdo
 have HLEN:=ah h.len
 have hmk:=fun W:World=>make_qroom n (by omega) W
 obtain ⟨i0,hi,hz0,hz1,hz2⟩:=info_parts infoQ
 have HAL:=ah hall
 obtain ⟨W0,HW0⟩:∃ W,W=(w.alloc (.cells #[.bool false,.slice none 0 0,.slice none 0 0] 194)).alloc (.cells #[.bool false,.slice none 0 0,.slice none 0 0] 194):=⟨_,rfl⟩
 have hR0:CC W0 w.heap.size false none 0 0 none 0 0:=by rw [HW0];exact (CC.new w false none 0 0 none 0 0).next (bA)
 have hB0:Below w.heap.size w W0:=by rw [HW0];exact ((Below.refl w.heap.size w).alloc nR _).alloc (by simp) _
 have hs0:W0.heap.size=w.heap.size+1+1:=by rw [HW0];simp
 obtain ⟨W1,HW1⟩:∃ W,W=W0.alloc (.cells (madeCells #[.bool false,.slice none 0 0,.bool false,.slice none 0 0] (n*4)) 47):=⟨_,rfl⟩
 have hb1:Below W0.heap.size W0 W1:=by rw [HW1];exact bA
 have hO1:OwQs W1 W0.heap.size (some ⟨W0.heap.size,0,none⟩) 0 n []:=by rw [HW1];exact OwQs.room W0 n (by unfold maxLen;omega)
 have HRZ:=ah (show ∀ W:World,Below W0.heap.size W0 W->CC W w.heap.size false none 0 0 none 0 0 from fun W hb=>hR0.next hb)
 have HB0:=ah hB0
 have HS0:=ah hs0
 rw [hs0] at hO1
 rw [HW0] at HW1
 have HW1:=ah HW1
 clear hdo hall hR0 hB0 hs0 HW0
 go_enter Tryz.func169,Tryz.ntmps169
 go_wp2_with fail
 rw [<- HW1.out]
 clear HW1
 clear HW1
 have HLT:=ah (show w.heap.size+1 < W0.heap.size by rw [HS0.out];exact Nat.lt_succ_self _)
 rw [<- HS0.out] at hO1
 go_loopw [7,17] (fun ov iv wr=>∃ (j c':Nat) (A':Option Addr) (M:List Rat),ov=.slice A' j c'/\iv=.int .i64 j/\j<=n/\OwQs wr W0.heap.size A' j c' M/\Hid (M=(L.take j).map qval)/\Hid (∀ (i:Nat) (p:Int × Int),i < j->L[i]?=some p->p.2 ≠ 0)/\Below W0.heap.size W0 wr) (fun _ iv _=>n-(intOf iv).toNat)
 case atStart=>exact ⟨0,n,_,[],by rw [HS0.out],rfl,nZ,hO1,ah rfl,ah fun i p hi=>absurd hi (Nat.not_lt_zero _),hb1⟩
 case round =>
  clear hO1 hb1
  obtain ⟨j,c',A',M,rfl,rfl,hj,ho,hM,hne,hB⟩:=hrel
  by_cases hjn:j=n
  ·subst hjn
   have HBW:=tM HB0 hB
   have HO:=ah (show OwQs wr W0.heap.size A' j c' (L.map qval) by rw [<- List.take_of_length_le (l:=L) (by rw [HLEN.out];exact nR),<- hM.out];exact ho)
   have HR:=ah (HRZ.out _ hB)
   have HLW:=ah (show w.heap.size < wr.heap.size from Nat.lt_of_lt_of_le (Nat.lt_trans (Nat.lt_succ_self _) HLT.out) hB.size)
   clear ho hB hM hne
   go_wp2_with fail
   refine (HD.out wr A' c' _ HBW.out HB0.out.size HO.out).mono ?_
   rintro _ W5 ⟨s5,A5,n5,c5,y5,A6,n6,c6,M6,kk,rfl,ho5,ho6,hy,hb5⟩
   have hR5:=HR.out.next hb5
   have r0:=hR5.c0
   have r1:=hR5.c1
   have r2:=hR5.c2
   have f0:=hR5.fz 0
   have f1:=hR5.fz 1
   have f2:=hR5.fz 2
   have HR9:=ah (hR5.store s5 A5 n5 c5 A6 n6 c6)
   have HO9:=ah (cJ ((((ho5.far (p:=⟨w.heap.size,0,none⟩) HLW.out (.bool s5)).far (p:=⟨w.heap.size,1,none⟩) HLW.out (.slice A5 n5 c5)).far (p:=⟨w.heap.size,2,none⟩) HLW.out (.slice A6 n6 c6)).base (b':=w.heap.size) (Nat.le_of_lt HLW.out)) ((((ho6.far (p:=⟨w.heap.size,0,none⟩) HLW.out (.bool s5)).far (p:=⟨w.heap.size,1,none⟩) HLW.out (.slice A5 n5 c5)).far (p:=⟨w.heap.size,2,none⟩) HLW.out (.slice A6 n6 c6)).base (b':=w.heap.size) (Nat.le_of_lt HLW.out)))
   have HB9:=ah (below_putC (HBW.out.trans (hb5.mono HBW.out.size)) (Nat.le_refl w.heap.size) (.bool s5) (.slice A5 n5 c5) (.slice A6 n6 c6))
   clear ho5 ho6 hb5 hR5
   go_wp2_with fail
   generalize ((W5.setCell ⟨w.heap.size,0,none⟩ (.bool s5)).setCell ⟨w.heap.size,1,none⟩ (.slice A5 n5 c5)).setCell ⟨w.heap.size,2,none⟩ (.slice A6 n6 c6)=W9 at *
   have z0:=HR9.out.c0
   have z1:=HR9.out.c1
   have z2:=HR9.out.c2
   exact bodyPost_ret (by simp [results,Tryz.results169,go_sem,z0,z1,z2]) rfl ⟨s5,A5,n5,c5,y5,A6,n6,c6,M6,kk,rfl,HO9.out.1,HO9.out.2,hy,HB9.out⟩
  ·have hjl:j < n:=by omega
   clear hjn
   have hjli:(j:Int) < (n:Int):=by omega
   have hBW:=HB0.out.trans (hB.mono HB0.out.size)
   obtain ⟨ad,s1,A1,n1,c1,s2,A2,n2,c2,z1,d1,rfl,hbk,hx0,hx1,hx2,hx3,hr1,hr2,hn1,hn2,hp⟩:=qs_at h hjl
   obtain ⟨hy0,hy1,hy2,hy3⟩:=qs_cells hBW hbk hx0 hx1 hx2 hx3
   obtain ⟨W2,HW2⟩:∃ W,W=wr.alloc (.cells #[.bool s1,.slice A1 n1 c1,.bool s2,.slice A2 n2 c2] 47):=⟨_,rfl⟩
   have hb2:Below wr.heap.size wr W2:=by rw [HW2];exact bA
   have hB2:=hB.trans (hb2.mono hB.size)
   have hBW2:=hBW.trans (hb2.mono hBW.size)
   have HO:=ah (ho.next hb2)
   have HRD:=ah (cJ (hr1.next hBW2) (hr2.next hBW2))
   have HB2:=ah hB2
   have HBW2:=ah hBW2
   have HNN:=ah (cJ (nT hn1 hN) (nT hn2 hN))
   have HW2:=ah HW2
   clear ho hB hb2 hB2 hBW hBW2 hr1 hr2 hx0 hx1 hx2 hx3
   go_wp2_with fail
   rw [<- HW2.out]
   clear HW2 hy0 hy1 hy2 hy3
   clear HW2
   have HD1:=ah (show d1 ≠ 0 from HAL.out _ (gM hp.out))
   refine (qnorm_any HRD.out.1 HRD.out.2 HNN.out.1 HNN.out.2 HD1.out).mono ?_
   rintro _ W3 ⟨s3,A3,n3,c3,s4,A4,n4,c4,y,rfl,ho3,hy,hb3⟩
   have hB3:=HB2.out.trans (hb3.mono HB2.out.size)
   obtain ⟨W4,HW4⟩:∃ W,W=W3.alloc (.cells #[.bool s3,.slice A3 n3 c3,.bool s4,.slice A4 n4 c4] 47):=⟨_,rfl⟩
   have hb4:Below W3.heap.size W3 W4:=by rw [HW4];exact bA
   have hB4:=hB3.trans (hb4.mono hB3.size)
   obtain ⟨E,hE,hEl,hEn⟩:=(HO.out.next hb3).next hb4
   have HO4:=ah ((ho3.base HB2.out.size).next hb4)
   rw [HW4] at hE hB4 hEn
   rw [HW4] at HO4
   have HE:=ah hE
   have HEN:=ah (cJ hEl hEn)
   have HM2:=ah (show M ++ [y]=(L.take (j+1)).map qval by rw [hM.out,hy.out];exact mapq_snoc hp.out)
   have HNE2:=ah (show ∀ (i:Nat) (p:Int × Int),i < j+1->L[i]?=some p->p.2 ≠ 0 from fun i p hi hq=>by
    rcases Nat.lt_or_ge i j with h1 | h1
    ·exact hne.out i p h1 hq
    ·rw [show i=j by omega,hp.out] at hq
     injection hq with hq
     rw [<- hq]
     exact HD1.out)
   have HB4:=ah hB4
   clear hE hEl hEn hb3 ho3 hb4 hB3 hB4 hy HO hne hM
   clear HW4
   go_wp2_with (at_builtin;refine wpList_append_own _ rfl _ _ 72 rfl W0.heap.size 47 i0 (.agg #[.bool false,.slice none 0 0,.bool false,.slice none 0 0]) 4 64 Tryz.underlying72 hi hz0 hz1 hz2 rfl (by decide) _ _ _ rfl (HE.out.alloc _) ⟨W3.heap.size+1,0,none⟩ 1 1 [.bool s3,.slice A3 n3 c3,.bool s4,.slice A4 n4 c4] rfl rfl (by simpa using qcell_new (W3.alloc (.cells #[.bool s3,.slice A3 n3 c3,.bool s4,.slice A4 n4 c4] 47)) (.bool s3) (.slice A3 n3 c3) (.bool s4) (.slice A4 n4 c4) 47) (by simp [Value.oneCell']) (by unfold maxLen;omega) (by omega) (by have:=HB4.out.size;simp at this ⊢;omega) ?_;intro v' w1 hown' hgrow _)
   have hmore:=qs_more (e:=((s3,A3,n3,c3),(s4,A4,n4,c4))) (x:=y) HO4.out rfl (HE.out.alloc _) HEN.out.1 HEN.out.2 hown' hgrow
   have HB5:=ah ((HB4.out.alloc HB4.out.size (.cells #[.bool s3,.slice A3 n3 c3,.bool s4,.slice A4 n4 c4] 47)).grown hgrow (by have:=HB4.out.size;simp at this ⊢;omega) (own_block HE.out))
   obtain ⟨A5,c5,rfl,ho5⟩:=hmore
   clear hown' hgrow HE HEN HO4
   go_wp2
   go_roundw
   case rel=>exact ⟨j+1,c5,A5,M ++ [y],rfl,by go_num,by omega,ho5,HM2,HNE2,HB5.out⟩
   case measure=>simp [intOf];omega
theorem zcG1 {V W:World}(hb:Below (V.drew.alloc (.cells #[.bool false,.slice none 0 0] 25)).heap.size (V.drew.alloc (.cells #[.bool false,.slice none 0 0] 25)) W):ZC W V.heap.size false none 0 0:=(ZC.new V.drew false none 0 0).next hb
theorem zcG2 {V W:World}(hb:Below (V.alloc (.cells #[.bool false,.slice none 0 0] 25)).heap.size (V.alloc (.cells #[.bool false,.slice none 0 0] 25)) W):ZC W V.heap.size false none 0 0:=(ZC.new V false none 0 0).next hb
theorem below_put2 {B g:Nat}{w w':World}(hb:Below B w w')(hg:B<=g)(x y:Value):Below B w ((w'.setCell ⟨g,0,none⟩ x).setCell ⟨g,1,none⟩ y) :=
 (hb.setCell (p:=⟨g,0,none⟩) hg _).setCell (p:=⟨g,1,none⟩) hg _
theorem lcm_val (z z':Int):((z.natAbs:Int).tdiv (Int.gcd z z':Int))*(z'.natAbs:Int)=((Nat.lcm z.natAbs z'.natAbs:Nat):Int):=by
 have h:=Nat.gcd_dvd_left z.natAbs z'.natAbs
 rw [show (Int.gcd z z':Int)=((Nat.gcd z.natAbs z'.natAbs:Nat):Int) from rfl,show ((z.natAbs:Int).tdiv ((Nat.gcd z.natAbs z'.natAbs:Nat):Int))=((z.natAbs / Nat.gcd z.natAbs z'.natAbs:Nat):Int) from rfl,<- Int.natCast_mul]
 congr 1
 rw [Nat.lcm,Nat.div_mul_right_comm h]
theorem ilcm_any {s s':Bool}{A A':Option Addr}{n c n' c':Nat}{z z':Int}{w:World}(h:RdZ w w.heap.size s A n c z)(h':RdZ w w.heap.size s' A' n' c' z')(hn:n<=400000000000)(hn':n'<=400000000000)(hz:0 < z) :
  Calls Tryz.prog 210 #[.agg #[.bool s,.slice A n c],.agg #[.bool s',.slice A' n' c']] w (RetI ((Nat.lcm z.natAbs z'.natAbs:Nat):Int) w):=by
 obtain ⟨hX,hY,hR,hB⟩:=boxed2 w s A n c s' A' n' c'
 obtain ⟨W1,HW1⟩:∃ W,W=((w.alloc (.cells #[.bool s,.slice A n c] 25)).alloc (.cells #[.bool s',.slice A' n' c'] 25)).alloc (.cells #[.bool false,.slice none 0 0] 25):=⟨_,rfl⟩
 rw [<- HW1] at hX hY hR hB
 have HL:=ah (show Zz.zl z<=400000000000/\Zz.zl z'<=400000000000 from ⟨nT h.len hn,nT h'.len hn'⟩)
 have HZ:=ah hz
 have HCE:=ah (show ∀ W:World,Below W1.heap.size W1 W->(ZC W w.heap.size s A n c/\ZC W (w.heap.size+1) s' A' n' c'/\ZC W (w.heap.size+1+1) false none 0 0)/\RdZ W W.heap.size s A n c z/\RdZ W W.heap.size s' A' n' c' z' from fun W hb=>⟨⟨hX.next hb,hY.next hb,hR.next hb⟩,(h.next hB).next hb,(h'.next hB).next hb⟩)
 have HB:=ah hB
 have HS:=ah hR.lt
 have a0:=hX.c0
 have a1:=hX.c1
 have b0:=hY.c0
 have b1:=hY.c1
 rw [HW1] at a0 a1 b0 b1
 have HW1:=ah HW1
 clear hX hY hR hB h h' hz
 go_enter Tryz.func210,Tryz.ntmps210
 go_wp2_with fail
 rw [<- HW1.out]
 clear HW1 a0 a1 b0 b1
 clear HW1
 refine (igcd_any (HCE.out _ bR).2.1 (HCE.out _ bR).2.2 (by omega) (by omega)).mono ?_
 rintro _ W2 ⟨s2,A2,n2,c2,g2,rfl,ho2,hg2,hb2⟩
 obtain ⟨W3,HW3⟩:∃ W,W=W2.alloc (.cells #[.bool s2,.slice A2 n2 c2] 25):=⟨_,rfl⟩
 have hG:ZC W3 W2.heap.size s2 A2 n2 c2:=by rw [HW3];exact ZC.new W2 s2 A2 n2 c2
 have hb3:Below W2.heap.size W2 W3:=by rw [HW3];exact bA
 have HB3:=ah (hb2.trans (hb3.mono hb2.size))
 have HG3:=ah (cJ hG ((ho2.base (b':=W1.heap.size) nR).next hb3))
 have HGV:=ah (show g2=(Int.gcd z z':Int)/\g2 ≠ 0 from ⟨hg2.out,by
  rw [hg2.out]
  have:Int.gcd z z' ≠ 0:=fun e=>by have:=(Int.gcd_eq_zero_iff.1 e).1;have:=HZ.out;omega
  omega⟩)
 have HN2:=ah (show n2<=400000000000 by
  rw [ho2.len,HGV.out.1]
  have e1:=Zz.zl_gcd z z'
  have e2:=HL.out
  omega)
 have a0:=hG.c0
 have a1:=hG.c1
 rw [HW3] at a0 a1
 have HGN:=ah (show W1.heap.size<=W2.heap.size from hb2.size)
 have HW3:=ah HW3
 clear hG hb2 hb3 ho2 hg2
 go_wp2_with fail
 rw [<- HW3.out]
 clear HW3 a0 a1
 clear HW3
 generalize W2.heap.size=gg at *
 refine (sign_any HG3.out.2.rd (by have:=HN2.out;omega)).mono ?_
 rintro _ W4 ⟨k,rfl,hk,hb4⟩
 have hkb:(k == 0)=false:=by
  have e:=hk.out
  have e2:=mt Int.sign_eq_zero_iff_zero.1 HGV.out.2
  rw [<- e] at e2
  simpa using e2
 have HB4:=tM HB3 hb4
 have HG4:=ah (cJ (HG3.out.1.next hb4) (HG3.out.2.next hb4))
 clear hb4 hk HG3
 go_upto_region 4 with fail
 go_cut [6,7] from 15 to 21 (fun pv _ V=>∃ (gq:Nat) (s5:Bool) (A5:Option Addr) (n5 c5:Nat) (q:Int),pv=.pointer (some ⟨gq,0,none⟩)/\ZC V gq s5 A5 n5 c5/\OwZ V W1.heap.size s5 A5 n5 c5 q/\Hid (q=((z.natAbs:Int).tdiv (Int.gcd z z':Int))/\W4.heap.size<=gq)/\Below W4.heap.size W4 V)
 case first =>
  have HBD:=ah (Below.refl W4.heap.size W4).drew
  have HXX:=ah (show ∀ W:World,Below W4.heap.size W4 W->(W.cell? ⟨w.heap.size,0,none⟩=some (.bool s)/\W.cell? ⟨w.heap.size,1,none⟩=some (.slice A n c)/\W.cell? ⟨gg,0,none⟩=some (.bool s2)/\W.cell? ⟨gg,1,none⟩=some (.slice A2 n2 c2)) from fun W hb=>⟨((HCE.out _ HB4.out).1.1.next hb).c0,((HCE.out _ HB4.out).1.1.next hb).c1,(HG4.out.1.next hb).c0,(HG4.out.1.next hb).c1⟩)
  have HRZ:=ah (show ∀ W:World,Below W4.heap.size W4 W->RdZ W W.heap.size s A n c z/\OwZ W W1.heap.size s2 A2 n2 c2 g2 from fun W hb=>⟨(HCE.out _ HB4.out).2.1.next hb,HG4.out.2.next hb⟩)
  obtain ⟨x0,x1,x2,x3⟩:=HXX.out _ bR
  go_region_held3 (fun w'=>w'.cell? ⟨w.heap.size,0,none⟩=some (.bool s)/\w'.cell? ⟨w.heap.size,1,none⟩=some (.slice A n c)/\w'.cell? ⟨gg,0,none⟩=some (.bool s2)/\w'.cell? ⟨gg,1,none⟩=some (.slice A2 n2 c2))
   (first | exact HXX.out _ HB6.out | exact HXX.out _ HB5.out | exact HXX.out _ HBD.out | exact HXX.out _ (HBD.out.alloc HBD.out.size _) | exact HXX.out _ (HB5.out.alloc HB5.out.size _) | exact HXX.out _ (HB6.out.alloc HB6.out.size _) | exact HXX.out _ (below_put2 HB6.out (by first | exact nR | exact HB5.out.size | exact HB6.out.size) _ _))
   (first
    | (go_at_call 173;refine (abs_any (HRZ.out _ (by first | exact HBD.out | exact HBD.out.alloc HBD.out.size _)).1 (by omega)).mono ?_;rintro _ W5 ⟨t5,D5,m5,l5,y5,rfl,ho5,hy5,hb5⟩;have HB5:Hid (Below W4.heap.size W4 W5):=ah (by first | exact HBD.out.trans hb5 | exact (HBD.out.alloc HBD.out.size _).trans (hb5.mono (by simp)));(first | have HA5:Hid (ZC W5 W4.heap.size false none 0 0):=ah (zcG1 hb5) | skip);have HN5:=ah (show m5<=1000000000000 by { rw [ho5.len,hy5.out,Zz.zl_abs];have:=HL.out;omega }))
    | (go_at_call 138;refine (exact_any (by first | exact ho5.rd | exact (ho5.next (bA)).rd) (HRZ.out _ (by first | exact HB5.out | exact HB5.out.alloc HB5.out.size _)).2.rd HN5.out (by have:=HN2.out;omega) HGV.out.2).mono ?_;rintro _ W6 ⟨s5,A5,n5,c5,q,e6,rfl,ho6,hq,hb6⟩;have HB56:Hid (Below W5.heap.size W5 W6):=ah (by first | exact hb6 | exact ((Below.refl W5.heap.size W5).alloc nR _).trans (hb6.mono (by simp)));have HB6:=tM HB5 HB56.out;have HO6:Hid (OwZ W6 W1.heap.size s5 A5 n5 c5 q):=ah (by first | exact ho6.base (nT HB4.out.size HB5.out.size) | exact ho6.base (by have:=HB5.out.size;have:=HB4.out.size;simp;omega));(try have hA6:=HA5.out.next HB56.out);(first | have hA6:ZC W6 W5.heap.size false none 0 0:=zcG2 hb6 | skip);(try have r0:=hA6.c0);(try have r1:=hA6.c1);(try have f0:=hA6.fz 0);(try have f1:=hA6.fz 1)))
  all_goals
   have HV:=ah (show q=((z.natAbs:Int).tdiv (Int.gcd z z':Int)) by
    rw [<- HGV.out.1,<- hy5.out]
    rcases hq.out with ⟨_,f2,_⟩ | ⟨f1,_,_⟩
    ·exact f2
    ·exact absurd (Int.tmod_eq_zero_of_dvd (by rw [hy5.out,HGV.out.1];exact Int.dvd_natAbs.2 (Int.gcd_dvd_left z z'))) f1)
   go_wp2
   go_meet
   first
    | exact ⟨W5.heap.size,s5,A5,n5,c5,q,rfl,hA6.store s5 A5 n5 c5,HO6.out.keep (keep_set2 hA6 (.bool s5) (.slice A5 n5 c5)),ah ⟨HV.out,HB5.out.size⟩,below_put2 HB6.out HB5.out.size _ _⟩
    | exact ⟨W4.heap.size,s5,A5,n5,c5,q,rfl,hA6.store s5 A5 n5 c5,HO6.out.keep (keep_set2 hA6 (.bool s5) (.slice A5 n5 c5)),ah ⟨HV.out,nR⟩,below_put2 HB6.out nR _ _⟩
    | exact ⟨W6.heap.size,s5,A5,n5,c5,q,rfl,ZC.new W6 s5 A5 n5 c5,HO6.out.next (bA),ah ⟨HV.out,HB6.out.size⟩,HB6.out.alloc HB6.out.size _⟩
 case rest =>
  obtain ⟨gq,s5,A5,n5,c5,q,rfl,hQ,hoq,hq,hbq⟩:=hcut
  have HBQ:=tM HB4 hbq
  have HBD:=ah (Below.refl wc.heap.size wc).drew
  have HXX:=ah (show ∀ W:World,Below wc.heap.size wc W->(W.cell? ⟨w.heap.size+1,0,none⟩=some (.bool s')/\W.cell? ⟨w.heap.size+1,1,none⟩=some (.slice A' n' c')/\W.cell? ⟨gq,0,none⟩=some (.bool s5)/\W.cell? ⟨gq,1,none⟩=some (.slice A5 n5 c5)) from fun W hb=>⟨((HCE.out _ HBQ.out).1.2.1.next hb).c0,((HCE.out _ HBQ.out).1.2.1.next hb).c1,(hQ.next hb).c0,(hQ.next hb).c1⟩)
  have HRZ:=ah (show ∀ W:World,Below wc.heap.size wc W->RdZ W W.heap.size s' A' n' c' z'/\OwZ W W1.heap.size s5 A5 n5 c5 q/\ZC W (w.heap.size+1+1) false none 0 0 from fun W hb=>⟨(HCE.out _ HBQ.out).2.2.next hb,hoq.next hb,(HCE.out _ HBQ.out).1.2.2.next hb⟩)
  have HQN:=ah (show n5<=1000000000000 by
   rw [hoq.len,hq.out.1]
   have:=Zz.zl_tdiv (z.natAbs:Int) (Int.gcd z z':Int)
   rw [Zz.zl_abs] at this
   have:=HL.out
   omega)
  have HSZ:=ah (show w.heap.size+1+1 < gq from Nat.lt_of_lt_of_le HS.out (nT HB4.out.size hq.out.2))
  have HCP:=ah (show ∀ (W:World) (x y:Value),Below wc.heap.size wc W->(((W.setCell ⟨w.heap.size+1+1,0,none⟩ x).setCell ⟨w.heap.size+1+1,1,none⟩ y).cell? ⟨w.heap.size+1,0,none⟩=some (.bool s')/\((W.setCell ⟨w.heap.size+1+1,0,none⟩ x).setCell ⟨w.heap.size+1+1,1,none⟩ y).cell? ⟨w.heap.size+1,1,none⟩=some (.slice A' n' c')/\((W.setCell ⟨w.heap.size+1+1,0,none⟩ x).setCell ⟨w.heap.size+1+1,1,none⟩ y).cell? ⟨gq,0,none⟩=some (.bool s5)/\((W.setCell ⟨w.heap.size+1+1,0,none⟩ x).setCell ⟨w.heap.size+1+1,1,none⟩ y).cell? ⟨gq,1,none⟩=some (.slice A5 n5 c5)) from fun W x y hb=>by
   have h1:=(((HCE.out _ HBQ.out).1.2.1.next hb).far (p:=⟨w.heap.size+1+1,0,none⟩) (by simp) x).far (p:=⟨w.heap.size+1+1,1,none⟩) (by simp) y
   have h2:=((hQ.next hb).far (p:=⟨w.heap.size+1+1,0,none⟩) (by have:=HSZ.out;simp;omega) x).far (p:=⟨w.heap.size+1+1,1,none⟩) (by have:=HSZ.out;simp;omega) y
   exact ⟨h1.c0,h1.c1,h2.c0,h2.c1⟩)
  obtain ⟨x0,x1,x2,x3⟩:=HXX.out _ bR
  clear hQ hoq hbq
  go_wp2_with fail
  go_region_held3 (fun w'=>w'.cell? ⟨w.heap.size+1,0,none⟩=some (.bool s')/\w'.cell? ⟨w.heap.size+1,1,none⟩=some (.slice A' n' c')/\w'.cell? ⟨gq,0,none⟩=some (.bool s5)/\w'.cell? ⟨gq,1,none⟩=some (.slice A5 n5 c5))
   (first | exact HXX.out _ HB6.out | exact HXX.out _ HB5.out | exact HXX.out _ HBD.out | exact HCP.out _ _ _ HB6.out)
   (first
    | (go_at_call 173;refine (abs_any (HRZ.out _ HBD.out).1 (by omega)).mono ?_;rintro _ W5 ⟨t5,D5,m5,l5,y5,rfl,ho5,hy5,hb5⟩;have HB5:=ah (HBD.out.trans hb5);have HN5:=ah (show m5<=1000000000000 by { rw [ho5.len,hy5.out,Zz.zl_abs];have:=HL.out;omega }))
    | (go_at_call 146;refine (imul_any (HRZ.out _ HB5.out).2.1.rd ho5.rd (by have:=HQN.out;omega) (by have:=HN5.out;omega)).mono ?_;rintro _ W6 ⟨s6,A6,n6,c6,y6,rfl,ho6,hy6,hb6⟩;have HB6:=tM HB5 hb6;have hR6:=(HRZ.out _ HB6.out).2.2;have r0:=hR6.c0;have r1:=hR6.c1;have f0:=hR6.fz 0;have f1:=hR6.fz 1))
  have hR6':=(HRZ.out _ HB6.out).2.2
  have hp:=put_int hR6' (HB.out.trans ((HBQ.out.trans (HB6.out.mono HBQ.out.size)).mono HB.out.size)) (show w.heap.size<=w.heap.size+1+1 by omega) (ho6.base (b':=W1.heap.size) (nT HBQ.out.size HB5.out.size)) HS.out
  have HV:=ah (show y6=((Nat.lcm z.natAbs z'.natAbs:Nat):Int) by rw [hy6.out,hq.out.1,hy5.out];exact lcm_val z z')
  clear x0 x1 x2 x3 r0 r1 f0 f1 hR6 hR6' ho5 ho6 hb5 hb6
  generalize (W6.setCell ⟨w.heap.size+1+1,0,none⟩ (.bool s6)).setCell ⟨w.heap.size+1+1,1,none⟩ (.slice A6 n6 c6)=W9 at *
  obtain ⟨hZ9,ho9,hB9⟩:=hp
  have z0:=hZ9.c0
  have z1:=hZ9.c1
  go_wp2
  exact bodyPost_ret (by simp [results,Tryz.results210,go_sem,z0,z1]) rfl ⟨s6,A6,n6,c6,y6,rfl,ho9.base (by have:=HS.out;omega),HV,hB9⟩
theorem folded_lcm {N M b:Nat}{s0:Bool}{A0:Option Addr}{n0 c0:Nat}{A:Option Addr}{n c:Nat}{L:List Int}{w:World}(h:RdZs w w.heap.size N A n c L)(h0:OwZ w b s0 A0 n0 c0 1)(hb:b<=w.heap.size)(hp:∀ x ∈ L,0 < x)(hN:N<=400000000000)(hM:M<=400000000000)(hS:∀ j,Zz.zl ((L.take j).foldl (fun (g x:Int)=>((Nat.lcm g.natAbs x.natAbs:Nat):Int)) 1)<=M) :
  Calls Tryz.prog 190 #[.agg #[.bool s0,.slice A0 n0 c0],.slice A n c,.func (.func 210) #[] #[]] w fun e w'=>∃ (s:Bool) (A:Option Addr) (n c:Nat) (y:Int),e=.returned (.agg #[.bool s,.slice A n c])/\OwZ w' b s A n c y/\Hid (y=L.foldl (fun (g x:Int)=>((Nat.lcm g.natAbs x.natAbs:Nat):Int)) 1/\0 < y)/\Below w.heap.size w w':=by
 have hEN:=enters_of Tryz.func210 (by kernel_rfl) rfl
 have HLEN:=ah h.len
 have HP:=ah hp
 have HSZ:=ah hS
 clear hp hS
 have hn48:n<=9223372036854775807:=by
  have h1:=h.mx
  have h2:=h.le
  unfold maxLen at h1
  omega
 obtain ⟨hZ,hR,hB⟩:=boxed1 w s0 A0 n0 c0
 have h01:=h0.next hB
 go_enter Tryz.func190,Tryz.ntmps190
 go_wp2_with fail
 generalize (w.alloc (.cells #[.bool s0,.slice A0 n0 c0] 25)).alloc (.cells #[.bool false,.slice none 0 0] 25)=W1 at *
 have HS1:=ah hR.lt
 have HBb:=ah hb
 go_loopw [11] (fun iv wr=>∃ (j:Nat) (s:Bool) (A':Option Addr) (n' c':Nat) (y:Int),iv=.int .i64 j/\j<=n/\ZC wr w.heap.size s A' n' c'/\ZC wr (w.heap.size+1) false none 0 0/\Hid (W1.heap.size<=wr.heap.size)/\OwZ wr b s A' n' c' y/\Hid (y=(L.take j).foldl (fun (g x:Int)=>((Nat.lcm g.natAbs x.natAbs:Nat):Int)) 1/\0 < y)/\Below w.heap.size w wr) (fun iv _=>n-(intOf iv).toNat)
 case atStart=>exact ⟨0,s0,A0,n0,c0,1,rfl,nZ,hZ,hR,ah nR,h01,ah ⟨rfl,by decide⟩,hB⟩
 case round =>
  clear hZ hR hB h01 h0 hb
  obtain ⟨j,s,A',n',c',y,rfl,hj,hZ,hR,HB1,ho,hy,hB⟩:=hrel
  by_cases hjn:j=n
  ·subst hjn
   have hc0:=hZ.c0
   have hc1:=hZ.c1
   have hr0:=hR.c0
   have hr1:=hR.c1
   have hf0:=hR.fz 0
   have hf1:=hR.fz 1
   have HZ5:=ah (hR.store s A' n' c')
   have HO5:=ah (ho.keep (keep_set2 hR (.bool s) (.slice A' n' c')))
   have HB5:=ah (below_put2 hB (Nat.le_succ w.heap.size) (.bool s) (.slice A' n' c'))
   go_wp2
   generalize (wr.setCell ⟨w.heap.size+1,0,none⟩ (.bool s)).setCell ⟨w.heap.size+1,1,none⟩ (.slice A' n' c')=W5 at *
   exact bodyPost_ret (by simp [results,Tryz.results190,go_sem,HZ5.out.c0,HZ5.out.c1]) rfl ⟨s,A',n',c',y,rfl,HO5.out,ah (by rw [hy.out.1,List.take_of_length_le (by rw [HLEN.out];exact nR)];rw [hy.out.1,List.take_of_length_le (by rw [HLEN.out];exact nR)] at hy;exact ⟨rfl,by have:=hy.out.2;exact this⟩),HB5.out⟩
  ·have hjl:j < n:=by omega
   clear hjn
   obtain ⟨x,hx⟩:=zs_get (L:=L) (j:=j) (by rw [HLEN.out];exact hjl)
   obtain ⟨ad,s2,A2,n2,c2,rfl,hbk,hx0,hx1,hr,hn2⟩:=h.at_ j x hx
   have hx0':=(hB.cell (p:=ad.add (j*2)) (by rw [add_blk];exact hbk)).trans hx0
   have hx1':=(hB.cell (p:=⟨(ad.add (j*2)).block,(ad.add (j*2)).off+1,none⟩) (by show (ad.add (j*2)).block < _;rw [add_blk];exact hbk)).trans hx1
   have hjl':(j:Int) < (n:Int):=by omega
   obtain ⟨W2,HW2⟩:∃ W,W=wr.alloc (.cells #[.bool s2,.slice A2 n2 c2] 25):=⟨_,rfl⟩
   have hX:ZC W2 wr.heap.size s2 A2 n2 c2:=by rw [HW2];exact ZC.new wr s2 A2 n2 c2
   have hb2:Below wr.heap.size wr W2:=by rw [HW2];exact (Below.refl wr.heap.size wr).alloc nR _
   have hZ2:=hZ.next hb2
   have hc0:=hZ2.c0
   have hc1:=hZ2.c1
   have hd0:=hX.c0
   have hd1:=hX.c1
   rw [HW2] at hc0 hc1 hd0 hd1
   have HW2:=ah HW2
   have HLY:=ah (show n'<=400000000000 by rw [ho.len,hy.out.1];exact nT (HSZ.out j) hM)
   go_wp2_with fail
   clear hc0 hc1 hd0 hd1
   rw [<- HW2.out]
   clear HW2
   have hR2:=hR.next hb2
   have hB2:=hB.trans (hb2.mono hB.size)
   have hr2:=(hr.next hB2)
   have ho2:=ho.next hb2
   refine (ilcm_any ho2.rd hr2 HLY.out (by omega) hy.out.2).mono ?_
   rintro _ W3 ⟨s3,A3,m3,c3,z3,rfl,ho3,hz3,hb3⟩
   have hZ3:=hZ2.next hb3
   have hR3:=hR2.next hb3
   have hB3:=hB2.trans (hb3.mono hB2.size)
   have hc0:=hZ3.c0
   have hc1:=hZ3.c1
   have hf0:=hZ3.fz 0
   have hf1:=hZ3.fz 1
   have HS2:=ah (show w.heap.size < W2.heap.size from hZ2.lt)
   have HFO:=ah (show z3=(L.take (j+1)).foldl (fun (g x:Int)=>((Nat.lcm g.natAbs x.natAbs:Nat):Int)) 1/\0 < z3 from ⟨by rw [foldl_take hx,hz3.out,hy.out.1],by
    rw [hz3.out]
    have h1:=hy.out.2
    have h2:=HP.out x (gM hx)
    have:=Nat.lcm_pos (m:=y.natAbs) (n:=x.natAbs) (by omega) (by omega)
    omega⟩)
   have HB12:=ah (show W1.heap.size<=W2.heap.size from nT HB1.out hb2.size)
   have HB23:=ah hb3.size
   have HBW:=ah (show b<=W2.heap.size from nT HBb.out hB2.size)
   clear hx hx0 hx1 hx0' hx1' hr hr2 hZ hZ2 hX hR hR2 hb2 hb3 ho ho2 hy hz3
   go_wp2
   have HZ5:=ah (hZ3.store s3 A3 m3 c3)
   have HO5:=ah ((ho3.base (b':=b) HBW.out).keep (keep_set2 hZ3 (.bool s3) (.slice A3 m3 c3)))
   have HBF:=ah (below_put2 hB3 (Nat.le_refl w.heap.size) (.bool s3) (.slice A3 m3 c3))
   have HS5:=ah (show W2.heap.size<=((W3.setCell ⟨w.heap.size,0,none⟩ (.bool s3)).setCell ⟨w.heap.size,1,none⟩ (.slice A3 m3 c3)).heap.size by simpa using HB23.out)
   have hR5:=(hR3.far (p:=⟨w.heap.size,0,none⟩) (by simp) (.bool s3)).far (p:=⟨w.heap.size,1,none⟩) (by simp) (.slice A3 m3 c3)
   generalize (W3.setCell ⟨w.heap.size,0,none⟩ (.bool s3)).setCell ⟨w.heap.size,1,none⟩ (.slice A3 m3 c3)=W5 at *
   have HB15:W1.heap.size<=W5.heap.size:=nT HB12.out HS5.out
   go_roundw
   case rel=>exact ⟨j+1,s3,A3,m3,c3,z3,by go_num,by omega,HZ5.out,hR5,ah HB15,HO5.out,HFO,HBF.out⟩
   case measure=>simp [intOf];omega
theorem lcml_any {N M:Nat}{A:Option Addr}{n c:Nat}{L:List Int}{w:World}(h:RdZs w w.heap.size N A n c L)(hp:∀ x ∈ L,0 < x)(hN:N<=400000000000)(hM:M<=400000000000)(hS:∀ j,Zz.zl ((L.take j).foldl (fun (g x:Int)=>((Nat.lcm g.natAbs x.natAbs:Nat):Int)) 1)<=M) :
  Calls Tryz.prog 171 #[.slice A n c] w (RetI (L.foldl (fun (g x:Int)=>((Nat.lcm g.natAbs x.natAbs:Nat):Int)) 1) w):=by
 obtain ⟨W1,HW1⟩:∃ W,W=w.alloc (.cells #[.bool false,.slice none 0 0] 25):=⟨_,rfl⟩
 have hR:ZC W1 w.heap.size false none 0 0:=by rw [HW1];exact ZC.new w false none 0 0
 have hB:Below w.heap.size w W1:=by rw [HW1];exact (Below.refl w.heap.size w).alloc nR _
 have HW1:=ah HW1
 have h1:=h.next hB
 have HS1:=ah hR.lt
 go_enter Tryz.func171,Tryz.ntmps171
 go_wp2_with fail
 rw [<- HW1.out]
 clear HW1
 clear HW1
 refine (of_any 1 (by decide) (by decide) W1).mono ?_
 rintro _ W2 ⟨s2,A2,n2,c2,y2,rfl,ho2,hy2,hb2⟩
 obtain rfl:y2=1:=hy2.out
 go_wp2_with fail
 refine (folded_lcm (b:=W1.heap.size) (M:=M) (h1.next hb2) ho2 hb2.size hp hN hM hS).mono ?_
 rintro _ W3 ⟨s3,A3,m3,c3,z3,rfl,ho3,hz3,hb3⟩
 have hb13:=hb2.trans (hb3.mono hb2.size)
 have hR3:=hR.next hb13
 have hB3:=hB.trans (hb13.mono hB.size)
 have hc0:=hR3.c0
 have hc1:=hR3.c1
 have hf0:=hR3.fz 0
 have hf1:=hR3.fz 1
 clear hb3 hb2 hb13 hR h1 h
 go_wp2
 have hp:=put_int hR3 hB3 nR ho3 HS1.out
 generalize (W3.setCell ⟨w.heap.size,0,none⟩ (.bool s3)).setCell ⟨w.heap.size,1,none⟩ (.slice A3 m3 c3)=W5 at hp ⊢
 obtain ⟨hZ5,ho5,hB5⟩:=hp
 exact bodyPost_ret (by simp [results,Tryz.results171,go_sem,hZ5.c0,hZ5.c1]) rfl ⟨_,_,_,_,_,rfl,ho5.base (Nat.le_of_lt HS1.out),ah hz3.out.1,hB5⟩
end Go.Proofs.YtjnklbfhelbjgaaGreat
