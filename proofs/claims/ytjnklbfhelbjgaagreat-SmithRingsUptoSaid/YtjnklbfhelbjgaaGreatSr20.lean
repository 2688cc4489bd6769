/- Sr20. -/
import Derived.Test.YtjnklbfhelbjgaaGreatSr19
import Derived.Deep.RegionHeld3
import Derived.Deep.DrawnRows
import Derived.Test.YtjnklbfhelbjgaaGreatSr11
import Derived.Test.YtjnklbfhelbjgaaGreatSr10
import Derived.Test.YtjnklbfhelbjgaaGreatSr14
import Derived.Test.YtjnklbfhelbjgaaGreatSr16
import Derived.Test.YtjnklbfhelbjgaaGreatSr13
import Derived.Test.YtjnklbfhelbjgaaGreatRows
import Derived.Test.YtjnklbfhelbjgaaGreatSr00
set_option maxRecDepth 100000
set_option maxHeartbeats 32000000
set_option linter.all false
namespace Go.Proofs.YtjnklbfhelbjgaaGreat
open Go.RowKit Go.IntWalk
attribute [local go_sem ↓] Go.wp_at_zero Go.wp_at_succ
section
variable {n k i:Nat}{G:Nat->List Rat}{a:Nat->List Rat}{b:Nat->Nat->List Rat}
def midR (n:Nat)(a:Nat->List Rat)(b:Nat->Nat->List Rat)(m k i:Nat):List (List Rat):=rowF n fun q=>if q < k then msum a (b q) m else if q=k then msum a (b q) i else []
theorem midR_zero {m:Nat}:(rowF n fun q=>if q < k then msum a (b q) m else [])=midR n a b m k 0:=rowF_congr fun q _=>by
 by_cases h:q < k
 ·rw [if_pos h,if_pos h]
 ·rw [if_neg h,if_neg h]
  by_cases h2:q=k
  ·rw [if_pos h2];rfl
  ·rw [if_neg h2]
theorem midR_done {m:Nat}:midR n a b m k m=rowF n fun q=>if q < k+1 then msum a (b q) m else []:=rowF_congr fun q _=>by
 by_cases h:q < k
 ·rw [if_pos h,if_pos (by omega)]
 ·rw [if_neg h]
  by_cases h2:q=k
  ·rw [if_pos h2,if_pos (by omega)]
  ·rw [if_neg h2,if_neg (by omega)]
theorem midR_get {m:Nat}(hk:k < n):(midR n a b m k i)[k]?=some (msum a (b k) i):=by
 unfold midR
 rw [rowF_get hk,if_neg (Nat.lt_irrefl k),if_pos rfl]
theorem midR_set {m:Nat}:(midR n a b m k i).set k (padd (msum a (b k) i) (pmul (a i) (b k i)))=midR n a b m k (i+1):=by
 unfold midR
 rw [rowF_set]
 refine rowF_congr fun q _=>?_
 by_cases h:q=k
 ·subst h
  rw [if_pos rfl,if_neg (Nat.lt_irrefl q),if_pos rfl]
  rfl
 ·rw [if_neg h,if_neg h]
  by_cases h2:q < k
  ·rw [if_pos h2,if_pos h2]
  ·rw [if_neg h2,if_neg h2,if_neg h]
end
def mulR (MA MB:List (List (List Rat)))(kA kB i:Nat):List (List Rat):=rowF kB fun k=>msum (entT MA i) (fun j=>entT MB j k) kA
theorem timesT_any {b b' t u kA kB:Nat}{MA MB:List (List (List Rat))}{w:World}(h:Tg w b t MA kA)(h':Tg w b' u MB kB)(ha:AllFq MA)(hb:AllFq MB)(hr:∀ LL ∈ MA,LL.length=kA)(hr':∀ LL ∈ MB,LL.length=kB)(hs:MA.length<=24/\kA<=24/\kB<=24)(hm:MB.length=kA) :
  Calls Tryz.prog 74 #[.pointer (some ⟨t,0,none⟩),.pointer (some ⟨u,0,none⟩)] w (RetTg (rowF MA.length (mulR MA MB kA kB)) kB w):=by
 obtain ⟨A,n,c,hT,_,ho⟩:=h
 obtain ⟨B,m,d,hU,_,hp⟩:=h'
 obtain ⟨i1,hjf,hy0,hy1,hy2⟩:=info_parts infoRow
 have HLA:=ah ho.len
 obtain rfl:m=kA:=by rw [<- hp.len];exact hm
 have HS:=ah (show AllFq MA/\AllFq MB/\(∀ LL ∈ MA,LL.length=m)/\(∀ LL ∈ MB,LL.length=kB) from ⟨ha,hb,hr,hr'⟩)
 have hn:n<=24:=by rw [<- ho.len];exact hs.1
 have hkA:m<=24:=hs.2.1
 have hkB:kB<=24:=hs.2.2
 have HX:=ah (show ∀ W,Below w.heap.size w W->(PX W t 102 [.slice A n c,.int .i64 (m:Int)]/\OwPp W b A n c MA)/\(PX W u 102 [.slice B m d,.int .i64 (kB:Int)]/\OwPp W b' B m d MB) from fun W hb=>⟨⟨hT.next hb,OwL.next stayPp ho hb⟩,⟨hU.next hb,OwL.next stayPp hp hb⟩⟩)
 have hmk:=make_ps kB (by omega)
 obtain ⟨W1,HW1⟩:∃ W,W=w.alloc (.cells #[.slice none 0 0,.int .i64 (kB:Int)] 102):=⟨_,rfl⟩
 have hb1:Below w.heap.size w W1:=by rw [HW1];exact bA
 obtain ⟨o,hgo⟩:∃ g,g=w.heap.size:=⟨_,rfl⟩
 have HN0:=ah (show PX W1 o 102 [.slice none 0 0,.int .i64 (kB:Int)] by rw [HW1,hgo];exact PX.new w _ [.slice none 0 0,.int .i64 (kB:Int)])
 have HGW:=ah (show w.heap.size<=o by rw [hgo];exact nR)
 have HB0:=ah hb1
 have k3:=hU.cell (i:=1) rfl
 have k0':(w.alloc (.cells #[.slice none 0 0,.int .i64 (kB:Int)] 102)).cell? ⟨t,0,none⟩=some (.slice A n c):=by rw [<- HW1];exact (HX.out _ hb1).1.1.cell rfl
 have HW1:=ah HW1
 clear hb1 ho hp hT hU ha hb hr hr' hs hm
 go_enter Tryz.func74,Tryz.ntmps74
 go_wp2_with fail
 rw [<- HW1.out,<- hgo]
 clear HW1 hgo
 clear HW1 k3 k0'
 go_loopw [23] (fun iv wr=>∃ (j c':Nat) (A':Option Addr),iv=.int .i64 (j:Int)/\j<=n/\Hid (PX wr o 102 [.slice A' j c',.int .i64 (kB:Int)])/\OwPp wr w.heap.size A' j c' (rowF j (mulR MA MB m kB))/\Below w.heap.size w wr) (fun iv _=>n-(intOf iv).toNat)
 case atStart=>exact ⟨0,0,none,rfl,nZ,HN0,OwL.nil _ _ _ _,HB0.out⟩
 case round =>
  obtain ⟨j,c',A',rfl,hj,hT,ho,hB⟩:=hrel
  by_cases hjn:j=n
  ·have HTG:=ah (show Tg wr w.heap.size o (rowF MA.length (mulR MA MB m kB)) kB from ⟨A',j,c',hT.out,HGW.out,by
    rw [HLA.out,<- hjn]
    exact ho⟩)
   have HBF:=ah hB
   subst hjn
   clear ho hB hT
   go_wp2
   go_ret
   exact ⟨o,rfl,HTG.out,HBF.out⟩
  ·have hjl:j < n:=by omega
   have hjli:(j:Int) < (n:Int):=by omega
   obtain ⟨wo,rfl⟩:∃ V,V=wr:=⟨_,rfl⟩
   clear hjn
   have HOT:=ah ho
   have HT:=hT
   have HB3:=ah hB
   have k3:=(HX.out wo hB).2.1.cell (i:=1) rfl
   obtain ⟨R0,HR0⟩:∃ W,W=wo.alloc (.cells (madeCells #[.slice none 0 0] kB) 73):=⟨_,rfl⟩
   have hb2:Below wo.heap.size wo R0:=by rw [HR0];exact bA
   obtain ⟨gr,hgr⟩:∃ g,g=wo.heap.size:=⟨_,rfl⟩
   have HP2:=ah (show OwP R0 w.heap.size (some ⟨gr,0,none⟩) kB kB (rowF kB fun _=>[]) by rw [HR0,hgr];exact OwP.made wo HB3.out.size (by omega))
   have HG2:=ah (show wo.heap.size<=gr by rw [hgr];exact nR)
   have HB2:=ah hb2
   have HR0:=ah HR0
   clear hb2 ho hB hT
   go_wp2_with fail
   rw [<- HR0.out,<- hgr]
   clear HR0 hgr
   clear HR0 k3
   go_loopw [33] (fun iv wr=>∃ (k:Nat),iv=.int .i64 (k:Int)/\k<=kB/\OwP wr w.heap.size (some ⟨gr,0,none⟩) kB kB (rowF kB fun q=>if q < k then msum (entT MA j) (fun i=>entT MB i q) m else [])/\Below wo.heap.size wo wr) (fun iv _=>kB-(intOf iv).toNat)
   case atStart=>exact ⟨0,rfl,nZ,by rw [<- row_none];exact HP2.out,HB2.out⟩
   case round =>
    obtain ⟨k,rfl,hk,ho5,hB5⟩:=hrel
    by_cases hkn:k=kB
    ·have HR8:=ah (show OwP wr w.heap.size (some ⟨gr,0,none⟩) kB kB (mulR MA MB m kB j) by
      have e:mulR MA MB m kB j=rowF kB fun q=>if q < k then msum (entT MA j) (fun i=>entT MB i q) m else []:=rowF_congr fun q hq=>by rw [if_pos (by omega)]
      rw [e]
      exact ho5)
     have HB8:=tM HB3 hB5
     have HT8:=ah (HT.out.next hB5)
     obtain ⟨E,hE,hEl,hEn⟩:=OwL.next stayPp HOT.out hB5
     have HE:=ah hE
     have HEN:=ah (cJ hEl hEn)
     have m0:=HT8.out.cell (i:=0) rfl
     have hba:Below wr.heap.size wr (wr.alloc (.cells #[.slice (some ⟨gr,0,none⟩) k k] 30)):=bA
     have m0':(wr.alloc (.cells #[.slice (some ⟨gr,0,none⟩) k k] 30)).cell? ⟨o,0,none⟩=some (.slice A' j c'):=(HT8.out.next hba).cell (i:=0) rfl
     subst hkn
     clear ho5 hB5 hE hEl hEn
     go_wp2_with (at_builtin;(refine wpList_append_own _ rfl _ _ 45 rfl w.heap.size 30 i1 (.slice none 0 0) 1 24 Tryz.underlying45 hjf hy0 hy1 hy2 rfl (by decide) _ _ _ rfl (HE.out.alloc _) ⟨wr.heap.size,0,none⟩ 1 1 [.slice (some ⟨gr,0,none⟩) k k] rfl rfl (scell1 wr (.slice (some ⟨gr,0,none⟩) k k) 30) (by simp [Value.oneCell']) (by unfold maxLen;omega) (by omega) (by have h1:=HB8.out.size;rw [World.size_alloc];omega) ?_);intro v' Y0 hown' hgrow _;(obtain ⟨A9,c9,rfl,e1,e2,hT9,ho9⟩:=tp_more (e:=(some ⟨gr,0,none⟩,k,k)) HT8.out HE.out HEN.out.1 HEN.out.2 HR8.out hown' hgrow))
     obtain ⟨X0,HX0⟩:∃ W,W=Y0.setCell ⟨o,0,none⟩ (.slice A9 (j+1) c9):=⟨_,rfl⟩
     have HB9:=ah (show Below w.heap.size w X0 by
      rw [HX0]
      exact (((HB8.out.alloc HB8.out.size (.cells #[.slice (some ⟨gr,0,none⟩) k k] 30)).grown hgrow (by have h1:=HB8.out.size;rw [World.size_alloc];omega) (own_block HE.out)).setCell (p:=⟨o,0,none⟩) HGW.out _))
     rw [<- HX0] at hT9 ho9
     have HT9:=ah hT9
     have HO9:=ah (show OwPp X0 w.heap.size A9 (j+1) c9 (rowF (j+1) (mulR MA MB m k)) by
      rw [<- rowF_snoc]
      exact ho9)
     rw [<- HX0]
     clear hown' hgrow e1 e2 m0 m0' hba HX0 HE HEN hT9 ho9
     go_roundw
     case rel=>exact ⟨j+1,c9,A9,by go_num,by omega,HT9,HO9.out,HB9.out⟩
     case measure=>simp [intOf];omega
    ·have hkl:k < kB:=by omega
     have hkli:(k:Int) < (kB:Int):=by omega
     have HO5:=ah (show OwP wr w.heap.size (some ⟨gr,0,none⟩) kB kB (midR kB (entT MA j) (fun q i=>entT MB i q) m k 0) by
      rw [<- midR_zero]
      exact ho5)
     obtain ⟨wq,rfl⟩:∃ V,V=wr:=⟨_,rfl⟩
     have HB5:=ah hB5
     have k4:=(HX.out _ (HB3.out.trans (hB5.mono HB3.out.size))).1.1.cell (i:=1) rfl
     clear ho5 hB5 hkn
     go_wp2_with fail
     clear k4
     go_loopw [40] (fun iv wr=>∃ (i:Nat),iv=.int .i64 (i:Int)/\i<=m/\OwP wr w.heap.size (some ⟨gr,0,none⟩) kB kB (midR kB (entT MA j) (fun q i=>entT MB i q) m k i)/\Below wo.heap.size wo wr) (fun iv _=>m-(intOf iv).toNat)
     case atStart=>exact ⟨0,rfl,nZ,HO5.out,HB5.out⟩
     case round =>
      obtain ⟨i,rfl,hi,ho7,hB7⟩:=hrel
      by_cases hin:i=m
      ·have HR8:=ah (show OwP wr w.heap.size (some ⟨gr,0,none⟩) kB kB (rowF kB fun q=>if q < k+1 then msum (entT MA j) (fun i=>entT MB i q) m else []) by
        rw [hin,midR_done] at ho7
        exact ho7)
       have HB8:=ah hB7
       subst hin
       clear ho7 hB7
       go_wp2
       go_roundw
       case rel=>exact ⟨k+1,by go_num,by omega,HR8.out,HB8.out⟩
       case measure=>simp [intOf];omega
      ·have hil:i < m:=by omega
       have hili:(i:Int) < (m:Int):=by omega
       clear hin
       have HB7:=ah hB7
       have HB8:=tM HB3 hB7
       have HO7:=ah ho7
       obtain ⟨ga,A1,n1,c1,LA,rfl,hl1,x1,oa,pa⟩:=(HX.out wr HB8.out).1.2.at_ hjl
       obtain rfl:n1=m:=by rw [<- oa.len];exact HS.out.2.2.1 LA (gM pa.out)
       obtain ⟨g1,xa,xn,xc,PA,rfl,hl2,x2,oa2,pa2⟩:=oa.at_ hil
       obtain ⟨gb,A2,n2,c2,LB,rfl,hl3,x3,ob,pb⟩:=(HX.out wr HB8.out).2.2.at_ hil
       obtain rfl:n2=kB:=by rw [<- ob.len];exact HS.out.2.2.2 LB (gM pb.out)
       obtain ⟨g2,ya,yn,yc,PB,rfl,hl4,x4,ob2,pb2⟩:=ob.at_ hkl
       have HEA:=ah (show entT MA j i=PA from entT_mem pa.out pa2.out)
       have HEB:=ah (show entT MB i k=PB from entT_mem pb.out pb2.out)
       have HPA:=ah (show Fq PA by rw [<- HEA.out];exact entT_sm HS.out.1 j i)
       have HPB:=ah (show Fq PB by rw [<- HEB.out];exact entT_sm HS.out.2.1 i k)
       have HC:=ah (show ∀ W,Below wr.heap.size wr W->W.cell? ⟨t,0,none⟩=some (.slice (some ⟨ga,0,none⟩) n c)/\W.cell? ⟨ga,j,none⟩=some (.slice (some ⟨g1,0,none⟩) n1 c1)/\W.cell? ⟨g1,i,none⟩=some (.slice xa xn xc)/\W.cell? ⟨u,0,none⟩=some (.slice (some ⟨gb,0,none⟩) n1 d)/\W.cell? ⟨gb,i,none⟩=some (.slice (some ⟨g2,0,none⟩) n2 c2)/\W.cell? ⟨g2,k,none⟩=some (.slice ya yn yc) from fun W hb=>⟨((HX.out _ HB8.out).1.1.next hb).cell rfl,(hb.cell (p:=⟨ga,j,none⟩) hl1).trans x1,(hb.cell (p:=⟨g1,i,none⟩) hl2).trans x2,((HX.out _ HB8.out).2.1.next hb).cell rfl,(hb.cell (p:=⟨gb,i,none⟩) hl3).trans x3,(hb.cell (p:=⟨g2,k,none⟩) hl4).trans x4⟩)
       have HBD:=ah (Below.refl wr.heap.size wr).drew
       have HBA:=ah (show ∀ o,Below wr.heap.size wr (wr.alloc o).drew from fun o=>((Below.refl wr.heap.size wr).alloc nR _).drew)
       have HPS:=ah (show RdPs (wr.alloc (.cells #[.slice xa xn xc,.slice ya yn yc] 73)).drew (wr.alloc (.cells #[.slice xa xn xc,.slice ya yn yc] 73)).drew.heap.size 4097 1048576 (some ⟨wr.heap.size,0,none⟩) 2 2 [PA.map pr,PB.map pr] from (ps_two (K:=1048576) (oa2.rd HPA.out.qs) (ob2.rd HPB.out.qs) (by rw [<- oa2.len];have:=HPA.out.2.1;omega) (by rw [<- ob2.len];have:=HPB.out.2.1;omega) rfl).next bR.drew)
       clear oa ob oa2 ob2 pa pa2 pb pb2 x1 x2 x3 x4 hl1 hl2 hl3 hl4 ho7 hB7
       go_upto_region 12 with fail
       go_region_held3 (fun W=>W.cell? ⟨t,0,none⟩=some (.slice (some ⟨ga,0,none⟩) n c)/\W.cell? ⟨ga,j,none⟩=some (.slice (some ⟨g1,0,none⟩) n1 c1)/\W.cell? ⟨g1,i,none⟩=some (.slice xa xn xc)/\W.cell? ⟨u,0,none⟩=some (.slice (some ⟨gb,0,none⟩) n1 d)/\W.cell? ⟨gb,i,none⟩=some (.slice (some ⟨g2,0,none⟩) n2 c2)/\W.cell? ⟨g2,k,none⟩=some (.slice ya yn yc))
        (first | exact HC.out _ HB9.out | exact HC.out _ (HBA.out _) | exact HC.out _ HBD.out)
        (first
         | (go_at_call 127;refine (pmulB_any HPS.out HPA.out HPB.out).mono ?_;rintro _ W9 ⟨A9,n9,l9,rfl,ho9,hb9⟩;have HB9:Hid (Below wr.heap.size wr W9):=ah ((HBA.out _).trans (hb9.mono (HBA.out _).size));have HO9:=ah ho9;clear ho9 hb9))
       have HS9:=ah (HO9.out.base (b':=w.heap.size) (by have h1:=HB8.out.size;have h2:=(HBA.out (.cells #[.slice xa xn xc,.slice ya yn yc] 73)).size;omega))
       have hr9:=OwL.next stayQP HO7.out HB9.out
       obtain ⟨A8,n8,l8,P8,_,q0,ho8,hp8⟩:=hr9.cell hkl
       obtain rfl:P8=msum (entT MA j) (fun i=>entT MB i k) i:=by
        have e1:=hp8.out
        rw [midR_get hkl] at e1
        injection e1 with e1
        exact e1.symm
       have HR9:=ah hr9
       have HO8:=ah ho8
       have HBW:=tM HB7 HB9.out
       have HSA:=ah (show ∀ j,Fq (entT MA j i) from fun j=>entT_sm HS.out.1 j i)
       clear hr9 ho8 hp8 HBA HBD HPS HO9
       go_wp2_with fail
       refine (paddB_any (N:=50000000) HO8.out HS9.out (msum_qs (fun i=>entT_sm HS.out.1 j i) (fun i=>entT_sm HS.out.2.1 i k) (by omega)) (by
        rw [<- HEA.out,<- HEB.out]
        exact pmul_qs (a:=entT MA j) (b:=fun i=>entT MB i k) (fun i=>entT_sm HS.out.1 j i) (fun i=>entT_sm HS.out.2.1 i k) i) (by
        have:=msum_len (a:=entT MA j) (b:=fun i=>entT MB i k) (fun i=>entT_sm HS.out.1 j i) (fun i=>entT_sm HS.out.2.1 i k) i
        omega) (by
        rw [<- HEA.out,<- HEB.out]
        have:=pmul_len (a:=entT MA j) (b:=fun i=>entT MB i k) (fun i=>entT_sm HS.out.1 j i) (fun i=>entT_sm HS.out.2.1 i k) i
        omega) (by decide) (by decide)).mono ?_
       rintro _ W10 ⟨A10,n10,c10,rfl,ho10,hb10⟩
       have HB10:=tM HBW hb10
       have hr10:=OwL.next stayQP HR9.out hb10
       obtain ⟨_,_,_,_,_,q1,_,_⟩:=hr10.cell hkl
       obtain ⟨hbg,hgl,f0,hr11,hk11⟩:=OwL.put stayQP hr10 hkl (ho10.base (b':=w.heap.size) (by have h1:=HB8.out.size;have h2:=HB9.out.size;omega))
       have HR11:=ah (show OwP (W10.setCell ⟨gr,k,none⟩ (.slice A10 n10 c10)) w.heap.size (some ⟨gr,0,none⟩) n2 n2 (midR n2 (entT MA j) (fun q i=>entT MB i q) n1 k (i+1)) by
        rw [<- HEA.out,<- HEB.out] at hr11
        rw [<- midR_set]
        exact hr11)
       have HB11:=ah (show Below wo.heap.size wo (W10.setCell ⟨gr,k,none⟩ (.slice A10 n10 c10)) from HB10.out.setCell (p:=⟨gr,k,none⟩) HG2.out _)
       clear hr10 hr11 hk11 hbg hgl ho10 hb10 q0
       go_wp2
       go_roundw
       case rel=>exact ⟨i+1,by go_num,by omega,HR11.out,HB11.out⟩
       case measure=>simp [intOf];omega
def MulV (PA PB:List (List (List RawQ)))(MM:List (List (List Rat)))(kk:Int):Prop :=
 (kk ≠ 0/\BothV PA PB kk/\MM=[]) ∨ (BothV PA PB 0/\colq (nn PA) ≠ (nn PB).length/\MM=[]/\kk=2) ∨ (BothV PA PB 0/\colq (nn PA)=(nn PB).length/\MM=mulT (nn PA) (nn PB)/\kk=0)
theorem mulT_fine {MA MB:List (List (List Rat))}(ha:AllFq MA)(hb:AllFq MB)(h:MA.length<=24/\colq MA<=24/\colq MB<=24):Fine 50000000 (mulT MA MB):=by
 have key:∀ LL ∈ mulT MA MB,LL.length=colq MB/\∀ L ∈ LL,∃ i k,L=msum (entT MA i) (fun j=>entT MB j k) (colq MA):=fun LL hL=>by
  obtain ⟨i,hi,rfl⟩:=rowF_mem hL
  refine ⟨rowF_len _ _,fun L hl=>?_⟩
  obtain ⟨k,hk,rfl⟩:=rowF_mem hl
  exact ⟨i,k,rfl⟩
 refine ⟨by rw [mulT,rowF_len];omega,fun LL hL=>by rw [(key LL hL).1];omega,fun LL hL L hl=>?_,fun LL hL L hl x hx=>?_⟩
 ·obtain ⟨i,k,rfl⟩:=(key LL hL).2 L hl
  have:=msum_len (a:=entT MA i) (b:=fun j=>entT MB j k) (fun j=>entT_sm ha i j) (fun j=>entT_sm hb j k) (colq MA)
  omega
 ·obtain ⟨i,k,rfl⟩:=(key LL hL).2 L hl
  exact msum_qs (a:=entT MA i) (b:=fun j=>entT MB j k) (fun j=>entT_sm ha i j) (fun j=>entT_sm hb j k) h.2.1 x hx
theorem mulT_nrm (MA MB:List (List (List Rat))):NrmT (mulT MA MB):=fun LL hL L hl=>by
 obtain ⟨i,hi,rfl⟩:=rowF_mem hL
 obtain ⟨k,hk,rfl⟩:=rowF_mem hl
 exact Pq.nrm_id (msum_nz _ _ _)
theorem smMul_any {N K J N' K' J':Nat}{A A':Option Addr}{n c n' c':Nat}{PA PB:List (List (List RawQ))}{w:World}(h:RdRpp w w.heap.size N K J A n c PA)(h':RdRpp w w.heap.size N' K' J' A' n' c' PB)
  (hn:n<=1048576/\n'<=1048576) (hJ:J<=1048576/\J'<=1048576) (hK:K<=1048576/\K'<=1048576) (hN:N<=1000000000/\N'<=1000000000) (h1N:1<=N/\1<=N') :
  Calls Tryz.prog 23 #[.slice A n c,.slice A' n' c'] w (RetPk (MulV PA PB) w):=by
 have HB:=ah (bothT_any h h' hn hJ hK hN h1N)
 clear h h' hn hJ hK hN h1N
 go_enter Tryz.func23,Tryz.ntmps23
 go_wp2_with fail
 refine HB.out.mono ?_
 clear HB
 intro _ W1 hpost
 rcases hpost with ⟨kk,rfl,hk,hb1⟩ | ⟨t,u,rfl,hV,hT,hU,hb1⟩
 ·have hk0:¬kk=0:=hk.out.1
  have hk1:(kk == 0)=false:=by simp;exact hk0
  have HV:=ah (show MulV PA PB [] kk from .inl ⟨hk0,hk.out.2,rfl⟩)
  have HB1:=ah hb1
  clear hk hb1
  go_wp2
  go_ret2
  exact ⟨none,0,0,[],kk,rfl,OwL.nil _ _ _ _,HV,HB1.out⟩
 ·have HSZ:=ah (show ((nn PA).length<=24/\colq (nn PA)<=24/\colq (nn PB)<=24)/\(nn PB).length<=24 by
   have h1:=hV.out.zero.1.zero.2.2
   have h2:=hV.out.zero.2.zero.2.2
   unfold Bigg at h1 h2
   omega)
  have HT:=ah (show ∀ W,Below W1.heap.size W1 W->Tg W w.heap.size t (nn PA) (colq (nn PA))/\Tg W w.heap.size u (nn PB) (colq (nn PB)) from fun W hb=>⟨hT.next hb,hU.next hb⟩)
  obtain ⟨A1,n1,c1,hp1,_,ho1⟩:=hT
  obtain ⟨A2,n2,c2,hp2,_,ho2⟩:=hU
  have HL:=ah (show (nn PB).length=n2 from ho2.len)
  obtain ⟨kA,hkA⟩:∃ k,k=colq (nn PA):=⟨_,rfl⟩
  rw [<- hkA] at hp1
  have HKA:=ah hkA
  have m0:=hp1.cell (i:=1) rfl
  have m1:=hp2.cell (i:=0) rfl
  have HB1:=ah hb1
  have HV:=hV
  clear hb1 hV hp1 hp2 ho1 ho2 hkA
  go_upto_region 4 with fail
  by_cases hne:kA=n2
  ·have hnei:(kA:Int)=(n2:Int):=by omega
   have HNE:=ah (show colq (nn PA)=(nn PB).length by rw [<- HKA.out,HL.out,hne])
   clear hne
   go_quiet (fail)
   obtain ⟨V,hW⟩:∃ V,V=W1.drewN nq:=⟨_,rfl⟩
   have hbV:Below W1.heap.size W1 V:=by rw [hW];exact below_drawn _ _
   have HTV:=ah (HT.out V hbV)
   have HBV:=tM HB1 hbV
   rw [<- hW]
   clear hW hbV m0 m1
   go_wp2_with fail
   refine (timesT_any HTV.out.1 HTV.out.2 (fit_sm HV.out.zero.1) (fit_sm HV.out.zero.2) HV.out.zero.1.zero.2.1 HV.out.zero.2.zero.2.1 HSZ.out.1 HNE.out.symm).mono ?_
   rintro _ W3 ⟨t3,rfl,hT3,hb3⟩
   have HT3:=ah (show Tg W3 V.heap.size t3 (mulT (nn PA) (nn PB)) (colq (nn PB)) from hT3)
   have HB3:=tM HBV hb3
   clear hT3 hb3
   go_wp2_with fail
   refine (told_any HT3.out (mulT_fine (fit_sm HV.out.zero.1) (fit_sm HV.out.zero.2) HSZ.out.1) (mulT_nrm _ _) (by decide) (by decide)).mono ?_
   rintro _ W4 ⟨A4,n4,c4,rfl,ho4,hb4⟩
   have HB4:=tM HB3 hb4
   have HO4:=ah (OwL.base stayPp ho4 HB3.out.size)
   have HM:=ah (show MulV PA PB (mulT (nn PA) (nn PB)) 0 from .inr (.inr ⟨HV.out,HNE.out,rfl,rfl⟩))
   clear ho4 hb4
   go_wp2
   go_ret2
   exact ⟨A4,n4,c4,_,0,rfl,HO4.out,HM,HB4.out⟩
  ·have hnei:¬(kA:Int)=(n2:Int):=by omega
   have HM:=ah (show MulV PA PB [] 2 from .inr (.inl ⟨HV.out,by rw [<- HKA.out,HL.out];exact hne,rfl,rfl⟩))
   clear hne
   go_quiet (fail)
   obtain ⟨V,hW⟩:∃ V,V=W1.drewN nq:=⟨_,rfl⟩
   have hbV:Below W1.heap.size W1 V:=by rw [hW];exact below_drawn _ _
   have HBV:=tM HB1 hbV
   rw [<- hW]
   clear hW hbV m0 m1
   go_wp2
   go_ret2
   exact ⟨none,0,0,[],2,rfl,OwL.nil _ _ _ _,HM,HBV.out⟩
theorem sameAllR_any {N K N' K':Nat}{A A':Option Addr}{n c n' c':Nat}{LL MM:List (List RawQ)}{w:World}(h:RdRp w w.heap.size N K A n c LL)(h':RdRp w w.heap.size N' K' A' n' c' MM)(hn:n<=1048576)(hn':n'<=1048576) :
  Calls Tryz.prog 14 #[.slice A n c,.slice A' n' c'] w (RetBo (LL=MM) w):=by
 have HO:=ah (show ∀ W,Below w.heap.size w W->RdRp W W.heap.size N K A n c LL/\RdRp W W.heap.size N' K' A' n' c' MM from fun W hb=>⟨h.next hb,h'.next hb⟩)
 have HL:=ah (cJ h.len h'.len)
 clear h h'
 go_enter Tryz.func14,Tryz.ntmps14
 by_cases hnn:n=n'
 case neg =>
  have hni:¬((n:Int)=(n':Int)):=by omega
  have HN:=ah (show ¬LL=MM from fun e=>hnn (by rw [<- HL.out.1,<- HL.out.2,e]))
  go_wp2
  go_ret
  exact ⟨false,rfl,ah ⟨fun e=>by simp at e,fun e=>absurd e HN.out⟩,bR⟩
 subst hnn
 go_wp2_with fail
 go_loopw [13] (fun iv wr=>∃ i:Nat,iv=.int .i64 (i:Int)/\i<=n/\Hid (∀ j,j < i->LL[j]?=MM[j]?)/\Below w.heap.size w wr) (fun iv _=>n-(intOf iv).toNat)
 case atStart=>exact ⟨0,rfl,nZ,ah fun j hj=>absurd hj (Nat.not_lt_zero _),bR⟩
 case round =>
  obtain ⟨i,rfl,hi,hall,hB⟩:=hrel
  by_cases hin:i=n
  ·subst hin
   have HE:=ah (show LL=MM from List.ext_getElem? fun j=>by
    rcases Nat.lt_or_ge j i with h1 | h1
    ·exact hall.out j h1
    ·rw [gN (by rw [HL.out.1];exact h1),gN (by rw [HL.out.2];exact h1)])
   have HF:=ah hB
   clear hall hB
   go_wp2
   go_ret
   exact ⟨true,rfl,ah ⟨fun _=>HE.out,fun _=>rfl⟩,HF.out⟩
  ·have hil:i < n:=by omega
   have hili:(i:Int) < (n:Int):=by omega
   clear hin
   obtain ⟨ad,A1,n1,c1,L1,rfl,hbk,hx,ho1,hk1,hs1,hp1⟩:=rp_at (HO.out wr hB).1 hil
   obtain ⟨ad',A2,n2,c2,L2,rfl,hbk',hy,ho2,hk2,hs2,hp2⟩:=rp_at (HO.out wr hB).2 hil
   have HR:=ah (show ∀ W,Below wr.heap.size wr W->RdRQ W W.heap.size A1 n1 c1 L1/\RdRQ W W.heap.size A2 n2 c2 L2 from fun W hb=>⟨ho1.next hb,ho2.next hb⟩)
   have HCC:=ah (show ∀ W,Below wr.heap.size wr W->W.cell? (ad.add i)=some (.slice A1 n1 c1)/\W.cell? (ad'.add i)=some (.slice A2 n2 c2) from fun W hb=>⟨(hb.cell (p:=ad.add i) (by rw [add_blk];exact hbk)).trans hx,(hb.cell (p:=ad'.add i) (by rw [add_blk];exact hbk')).trans hy⟩)
   have HPP:=ah (cJ hp1.out hp2.out)
   have HNN:=ah (cJ hk1 hk2)
   have HB:=ah hB
   have HB6:=ah (Below.refl wr.heap.size wr).drew
   clear hs1 hs2 ho1 ho2 hp1 hp2 hB
   go_upto_region 6 with fail
   go_region_held3 (fun W=>W.cell? (ad.add i)=some (.slice A1 n1 c1)/\W.cell? (ad'.add i)=some (.slice A2 n2 c2))
    (first | exact HCC.out _ HB9.out | exact HCC.out _ HB6.out)
    ((go_at_call 58;refine (same09_any (HR.out _ HB6.out).1 (HR.out _ HB6.out).2).mono ?_;rintro _ W9 ⟨v9,rfl,hv9,hb9⟩;have HB9:=tM HB6 hb9;have HV9:=ah (show v9=true ↔ L1=L2 from hv9.out)))
   all_goals
    have HF:=tM HB HB9.out
    clear hx hy hv9 hb9
    cases v9
    case true =>
     have HA:=ah (show ∀ j,j < i+1->LL[j]?=MM[j]? from fun j hj=>by
      rcases Nat.lt_or_ge j i with h1 | h1
      ·exact hall.out j h1
      ·rw [show j=i by omega,HPP.out.1,HPP.out.2,HV9.out.1 rfl])
     clear hall HV9
     go_wp2
     go_roundw
     case rel=>exact ⟨i+1,by go_num,by omega,HA,HF.out⟩
     case measure=>simp [intOf];omega
    case false =>
     have HN:=ah (show ¬LL=MM from fun e=>by
      have e1:=HPP.out.1
      rw [e,HPP.out.2] at e1
      injection e1 with e1
      have:=HV9.out.2 e1.symm
      simp at this)
     clear hall HV9
     go_wp2
     go_ret
     exact ⟨false,rfl,ah ⟨fun e=>by simp at e,fun e=>absurd e HN.out⟩,HF.out⟩
theorem same18_any {N K J N' K' J':Nat}{A A':Option Addr}{n c n' c':Nat}{LL MM:List (List (List RawQ))}{w:World}(h:RdRpp w w.heap.size N K J A n c LL)(h':RdRpp w w.heap.size N' K' J' A' n' c' MM)(hn:n<=1048576)(hn':n'<=1048576)(hJ:J<=1048576)(hJ':J'<=1048576) :
  Calls Tryz.prog 28 #[.slice A n c,.slice A' n' c'] w (RetBo (LL=MM) w):=by
 have HO:=ah (show ∀ W,Below w.heap.size w W->RdRpp W W.heap.size N K J A n c LL/\RdRpp W W.heap.size N' K' J' A' n' c' MM from fun W hb=>⟨h.next hb,h'.next hb⟩)
 have HL:=ah (cJ h.len h'.len)
 clear h h'
 go_enter Tryz.func28,Tryz.ntmps28
 by_cases hnn:n=n'
 case neg =>
  have hni:¬((n:Int)=(n':Int)):=by omega
  have HN:=ah (show ¬LL=MM from fun e=>hnn (by rw [<- HL.out.1,<- HL.out.2,e]))
  go_wp2
  go_ret
  exact ⟨false,rfl,ah ⟨fun e=>by simp at e,fun e=>absurd e HN.out⟩,bR⟩
 subst hnn
 go_wp2_with fail
 go_loopw [13] (fun iv wr=>∃ i:Nat,iv=.int .i64 (i:Int)/\i<=n/\Hid (∀ j,j < i->LL[j]?=MM[j]?)/\Below w.heap.size w wr) (fun iv _=>n-(intOf iv).toNat)
 case atStart=>exact ⟨0,rfl,nZ,ah fun j hj=>absurd hj (Nat.not_lt_zero _),bR⟩
 case round =>
  obtain ⟨i,rfl,hi,hall,hB⟩:=hrel
  by_cases hin:i=n
  ·subst hin
   have HE:=ah (show LL=MM from List.ext_getElem? fun j=>by
    rcases Nat.lt_or_ge j i with h1 | h1
    ·exact hall.out j h1
    ·rw [gN (by rw [HL.out.1];exact h1),gN (by rw [HL.out.2];exact h1)])
   have HF:=ah hB
   clear hall hB
   go_wp2
   go_ret
   exact ⟨true,rfl,ah ⟨fun _=>HE.out,fun _=>rfl⟩,HF.out⟩
  ·have hil:i < n:=by omega
   have hili:(i:Int) < (n:Int):=by omega
   clear hin
   obtain ⟨ad,A1,n1,c1,L1,rfl,hbk,hx,ho1,hk1,hp1⟩:=rpp_at (HO.out wr hB).1 hil
   obtain ⟨ad',A2,n2,c2,L2,rfl,hbk',hy,ho2,hk2,hp2⟩:=rpp_at (HO.out wr hB).2 hil
   have HR:=ah (show ∀ W,Below wr.heap.size wr W->RdRp W W.heap.size N K A1 n1 c1 L1/\RdRp W W.heap.size N' K' A2 n2 c2 L2 from fun W hb=>⟨ho1.next hb,ho2.next hb⟩)
   have HCC:=ah (show ∀ W,Below wr.heap.size wr W->W.cell? (ad.add i)=some (.slice A1 n1 c1)/\W.cell? (ad'.add i)=some (.slice A2 n2 c2) from fun W hb=>⟨(hb.cell (p:=ad.add i) (by rw [add_blk];exact hbk)).trans hx,(hb.cell (p:=ad'.add i) (by rw [add_blk];exact hbk')).trans hy⟩)
   have HPP:=ah (cJ hp1.out hp2.out)
   have HNN:=ah (show n1<=1048576/\n2<=1048576 from ⟨by omega,by omega⟩)
   have HB:=ah hB
   have HB6:=ah (Below.refl wr.heap.size wr).drew
   clear ho1 ho2 hp1 hp2 hB
   go_upto_region 6 with fail
   go_region_held3 (fun W=>W.cell? (ad.add i)=some (.slice A1 n1 c1)/\W.cell? (ad'.add i)=some (.slice A2 n2 c2))
    (first | exact HCC.out _ HB9.out | exact HCC.out _ HB6.out)
    ((go_at_call 14;refine (sameAllR_any (HR.out _ HB6.out).1 (HR.out _ HB6.out).2 HNN.out.1 HNN.out.2).mono ?_;rintro _ W9 ⟨v9,rfl,hv9,hb9⟩;have HB9:=tM HB6 hb9;have HV9:=ah (show v9=true ↔ L1=L2 from hv9.out)))
   all_goals
    have HF:=tM HB HB9.out
    clear hx hy hv9 hb9
    cases v9
    case true =>
     have HA:=ah (show ∀ j,j < i+1->LL[j]?=MM[j]? from fun j hj=>by
      rcases Nat.lt_or_ge j i with h1 | h1
      ·exact hall.out j h1
      ·rw [show j=i by omega,HPP.out.1,HPP.out.2,HV9.out.1 rfl])
     clear hall HV9
     go_wp2
     go_roundw
     case rel=>exact ⟨i+1,by go_num,by omega,HA,HF.out⟩
     case measure=>simp [intOf];omega
    case false =>
     have HN:=ah (show ¬LL=MM from fun e=>by
      have e1:=HPP.out.1
      rw [e,HPP.out.2] at e1
      injection e1 with e1
      have:=HV9.out.2 e1.symm
      simp at this)
     clear hall HV9
     go_wp2
     go_ret
     exact ⟨false,rfl,ah ⟨fun e=>by simp at e,fun e=>absurd e HN.out⟩,HF.out⟩
theorem nq_upR (L:List (Int × Int)):Pq.Up (Pq.co (L.map qval)) (nq L).length:=fun t ht=>by rw [<- co_nq];exact Pq.co_ge ht
theorem pcv_up2 {a b:Nat->Rat}{p q:Nat}(ha:Pq.Up a p)(hb:Pq.Up b q):∀ j,Pq.Up (Pq.pcv a b j) (p+q-1)
 | 0=>fun _ _=>rfl
 | j + 1 => fun t ht => by
   rw [Pq.pcv_succ,pcv_up2 ha hb j t ht,Rat.zero_add]
   by_cases h:j<=t
   ·rw [if_pos h]
    by_cases h2:p<=j
    ·rw [ha j h2,Rat.zero_mul]
    ·rw [hb (t-j) (by omega),Rat.mul_zero]
   ·rw [if_neg h]
theorem rqMulRaw_any {N S T:Nat}{A A':Option Addr}{n c n' c':Nat}{L L':List (Int × Int)}{w:World}{Z Y:Nat->Int}{D E:Int}(h:RdQs w w.heap.size N A n c L)(h':RdQs w w.heap.size N A' n' c' L')(hd:okD L)(hd':okD L')(hM:Com S (Pq.co (L.map qval)) Z D)(hC:Com T (Pq.co (L'.map qval)) Y E)(hST:S+T+1<=N)(hN:N<=90000000000)(h1N:1<=N)(hn:n<=1048576)(hn':n'<=1048576)(hl:(nq L).length+(nq L').length<=1048577) :
  Calls Tryz.prog 79 #[.slice A n c,.slice A' n' c'] w (RetPq (Pq.cv (Pq.co (L.map qval)) (Pq.co (L'.map qval))) w):=by
 have HLM:=ah (show L.length=n from h.len)
 have HLQ:=ah hl
 have HNQ:=ah (show (nq L').length<=1048576 by have h1:=nq_len L';have h2:L'.length=n':=h'.len;omega)
 have HC:=ah (cJ hM hC)
 have HD:=ah (cJ hd hd')
 have HSX:=ah h1N
 have HA:=ah (show ∀ W:World,Below w.heap.size w W->RdQs W W.heap.size N A n c L/\RdQs W W.heap.size N A' n' c' L' from fun W hb=>⟨h.next hb,h'.next hb⟩)
 clear h h' hd hd' hM hC hl
 go_enter Tryz.func79,Tryz.ntmps79
 go_wp2_with fail
 go_loopw [5,10] (fun ov iv wr=>∃ (j:Nat) (A0:Option Addr) (k0 c0:Nat) (O:List Rat),ov=.slice A0 k0 c0/\iv=.int .i64 (j:Int)/\j<=n/\OwQp wr w.heap.size A0 k0 c0 O/\Hid (Pq.IsP (Pq.pcv (Pq.co (L.map qval)) (Pq.co (L'.map qval)) j) O)/\Below w.heap.size w wr) (fun _ iv _=>n-(intOf iv).toNat)
 case atStart=>exact ⟨0,none,0,0,[],rfl,rfl,nZ,OwQp.nil _ _ _,ah ⟨Pq.nz_nil,fun i=>Pq.co_nil i⟩,bR⟩
 case round =>
  obtain ⟨j,A0,k0,c0,O,rfl,rfl,hj,ho,hO,hB⟩:=hrel
  have hk0:k0<=1048576:=by
   rw [<- ho.len]
   have h1:=hO.out.len (pcv_up2 (nq_upR L) (nq_upR L') j)
   have h2:=HLQ.out
   omega
  have HOS:=ah (show ∀ x ∈ O,Qs N x from fun x hx=>by
   obtain ⟨t,_,rfl⟩:=Pq.mem_co hx
   rw [hO.out.2]
   exact ((com_pcv HC.out.1 HC.out.2 (n:=j) (by omega)).mono hST).qs t)
  by_cases hjn:j=n
  ·have hrd:=ho.rd HOS.out
   have HJ:=ah hjn
   subst hjn
   have HBW:=ah hB
   clear ho hB
   go_wp2_with fail
   refine (rqnorm_own hrd hk0 (by omega)).mono ?_
   rintro _ W4 ⟨A4,n4,c4,M4,rfl,ho4,hM4,hb4⟩
   have HB4:=tM HBW hb4
   have HV:=ah (show Pq.IsP (Pq.cv (Pq.co (L.map qval)) (Pq.co (L'.map qval))) M4 from hM4.out.congr fun t=>by
    rw [hO.out.2]
    exact Pq.pcv_all _ (fun t ht=>Pq.co_ge (by rw [List.length_map,HLM.out];exact ht)) t)
   have HO4:=ah (ho4.base (b':=w.heap.size) HBW.out.size)
   clear hb4 hM4 ho4
   go_wp2
   go_ret
   exact ⟨_,_,_,M4,rfl,HO4.out,HV,HB4.out⟩
  ·have hjl:j < n:=by omega
   have hjli:(j:Int) < (n:Int):=by omega
   clear hjn
   obtain ⟨ad,s1,A1,n1,c1,s2,A2,n2,c2,z1,d1,rfl,hbk,hx0,hx1,hx2,hx3,hr1,hr2,hn1,hn2,hp⟩:=qs_at (HA.out wr hB).1 hjl
   obtain ⟨x,hxv⟩:∃ x,x=Rat.divInt z1 d1:=⟨_,rfl⟩
   have HXE:=ah hxv
   have HDZ:=ah (show d1 ≠ 0 from HD.out.1 (z1,d1) (gM hp.out))
   clear hxv
   have HXV:=ah (show Pq.co (L.map qval) j=x from Pq.co_get (by rw [List.getElem?_map,hp.out,HXE.out];rfl))
   have HXS:=ah (show Qs S x by rw [<- HXV.out];exact HC.out.1.qs j)
   have HO:=ah ho
   have HBW:=ah hB
   obtain ⟨W1,HW1⟩:∃ W,W=wr.alloc (.cells #[.bool s1,.slice A1 n1 c1,.bool s2,.slice A2 n2 c2] 47):=⟨_,rfl⟩
   have hb1:Below wr.heap.size wr W1:=by rw [HW1];exact bA
   have hQ1:QC W1 wr.heap.size s1 A1 n1 c1 s2 A2 n2 c2:=by rw [HW1];exact QC.new wr s1 A1 n1 c1 s2 A2 n2 c2
   have HX1:=ah (cJ (hr1.next hb1) (hr2.next hb1))
   have HB1:=ah hb1
   have HW1:=ah HW1
   have hN':N<=200000000000:=by omega
   clear ho hB hr1 hr2 hb1 hp
   go_wp2_with fail
   rw [<- HW1.out]
   clear HW1
   clear HW1
   clear hx0 hx1 hx2 hx3 hQ1
   have HBW1:=tM HBW HB1.out
   refine (rqScale_any (N:=N) (HA.out _ HBW1.out).2 HX1.out.1 HX1.out.2 HD.out.2 HDZ.out hn' hn1 hn2 hN' h1N).mono ?_
   rintro _ W2 ⟨A3,n3,c3,M3,rfl,ho3,hM3,hb2⟩
   have HM3:=ah (show ∀ t,Pq.co M3 t=Pq.co (L'.map qval) t*x from fun t=>by
    rw [hM3.out.2]
    show Pq.co (L'.map qval) t*Rat.divInt _ _=_
    rw [HXE.out])
   have HL3:=ah (show M3.length<=(nq L').length from Pq.nz_len hM3.out.1 fun t ht=>by rw [HM3.out,nq_upR L' t ht,Rat.zero_mul])
   have HS3:=ah (show ∀ y ∈ M3,Qs N y from fun y hy=>by
    obtain ⟨t,_,rfl⟩:=Pq.mem_co hy
    rw [HM3.out]
    exact ((com_smul HC.out.2 HXS.out).mono (by omega)).qs t)
   have HB2:=tM HBW1 hb2
   have hl3:n3<=1048576:=by have h1:=HNQ.out;have h3:=HL3.out;rw [ho3.len] at h3;omega
   have hl4:n3+j<=1048576:=by
    by_cases h0:j < (nq L).length
    ·have h1:=HLQ.out;have h3:=HL3.out;rw [ho3.len] at h3;omega
    ·have h5:M3.length<=0:=Pq.nz_len hM3.out.1 fun t _=>by rw [HM3.out,<- HXV.out,nq_upR L j (by omega),Rat.mul_zero]
     rw [ho3.len] at h5
     omega
   have ho3:=ho3.base (b':=w.heap.size) HBW1.out.size
   have hws:w.heap.size<=W2.heap.size:=HB2.out.size
   have HO2:=ah (HO.out.next (HB1.out.trans (hb2.mono HB1.out.size)))
   clear hb2 hM3
   go_wp2_with fail
   refine (rqshift_any (N:=N) j ho3 hws HS3.out hl3 hl4 (by omega) h1N).mono ?_
   rintro _ W3 ⟨A4,n4,c4,M4,rfl,ho4,hM4,hb3⟩
   have HM4:=ah (show ∀ t,Pq.co M4 t=if j<=t then Pq.co (L.map qval) j*Pq.co (L'.map qval) (t-j) else 0 from fun t=>by
    rw [hM4.out.2]
    show (if t < j then 0 else Pq.co M3 (t-j))=_
    by_cases h0:j<=t
    ·rw [if_pos h0,if_neg (by omega),HM3.out,HXV.out,Rat.mul_comm]
    ·rw [if_neg h0,if_pos (by omega)])
   have HS4:=ah (show ∀ y ∈ M4,Qs N y from fun y hy=>by
    obtain ⟨t,_,rfl⟩:=Pq.mem_co hy
    rw [HM4.out]
    split
    ·rw [Rat.mul_comm,HXV.out]
     exact ((com_smul HC.out.2 HXS.out).mono (by omega)).qs (t-j)
    ·exact Qs.zero h1N)
   have HL4:=ah (show n4<=1048576 by
    rw [<- ho4.len]
    refine nT (Pq.nz_len hM4.out.1 (k:=n3+j) fun t ht=>?_) hl4
    rw [hM4.out.2]
    show (if t < j then 0 else Pq.co M3 (t-j))=0
    rw [if_neg (by omega),Pq.co_ge (by rw [ho3.len];omega)])
   have hrd4:=ho4.rd HS4.out
   have hrd0:=(HO2.out.next hb3).rd HOS.out
   have HB3:=tM HB2 hb3
   clear ho3 ho4 hb3 hM4
   go_wp2_with fail
   refine (rqAdd_any (N:=N) hrd0 hrd4 (fun p hp=>by obtain ⟨y,_,rfl⟩:=List.mem_map.1 hp;exact pr_ne y) (fun p hp=>by obtain ⟨y,_,rfl⟩:=List.mem_map.1 hp;exact pr_ne y) hk0 HL4.out (by omega) h1N).mono ?_
   rintro _ W5 ⟨A5,n5,c5,M5,rfl,ho5,hM5,hb5⟩
   have HF:=ah (show OwQp W5 w.heap.size A5 n5 c5 M5/\Pq.IsP (Pq.pcv (Pq.co (L.map qval)) (Pq.co (L'.map qval)) (j+1)) M5/\Below w.heap.size w W5 from ⟨ho5.base HB3.out.size,hM5.out.congr fun t=>by rw [map_qval_pr,map_qval_pr,hO.out.2,HM4.out,Pq.pcv_succ],HB3.out.trans (hb5.mono HB3.out.size)⟩)
   clear ho5 hM5 hb5 hrd4 hrd0
   go_wp2
   go_roundw
   case rel=>exact ⟨j+1,A5,n5,c5,M5,rfl,by go_num,by omega,HF.out.1,ah HF.out.2.1,HF.out.2.2⟩
   case measure=>simp [intOf];omega
def rcol (PP:List (List (List RawQ))):Nat:=(PP.headD []).length
theorem rcol_nn (PP:List (List (List RawQ))):colq (nn PP)=rcol PP:=by
 cases PP with
 | nil=>rfl
 | cons a t=>show (a.map nqp).length=a.length;exact List.length_map ..
theorem rcol_zero {PP:List (List (List RawQ))}{RR:List (List RawQ)}(hp:PP[0]?=some RR):RR.length=rcol PP:=by
 cases PP with
 | nil=>cases hp
 | cons a t=>simp at hp;subst hp;rfl
theorem add_z (ad:Addr):ad.add 0=ad:=by simp [Addr.add]
theorem colsR_any {N K J:Nat}{A:Option Addr}{n c:Nat}{PP:List (List (List RawQ))}{w:World}(h:RdRpp w w.heap.size N K J A n c PP)(hn:n<=1048576) :
  Calls Tryz.prog 30 #[.slice A n c] w (RetK (rcol PP:Int) w):=by
 have HB:=ah (Below.refl w.heap.size w)
 have HL:=ah h.len
 go_enter Tryz.func30,Tryz.ntmps30
 by_cases h0:n=0
 ·have HC:=ah (show rcol PP=0 from by
   have e:=HL.out
   unfold rcol
   cases PP with
   | nil=>rfl
   | cons a t=>simp at e;omega)
  subst h0
  go_wp2
  go_ret
  exact ⟨0,rfl,ah (by rw [HC.out];rfl),HB.out⟩
 ·have h0n:0 < n:=by omega
  have hn0:(0:Int) < (n:Int):=by omega
  have hnz:((n:Int) == 0)=false:=by simp;omega
  have hnz2:¬(n:Int)=0:=by omega
  clear h0
  obtain ⟨ad,A2,n2,c2,R0,rfl,_,hy,hr0,hn2,hp0⟩:=rpp_at h h0n
  have HC:=ah (show rcol PP=n2 from by rw [<- rcol_zero hp0.out];exact hr0.len)
  have hy':w.cell? ad=some (.slice A2 n2 c2):=by rw [<- add_z ad];exact hy
  clear hr0 h hp0
  go_wp2
  go_ret
  exact ⟨_,rfl,ah (by rw [HC.out]),HB.out⟩
def RetFv (PP:List (List (List RawQ)))(w:World)(e:Ending)(w':World):Prop:=∃ kk:Int,e=.returned (.int .i64 kk)/\Hid (FitV PP kk)/\Below w.heap.size w w'
theorem fpv_ok {L:List (Int × Int)}(hd:okD L):fpv L=if 101 < (nq L).length ∨ 4096 < ht (nq L) then 4 else 0:=by
 unfold fpv
 rw [if_neg (fun e=>e hd)]
theorem fit18_any {N K J:Nat}{A:Option Addr}{n c:Nat}{PP:List (List (List RawQ))}{w:World}(h:RdRpp w w.heap.size N K J A n c PP)(hn:n<=1048576)(hJ:J<=1048576)(hK:K<=1048576)(hN:N<=1000000000)(h1N:1<=N) :
  Calls Tryz.prog 19 #[.slice A n c] w (RetFv PP w):=by
 have HL:=ah h.len
 have HX:=ah (show ∀ W,Below w.heap.size w W->RdRpp W W.heap.size N K J A n c PP from fun W hb=>h.next hb)
 clear h
 go_enter Tryz.func19,Tryz.ntmps19
 go_wp2_with fail
 go_loopw [15] (fun iv wr=>∃ (j:Nat),iv=.int .i64 (j:Int)/\j<=n/\Hid (okPP (PP.take j))/\Below w.heap.size w wr) (fun iv _=>n-(intOf iv).toNat)
 case atStart=>exact ⟨0,rfl,nZ,ah (fun R hR=>by simp at hR),bR⟩
 case round =>
  obtain ⟨j,rfl,hj,hok,hB⟩:=hrel
  by_cases hjr:j=n
  ·have HOK:=ah (show okPP PP by rw [<- List.take_of_length_le (l:=PP) (i:=j) (by rw [HL.out,hjr];exact nR)];exact hok.out)
   have HBF:=ah hB
   subst hjr
   clear hok hB
   go_wp2_with fail
   go_loopw [32] (fun iv wr=>∃ (i:Nat),iv=.int .i64 (i:Int)/\i<=j/\Hid (∀ L ∈ (nn PP).take i,L.length=colq (nn PP))/\Below w.heap.size w wr) (fun iv _=>j-(intOf iv).toNat)
   case atStart=>exact ⟨0,rfl,nZ,ah (fun L hL=>by simp at hL),HBF.out⟩
   case round =>
    obtain ⟨i,rfl,hi,hr,hB⟩:=hrel
    by_cases hin:i=j
    ·have HR:=ah (show Rect (nn PP) by
      have h1:=hr.out
      rw [List.take_of_length_le (by rw [nn,List.length_map,HL.out,hin];exact nR)] at h1
      exact h1)
     have HLN:=ah (show (nn PP).length=j by rw [nn,List.length_map,HL.out])
     have HB3:=ah hB
     subst hin
     clear hr hB
     by_cases h24:24 < i
     ·have h24i:(24:Int) < (i:Int):=by omega
      have HV:=ah (show FitV PP 4 from .inr (.inr (.inl ⟨rfl,HOK.out,HR.out,.inl (by rw [HLN.out];exact h24)⟩)))
      clear h24
      go_wp2
      go_ret
      exact ⟨4,rfl,HV,HB3.out⟩
     ·have h24i:¬(24:Int) < (i:Int):=by omega
      have HN24:=ah h24
      clear h24
      go_wp2_with fail
      refine (colsR_any (HX.out _ HB3.out) hn).mono ?_
      rintro _ W5 ⟨y,rfl,hy,hb5⟩
      have HY:=hy
      have HB5:=tM HB3 hb5
      clear hb5 hy
      by_cases k24:24 < rcol PP
      ·have k24i:(24:Int) < y:=by rw [HY.out];omega
       have HV:=ah (show FitV PP 4 from .inr (.inr (.inl ⟨rfl,HOK.out,HR.out,.inr (.inl (by rw [rcol_nn];exact k24))⟩)))
       clear k24
       go_wp2
       go_ret
       exact ⟨4,rfl,HV,HB5.out⟩
      ·have k24i:¬(24:Int) < y:=by rw [HY.out];omega
       have HK24:=ah k24
       clear k24
       go_wp2_with fail
       go_loopw [54] (fun iv wr=>∃ (q:Nat),iv=.int .i64 (q:Int)/\q<=i/\Hid (¬bigv ((nn PP).take q))/\Below w.heap.size w wr) (fun iv _=>i-(intOf iv).toNat)
       case atStart=>exact ⟨0,rfl,nZ,ah (by rintro ⟨L,hL,_⟩;simp at hL),HB5.out⟩
       case round =>
        obtain ⟨q,rfl,hq,hbg,hB⟩:=hrel
        by_cases hqi:q=i
        ·have HV:=ah (show FitV PP 0 from .inr (.inr (.inr ⟨rfl,HOK.out,HR.out,fun e=>by
          rcases e with e | e | e
          ·rw [HLN.out] at e;exact HN24.out e
          ·rw [rcol_nn] at e;exact HK24.out e
          ·have h1:=hbg.out
           rw [List.take_of_length_le (by rw [HLN.out,hqi];exact nR)] at h1
           exact h1 e⟩)))
         have HBZ:=ah hB
         subst hqi
         clear hbg hB
         go_wp2
         go_ret
         exact ⟨0,rfl,HV,HBZ.out⟩
        ·have hql:q < i:=by omega
         have hqli:(q:Int) < (i:Int):=by omega
         obtain ⟨wo,rfl⟩:∃ V,V=wr:=⟨_,rfl⟩
         clear hqi
         obtain ⟨ad,A1,n1,c1,RR,rfl,hbk,hx,hr1,hn1,hp⟩:=rpp_at (HX.out wo hB) hql
         have HB6:=ah hB
         have HRR:=ah (show ∀ W,Below wo.heap.size wo W->RdRp W W.heap.size N K A1 n1 c1 RR from fun W hb=>hr1.next hb)
         have HLR:=ah hr1.len
         have HPN:=ah (show (nn PP)[q]?=some (RR.map nqp) by rw [nn,List.getElem?_map,hp.out];rfl)
         have hn1':n1<=1048576:=by omega
         clear hB hr1
         go_wp2_with fail
         clear hx
         go_loopw [60] (fun iv wr=>∃ (p:Nat),iv=.int .i64 (p:Int)/\p<=n1/\Hid (∀ L ∈ (RR.map nqp).take p,¬(101 < L.length ∨ 4096 < ht L))/\Below wo.heap.size wo wr) (fun iv _=>n1-(intOf iv).toNat)
         case atStart=>exact ⟨0,rfl,nZ,ah (fun L hL=>by simp at hL),bR⟩
         case round =>
          obtain ⟨p,rfl,hpl,hb7,hB7⟩:=hrel
          by_cases hpn:p=n1
          ·have HBG:=ah (bigv_more HPN.out hbg.out (by
            have h1:=hb7.out
            rw [List.take_of_length_le (by rw [List.length_map,HLR.out,hpn];exact nR)] at h1
            exact h1))
           have HB9:=tM HB6 hB7
           subst hpn
           clear hb7 hB7 hbg
           go_wp2
           go_roundw
           case rel=>exact ⟨q+1,by go_num,by omega,HBG,HB9.out⟩
           case measure=>simp [intOf];omega
          ·have hpl2:p < n1:=by omega
           have hpli:(p:Int) < (n1:Int):=by omega
           clear hpn
           obtain ⟨ad2,A6,n6,c6,R,rfl,hbk6,hx6,hr6,hn6,hs6,hp6⟩:=rp_at (HRR.out wr hB7) hpl2
           have HB7:=ah hB7
           have HR6:=ah (hr6.rd hs6)
           have HOD:=ah (HOK.out RR (gM hp.out) R (gM hp6.out))
           have HPM:=ah (show (RR.map nqp)[p]?=some (nqp R) by rw [List.getElem?_map,hp6.out];rfl)
           clear hr6 hs6 hB7
           go_wp2_with fail
           clear hx6
           refine (fitPoly_any HR6.out (by omega) (by omega) h1N).mono ?_
           rintro _ W9 ⟨v,rfl,hv,hb9⟩
           have HB9:=tM HB7 hb9
           have HB10:=tM HB6 HB9.out
           have HV:=ah (hv.out.trans (fpv_ok HOD.out))
           clear hv hb9
           by_cases hbig:101 < (nqp R).length ∨ 4096 < ht (nqp R)
           ·have hv4:v=4:=by rw [HV.out];exact if_pos hbig
            have HF:=ah (show FitV PP 4 from .inr (.inr (.inl ⟨rfl,HOK.out,HR.out,.inr (.inr ⟨_,gM HPN.out,_,gM HPM.out,hbig⟩)⟩)))
            subst hv4
            clear hbig hb7 hbg
            go_wp2
            go_ret
            exact ⟨4,rfl,HF,HB10.out⟩
           ·have hv0:v=0:=by rw [HV.out];exact if_neg hbig
            have HQ:=ah (show ∀ L ∈ (RR.map nqp).take (p+1),¬(101 < L.length ∨ 4096 < ht L) from fun L' h'=>by
             rw [List.take_add_one,HPM.out] at h'
             rcases List.mem_append.1 h' with h2 | h2
             ·exact hb7.out L' h2
             ·simp only [Option.toList_some,List.mem_singleton] at h2
              subst h2
              exact hbig)
            subst hv0
            clear hbig hb7
            go_wp2
            go_roundw
            case rel=>exact ⟨p+1,by go_num,by omega,HQ,HB9.out⟩
            case measure=>simp [intOf];omega
    ·have hil:i < j:=by omega
     have hili:(i:Int) < (j:Int):=by omega
     have h0n:0 < j:=by omega
     have hn0:(0:Int) < (j:Int):=by omega
     clear hin
     have h':=HX.out wr hB
     obtain ⟨ad,A1,n1,c1,R,rfl,hbk,hx,hr1,hn1,hp⟩:=rpp_at h' hil
     obtain ⟨ad',A2,n2,c2,R0,e,_,hy,hr0,hn2,hp0⟩:=rpp_at h' h0n
     injection e with e
     subst e
     have HC:=ah (show rcol PP=n2 from by rw [<- rcol_zero hp0.out];exact hr0.len)
     have HR:=ah (show R.length=n1 from hr1.len)
     have HPN:=ah (show (nn PP)[i]?=some (R.map nqp) by rw [nn,List.getElem?_map,hp.out];rfl)
     have hy':wr.cell? ad=some (.slice A2 n2 c2):=by rw [<- add_z ad];exact hy
     have HB:=ah hB
     clear hr1 hr0 hB h'
     by_cases hne:n1=n2
     ·have hb3:(n1:Int)=(n2:Int):=by omega
      have HA:=ah (rect_more HPN.out hr.out (by rw [List.length_map,HR.out,rcol_nn,HC.out,hne]))
      clear hne hr
      go_wp2
      go_roundw
      case rel=>exact ⟨i+1,by go_num,by omega,HA,HB.out⟩
      case measure=>simp [intOf];omega
     ·have hb3:¬(n1:Int)=(n2:Int):=by omega
      have HV:=ah (show FitV PP 2 from .inr (.inl ⟨rfl,HOK.out,fun e=>hne (by
       have h1:=e _ (gM HPN.out)
       rw [List.length_map,HR.out,rcol_nn,HC.out] at h1
       exact h1)⟩))
      clear hne hr
      go_wp2
      go_ret
      exact ⟨2,rfl,HV,HB.out⟩
  ·have hjl:j < n:=by omega
   have hjli:(j:Int) < (n:Int):=by omega
   obtain ⟨wo,rfl⟩:∃ V,V=wr:=⟨_,rfl⟩
   clear hjr
   obtain ⟨ad,A1,n1,c1,RR,rfl,hbk,hx,hr1,hn1,hp⟩:=rpp_at (HX.out wo hB) hjl
   have HB3:=ah hB
   have HRR:=ah (show ∀ W,Below wo.heap.size wo W->RdRp W W.heap.size N K A1 n1 c1 RR from fun W hb=>hr1.next hb)
   have HLR:=ah hr1.len
   have hn1':n1<=1048576:=by omega
   clear hB hr1
   go_wp2_with fail
   clear hx
   go_loopw [21] (fun iv wr=>∃ (i:Nat),iv=.int .i64 (i:Int)/\i<=n1/\Hid (∀ R ∈ RR.take i,okD (R.map toQ))/\Below wo.heap.size wo wr) (fun iv _=>n1-(intOf iv).toNat)
   case atStart=>exact ⟨0,rfl,nZ,ah (fun R hR=>by simp at hR),bR⟩
   case round =>
    obtain ⟨i,rfl,hi5,hk5,hB5⟩:=hrel
    by_cases hin:i=n1
    ·have HK5:=ah (okPP_more hp.out hok.out (by rw [<- List.take_of_length_le (l:=RR) (i:=i) (by rw [HLR.out,hin];exact nR)];exact hk5.out))
     have HB9:=tM HB3 hB5
     subst hin
     clear hB5 hk5 hok
     go_wp2
     go_roundw
     case rel=>exact ⟨j+1,by go_num,by omega,HK5,HB9.out⟩
     case measure=>simp [intOf];omega
    ·have hil:i < n1:=by omega
     have hili:(i:Int) < (n1:Int):=by omega
     clear hin
     obtain ⟨ad2,A6,n6,c6,R,rfl,hbk6,hx6,hr6,hn6,hs6,hp6⟩:=rp_at (HRR.out wr hB5) hil
     have HB5:=ah hB5
     have HR6:=ah (hr6.rd hs6)
     clear hB5 hr6 hs6
     go_wp2_with fail
     clear hx6
     refine (rPMay_any HR6.out (by omega) (by omega)).mono ?_
     rintro _ W7 ⟨v,rfl,hv,hb7⟩
     have HB7:=tM HB5 hb7
     have HB9:=tM HB3 HB7.out
     have HV:=hv
     clear hv hb7
     cases v
     case true =>
      have HK7:=ah (okD_more hp6.out hk5.out (HV.out.1 rfl))
      clear HV hk5
      go_wp2
      go_roundw
      case rel=>exact ⟨i+1,by go_num,by omega,HK7,HB7.out⟩
      case measure=>simp [intOf];omega
     case false =>
      have HF:=ah (show FitV PP 6 from .inl ⟨rfl,fun e=>by
       have:=HV.out.2 (e RR (gM hp.out) R (gM hp6.out))
       cases this⟩)
      clear HV hk5 hok
      go_wp2
      go_ret
      exact ⟨6,rfl,HF,HB9.out⟩
end Go.Proofs.YtjnklbfhelbjgaaGreat
namespace Go.Proofs.YtjnklbfhelbjgaaGreat
open Go
section
variable {P:Program}{ops:Array Oper}{Q:Exit->Act->World->Prop}{md:Region.Mode}{F:List Nat}{S T:World->Prop}
def Dm (F:List Nat)(S:World->Prop)(listed:Array Bool)(w:World):Prop:=(∀ f ∈ F,listed.getD f false=false)->S w
def WA (P:Program)(md:Region.Mode)(ops:Array Oper)(Q:Exit->Act->World->Prop)(F:List Nat)(S:World->Prop):Nat->Array Bool->Act->World->Prop
 | 0,listed,a,w=>Region.ready md ops listed=[]/\Q .normal a w
 | k + 1, listed, a, w => (Region.ready md ops listed = [] -> Q .normal a w) /\
   ∀ i ∈ Region.ready md ops listed,wpOp P ops Q i (fun a' w'=>Dm F S (listed.setIfInBounds i true) w'/\WA P md ops Q F S k (listed.setIfInBounds i true) a' w') a w
theorem WA.any:∀ (k:Nat) (listed:Array Bool) (a:Act) (w:World),WA P md ops Q F S k listed a w->wpAny P md ops Q k listed a w
 | 0,_,_,_,h=>h
 | k+1,_,_,_,h=>⟨h.1,fun i hi=>wpOp_mono (fun a' w' h'=>WA.any k _ a' w' h'.2) (h.2 i hi)⟩
def Cl (md:Region.Mode)(ops:Array Oper)(listed:Array Bool):Prop:=∀ (j:Nat) (o:Oper),ops[j]?=some o->listed.getD j false=true->∀ e ∈ o.after,Region.binds md e=true->listed.getD e.on false=true
def waits (md:Region.Mode)(ops:Array Oper):Nat->Nat->Nat->Bool
 | 0,_,_=>false
 | k + 1, f, i => match ops[f]? with
   | none=>false
   | some o=>o.after.toList.any fun e=>Region.binds md e && (e.on == i || waits md ops k e.on i)
theorem waits_spec {listed:Array Bool}(hc:Cl md ops listed){i:Nat}:∀ (k f:Nat),(f ∈ Region.ready md ops listed ∨ listed.getD f false=true)->waits md ops k f i=true->listed.getD i false=true
 | 0,_,_,h=>by cases h
 | k + 1, f, hf, h => by
   unfold waits at h
   cases ho:ops[f]? with
   | none=>rw [ho] at h;cases h
   | some o =>
     rw [ho] at h
     obtain ⟨e,he,hb⟩:=List.any_eq_true.1 h
     rw [Bool.and_eq_true,Bool.or_eq_true,beq_iff_eq] at hb
     have h1:listed.getD e.on false=true:=by
      rcases hf with hf | hf
      ·obtain ⟨_,o',ho',hall⟩:=mem_ready.1 hf
       rw [ho] at ho'
       injection ho' with ho'
       subst ho'
       exact hall e (Array.mem_toList_iff.1 he) hb.1
      ·exact hc f o ho hf e (Array.mem_toList_iff.1 he) hb.1
     rcases hb.2 with h2 | h2
     ·rw [<- h2];exact h1
     ·exact waits_spec hc k e.on (.inr h1) h2
theorem getD_un {listed:Array Bool}{i:Nat}(h:listed.getD i true=false):listed.getD i false=false:=by
 rcases Nat.lt_or_ge i listed.size with h' | h'
 ·simp [h'] at h ⊢;exact h
 ·simp [Array.getElem?_eq_none h'] at h
theorem Cl.set {listed:Array Bool}{i:Nat}(hc:Cl md ops listed)(hi:i ∈ Region.ready md ops listed):Cl md ops (listed.setIfInBounds i true):=fun j o ho hj e he hb=>by
 apply getD_set_true
 by_cases hij:i=j
 ·subst hij
  obtain ⟨_,o',ho',hall⟩:=mem_ready.1 hi
  rw [ho] at ho'
  injection ho' with ho'
  subst ho'
  exact hall e he hb
 ·rw [getD_set_ne false hij] at hj
  exact hc j o ho hj e he hb
theorem WA.first {i K:Nat}{oi:Oper}{v:Value}(hi:ops[i]?=some oi)(hsel:∀ (j:Nat)(o:Oper) cs b,ops[j]?=some o->o.op ≠ .select cs b)
  (hQ:∀ c a w,Q (.panic c) (a.put oi.dst v) w->Q (.panic c) a w) (hF:∀ f ∈ F,f ≠ i/\waits md ops K f i=true) :
  ∀ (k:Nat) (listed:Array Bool) (a:Act) (w:World),Cl md ops listed ->
   (∀ j oj,ops[j]?=some oj->j ≠ i->listed.getD j true=false->(∀ e ∈ oj.after,Region.binds md e=true->e.on ≠ i)->oi.apart ops oj=true) ->
   i ∈ Region.ready md ops listed->YieldsIf P ops S oi v a->S w ->
   WA P md ops Q F S k (listed.setIfInBounds i true) (a.put oi.dst v) w->WA P md ops Q F S (k+1) listed a w:=by
 intro k
 induction k with
 | zero =>
   intro listed a w _ _ hr hy ht H
   refine ⟨fun h=>(by rw [h] at hr;cases hr),fun j hj=>?_⟩
   by_cases hji:j=i
   ·subst hji;exact hy.wpOp hi ht ⟨fun _=>ht,H⟩
   ·have:=ready_mono hj hji
    rw [H.1] at this
    cases this
 | succ k ih =>
   intro listed a w hc hfree hr hy ht H
   refine ⟨fun h=>(by rw [h] at hr;cases hr),fun j hj=>?_⟩
   by_cases hji:j=i
   ·subst hji;exact hy.wpOp hi ht ⟨fun _=>ht,H⟩
   ·have h1:=H.2 j (ready_mono hj hji)
    obtain ⟨hjun,oj,hoj,hall⟩:=mem_ready.1 hj
    have hun:=(mem_ready.1 hr).1
    have hunF:=getD_un hun
    have hnot:∀ e ∈ oj.after,Region.binds md e=true->e.on ≠ i:=fun e he hb heq=>by
     have h2:=hall e he hb
     rw [heq,hunF] at h2
     cases h2
    have h2:=wpOp_putIf hoj (hfree j oj hoj hji hjun hnot) (fun cs b=>hsel i oi cs b hi) (fun cs b=>hsel j oj cs b hoj) hQ hy h1
    have hfree':∀ m om,ops[m]?=some om->m ≠ i->(listed.setIfInBounds j true).getD m true=false ->
      (∀ e ∈ om.after,Region.binds md e=true->e.on ≠ i)->oi.apart ops om=true:=fun m om hm hmi hmu hno=>by
     refine hfree m om hm hmi ?_ hno
     by_cases hjm:j=m
     ·subst hjm;exact hjun
     ·rwa [getD_set_ne true hjm] at hmu
    have hlast:∀ f ∈ F,((listed.setIfInBounds i true).setIfInBounds j true).getD f false=false:=fun f hf=>by
     obtain ⟨hfi,hw⟩:=hF f hf
     have hfj:f ≠ j:=by
      rintro rfl
      have:=waits_spec hc K f (.inl hj) hw
      rw [hunF] at this
      cases this
     rw [getD_set_ne false (Ne.symm hfj),getD_set_ne false (Ne.symm hfi)]
     cases hb:listed.getD f false with
     | false=>rfl
     | true =>
       have:=waits_spec hc K f (.inr hb) hw
       rw [hunF] at this
       cases this
    refine wpOp_mono (fun a' w' h3=>⟨fun _=>h3.2.1 hlast,ih (listed.setIfInBounds j true) a' w' (hc.set hj) hfree' (ready_mono hr (Ne.symm hji)) h3.1 (h3.2.1 hlast) ?_⟩) h2
    rw [Array.setIfInBounds_comm _ _ hji]
    exact h3.2.2
def clB (md:Region.Mode)(ops:Array Oper)(listed:Array Bool):Bool:=(List.range ops.size).all fun j=>match ops[j]? with
 | none=>true
 | some o=>!(listed.getD j false) || o.after.toList.all fun e=>!(Region.binds md e) || listed.getD e.on false
theorem clB_spec {listed:Array Bool}(h:clB md ops listed=true):Cl md ops listed:=fun j o ho hj e he hb=>by
 have h1:=List.all_eq_true.1 h j (List.mem_range.2 (Array.getElem?_eq_some_iff.1 ho).1)
 simp only [ho,hj,Bool.not_true,Bool.false_or] at h1
 have h2:=List.all_eq_true.1 h1 e (Array.mem_toList_iff.2 he)
 simpa [hb] using h2
theorem WA.take {i:Nat}(K:Nat){oi:Oper}{v:Value}{k:Nat}{listed:Array Bool}{a:Act}{w:World}(hi:ops[i]?=some oi)
  (hs:Region.noSelect ops=true) (hc:clB md ops listed=true) (hf:Region.free md ops listed i=true) (hr:(Region.ready md ops listed).contains i=true) (hF:(F.all fun f=>f != i && waits md ops K f i)=true)
  (hQ:∀ c a w,Q (.panic c) (a.put oi.dst v) w->Q (.panic c) a w) (hy:YieldsIf P ops S oi v a) (hS:S w)
  (h:WA P md ops Q F S k (listed.setIfInBounds i true) (a.put oi.dst v) w):WA P md ops Q F S (k+1) listed a w :=
 WA.first hi (Region.noSelect_spec hs) hQ (fun f hf'=>by simpa using List.all_eq_true.1 hF f hf') k listed a w (clB_spec hc) (Region.free_spec hi hf) (by simpa using hr) hy hS h
theorem WA.one {i:Nat}{o:Oper}{k:Nat}{listed:Array Bool}{a:Act}{w:World}(hr:Region.ready md ops listed=[i])(ho:ops[i]?=some o)
  (h:∀ K':Act->World->Prop,Shut (∀ a w,Dm F S (listed.setIfInBounds i true) w->WA P md ops Q F S k (listed.setIfInBounds i true) a w->K' a w)->if Region.wanted o (yielded ops a.tmps)=true then Oper.wp P o a w K' Q else K' (a.put o.dst undef) w) :
  WA P md ops Q F S (k+1) listed a w:=by
 refine ⟨fun h0=>(by rw [hr] at h0;cases h0),fun j hj=>?_⟩
 rw [hr] at hj
 obtain rfl:=List.mem_singleton.1 hj
 exact wpOp_step ho fun K' hK=>h K' fun a w h1 h2=>hK a w ⟨h1,h2⟩
theorem WA.done {listed:Array Bool}{a:Act}{w:World}(hr:Region.ready md ops listed=[])(h:Q .normal a w):∀ k,WA P md ops Q F S k listed a w
 | 0=>⟨hr,h⟩
 | _+1=>⟨fun _=>h,by rw [hr];simp⟩
theorem WA.begin (F:List Nat){id:Nat}{a:Act}{w:World}(hm:P.follows .mixedOrders=true)(hS:S w.drew)
  (h:S w.drew->WA P .any ops Q F S ops.size (Array.replicate ops.size false) a w.drew):(Code.region id ops true).wp P Q a w :=
 wp_region_any hm (WA.any _ _ _ _ (h hS))
end
theorem tk {P:Program}{ops:Array Oper}{Q:Exit->Act->World->Prop}{md:Region.Mode}{S:World->Prop}(i:Nat){oi:Oper}{v:Value}{fuel:Nat}{listed l':Array Bool}{a a':Act}{w:World}
  (h:wpAnyH P md ops Q S fuel l' a' w)
  (hi:ops[i]?=some oi:=by exact rfl) (hs:Region.noSelect ops=true:=by kernel_rfl) (hf:Region.free md ops listed i=true:=by kernel_rfl) (hr:(Region.ready md ops listed).contains i=true:=by kernel_rfl)
  (hw:Region.wanted oi (yielded ops a.tmps)=true:=by rfl)
  (hy:∀ w,S w->(execOp a.eval oi).run P w=.ok (.value v) w:=by (intro w hSw;(try dsimp only at hSw);go_simp;try with_reducible rfl))
  (hS:S w:=by assumption) (hQ:∀ c a w,Q (.panic c) (a.put oi.dst v) w->Q (.panic c) a w:=by exact fun _ _ _ h=>h)
  (hl:listed.setIfInBounds i true=l':=by ((try simp only [List.setIfInBounds_toArray,List.set_cons_zero,List.set_cons_succ]);exact rfl)) (ha:a.put oi.dst v=a':=by ((try simp only [Act.put,List.setIfInBounds_toArray,List.set_cons_zero,List.set_cons_succ]);exact rfl)):wpAnyH P md ops Q S (fuel+1) listed a w:=by
 subst hl ha
 exact wpAnyH_take hi hs hf hr hQ (.inl ⟨hw,hy⟩) hS h
theorem wtk {P:Program}{ops:Array Oper}{Q:Exit->Act->World->Prop}{md:Region.Mode}{S:World->Prop}{F:List Nat}(i:Nat){oi:Oper}{v:Value}{k:Nat}{listed l':Array Bool}{a a':Act}{w:World}
  (h:WA P md ops Q F S k l' a' w)
  (hi:ops[i]?=some oi:=by exact rfl) (hs:Region.noSelect ops=true:=by kernel_rfl) (hc:clB md ops listed=true:=by kernel_rfl) (hf:Region.free md ops listed i=true:=by kernel_rfl) (hr:(Region.ready md ops listed).contains i=true:=by kernel_rfl)
  (hF:(F.all fun f=>f != i && waits md ops 40 f i)=true:=by kernel_rfl) (hw:Region.wanted oi (yielded ops a.tmps)=true:=by kernel_rfl)
  (hy:∀ w,S w->(execOp a.eval oi).run P w=.ok (.value v) w:=by (intro w hSw;(try dsimp only at hSw);go_simp;try with_reducible rfl))
  (hS:S w:=by assumption) (hQ:∀ c a w,Q (.panic c) (a.put oi.dst v) w->Q (.panic c) a w:=by exact fun _ _ _ h=>h)
  (hl:listed.setIfInBounds i true=l':=by ((try simp only [List.setIfInBounds_toArray,List.set_cons_zero,List.set_cons_succ]);exact rfl)) (ha:a.put oi.dst v=a':=by ((try simp only [Act.put,List.setIfInBounds_toArray,List.set_cons_zero,List.set_cons_succ]);exact rfl)):WA P md ops Q F S (k+1) listed a w:=by
 subst hl ha
 exact WA.take 40 hi hs hc hf hr hF hQ (.inl ⟨hw,hy⟩) hS h
end Go.Proofs.YtjnklbfhelbjgaaGreat
