/- Sr21. -/
import Derived.Test.YtjnklbfhelbjgaaGreatSr20
import Derived.Test.YtjnklbfhelbjgaaGreatSr09
import Derived.Test.YtjnklbfhelbjgaaGreatSr10
import Derived.Handy
import Derived.WalkSpells
import Derived.Test.YtjnklbfhelbjgaaGreatSr18
import Derived.Deep.RegionHeld3
import Derived.Deep.DrawnRows
import Derived.Test.YtjnklbfhelbjgaaGreatSr00
set_option maxRecDepth 100000
set_option maxHeartbeats 32000000
set_option linter.all false
namespace Go.Proofs.YtjnklbfhelbjgaaGreat
open Go.RowKit Go.IntWalk
attribute [local go_sem ↓] Go.wp_at_zero Go.wp_at_succ
theorem identity18_any (n:Nat)(hn:n<=1048576)(w:World):Calls Tryz.prog 27 #[.int .i64 (n:Int)] w (RetPp (idT n) w):=by
 obtain ⟨i1,hjf,hy0,hy1,hy2⟩:=info_parts infoRow
 have hmk:=make_ps n hn
 go_enter Tryz.func27,Tryz.ntmps27
 go_wp2_with fail
 go_loopw [3,7] (fun ov iv wr=>∃ (j c':Nat) (A':Option Addr),ov=.slice A' j c'/\iv=.int .i64 (j:Int)/\j<=n/\OwPp wr w.heap.size A' j c' (rowF j (oneR n))/\Below w.heap.size w wr) (fun _ iv _=>n-(intOf iv).toNat)
 case atStart=>exact ⟨0,0,none,rfl,rfl,nZ,OwL.nil _ _ _ _,bR⟩
 case round =>
  obtain ⟨j,c',A',rfl,rfl,hj,ho,hB⟩:=hrel
  by_cases hjn:j=n
  ·have HO:=ah (show OwPp wr w.heap.size A' j c' (idT n) by
    unfold idT
    rw [<- hjn] at ho ⊢
    exact ho)
   have HBF:=ah hB
   subst hjn
   clear ho hB
   go_wp2
   go_ret
   exact ⟨A',j,c',rfl,HO.out,HBF.out⟩
  ·have hjl:j < n:=by omega
   have hjli:(j:Int) < (n:Int):=by omega
   obtain ⟨wo,rfl⟩:∃ V,V=wr:=⟨_,rfl⟩
   clear hjn
   have HOT:=ah ho
   have HB3:=ah hB
   have HJL:=ah (show j+1<=1048576 by omega)
   obtain ⟨R0,HR0⟩:∃ W,W=wo.alloc (.cells (madeCells #[.slice none 0 0] n) 73):=⟨_,rfl⟩
   have hb2:Below wo.heap.size wo R0:=by rw [HR0];exact bA
   obtain ⟨gr,hgr⟩:∃ g,g=wo.heap.size:=⟨_,rfl⟩
   have HP2:=ah (show OwP R0 w.heap.size (some ⟨gr,0,none⟩) n n (rowF n fun _=>[]) by rw [HR0,hgr];exact OwP.made wo HB3.out.size hn)
   have HG2:=ah (show wo.heap.size<=gr by rw [hgr];exact nR)
   have HB4:=ah hb2
   have HB2:=tM HB3 hb2
   have HR0:=ah HR0
   clear hb2 ho hB
   go_wp2_with fail
   rw [<- HR0.out,<- hgr]
   clear HR0 hgr
   clear HR0
   refine (rQOf_any 1 (by decide) (by decide) R0).mono ?_
   rintro _ C0 ⟨s5,A5,n5,c5,s6,A6,n6,c6,y,rfl,ho5,hy5,hb5⟩
   have hD:Below R0.heap.size R0 (C0.alloc (.cells #[.bool s5,.slice A5 n5 c5,.bool s6,.slice A6 n6 c6] 47)):=hb5.alloc hb5.size _
   have ho7:OwQp (C0.alloc (.cells #[.bool s5,.slice A5 n5 c5,.bool s6,.slice A6 n6 c6] 47)) R0.heap.size (some ⟨C0.heap.size,0,none⟩) 1 1 [1]:=by
    have h1:=ho5.cell1 hb5.size
    rw [hy5.out] at h1
    exact h1
   have hr7:=OwL.next stayQP HP2.out hD
   obtain ⟨_,_,_,_,_,q0,_,_⟩:=hr7.cell hjl
   obtain ⟨hbg,hgl,f0,hr8,hk8⟩:=OwL.put stayQP hr7 hjl (ho7.base (b':=w.heap.size) HB2.out.size)
   obtain ⟨C1,HC1⟩:∃ W,W=(C0.alloc (.cells #[.bool s5,.slice A5 n5 c5,.bool s6,.slice A6 n6 c6] 47)).setCell ⟨gr,j,none⟩ (.slice (some ⟨C0.heap.size,0,none⟩) 1 1):=⟨_,rfl⟩
   have HR8:=ah (show OwP C1 w.heap.size (some ⟨gr,0,none⟩) n n (oneR n j) by
    unfold oneR
    rw [rowF_set] at hr8
    rw [HC1]
    exact hr8)
   have hbo:Below wo.heap.size wo C1:=by rw [HC1];exact (HB4.out.trans (hD.mono HB4.out.size)).setCell (p:=⟨gr,j,none⟩) HG2.out _
   have HB8:=ah (show Below w.heap.size w C1 from HB3.out.trans (hbo.mono HB3.out.size))
   obtain ⟨E,hE,hEl,hEn⟩:=OwL.next stayPp HOT.out hbo
   have HE:=ah hE
   have HEN:=ah (cJ hEl hEn)
   have HSZ:=ah (show C1.heap.size=C0.heap.size+1 by rw [HC1,World.size_setCell,World.size_alloc])
   have HC1:=ah HC1
   have HSN:=ah (show ∀ q u,[.slice (some ⟨gr,0,none⟩) n n][q]?=some u->(C1.alloc (.cells #[.slice (some ⟨gr,0,none⟩) n n] 30)).cell? ((⟨C0.heap.size+1,0,none⟩:Addr).add q)=some u by
    have h1:=scell1 C1 (.slice (some ⟨gr,0,none⟩) n n) 30
    rw [HSZ.out] at h1
    exact h1)
   clear ho5 hy5 hb5 hD ho7 hr7 hr8 hk8 hbg hgl hE hEl hEn hbo
   go_wp2_with (at_builtin;(rw [<- HC1.out];refine wpList_append_own _ rfl _ _ 45 rfl w.heap.size 30 i1 (.slice none 0 0) 1 24 Tryz.underlying45 hjf hy0 hy1 hy2 rfl (by decide) _ _ _ rfl (HE.out.alloc _) ⟨C0.heap.size+1,0,none⟩ 1 1 [.slice (some ⟨gr,0,none⟩) n n] rfl rfl HSN.out (by simp [Value.oneCell']) (by have:=HJL.out;unfold maxLen;omega) (by have:=HJL.out;omega) (by have h1:=HB8.out.size;rw [World.size_alloc];omega) ?_);intro v' Y0 hown' hgrow _)
   obtain ⟨A9,c9,rfl,ho9⟩:=OwL.more stayPp (e:=(some ⟨gr,0,none⟩,n,n)) HR8.out (HE.out.alloc _) HEN.out.1 HEN.out.2 hown' hgrow
   have HB9:=ah ((HB8.out.alloc HB8.out.size (.cells #[.slice (some ⟨gr,0,none⟩) n n] 30)).grown hgrow (by have:=HB8.out.size;simp;omega) (own_block HE.out))
   have HO9:=ah (show OwPp Y0 w.heap.size A9 (j+1) c9 (rowF (j+1) (oneR n)) by
    rw [<- rowF_snoc]
    exact ho9)
   clear hown' hgrow HE HEN ho9 q0 f0 HC1
   go_wp2
   go_roundw
   case rel=>exact ⟨j+1,c9,A9,rfl,by go_num,by omega,HO9.out,HB9.out⟩
   case measure=>simp [intOf];omega
theorem pmul_raw {L L':List (Int × Int)}{M:List Rat}(h:Pq.IsP (Pq.cv (Pq.co (L.map qval)) (Pq.co (L'.map qval))) M):M=pmul (nq L) (nq L') :=
 (h.congr fun _=>Pq.cv_congr (fun j _=>(co_nq L j).symm) fun j _=>(co_nq L' j).symm).unique (isP_pmul _ _)
theorem padd_raw {P Q M:List Rat}(h:Pq.IsP (fun i=>Pq.co ((P.map pr).map qval) i+Pq.co ((Q.map pr).map qval) i) M):M=padd P Q:=by
 rw [pr_map,pr_map] at h
 exact h.unique (isP_padd _ _)
theorem Fq.raw {L:List (Int × Int)}(h:Fq (nq L)):∃ Z D,Com 830000 (Pq.co (L.map qval)) Z D:=by
 obtain ⟨Z,D,hZ⟩:=h.com
 exact ⟨Z,D,hZ.congr fun i=>(co_nq L i).symm⟩
theorem mul18_any {N K J N' K' J':Nat}{A B:Option Addr}{n c m d:Nat}{PA PB:List (List (List RawQ))}{w:World}(h:RdRpp w w.heap.size N K J A n c PA)(h':RdRpp w w.heap.size N' K' J' B m d PB)
  (hK:K<=1048576/\K'<=1048576) (hN:N<=1000000000/\N'<=1000000000) (ha:FitV PA 0) (hb:FitV PB 0) (hm:colq (nn PA)=(nn PB).length) :
  Calls Tryz.prog 31 #[.slice A n c,.slice B m d] w (RetPp (mulT (nn PA) (nn PB)) w):=by
 have HL:=ah (show n=(nn PA).length/\m=(nn PB).length from ⟨by rw [nn,List.length_map,h.len],by rw [nn,List.length_map,h'.len]⟩)
 obtain ⟨i1,hjf,hy0,hy1,hy2⟩:=info_parts infoRow
 have HS:=ah (show AllFq (nn PA)/\AllFq (nn PB)/\Rect (nn PA)/\Rect (nn PB)/\okPP PA/\okPP PB from ⟨fit_sm ha,fit_sm hb,ha.zero.2.1,hb.zero.2.1,ha.zero.1,hb.zero.1⟩)
 have HM:=ah (show colq (nn PA)=m by rw [hm,HL.out.2])
 have hn:n<=24:=by
  have h1:=ha.zero.2.2
  unfold Bigg at h1
  rw [<- HL.out.1] at h1
  omega
 have hm24:m<=24:=by
  have h1:=hb.zero.2.2
  unfold Bigg at h1
  rw [<- HL.out.2] at h1
  omega
 obtain ⟨kB,hkB⟩:∃ k,k=colq (nn PB):=⟨_,rfl⟩
 have hkB24:kB<=24:=by
  have h1:=hb.zero.2.2
  unfold Bigg at h1
  rw [<- hkB] at h1
  omega
 have HKB:=ah hkB
 have HKN:=ah (cJ hK hN)
 have hmk:=make_ps kB (by omega)
 have HX:=ah (show ∀ W,Below w.heap.size w W->RdRpp W W.heap.size N K J A n c PA/\RdRpp W W.heap.size N' K' J' B m d PB from fun W hb=>⟨h.next hb,h'.next hb⟩)
 clear h h' hK hN ha hb hm hkB
 go_enter Tryz.func31,Tryz.ntmps31
 go_wp2_with fail
 go_loopw [5,14] (fun ov iv wr=>∃ (j c':Nat) (A':Option Addr),ov=.slice A' j c'/\iv=.int .i64 (j:Int)/\j<=n/\OwPp wr w.heap.size A' j c' (rowF j (mulR (nn PA) (nn PB) m kB))/\Below w.heap.size w wr) (fun _ iv _=>n-(intOf iv).toNat)
 case atStart=>exact ⟨0,0,none,rfl,rfl,nZ,OwL.nil _ _ _ _,bR⟩
 case round =>
  obtain ⟨j,c',A',rfl,rfl,hj,ho,hB⟩:=hrel
  by_cases hjn:j=n
  ·have HO:=ah (show OwPp wr w.heap.size A' j c' (mulT (nn PA) (nn PB)) by
    have e:mulT (nn PA) (nn PB)=rowF j (mulR (nn PA) (nn PB) m kB):=by
     unfold mulT mulR
     rw [<- HL.out.1,<- hjn,<- HKB.out,HM.out]
    rw [e]
    exact ho)
   have HBF:=ah hB
   subst hjn
   clear ho hB
   go_wp2
   go_ret
   exact ⟨A',j,c',rfl,HO.out,HBF.out⟩
  ·have hjl:j < n:=by omega
   have hjli:(j:Int) < (n:Int):=by omega
   obtain ⟨wo,rfl⟩:∃ V,V=wr:=⟨_,rfl⟩
   clear hjn
   obtain ⟨ad,A1,n1,c1,RR,rfl,hbk,hx,hr1,hn1,hp⟩:=rpp_at (HX.out wo hB).1 hjl
   have HPN:=ah (show (nn PA)[j]?=some (RR.map nqp) by rw [nn,List.getElem?_map,hp.out];rfl)
   obtain rfl:n1=m:=by
    have h1:=HS.out.2.2.1 _ (gM HPN.out)
    rw [List.length_map,hr1.len,HM.out] at h1
    exact h1
   have HOT:=ah ho
   have HB3:=ah hB
   have HRR:=ah (show ∀ W,Below wo.heap.size wo W->RdRp W W.heap.size N K A1 n1 c1 RR from fun W hb=>hr1.next hb)
   clear ho hB hr1 hn1
   go_wp2_with fail
   clear hx
   refine (colsR_any (HX.out _ HB3.out).2 (by omega)).mono ?_
   rintro _ W4 ⟨y,rfl,hy,hb4⟩
   obtain rfl:y=(kB:Int):=by rw [hy.out,<- rcol_nn,<- HKB.out]
   have HB4:=ah hb4
   obtain ⟨R0,HR0⟩:∃ W,W=W4.alloc (.cells (madeCells #[.slice none 0 0] kB) 73):=⟨_,rfl⟩
   have hb2:Below wo.heap.size wo R0:=by rw [HR0];exact HB4.out.alloc HB4.out.size _
   obtain ⟨gr,hgr⟩:∃ g,g=W4.heap.size:=⟨_,rfl⟩
   have HP2:=ah (show OwP R0 w.heap.size (some ⟨gr,0,none⟩) kB kB (rowF kB fun _=>[]) by rw [HR0,hgr];exact OwP.made W4 (nT HB3.out.size HB4.out.size) (by omega))
   have HG2:=ah (show wo.heap.size<=gr by rw [hgr];exact HB4.out.size)
   have HB2:=ah hb2
   have HR0:=ah HR0
   clear hb2 hb4 hy
   go_wp2_with fail
   rw [<- HR0.out,<- hgr]
   clear HR0 hgr
   clear HR0
   go_loopw [23] (fun iv wr=>∃ (k:Nat),iv=.int .i64 (k:Int)/\k<=kB/\OwP wr w.heap.size (some ⟨gr,0,none⟩) kB kB (rowF kB fun q=>if q < k then msum (entT (nn PA) j) (fun i=>entT (nn PB) i q) n1 else [])/\Below wo.heap.size wo wr) (fun iv _=>kB-(intOf iv).toNat)
   case atStart=>exact ⟨0,rfl,nZ,by rw [<- row_none];exact HP2.out,HB2.out⟩
   case round =>
    obtain ⟨k,rfl,hk,ho5,hB5⟩:=hrel
    by_cases hkn:k=kB
    ·have HO5:=ah (show OwP wr w.heap.size (some ⟨gr,0,none⟩) kB kB (mulR (nn PA) (nn PB) n1 kB j) by
      have e:mulR (nn PA) (nn PB) n1 kB j=rowF kB fun q=>if q < k then msum (entT (nn PA) j) (fun i=>entT (nn PB) i q) n1 else []:=rowF_congr fun q hq=>by rw [if_pos (by omega)]
      rw [e]
      exact ho5)
     have HB5:=ah hB5
     obtain ⟨E,hE,hEl,hEn⟩:=OwL.next stayPp HOT.out hB5
     have HE:=ah hE
     have HEN:=ah (cJ hEl hEn)
     subst hkn
     clear ho5 hB5 hE hEl hEn
     go_wp2_with (at_builtin;refine wpList_append_own _ rfl _ _ 45 rfl w.heap.size 30 i1 (.slice none 0 0) 1 24 Tryz.underlying45 hjf hy0 hy1 hy2 rfl (by decide) _ _ _ rfl (HE.out.alloc _) ⟨wr.heap.size,0,none⟩ 1 1 [.slice (some ⟨gr,0,none⟩) k k] rfl rfl (scell1 wr (.slice (some ⟨gr,0,none⟩) k k) 30) (by simp [Value.oneCell']) (by unfold maxLen;omega) (by omega) (by have h1:=HB5.out.size;have h2:=HB3.out.size;simp;omega) ?_;intro v' w1 hown' hgrow _)
     obtain ⟨A9,c9,rfl,ho9⟩:=OwL.more stayPp (e:=(some ⟨gr,0,none⟩,k,k)) HO5.out (HE.out.alloc _) HEN.out.1 HEN.out.2 hown' hgrow
     have hbx:=HB3.out.trans (HB5.out.mono HB3.out.size)
     have HB9:=ah ((hbx.alloc hbx.size (.cells #[.slice (some ⟨gr,0,none⟩) k k] 30)).grown hgrow (by have:=hbx.size;simp;omega) (own_block HE.out))
     have HO9:=ah (show OwPp w1 w.heap.size A9 (j+1) c9 (rowF (j+1) (mulR (nn PA) (nn PB) n1 k)) by
      rw [<- rowF_snoc]
      exact ho9)
     clear hown' hgrow HE HEN ho9 hbx
     go_wp2
     go_roundw
     case rel=>exact ⟨j+1,c9,A9,rfl,by go_num,by omega,HO9.out,HB9.out⟩
     case measure=>simp [intOf];omega
    ·have hkl:k < kB:=by omega
     have hkli:(k:Int) < (kB:Int):=by omega
     have HO5:=ah (show OwP wr w.heap.size (some ⟨gr,0,none⟩) kB kB (midR kB (entT (nn PA) j) (fun q i=>entT (nn PB) i q) n1 k 0) by
      rw [<- midR_zero]
      exact ho5)
     obtain ⟨wq,rfl⟩:∃ V,V=wr:=⟨_,rfl⟩
     have HB5:=ah hB5
     clear ho5 hB5 hkn
     go_wp2_with fail
     go_loopw [28] (fun iv wr=>∃ (i:Nat),iv=.int .i64 (i:Int)/\i<=n1/\OwP wr w.heap.size (some ⟨gr,0,none⟩) kB kB (midR kB (entT (nn PA) j) (fun q i=>entT (nn PB) i q) n1 k i)/\Below wo.heap.size wo wr) (fun iv _=>n1-(intOf iv).toNat)
     case atStart=>exact ⟨0,rfl,nZ,HO5.out,HB5.out⟩
     case round =>
      obtain ⟨i,rfl,hi,ho7,hB7⟩:=hrel
      by_cases hin:i=n1
      ·have HR8:=ah (show OwP wr w.heap.size (some ⟨gr,0,none⟩) kB kB (rowF kB fun q=>if q < k+1 then msum (entT (nn PA) j) (fun i=>entT (nn PB) i q) n1 else []) by
        rw [hin,midR_done] at ho7
        exact ho7)
       have HB8:=ah hB7
       subst hin
       clear ho7 hB7
       go_wp2
       go_roundw
       case rel=>exact ⟨k+1,by go_num,by omega,HR8.out,HB8.out⟩
       case measure=>simp [intOf];omega
      ·have hil:i < n1:=by omega
       have hili:(i:Int) < (n1:Int):=by omega
       clear hin
       have HB7:=ah hB7
       have HB8:=tM HB3 hB7
       have HO7:=ah ho7
       obtain ⟨ad1,A6,n6,c6,R,rfl,hbk6,x1,hr6,hn6,hs6,hp6⟩:=rp_at (HRR.out wr hB7) hil
       obtain ⟨ad2,A2,n2,c2,RB,rfl,hbk2,x2,hr2,hn2,hp2⟩:=rpp_at (HX.out wr HB8.out).2 hil
       have HPNB:=ah (show (nn PB)[i]?=some (RB.map nqp) by rw [nn,List.getElem?_map,hp2.out];rfl)
       obtain rfl:n2=kB:=by
        have h1:=HS.out.2.2.2.1 _ (gM HPNB.out)
        rw [List.length_map,hr2.len,<- HKB.out] at h1
        exact h1
       obtain ⟨ad3,A3,n3,c3,R',rfl,hbk3,x3,hr3,hn3,hs3,hp3⟩:=rp_at hr2 hkl
       obtain ⟨A8,n8,c8,P8,hgl8,x4,ho8,hp8⟩:=HO7.out.cell hkl
       obtain rfl:P8=msum (entT (nn PA) j) (fun i=>entT (nn PB) i k) i:=by
        have e1:=hp8.out
        rw [midR_get hkl] at e1
        injection e1 with e1
        exact e1.symm
       have HEA:=ah (show entT (nn PA) j i=nqp R from entT_mem HPN.out (by rw [List.getElem?_map,hp6.out];rfl))
       have HEB:=ah (show entT (nn PB) i k=nqp R' from entT_mem HPNB.out (by rw [List.getElem?_map,hp3.out];rfl))
       have HFA:=ah (show Fq (nqp R) by rw [<- HEA.out];exact entT_sm HS.out.1 j i)
       have HFB:=ah (show Fq (nqp R') by rw [<- HEB.out];exact entT_sm HS.out.2.1 i k)
       have HDA:=ah (show okD (R.map toQ) from HS.out.2.2.2.2.1 RR (gM hp.out) R (gM hp6.out))
       have HDB:=ah (show okD (R'.map toQ) from HS.out.2.2.2.2.2 RB (gM hp2.out) R' (gM hp3.out))
       have HRW:=ah (show ∀ W,Below wr.heap.size wr W->RdQs W W.heap.size 2000000000 A6 n6 c6 (R.map toQ)/\RdQs W W.heap.size 2000000000 A3 n3 c3 (R'.map toQ) from fun W hb=>⟨(hr6.next hb).rd (by have:=HKN.out.2.1;omega),(hr3.next hb).rd (by have:=HKN.out.2.2;omega)⟩)
       have HNN:=ah (show n6<=1048576/\n3<=1048576 from ⟨by have:=HKN.out.1.1;omega,by have:=HKN.out.1.2;omega⟩)
       have HC:=ah (show ∀ W,Below wr.heap.size wr W->W.cell? (ad2.add i)=some (.slice (some ad3) n2 c2)/\W.cell? (ad3.add k)=some (.slice A3 n3 c3)/\W.cell? ⟨gr,k,none⟩=some (.slice A8 n8 c8) from fun W hb=>⟨(hb.cell (p:=ad2.add i) (by rw [add_blk];exact hbk2)).trans x2,(hb.cell (p:=ad3.add k) (by rw [add_blk];exact hbk3)).trans x3,(hb.cell (p:=⟨gr,k,none⟩) hgl8).trans x4⟩)
       have HO8:=ah ho8
       have HCD:=ah (Below.refl wr.heap.size wr).drew
       clear hr6 hr2 hr3 hs6 hs3 x2 x3 x4 hp8 ho8 ho7 hB7
       go_upto_region 12 with fail
       clear x1
       refine WA.begin [17] (S:=fun W=>W.cell? (ad2.add i)=some (.slice (some ad3) n2 c2)/\W.cell? (ad3.add k)=some (.slice A3 n3 c3)/\W.cell? ⟨gr,k,none⟩=some (.slice A8 n8 c8)) (by kernel_rfl) (HC.out _ HCD.out) (fun hHeld=>?_)
       refine wtk 0 ?_
       refine wtk 1 ?_
       refine wtk 2 ?_
       refine wtk 3 ?_
       refine wtk 4 ?_
       refine wtk 5 ?_
       refine wtk 6 ?_
       refine wtk 7 ?_
       refine wtk 8 ?_
       refine wtk 9 ?_
       refine wtk 10 ?_
       refine wtk 11 ?_
       refine wtk 12 ?_
       refine wtk 13 ?_
       refine WA.one (i:=14) (by kernel_rfl) rfl (fun K hK=>?_)
       rw [if_pos (by kernel_rfl)]
       go_simp
       obtain ⟨Z1,D1,hZ1⟩:=HFA.out.raw
       obtain ⟨Z2,D2,hZ2⟩:=HFB.out.raw
       refine (rqMulRaw_any (N:=2000000000) (HRW.out _ HCD.out).1 (HRW.out _ HCD.out).2 HDA.out HDB.out hZ1 hZ2 (by decide) (by decide) (by decide) HNN.out.1 HNN.out.2 (by have h1:(nq (R.map toQ)).length<=101:=HFA.out.2.1;have h2:(nq (R'.map toQ)).length<=101:=HFB.out.2.1;omega)).mono ?_
       rintro _ W9 ⟨A9,n9,l9,M9,rfl,ho9,hM9,hb9⟩
       have HB9:Hid (Below wr.heap.size wr W9):=tM HCD hb9
       have HE9:=ah (show M9=pmul (entT (nn PA) j i) (entT (nn PB) i k) by rw [HEA.out,HEB.out];exact pmul_raw hM9.out)
       have HO9:=ah ho9
       clear ho9 hb9 hM9 hZ1 hZ2
       go_wp2_with fail
       refine hK.out _ _ (fun _=>(HC.out _ HB9.out)) ?_
       have hHeld:=(HC.out _ HB9.out)
       clear hK K
       (try simp only [Act.put,List.setIfInBounds_toArray,List.set_cons_zero,List.set_cons_succ])
       refine WA.one (i:=15) (by kernel_rfl) rfl (fun K hK=>?_)
       rw [if_pos (by kernel_rfl)]
       go_simp
       have HQA:=ah (show ∀ x ∈ M9,Qs 50000000 x by rw [HE9.out];exact pmul_qs (a:=entT (nn PA) j) (b:=fun i=>entT (nn PB) i k) (fun i=>entT_sm HS.out.1 j i) (fun i=>entT_sm HS.out.2.1 i k) i)
       have HLA:=ah (show M9.length<=202 by rw [HE9.out];exact pmul_len (a:=entT (nn PA) j) (b:=fun i=>entT (nn PB) i k) (fun i=>entT_sm HS.out.1 j i) (fun i=>entT_sm HS.out.2.1 i k) i)
       refine (rqAdd_any (N:=50000000) ((HO8.out.next HB9.out).rd (msum_qs (a:=entT (nn PA) j) (b:=fun i=>entT (nn PB) i k) (fun i=>entT_sm HS.out.1 j i) (fun i=>entT_sm HS.out.2.1 i k) (by omega))) (HO9.out.rd HQA.out) (pr_okD _) (pr_okD _) (by rw [<- HO8.out.len];have:=msum_len (a:=entT (nn PA) j) (b:=fun i=>entT (nn PB) i k) (fun i=>entT_sm HS.out.1 j i) (fun i=>entT_sm HS.out.2.1 i k) i;omega) (by rw [<- HO9.out.len];have:=HLA.out;omega) (by decide) (by decide)).mono ?_
       rintro _ W10 ⟨A10,n10,c10,M10,rfl,ho10,hM10,hb10⟩
       have HB10:Hid (Below wr.heap.size wr W10):=tM HB9 hb10
       obtain rfl:=padd_raw hM10.out
       have hr10:=OwL.next stayQP HO7.out HB10.out
       obtain ⟨_,_,_,_,_,q1,_,_⟩:=hr10.cell hkl
       obtain ⟨hbg,hgl,f0,hr11,hk11⟩:=OwL.put stayQP hr10 hkl (ho10.base (b':=w.heap.size) (by have h1:=HB8.out.size;have h2:=HB9.out.size;omega))
       have HR11:=ah (show OwP (W10.setCell ⟨gr,k,none⟩ (.slice A10 n10 c10)) w.heap.size (some ⟨gr,0,none⟩) n2 n2 (midR n2 (entT (nn PA) j) (fun q i=>entT (nn PB) i q) n1 k (i+1)) by
        have hr12:=hr11
        rw [HE9.out] at hr12
        rw [<- midR_set]
        exact hr12)
       have HB11:=ah (show Below wo.heap.size wo (W10.setCell ⟨gr,k,none⟩ (.slice A10 n10 c10)) from (HB7.out.trans (HB10.out.mono HB7.out.size)).setCell (p:=⟨gr,k,none⟩) HG2.out _)
       clear hr10 hr11 hk11 hbg hgl ho10 hb10 hM10
       go_wp2_with fail
       refine hK.out _ _ (fun _=>(HC.out _ HB10.out)) ?_
       have hHeld:=(HC.out _ HB10.out)
       clear hK K
       (try simp only [Act.put,List.setIfInBounds_toArray,List.set_cons_zero,List.set_cons_succ])
       refine wtk 16 ?_
       refine WA.one (i:=17) (by kernel_rfl) rfl (fun K hK=>?_)
       rw [if_pos (by kernel_rfl)]
       go_simp
       refine hK.out _ _ (fun h=>Bool.noConfusion ((show _=true by kernel_rfl).symm.trans (h 17 (List.mem_singleton.2 rfl)))) ?_
       clear hK K
       (try simp only [Act.put,List.setIfInBounds_toArray,List.set_cons_zero,List.set_cons_succ])
       refine WA.done (by kernel_rfl) ?_ _
       go_wp2
       go_roundw
       case rel=>exact ⟨i+1,by go_num,by omega,HR11.out,HB11.out⟩
       case measure=>simp [intOf];omega
theorem num18_any (z:Int)(w:World):Calls Tryz.prog 16 #[.int .i64 z] w (fun e w'=>e=.returned (.int .i64 z)/\w'=w):=by
 go_enter Tryz.func16,Tryz.ntmps16
 go_wp2
 go_ret
 exact ⟨rfl,rfl⟩
theorem lpoly18_any {A:Option Addr}{n c:Nat}{L:List Int}{w:World}(h:RdK w w.heap.size A n c L)(hn:n<=1048576) :
  Calls Tryz.prog 62 #[.slice A n c] w fun e w'=>∃ (A:Option Addr) (n c:Nat) (M:List Rat),e=.returned (.slice A n c)/\OwQp w' w.heap.size A n c M/\Hid (M=L.map fun z:Int=>(z:Rat))/\Below w.heap.size w w':=by
 have HLEN:=ah h.len
 obtain ⟨i0,hi,hz0,hz1,hz2⟩:=info_parts infoQ
 go_enter Tryz.func62,Tryz.ntmps62
 go_wp2_with fail
 go_loopw [3,8] (fun ov iv wr=>∃ (j c':Nat) (A':Option Addr) (M:List Rat),ov=.slice A' j c'/\iv=.int .i64 j/\j<=n/\OwQs wr w.heap.size A' j c' M/\Hid (M=(L.take j).map fun z:Int=>(z:Rat))/\Below w.heap.size w wr) (fun _ iv _=>n-(intOf iv).toNat)
 case atStart=>exact ⟨0,0,none,[],rfl,rfl,nZ,OwQs.nil _ _,ah rfl,bR⟩
 case round =>
  obtain ⟨j,c',A',M,rfl,rfl,hj,ho,hM,hB⟩:=hrel
  by_cases hjn:j=n
  ·subst hjn
   go_wp2
   go_ret
   exact ⟨_,_,_,_,rfl,ho.p,ah (by rw [hM.out,List.take_of_length_le (by rw [HLEN.out];exact nR)]),hB⟩
  ·have hjl:j < n:=by omega
   clear hjn
   have hjli:(j:Int) < (n:Int):=by omega
   obtain ⟨z,hz⟩:=zs_get (L:=L) (j:=j) (by rw [h.len];exact hjl)
   obtain ⟨h1,h2,ad,rfl,hbk,hx⟩:=h.at_ j z hz
   have hy:=(hB.cell (p:=ad.add j) (by rw [add_blk];exact hbk)).trans hx
   have HZ:=ah hz
   have HRG:=ah (cJ h1 h2)
   have HO:=ah ho
   clear hz hx ho h1 h2
   go_wp2_with fail
   refine (rQOf_any z HRG.out.1 HRG.out.2 wr).mono ?_
   rintro _ W3 ⟨s3,A3,n3,c3,s4,A4,n4,c4,y,rfl,ho3,hy3,hb3⟩
   have hB3:=hB.trans (hb3.mono hB.size)
   obtain ⟨E,hE,hEl,hEn⟩:=HO.out.next hb3
   have HO4:=ah (ho3.base hB.size)
   have HE:=ah hE
   have HEN:=ah (cJ hEl hEn)
   have HM2:=ah (show M ++ [y]=(L.take (j+1)).map fun z:Int=>(z:Rat) by rw [hM.out,hy3.out,List.take_add_one,HZ.out];simp)
   clear hE hEl hEn hy hb3 ho3
   go_wp2_with (at_builtin;refine wpList_append_own _ rfl _ _ 73 rfl w.heap.size 47 i0 (.agg #[.bool false,.slice none 0 0,.bool false,.slice none 0 0]) 4 64 Tryz.underlying73 hi hz0 hz1 hz2 rfl (by decide) _ _ _ rfl (HE.out.alloc _) ⟨W3.heap.size,0,none⟩ 1 1 [.bool s3,.slice A3 n3 c3,.bool s4,.slice A4 n4 c4] rfl rfl (qcell_new _ _ _ _ _ _) (by simp [Value.oneCell']) (by unfold maxLen;omega) (by omega) (by have:=hB3.size;simp;omega) ?_;intro v' w1 hown' hgrow _)
   have hmore:=qs_more (e:=((s3,A3,n3,c3),(s4,A4,n4,c4))) (x:=y) HO4.out rfl (HE.out.alloc _) HEN.out.1 HEN.out.2 hown' hgrow
   have HB5:=ah ((hB3.alloc hB3.size (.cells #[.bool s3,.slice A3 n3 c3,.bool s4,.slice A4 n4 c4] 47)).grown hgrow (by have:=hB3.size;simp;omega) (own_block HE.out))
   obtain ⟨A5,c5,rfl,ho5⟩:=hmore
   clear hown' hgrow HE HEN HO4 hB3 hB
   go_wp2
   go_roundw
   case rel=>exact ⟨j+1,c5,A5,M ++ [y],rfl,by go_num,by omega,ho5,HM2,HB5.out⟩
   case measure=>simp [intOf];omega
theorem swap_to01 {b t:Nat}{M:M2}{w:World}(h:Tb w b t M)(hb:b<=w.heap.size) :
  Calls Tryz.prog 278 #[.agg #[.int .i64 0,.int .i64 1],.pointer (some ⟨t,0,none⟩)] w (RetT b t (M.swap 0 1) w):=by
 obtain ⟨gr,cr,g0,c0,g1,c1,x,y,z,u,h⟩:=h
 obtain ⟨W1,HW1⟩:∃ W,W=w.alloc (.cells #[.int .i64 0,.int .i64 1] 221):=⟨_,rfl⟩
 have hb1:Below w.heap.size w W1:=by rw [HW1];exact bA
 have hX:PX W1 w.heap.size 221 [.int .i64 0,.int .i64 1]:=by rw [HW1];exact PX.new w _ [.int .i64 0,.int .i64 1]
 obtain ⟨gb,hgb⟩:∃ g,g=w.heap.size:=⟨_,rfl⟩
 rw [<- hgb] at hX
 have hbd:=(Below.refl W1.heap.size W1).drew
 have HT:=ah ((h.next hb1).next hbd)
 have HX:=ah (hX.next hbd)
 have HV:=ah (show Below b w W1.drew/\KeepS w W1.drew from ⟨(hb1.mono hb).drew,(KeepS.below hb1).trans (.below hbd)⟩)
 have HS:=ah (show W1.drew.cell? ⟨t,0,none⟩=some (.slice (some ⟨gr,0,none⟩) 2 cr)/\W1.drew.cell? ⟨gb,0,none⟩=some (.int .i64 0)/\W1.drew.cell? ⟨gb,1,none⟩=some (.int .i64 1) from ⟨HT.out.hd.cell rfl,HX.out.cell rfl,HX.out.cell rfl⟩)
 have HN:=ah (HX.out.ne HT.out.rw (by decide))
 have k2:=HT.out.rw.cell (i:=0) rfl
 have k3:=HT.out.rw.cell (i:=1) rfl
 have f0:=HT.out.rw.frozen 0
 obtain ⟨V1,HV1⟩:∃ W,W=W1.drew.setCell ⟨gr,0,none⟩ (.slice (some ⟨g1,0,none⟩) 2 c1):=⟨_,rfl⟩
 have hr1:PX V1 gr 30 [.slice (some ⟨g1,0,none⟩) 2 c1,.slice (some ⟨g1,0,none⟩) 2 c1]:=by rw [HV1];exact HT.out.rw.store 0 _
 have HS1:=ah (show V1.cell? ⟨t,0,none⟩=some (.slice (some ⟨gr,0,none⟩) 2 cr)/\V1.cell? ⟨gb,0,none⟩=some (.int .i64 0)/\V1.cell? ⟨gb,1,none⟩=some (.int .i64 1) from ⟨by rw [HV1];exact (HT.out.hd.far HT.out.ht _).cell rfl,by rw [HV1];exact (HX.out.far HN.out _).cell rfl,by rw [HV1];exact (HX.out.far HN.out _).cell rfl⟩)
 have e1:=hr1.cell (i:=1) rfl
 have f1:=hr1.frozen 1
 obtain ⟨V2,HV2⟩:∃ W,W=V1.setCell ⟨gr,1,none⟩ (.slice (some ⟨g0,0,none⟩) 2 c0):=⟨_,rfl⟩
 have HT2:=ah (show T2 V2 b t gr cr g1 c1 g0 c0 z u x y ⟨M.c,M.d,M.a,M.b⟩ by rw [HV2,HV1];exact HT.out.swap)
 have HS2:=ah (show V2.cell? ⟨t,0,none⟩=some (.slice (some ⟨gr,0,none⟩) 2 cr)/\V2.cell? ⟨gb,0,none⟩=some (.int .i64 0)/\V2.cell? ⟨gb,1,none⟩=some (.int .i64 1) from ⟨HT2.out.hd.cell rfl,by rw [HV2,HV1];exact ((HX.out.far HN.out _).far HN.out _).cell rfl,by rw [HV2,HV1];exact ((HX.out.far HN.out _).far HN.out _).cell rfl⟩)
 have HE:=ah (show Below b w V2/\KeepS w V2 by
  rw [HV2]
  refine ⟨Below.setCell (p:=⟨gr,1,none⟩) ?_ HT.out.br _,KeepS.trans ?_ (hr1.keepS (.inr rfl) 1 _)⟩
  ·rw [HV1]
   exact HV.out.1.setCell (p:=⟨gr,0,none⟩) HT.out.br _
  ·rw [HV1]
   exact HV.out.2.trans (HT.out.rw.keepS (.inr rfl) 0 _))
 have HV1:=ah HV1
 have HV2:=ah HV2
 have HW1:=ah HW1
 clear h hb hb1 hX hbd hr1
 go_enter Tryz.func278,Tryz.ntmps278
 go_wp2_with fail
 rw [<- HW1.out,<- hgb]
 clear HW1 hgb
 clear HW1
 refine wp_region_held_drew (S:=fun W=>W.cell? ⟨t,0,none⟩=some (.slice (some ⟨gr,0,none⟩) 2 cr)/\W.cell? ⟨gb,0,none⟩=some (.int .i64 0)/\W.cell? ⟨gb,1,none⟩=some (.int .i64 1)) (by kernel_rfl) HS.out (fun hHeld=>?_)
 refine tk 0 ?_
 refine tk 1 ?_
 refine tk 2 ?_
 refine tk 3 ?_
 refine tk 4 ?_
 refine tk 5 ?_
 refine tk 6 ?_
 refine tk 7 ?_
 refine tk 8 ?_
 refine tk 9 ?_
 refine tk 10 ?_
 refine tk 11 ?_
 refine tk 12 ?_
 refine tk 13 ?_
 refine tk 14 ?_
 refine tk 15 ?_
 refine tk 16 ?_
 refine tk 17 ?_
 refine tk 18 ?_
 refine tk 20 ?_
 refine tk 21 ?_
 refine tk 22 ?_
 refine tk 23 ?_
 refine tk 24 ?_
 refine tk 25 ?_
 refine tk 26 ?_
 refine wpAnyH_ready (rs:=[19,27]) (by kernel_rfl) (by simp) ?_
 refine AllReadyH.cons rfl (fun K hK=>?_) (AllReadyH.cons rfl (fun K hK=>?_) AllReadyH.nil)
 ·go_simp
  refine hK.out _ _ HS.out (fun hHeld=>?_)
  clear hK K
  (try simp only [Act.put,List.setIfInBounds_toArray,List.set_cons_zero,List.set_cons_succ])
  refine wpAnyH_ready (rs:=[27]) (by kernel_rfl) (by simp) ?_
  refine AllReadyH.cons rfl (fun K hK=>?_) AllReadyH.nil
  go_simp
  refine hK.out _ _ HS.out (fun hHeld=>?_)
  clear hK K
  (try simp only [Act.put,List.setIfInBounds_toArray,List.set_cons_zero,List.set_cons_succ])
  refine tk 28 ?_
  refine wpAnyH_ready (rs:=[29]) (by kernel_rfl) (by simp) ?_
  refine AllReadyH.cons rfl (fun K hK=>?_) AllReadyH.nil
  go_simp
  rw [show (W1.setCell ⟨gr,0,none⟩ (.slice (some ⟨g1,0,none⟩) 2 c1)).drew=V1 from HV1.out.symm]
  clear HV1
  clear HV1 k2 k3 f0
  refine hK.out _ _ HS1.out (fun hHeld=>?_)
  clear hK K
  (try simp only [Act.put,List.setIfInBounds_toArray,List.set_cons_zero,List.set_cons_succ])
  refine tk 30 ?_
  refine wpAnyH_ready (rs:=[31]) (by kernel_rfl) (by simp) ?_
  refine AllReadyH.cons rfl (fun K hK=>?_) AllReadyH.nil
  go_simp
  rw [<- HV2.out]
  clear HV2
  clear HV2
  refine hK.out _ _ HS2.out (fun hHeld=>?_)
  clear hK K
  (try simp only [Act.put,List.setIfInBounds_toArray,List.set_cons_zero,List.set_cons_succ])
  refine wpAnyH_done (by kernel_rfl) ?_ _
  go_wp2
  go_returns
  exact ⟨rfl,⟨_,_,_,_,_,_,_,_,_,_,HT2.out⟩,HE.out⟩
 ·go_simp
  refine hK.out _ _ HS.out (fun hHeld=>?_)
  clear hK K
  (try simp only [Act.put,List.setIfInBounds_toArray,List.set_cons_zero,List.set_cons_succ])
  refine wpAnyH_ready (rs:=[19]) (by kernel_rfl) (by simp) ?_
  refine AllReadyH.cons rfl (fun K hK=>?_) AllReadyH.nil
  go_simp
  refine hK.out _ _ HS.out (fun hHeld=>?_)
  clear hK K
  (try simp only [Act.put,List.setIfInBounds_toArray,List.set_cons_zero,List.set_cons_succ])
  refine tk 28 ?_
  refine wpAnyH_ready (rs:=[29]) (by kernel_rfl) (by simp) ?_
  refine AllReadyH.cons rfl (fun K hK=>?_) AllReadyH.nil
  go_simp
  rw [show (W1.setCell ⟨gr,0,none⟩ (.slice (some ⟨g1,0,none⟩) 2 c1)).drew=V1 from HV1.out.symm]
  clear HV1
  clear HV1 k2 k3 f0
  refine hK.out _ _ HS1.out (fun hHeld=>?_)
  clear hK K
  (try simp only [Act.put,List.setIfInBounds_toArray,List.set_cons_zero,List.set_cons_succ])
  refine tk 30 ?_
  refine wpAnyH_ready (rs:=[31]) (by kernel_rfl) (by simp) ?_
  refine AllReadyH.cons rfl (fun K hK=>?_) AllReadyH.nil
  go_simp
  rw [<- HV2.out]
  clear HV2
  clear HV2
  refine hK.out _ _ HS2.out (fun hHeld=>?_)
  clear hK K
  (try simp only [Act.put,List.setIfInBounds_toArray,List.set_cons_zero,List.set_cons_succ])
  refine wpAnyH_done (by kernel_rfl) ?_ _
  go_wp2
  go_returns
  exact ⟨rfl,⟨_,_,_,_,_,_,_,_,_,_,HT2.out⟩,HE.out⟩
end Go.Proofs.YtjnklbfhelbjgaaGreat
