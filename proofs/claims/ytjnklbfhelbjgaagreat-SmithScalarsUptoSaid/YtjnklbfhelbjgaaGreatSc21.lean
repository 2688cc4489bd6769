/- Sc21. -/
import Derived.Test.YtjnklbfhelbjgaaGreatSc20
import Derived.Test.YtjnklbfhelbjgaaGreatSc16
import Derived.Test.YtjnklbfhelbjgaaGreatSc15
import Derived.Test.YtjnklbfhelbjgaaGreatSc09
import Derived.Handy
import Derived.WalkSpells
import Derived.BigRegion
import Derived.Deep.RegionHeld3
import Derived.Deep.DrawnRows
import Derived.Test.YtjnklbfhelbjgaaGreatRows
import Derived.Test.YtjnklbfhelbjgaaGreatSc00
set_option maxRecDepth 100000
set_option maxHeartbeats 32000000
set_option linter.all false
namespace Go.Proofs.YtjnklbfhelbjgaaGreat
open Go.RowKit Go.IntWalk
attribute [local go_sem ↓] Go.wp_at_zero Go.wp_at_succ
theorem rFromB_any {N b q:Nat}{G:Option Addr}{r k:Nat}{LL:List (List Rat)}{w:World}(h:OwQss w b G r k LL)(hb:b<=w.heap.size)(hq:∀ L ∈ LL,L.length=q)(hS:∀ L ∈ LL,∀ x ∈ L,Qs N x)(hN:N<=150000000)(h1N:1<=N)(hr:r<=24)(hq1:q<=24) :
  Calls Tryz.prog 71 #[.slice G r k] w (RetMt (denL LL.flatten) (fromN LL) w):=by
 obtain ⟨i1,hjf,hy0,hy1,hy2⟩:=info_parts infoIs
 obtain ⟨i0,hi,hz0,hz1,hz2⟩:=info_parts infoQ
 have HL:=ah h.len
 have HX:=ah (show ∀ W,Below w.heap.size w W->OwQss W b G r k LL from fun W hb=>h.next hb)
 have HBB:=ah hb
 have HQ:=ah hq
 have HS:=ah hS
 have HTOT:=ah (show LL.flatten.length=r*q/\r*q<=576 from ⟨by rw [flat_len LL hq,h.len],nT (Nat.mul_le_mul hr hq1) (by decide)⟩)
 have HSF:=ah (show ∀ x ∈ LL.flatten,Qs N x from fun x hx=>by
  obtain ⟨L,hL,hx⟩:=List.mem_flatten.1 hx
  exact hS L hL x hx)
 obtain ⟨W1,HW1⟩:∃ W,W=w.alloc (.cells #[.bool false,.slice none 0 0,.slice none 0 0] 28):=⟨_,rfl⟩
 have hM1:MC W1 w.heap.size false none 0 0 none 0 0:=by rw [HW1];exact MC.new w false none 0 0 none 0 0
 have hB1:Below w.heap.size w W1:=by rw [HW1];exact bA
 have HM1:=ah hM1
 have HB1:=ah hB1
 have HW1:=ah HW1
 clear h hb hq hS hM1 hB1
 go_enter Tryz.func71,Tryz.ntmps71
 go_wp2_with fail
 rw [<- HW1.out]
 clear HW1
 clear HW1
 go_loopw [3,14] (fun ov iv wr=>∃ (j m c':Nat) (A':Option Addr) (E:List (Ent × Ent)) (M:List Rat),ov=.slice A' m c'/\iv=.int .i64 j/\j<=r/\wr.ownsRow W1.heap.size 47 4 (.slice A' m c') m (qcs E)/\E.length=m/\EntQ wr b E M/\Hid (M=(LL.take j).flatten)/\Below W1.heap.size W1 wr) (fun _ iv _=>r-(intOf iv).toNat)
 case atStart=>exact ⟨0,0,0,none,[],[],rfl,rfl,nZ,World.ownsRow_nil _ _ _ _,rfl,⟨rfl,fun j e z he _=>by simp at he⟩,ah rfl,bR⟩
 case round =>
  obtain ⟨j,m,c',A',E,M,rfl,rfl,hj,hE,hEl,hEn,hM,hB⟩:=hrel
  have HML:=ah (show m=j*q by
   have e1:=hEn.1
   rw [hEl,hM.out,flat_len _ (fun L hL=>HQ.out L (List.mem_of_mem_take hL)),List.length_take,HL.out] at e1
   rw [e1]
   congr 1
   omega)
  by_cases hjr:j=r
  ·subst hjr
   have hMF:M=LL.flatten:=by rw [hM.out,List.take_of_length_le (by rw [HL.out];exact nR)]
   subst hMF
   have HBW:=tM HB1 hB
   have HO:=ah (show OwQs wr b A' m c' LL.flatten from ⟨E,row_base hE (nT HBB.out HB1.out.size),hEl,hEn⟩)
   have HR:=ah (HO.out.p.rd (N:=N) (fun x hx=>HSF.out x hx))
   have HM0:=ah (HM1.out.next hB)
   have HDEN:=ah (show ∀ j,Zz.zl (denF 1 (LL.flatten.take j))<=86400000001 from fun j=>by
    have e1:=denF_sz (N:=N) (LL.flatten.take j) 1 (fun x hx=>HSF.out x (List.mem_of_mem_take hx))
    have e2:Zz.zl 1<=1:=Zz.zl_small (by decide)
    have e3:(LL.flatten.take j).length<=576:=by
     rw [List.length_take]
     have:=HTOT.out
     omega
    have e4:(LL.flatten.take j).length*N<=576*150000000:=Nat.mul_le_mul e3 hN
    omega)
   have HMT:=ah (show m<=576 by rw [HML.out];exact HTOT.out.2)
   clear hE hEl hEn hM hB HO
   obtain ⟨wo,rfl⟩:∃ V,V=wr:=⟨_,rfl⟩
   go_wp2_with fail
   refine (rCommon_any HR.out HDEN.out (by have:=HMT.out;omega) (by omega) (by decide)).mono ?_
   rintro _ W4 ⟨s2,A2,n2,c2,y,A3,n3,c3,P,rfl,ho4,hoz4,hy4,hb4⟩
   have HP:=ah (show P=(fromN LL).flatten by rw [hy4.out.2,fromN_flat])
   have HY:=ah (show y=denL LL.flatten from hy4.out.1)
   have HN3:=ah (show A3=none->c3=0 from fun e=>by
    rcases hoz4.form with ⟨_,_,h3⟩ | ⟨g,h1,_⟩
    ·exact h3
    ·rw [e] at h1;cases h1)
   obtain ⟨W5,HW5⟩:∃ W',W'=W4.alloc (.cells #[.bool s2,.slice A2 n2 c2] 25):=⟨_,rfl⟩
   have hb5:Below W4.heap.size W4 W5:=by rw [HW5];exact bA
   have hZ5:ZC W5 W4.heap.size s2 A2 n2 c2:=by rw [HW5];exact ZC.new W4 s2 A2 n2 c2
   have a0:=hZ5.c0
   have a1:=hZ5.c1
   rw [HW5] at a0 a1
   obtain ⟨W6,HW6⟩:∃ W',W'=W5.alloc (.cells #[.bool s2,.slice A2 n2 c2,.slice none 0 0] 28):=⟨_,rfl⟩
   have hb6:Below W5.heap.size W5 W6:=by rw [HW6];exact bA
   have HM6:=ah (show MC W6 W5.heap.size s2 A2 n2 c2 none 0 0 by rw [HW6];exact MC.new W5 s2 A2 n2 c2 none 0 0)
   have hb56:=hb5.trans (hb6.mono hb5.size)
   have HB6:=ah (hb4.trans (hb56.mono hb4.size))
   have HO6:=ah (cJ (ho4.next hb56) ((hoz4.next hb56).ip))
   have HR6:=ah (HM0.out.next HB6.out)
   have HG:=ah (show w.heap.size < wo.heap.size/\wo.heap.size<=W5.heap.size/\W5.heap.size < W6.heap.size from ⟨HM0.out.lt,nT hb4.size hb5.size,HM6.out.lt⟩)
   have hs5:W5.heap.size=W4.heap.size+1:=by rw [HW5];simp
   rw [HW5] at HW6
   have HW6:=ah HW6
   clear ho4 hoz4 hy4 hb4 hb5 hb6 hb56 hZ5 HW5
   go_wp2_with fail
   rw [<- HW6.out]
   clear HW6 a0 a1
   clear HW6
   rw [<- hs5]
   clear hs5
   have HPL:=ah (show n3=j*q by
    rw [<- HO6.out.2.len,HP.out,flat_len _ (fromN_len HQ.out)]
    congr 1
    unfold fromN
    rw [List.length_map,HL.out])
   have HFL:=ah (show (fromN LL).length=j by unfold fromN;rw [List.length_map,HL.out])
   by_cases h0:0 < j/\0 < q
   ·obtain ⟨ad,had⟩:∃ ad,A3=some ad:=by
     obtain ⟨E7,_,_,_,_,h5⟩:=HO6.out.2
     rcases h5 with h5 | ⟨g7,off7,cs7,e7,_⟩
     ·have:=HPL.out
      have:=Nat.mul_pos h0.1 h0.2
      omega
     ·exact ⟨_,e7⟩
    subst had
    obtain ⟨gm,hgm⟩:∃ g,g=W5.heap.size:=⟨_,rfl⟩
    rw [<- hgm] at HM6 HG ⊢
    clear hgm
    go_loopw [9,31] (fun uv iv wr=>∃ (i u:Nat) (A9:Option Addr) (c9:Nat) (E9:List (Option Addr × Nat × Nat)),uv=.int .i64 u/\iv=.int .i64 (i:Int)/\i<=j/\Hid (u=i*q)/\wr.ownsRow W6.heap.size 65 1 (.slice A9 i c9) i (E9.map psl)/\E9.length=i/\EntMs wr wo.heap.size E9 ((fromN LL).take i)/\MC wr gm s2 A2 n2 c2 A9 i c9/\MC wr w.heap.size false none 0 0 none 0 0/\OwZ wr wo.heap.size s2 A2 n2 c2 y/\OwIp wr wo.heap.size (some ad) n3 c3 P/\Hid (W6.heap.size<=wr.heap.size)/\Below wo.heap.size wo wr) (fun _ iv _=>j-(intOf iv).toNat)
    case atStart=>exact ⟨0,0,none,0,[],rfl,rfl,nZ,ah (by simp),World.ownsRow_nil _ _ _ _,rfl,⟨rfl,fun j e z he _=>by simp at he⟩,HM6.out,HR6.out,HO6.out.1,HO6.out.2,ah nR,HB6.out⟩
    case round =>
     obtain ⟨i,u,A9,c9,E9,rfl,rfl,hij,HU,hE,hEl,hEn,hMg,hMz,hoz,hip,hsz,hB⟩:=hrel
     by_cases hin:i=j
     ·subst hin
      have a0:=hMg.c0
      have a1:=hMg.c1
      have a2:=hMg.c2
      have r0:=hMz.c0
      have r1:=hMz.c1
      have r2:=hMz.c2
      have f0:=hMz.fz 0
      have f1:=hMz.fz 1
      have f2:=hMz.fz 2
      have HSS:=ah (hMz.store s2 A2 n2 c2 A9 i c9)
      have HUU:=ah ((hoz.keep (keepI_put hMz s2 A2 n2 c2 A9 i c9).1).base (b':=w.heap.size) (Nat.le_of_lt HG.out.1))
      have hom:OwMs wr wo.heap.size A9 i c9 (fromN LL):=⟨E9,row_base hE (by have:=HG.out;omega),hEl,by rw [List.take_of_length_le (by rw [HFL.out];exact nR)] at hEn;exact hEn⟩
      have HQQ:=ah ((hom.put hMz HG.out.1 s2 A2 n2 c2 A9 i c9).base (b':=w.heap.size) (Nat.le_of_lt HG.out.1))
      have HF:=ah (below_putM (HBW.out.trans (hB.mono HBW.out.size)) (Nat.le_refl w.heap.size) s2 A2 n2 c2 A9 i c9)
      unfold putM at HSS HUU HQQ HF
      clear hE hEl hEn hMg hMz hoz hip hB hom
      go_wp2
      generalize ((wr.setCell ⟨w.heap.size,0,none⟩ (.bool s2)).setCell ⟨w.heap.size,1,none⟩ (.slice A2 n2 c2)).setCell ⟨w.heap.size,2,none⟩ (.slice A9 i c9)=V9 at *
      exact bodyPost_ret (by simp [results,Tryz.results71,go_sem,HSS.out.c0,HSS.out.c1,HSS.out.c2]) rfl ⟨s2,A2,n2,c2,A9,i,c9,y,_,rfl,HUU.out,HQQ.out,ah ⟨HY.out,rfl⟩,HF.out⟩
     ·have hil:i < j:=by omega
      clear hin
      have hili:(i:Int) < (j:Int):=by omega
      obtain ⟨gg,A1,n1,c1,L,rfl,hbk,hx,ho1,hp⟩:=oql_at (HX.out wr (HBW.out.trans (hB.mono HBW.out.size))) hil
      have hn1:n1=q:=by rw [<- ho1.len];exact HQ.out L (gM hp.out)
      subst hn1
      obtain ⟨v,hv⟩:∃ v,v=u+n1:=⟨_,rfl⟩
      have HV:=ah hv
      have hvm:v<=n3:=by
       rw [hv,HU.out,HPL.out,<- Nat.succ_mul]
       exact Nat.mul_le_mul_right _ hil
      have hnc:=hip.le
      have hn3:n3<=576:=by rw [HPL.out];exact HTOT.out.2
      have HIS:=ah (show OwIp wr wo.heap.size (some (ad.add (u*2))) n1 n1 ((P.drop u).take n1) from (hip.drop (by omega)).take (by omega))
      have hsum:(u:Int)+(n1:Int)=(v:Int):=by omega
      have hw1:IntKind.i64.wrap ((u:Int)+(n1:Int))=(v:Int):=by rw [hsum];exact IntWalk.i64_in _ (by omega)
      have hw2:IntKind.i64.wrap (v:Int)=(v:Int):=IntWalk.i64_in _ (by omega)
      have hmx:max (v:Int) 0=(v:Int):=by omega
      have huv:u<=v:=by omega
      have hvu:v-u=n1:=by omega
      have huvi:(u:Int)<=(v:Int):=by omega
      have hvci:(v:Int)<=(c3:Int):=by omega
      have hne:¬(v=u):=by omega
      have hne2:¬(u=v):=by omega
      have HIL:=ah hil
      have HDD:=ah (Below.refl wr.heap.size wr).drew
      have HE:=ah (row_next hE HDD.out)
      have HEN:=ah (cJ hEl (hEn.next HDD.out))
      have HMM:=ah (cJ (hMg.next HDD.out) (hMz.next HDD.out))
      have HOO:=ah (cJ (hoz.next HDD.out) (cJ (hip.next HDD.out) (HIS.out.next HDD.out)))
      have HBD:=ah (hB.trans (HDD.out.mono hB.size))
      have HSZ:=ah (show W6.heap.size<=wr.heap.size/\W6.heap.size<=wr.drew.heap.size from ⟨hsz.out,nT hsz.out HDD.out.size⟩)
      have m2:=hMg.c2
      have m3:=(hMg.alloc (.cells #[.slice (some (ad.add (u*2))) n1 n1] 65)).c2
      clear hE hEl hEn hMg hMz hoz hip hB ho1 hsz hv
      go_upto_region 13 with fail
      go_region_law (refine step_append_sl rfl _ _ 26 rfl W6.heap.size 65 i1 (.slice none 0 0) 1 24 Tryz.underlying26 hjf hy0 hy1 hy2 rfl (by decide) _ _ _ rfl (HE.out.alloc _) (some ⟨wr.heap.size,0,none⟩) 1 1 [.slice (some (ad.add (u*2))) n1 n1] rfl rfl (fun e=>by cases e) (fun a e=>by cases e;exact pcell_new wr.drew _ _) (by simp [Value.oneCell']) (by unfold maxLen;omega) (by omega) (by have h2:=HSZ.out;simp;omega) ?_;intro A8 c8 W8 hown8 hgrow8;have hM8:=MC.grown (HMM.out.1.alloc (.cells #[.slice (some (ad.add (u*2))) n1 n1] 65)) (HE.out.alloc _) hgrow8;have m8:=hM8.c2;have f8:=hM8.fz 2)
      all_goals
       have hba:Below wr.drew.heap.size wr.drew (wr.drew.alloc (.cells #[.slice (some (ad.add (u*2))) n1 n1] 65)):=bA
       have hki:=keepI_grown (HE.out.alloc (.cells #[.slice (some (ad.add (u*2))) n1 n1] 65)) hgrow8
       have hkm:=keepI_mc hM8 2 (.slice A8 (i+1) c8)
       have HNM:=ah (hM8.num A8 (i+1) c8)
       have HMZ:=ah ((MC.grown (HMM.out.2.alloc (.cells #[.slice (some (ad.add (u*2))) n1 n1] 65)) (HE.out.alloc _) hgrow8).far (p:=⟨gm,2,none⟩) (by have:=HG.out;simp;omega) (.slice A8 (i+1) c8))
       have HOZ9:=ah (((HOO.out.1.next hba).keep hki.1).keep hkm.1)
       have HIP9:=ah (((HOO.out.2.1.next hba).keep hki).keep hkm)
       have HRN:=ah (show (fromN LL).take i ++ [(P.drop u).take n1]=(fromN LL).take (i+1) by
        have hif:i < (fromN LL).length:=by rw [HFL.out];exact HIL.out
        rw [List.take_add_one,gE hif,HP.out,HU.out,flat_row (fromN LL) i _ (fromN_len HQ.out) (gE hif)]
        rfl)
       have HEN9:=ah (show EntMs _ wo.heap.size (E9 ++ [(some (ad.add (u*2)),n1,n1)]) ((fromN LL).take (i+1)) from by
        rw [<- HRN.out]
        exact (((HEN.out.2.next hba).keep hki).keep hkm).snoc (((HOO.out.2.2.next hba).keep hki).keep hkm))
       have HE9:=ah (show (W8.setCell ⟨gm,2,none⟩ (.slice A8 (i+1) c8)).ownsRow W6.heap.size 65 1 (.slice A8 (i+1) c8) (i+1) ((E9 ++ [(some (ad.add (u*2)),n1,n1)]).map psl) by
        rw [List.map_append]
        exact row_far hown8 (p:=⟨gm,2,none⟩) HG.out.2.2 _)
       have HB9:=ah (((HBD.out.alloc HBD.out.size (.cells #[.slice (some (ad.add (u*2))) n1 n1] 65)).grown hgrow8 (by have:=HBD.out.size;simp at this ⊢;omega) (fun t e=>nT (by have:=HG.out;omega) (own_block HE.out t e))).setCell (p:=⟨gm,2,none⟩) (by have:=HG.out;show wo.heap.size<=gm;omega) (.slice A8 (i+1) c8))
       have HS9:=ah (show W6.heap.size<=(W8.setCell ⟨gm,2,none⟩ (.slice A8 (i+1) c8)).heap.size by
        have h1:=hgrow8.size
        have h2:=HSZ.out.2
        simp at h1 h2 ⊢
        omega)
       have HLN:=ah (show (E9 ++ [(some (ad.add (u*2)),n1,n1)]).length=i+1 by rw [List.length_append,HEN.out.1];rfl)
       have HU9:=ah (show v=(i+1)*n1 by rw [HV.out,HU.out,Nat.succ_mul])
       clear hown8 hgrow8 hba hki hkm hM8 m8 f8 m2 m3
       go_wp2
       go_roundw
       case rel=>exact ⟨i+1,v,A8,c8,_,by go_num,by go_num,by have:=HIL.out;omega,HU9,HE9.out,HLN.out,HEN9.out,HNM.out,HMZ.out,HOZ9.out,HIP9.out,HS9,HB9.out⟩
       case measure=>simp [intOf];have:=HIL.out;omega
   ·obtain ⟨gm,hgm⟩:∃ g,g=W5.heap.size:=⟨_,rfl⟩
    rw [<- hgm] at HM6 HG ⊢
    clear hgm
    go_loopw [9,31] (fun uv iv wr=>∃ (i u:Nat) (A9:Option Addr) (c9:Nat) (E9:List (Option Addr × Nat × Nat)),uv=.int .i64 u/\iv=.int .i64 (i:Int)/\i<=j/\Hid (u=i*q)/\wr.ownsRow W6.heap.size 65 1 (.slice A9 i c9) i (E9.map psl)/\E9.length=i/\EntMs wr wo.heap.size E9 ((fromN LL).take i)/\MC wr gm s2 A2 n2 c2 A9 i c9/\MC wr w.heap.size false none 0 0 none 0 0/\OwZ wr wo.heap.size s2 A2 n2 c2 y/\OwIp wr wo.heap.size A3 n3 c3 P/\Hid (W6.heap.size<=wr.heap.size)/\Below wo.heap.size wo wr) (fun _ iv _=>j-(intOf iv).toNat)
    case atStart=>exact ⟨0,0,none,0,[],rfl,rfl,nZ,ah (by simp),World.ownsRow_nil _ _ _ _,rfl,⟨rfl,fun j e z he _=>by simp at he⟩,HM6.out,HR6.out,HO6.out.1,HO6.out.2,ah nR,HB6.out⟩
    case round =>
     obtain ⟨i,u,A9,c9,E9,rfl,rfl,hij,HU,hE,hEl,hEn,hMg,hMz,hoz,hip,hsz,hB⟩:=hrel
     by_cases hin:i=j
     ·subst hin
      have a0:=hMg.c0
      have a1:=hMg.c1
      have a2:=hMg.c2
      have r0:=hMz.c0
      have r1:=hMz.c1
      have r2:=hMz.c2
      have f0:=hMz.fz 0
      have f1:=hMz.fz 1
      have f2:=hMz.fz 2
      have HSS:=ah (hMz.store s2 A2 n2 c2 A9 i c9)
      have HUU:=ah ((hoz.keep (keepI_put hMz s2 A2 n2 c2 A9 i c9).1).base (b':=w.heap.size) (Nat.le_of_lt HG.out.1))
      have hom:OwMs wr wo.heap.size A9 i c9 (fromN LL):=⟨E9,row_base hE (by have:=HG.out;omega),hEl,by rw [List.take_of_length_le (by rw [HFL.out];exact nR)] at hEn;exact hEn⟩
      have HQQ:=ah ((hom.put hMz HG.out.1 s2 A2 n2 c2 A9 i c9).base (b':=w.heap.size) (Nat.le_of_lt HG.out.1))
      have HF:=ah (below_putM (HBW.out.trans (hB.mono HBW.out.size)) (Nat.le_refl w.heap.size) s2 A2 n2 c2 A9 i c9)
      unfold putM at HSS HUU HQQ HF
      clear hE hEl hEn hMg hMz hoz hip hB hom
      go_wp2
      generalize ((wr.setCell ⟨w.heap.size,0,none⟩ (.bool s2)).setCell ⟨w.heap.size,1,none⟩ (.slice A2 n2 c2)).setCell ⟨w.heap.size,2,none⟩ (.slice A9 i c9)=V9 at *
      exact bodyPost_ret (by simp [results,Tryz.results71,go_sem,HSS.out.c0,HSS.out.c1,HSS.out.c2]) rfl ⟨s2,A2,n2,c2,A9,i,c9,y,_,rfl,HUU.out,HQQ.out,ah ⟨HY.out,rfl⟩,HF.out⟩
     ·have hil:i < j:=by omega
      clear hin
      have hili:(i:Int) < (j:Int):=by omega
      obtain ⟨gg,A1,n1,c1,L,rfl,hbk,hx,ho1,hp⟩:=oql_at (HX.out wr (HBW.out.trans (hB.mono HBW.out.size))) hil
      have hn1:n1=q:=by rw [<- ho1.len];exact HQ.out L (gM hp.out)
      subst hn1
      obtain rfl:n1=0:=by omega
      obtain rfl:u=0:=by rw [HU.out,Nat.mul_zero]
      obtain rfl:n3=0:=by rw [HPL.out,Nat.mul_zero]
      have hw2:IntKind.i64.wrap 0=0:=by decide
      have hnc:=hip.le
      have hvci:(0:Int)<=(c3:Int):=by omega
      rcases A3 with _ | ad
      ·obtain rfl:c3=0:=HN3.out rfl
       have HIS:=ah (show OwIp wr wo.heap.size none 0 0 ((P.drop 0).take 0) by rw [List.take_zero];exact OwIp.nil _ _ _ nZ)
       have HIL:=ah hil
       have HDD:=ah (Below.refl wr.heap.size wr).drew
       have HE:=ah (row_next hE HDD.out)
       have HEN:=ah (cJ hEl (hEn.next HDD.out))
       have HMM:=ah (cJ (hMg.next HDD.out) (hMz.next HDD.out))
       have HOO:=ah (cJ (hoz.next HDD.out) (cJ (hip.next HDD.out) (HIS.out.next HDD.out)))
       have HBD:=ah (hB.trans (HDD.out.mono hB.size))
       have HSZ:=ah (show W6.heap.size<=wr.heap.size/\W6.heap.size<=wr.drew.heap.size from ⟨hsz.out,nT hsz.out HDD.out.size⟩)
       have m2:=hMg.c2
       have m3:=(hMg.alloc (.cells #[.slice none 0 0] 65)).c2
       clear hE hEl hEn hMg hMz hoz hip hB ho1 hsz
       go_upto_region 13 with fail
       go_region_law (refine step_append_sl rfl _ _ 26 rfl W6.heap.size 65 i1 (.slice none 0 0) 1 24 Tryz.underlying26 hjf hy0 hy1 hy2 rfl (by decide) _ _ _ rfl (HE.out.alloc _) (some ⟨wr.heap.size,0,none⟩) 1 1 [.slice none 0 0] rfl rfl (fun e=>by cases e) (fun a e=>by cases e;exact pcell_new wr.drew _ _) (by simp [Value.oneCell']) (by unfold maxLen;omega) (by omega) (by have h2:=HSZ.out;simp;omega) ?_;intro A8 c8 W8 hown8 hgrow8;have hM8:=MC.grown (HMM.out.1.alloc (.cells #[.slice none 0 0] 65)) (HE.out.alloc _) hgrow8;have m8:=hM8.c2;have f8:=hM8.fz 2)
       all_goals
        have hba:Below wr.drew.heap.size wr.drew (wr.drew.alloc (.cells #[.slice none 0 0] 65)):=bA
        have hki:=keepI_grown (HE.out.alloc (.cells #[.slice none 0 0] 65)) hgrow8
        have hkm:=keepI_mc hM8 2 (.slice A8 (i+1) c8)
        have HNM:=ah (hM8.num A8 (i+1) c8)
        have HMZ:=ah ((MC.grown (HMM.out.2.alloc (.cells #[.slice none 0 0] 65)) (HE.out.alloc _) hgrow8).far (p:=⟨gm,2,none⟩) (by have:=HG.out;simp;omega) (.slice A8 (i+1) c8))
        have HOZ9:=ah (((HOO.out.1.next hba).keep hki.1).keep hkm.1)
        have HIP9:=ah (((HOO.out.2.1.next hba).keep hki).keep hkm)
        have HRN:=ah (show (fromN LL).take i ++ [(P.drop 0).take 0]=(fromN LL).take (i+1) by
         have hif:i < (fromN LL).length:=by rw [HFL.out];exact HIL.out
         have h9:=flat_row (fromN LL) i _ (fromN_len HQ.out) (gE hif)
         rw [Nat.mul_zero] at h9
         rw [List.take_add_one,gE hif,HP.out,h9]
         rfl)
        have HEN9:=ah (show EntMs _ wo.heap.size (E9 ++ [(none,0,0)]) ((fromN LL).take (i+1)) from by
         rw [<- HRN.out]
         exact (((HEN.out.2.next hba).keep hki).keep hkm).snoc (((HOO.out.2.2.next hba).keep hki).keep hkm))
        have HE9:=ah (show (W8.setCell ⟨gm,2,none⟩ (.slice A8 (i+1) c8)).ownsRow W6.heap.size 65 1 (.slice A8 (i+1) c8) (i+1) ((E9 ++ [(none,0,0)]).map psl) by
         rw [List.map_append]
         exact row_far hown8 (p:=⟨gm,2,none⟩) HG.out.2.2 _)
        have HB9:=ah (((HBD.out.alloc HBD.out.size (.cells #[.slice none 0 0] 65)).grown hgrow8 (by have:=HBD.out.size;simp at this ⊢;omega) (fun t e=>nT (by have:=HG.out;omega) (own_block HE.out t e))).setCell (p:=⟨gm,2,none⟩) (by have:=HG.out;show wo.heap.size<=gm;omega) (.slice A8 (i+1) c8))
        have HS9:=ah (show W6.heap.size<=(W8.setCell ⟨gm,2,none⟩ (.slice A8 (i+1) c8)).heap.size by
         have h1:=hgrow8.size
         have h2:=HSZ.out.2
         simp at h1 h2 ⊢
         omega)
        have HLN:=ah (show (E9 ++ [(none,0,0)]).length=i+1 by rw [List.length_append,HEN.out.1];rfl)
        have HU9:=ah (show 0=(i+1)*0 from (Nat.mul_zero _).symm)
        clear hown8 hgrow8 hba hki hkm hM8 m8 f8 m2 m3
        go_wp2
        go_roundw
        case rel=>exact ⟨i+1,0,A8,c8,_,by go_num,by go_num,by have:=HIL.out;omega,HU9,HE9.out,HLN.out,HEN9.out,HNM.out,HMZ.out,HOZ9.out,HIP9.out,HS9,HB9.out⟩
        case measure=>simp [intOf];have:=HIL.out;omega
      ·have HIS:=ah (show OwIp wr wo.heap.size (some ad) 0 0 ((P.drop 0).take 0) by rw [List.take_zero];exact OwIp.nil _ _ _ nZ)
       have HIL:=ah hil
       have HDD:=ah (Below.refl wr.heap.size wr).drew
       have HE:=ah (row_next hE HDD.out)
       have HEN:=ah (cJ hEl (hEn.next HDD.out))
       have HMM:=ah (cJ (hMg.next HDD.out) (hMz.next HDD.out))
       have HOO:=ah (cJ (hoz.next HDD.out) (cJ (hip.next HDD.out) (HIS.out.next HDD.out)))
       have HBD:=ah (hB.trans (HDD.out.mono hB.size))
       have HSZ:=ah (show W6.heap.size<=wr.heap.size/\W6.heap.size<=wr.drew.heap.size from ⟨hsz.out,nT hsz.out HDD.out.size⟩)
       have m2:=hMg.c2
       have m3:=(hMg.alloc (.cells #[.slice (some ad) 0 0] 65)).c2
       clear hE hEl hEn hMg hMz hoz hip hB ho1 hsz
       go_upto_region 13 with fail
       go_region_law (refine step_append_sl rfl _ _ 26 rfl W6.heap.size 65 i1 (.slice none 0 0) 1 24 Tryz.underlying26 hjf hy0 hy1 hy2 rfl (by decide) _ _ _ rfl (HE.out.alloc _) (some ⟨wr.heap.size,0,none⟩) 1 1 [.slice (some ad) 0 0] rfl rfl (fun e=>by cases e) (fun a e=>by cases e;exact pcell_new wr.drew _ _) (by simp [Value.oneCell']) (by unfold maxLen;omega) (by omega) (by have h2:=HSZ.out;simp;omega) ?_;intro A8 c8 W8 hown8 hgrow8;have hM8:=MC.grown (HMM.out.1.alloc (.cells #[.slice (some ad) 0 0] 65)) (HE.out.alloc _) hgrow8;have m8:=hM8.c2;have f8:=hM8.fz 2)
       all_goals
        have hba:Below wr.drew.heap.size wr.drew (wr.drew.alloc (.cells #[.slice (some ad) 0 0] 65)):=bA
        have hki:=keepI_grown (HE.out.alloc (.cells #[.slice (some ad) 0 0] 65)) hgrow8
        have hkm:=keepI_mc hM8 2 (.slice A8 (i+1) c8)
        have HNM:=ah (hM8.num A8 (i+1) c8)
        have HMZ:=ah ((MC.grown (HMM.out.2.alloc (.cells #[.slice (some ad) 0 0] 65)) (HE.out.alloc _) hgrow8).far (p:=⟨gm,2,none⟩) (by have:=HG.out;simp;omega) (.slice A8 (i+1) c8))
        have HOZ9:=ah (((HOO.out.1.next hba).keep hki.1).keep hkm.1)
        have HIP9:=ah (((HOO.out.2.1.next hba).keep hki).keep hkm)
        have HRN:=ah (show (fromN LL).take i ++ [(P.drop 0).take 0]=(fromN LL).take (i+1) by
         have hif:i < (fromN LL).length:=by rw [HFL.out];exact HIL.out
         have h9:=flat_row (fromN LL) i _ (fromN_len HQ.out) (gE hif)
         rw [Nat.mul_zero] at h9
         rw [List.take_add_one,gE hif,HP.out,h9]
         rfl)
        have HEN9:=ah (show EntMs _ wo.heap.size (E9 ++ [(some ad,0,0)]) ((fromN LL).take (i+1)) from by
         rw [<- HRN.out]
         exact (((HEN.out.2.next hba).keep hki).keep hkm).snoc (((HOO.out.2.2.next hba).keep hki).keep hkm))
        have HE9:=ah (show (W8.setCell ⟨gm,2,none⟩ (.slice A8 (i+1) c8)).ownsRow W6.heap.size 65 1 (.slice A8 (i+1) c8) (i+1) ((E9 ++ [(some ad,0,0)]).map psl) by
         rw [List.map_append]
         exact row_far hown8 (p:=⟨gm,2,none⟩) HG.out.2.2 _)
        have HB9:=ah (((HBD.out.alloc HBD.out.size (.cells #[.slice (some ad) 0 0] 65)).grown hgrow8 (by have:=HBD.out.size;simp at this ⊢;omega) (fun t e=>nT (by have:=HG.out;omega) (own_block HE.out t e))).setCell (p:=⟨gm,2,none⟩) (by have:=HG.out;show wo.heap.size<=gm;omega) (.slice A8 (i+1) c8))
        have HS9:=ah (show W6.heap.size<=(W8.setCell ⟨gm,2,none⟩ (.slice A8 (i+1) c8)).heap.size by
         have h1:=hgrow8.size
         have h2:=HSZ.out.2
         simp at h1 h2 ⊢
         omega)
        have HLN:=ah (show (E9 ++ [(some ad,0,0)]).length=i+1 by rw [List.length_append,HEN.out.1];rfl)
        have HU9:=ah (show 0=(i+1)*0 from (Nat.mul_zero _).symm)
        clear hown8 hgrow8 hba hki hkm hM8 m8 f8 m2 m3
        go_wp2
        go_roundw
        case rel=>exact ⟨i+1,0,A8,c8,_,by go_num,by go_num,by have:=HIL.out;omega,HU9,HE9.out,HLN.out,HEN9.out,HNM.out,HMZ.out,HOZ9.out,HIP9.out,HS9,HB9.out⟩
        case measure=>simp [intOf];have:=HIL.out;omega
  ·have hjl:j < r:=by omega
   have hjli:(j:Int) < (r:Int):=by omega
   clear hjr
   obtain ⟨gg,A1,n1,c1,L,rfl,hbk,hx,ho1,hp⟩:=oql_at (HX.out wr (HB1.out.trans (hB.mono HB1.out.size))) hjl
   have hn1:n1=q:=by rw [<- ho1.len];exact HQ.out L (gM hp.out)
   subst hn1
   obtain ⟨E1,hE1,hEn1,hEl1,hnil,hcell⟩:=ho1.news
   have hmm:m+n1<=576:=by
    rw [HML.out,<- Nat.succ_mul]
    exact nT (Nat.mul_le_mul_right _ hjl) HTOT.out.2
   have HE:=ah hE
   have HEN:=ah (cJ hEl hEn)
   have HE1:=ah (cJ hE1 (cJ hEn1 (cJ hEl1 (cJ hnil hcell))))
   have HBW:=ah hB
   have HTK:=ah (show M ++ L=(LL.take (j+1)).flatten by
    rw [List.take_add_one,hp.out,Option.toList_some,List.flatten_append,hM.out]
    simp)
   clear hE hEl hEn ho1 hE1 hEn1 hEl1 hnil hcell hM hB
   go_wp2_with (at_builtin;refine wpList_append_sl rfl _ _ 72 rfl W1.heap.size 47 i0 (.agg #[.bool false,.slice none 0 0,.bool false,.slice none 0 0]) 4 64 Tryz.underlying72 hi hz0 hz1 hz2 rfl (by decide) _ _ _ rfl HE.out A1 n1 c1 (qcs E1) rfl HE1.out.2.2.1 HE1.out.2.2.2.1 HE1.out.2.2.2.2 (qcs_one' E1) (by unfold maxLen;omega) (by omega) HBW.out.size ?_;intro A5 c5 w1 hown1 hgrow)
   have HB5:=ah (HBW.out.grown hgrow HBW.out.size (own_block HE.out))
   have hkT:KeepT wr w1:=KeepT.grown HE.out (by decide) hgrow
   have HEN5:=ah ((HEN.out.2.keep hkT).append (HE1.out.2.1.keep hkT))
   have HOW:=ah (show w1.ownsRow W1.heap.size 47 4 (.slice A5 (m+n1) c5) (m+n1) (qcs (E ++ E1)) by rw [qcs_append];exact hown1)
   clear hown1 hgrow hkT
   go_wp2
   go_roundw
   case rel=>exact ⟨j+1,m+n1,c5,A5,E ++ E1,M ++ L,rfl,by go_num,by omega,HOW.out,by rw [List.length_append,HEN.out.1,HE1.out.1],HEN5.out,HTK,HB5.out⟩
   case measure=>simp [intOf];omega
def rcol (PP:List (List (List RawQ))):Nat:=(PP.headD []).length
theorem rcol_nn (PP:List (List (List RawQ))):colq (nn PP)=rcol PP:=by
 cases PP with
 | nil=>rfl
 | cons a t=>show (a.map nqp).length=a.length;exact List.length_map ..
theorem rcol_zero {PP:List (List (List RawQ))}{RR:List (List RawQ)}(hp:PP[0]?=some RR):RR.length=rcol PP:=by
 cases PP with
 | nil=>cases hp
 | cons a t=>simp at hp;subst hp;rfl
theorem add_z (ad:Addr):ad.add 0=ad:=by simp [Addr.add]
theorem colsR_any {N K J:Nat}{A:Option Addr}{n c:Nat}{PP:List (List (List RawQ))}{w:World}(h:RdRpp w w.heap.size N K J A n c PP)(hn:n<=1048576) :
  Calls Tryz.prog 30 #[.slice A n c] w (RetK (rcol PP:Int) w):=by
 have HB:=ah (Below.refl w.heap.size w)
 have HL:=ah h.len
 go_enter Tryz.func30,Tryz.ntmps30
 by_cases h0:n=0
 ·have HC:=ah (show rcol PP=0 from by
   have e:=HL.out
   unfold rcol
   cases PP with
   | nil=>rfl
   | cons a t=>simp at e;omega)
  subst h0
  go_wp2
  go_ret
  exact ⟨0,rfl,ah (by rw [HC.out];rfl),HB.out⟩
 ·have h0n:0 < n:=by omega
  have hn0:(0:Int) < (n:Int):=by omega
  have hnz:((n:Int) == 0)=false:=by simp;omega
  have hnz2:¬(n:Int)=0:=by omega
  clear h0
  obtain ⟨ad,A2,n2,c2,R0,rfl,_,hy,hr0,hn2,hp0⟩:=rpp_at h h0n
  have HC:=ah (show rcol PP=n2 from by rw [<- rcol_zero hp0.out];exact hr0.len)
  have hy':w.cell? ad=some (.slice A2 n2 c2):=by rw [<- add_z ad];exact hy
  clear hr0 h hp0
  go_wp2
  go_ret
  exact ⟨_,rfl,ah (by rw [HC.out]),HB.out⟩
def RetFv (PP:List (List (List RawQ)))(w:World)(e:Ending)(w':World):Prop:=∃ kk:Int,e=.returned (.int .i64 kk)/\Hid (FitV PP kk)/\Below w.heap.size w w'
theorem fpv_ok {L:List (Int × Int)}(hd:okD L):fpv L=if 101 < (nq L).length ∨ 4096 < ht (nq L) then 4 else 0:=by
 unfold fpv
 rw [if_neg (fun e=>e hd)]
theorem fit18_any {N K J:Nat}{A:Option Addr}{n c:Nat}{PP:List (List (List RawQ))}{w:World}(h:RdRpp w w.heap.size N K J A n c PP)(hn:n<=1048576)(hJ:J<=1048576)(hK:K<=1048576)(hN:N<=1000000000)(h1N:1<=N) :
  Calls Tryz.prog 19 #[.slice A n c] w (RetFv PP w):=by
 have HL:=ah h.len
 have HX:=ah (show ∀ W,Below w.heap.size w W->RdRpp W W.heap.size N K J A n c PP from fun W hb=>h.next hb)
 clear h
 go_enter Tryz.func19,Tryz.ntmps19
 go_wp2_with fail
 go_loopw [15] (fun iv wr=>∃ (j:Nat),iv=.int .i64 (j:Int)/\j<=n/\Hid (okPP (PP.take j))/\Below w.heap.size w wr) (fun iv _=>n-(intOf iv).toNat)
 case atStart=>exact ⟨0,rfl,nZ,ah (fun R hR=>by simp at hR),bR⟩
 case round =>
  obtain ⟨j,rfl,hj,hok,hB⟩:=hrel
  by_cases hjr:j=n
  ·have HOK:=ah (show okPP PP by rw [<- List.take_of_length_le (l:=PP) (i:=j) (by rw [HL.out,hjr];exact nR)];exact hok.out)
   have HBF:=ah hB
   subst hjr
   clear hok hB
   go_wp2_with fail
   go_loopw [32] (fun iv wr=>∃ (i:Nat),iv=.int .i64 (i:Int)/\i<=j/\Hid (∀ L ∈ (nn PP).take i,L.length=colq (nn PP))/\Below w.heap.size w wr) (fun iv _=>j-(intOf iv).toNat)
   case atStart=>exact ⟨0,rfl,nZ,ah (fun L hL=>by simp at hL),HBF.out⟩
   case round =>
    obtain ⟨i,rfl,hi,hr,hB⟩:=hrel
    by_cases hin:i=j
    ·have HR:=ah (show Rect (nn PP) by
      have h1:=hr.out
      rw [List.take_of_length_le (by rw [nn,List.length_map,HL.out,hin];exact nR)] at h1
      exact h1)
     have HLN:=ah (show (nn PP).length=j by rw [nn,List.length_map,HL.out])
     have HB3:=ah hB
     subst hin
     clear hr hB
     by_cases h24:24 < i
     ·have h24i:(24:Int) < (i:Int):=by omega
      have HV:=ah (show FitV PP 4 from .inr (.inr (.inl ⟨rfl,HOK.out,HR.out,.inl (by rw [HLN.out];exact h24)⟩)))
      clear h24
      go_wp2
      go_ret
      exact ⟨4,rfl,HV,HB3.out⟩
     ·have h24i:¬(24:Int) < (i:Int):=by omega
      have HN24:=ah h24
      clear h24
      go_wp2_with fail
      refine (colsR_any (HX.out _ HB3.out) hn).mono ?_
      rintro _ W5 ⟨y,rfl,hy,hb5⟩
      have HY:=hy
      have HB5:=tM HB3 hb5
      clear hb5 hy
      by_cases k24:24 < rcol PP
      ·have k24i:(24:Int) < y:=by rw [HY.out];omega
       have HV:=ah (show FitV PP 4 from .inr (.inr (.inl ⟨rfl,HOK.out,HR.out,.inr (.inl (by rw [rcol_nn];exact k24))⟩)))
       clear k24
       go_wp2
       go_ret
       exact ⟨4,rfl,HV,HB5.out⟩
      ·have k24i:¬(24:Int) < y:=by rw [HY.out];omega
       have HK24:=ah k24
       clear k24
       go_wp2_with fail
       go_loopw [54] (fun iv wr=>∃ (q:Nat),iv=.int .i64 (q:Int)/\q<=i/\Hid (¬bigv ((nn PP).take q))/\Below w.heap.size w wr) (fun iv _=>i-(intOf iv).toNat)
       case atStart=>exact ⟨0,rfl,nZ,ah (by rintro ⟨L,hL,_⟩;simp at hL),HB5.out⟩
       case round =>
        obtain ⟨q,rfl,hq,hbg,hB⟩:=hrel
        by_cases hqi:q=i
        ·have HV:=ah (show FitV PP 0 from .inr (.inr (.inr ⟨rfl,HOK.out,HR.out,fun e=>by
          rcases e with e | e | e
          ·rw [HLN.out] at e;exact HN24.out e
          ·rw [rcol_nn] at e;exact HK24.out e
          ·have h1:=hbg.out
           rw [List.take_of_length_le (by rw [HLN.out,hqi];exact nR)] at h1
           exact h1 e⟩)))
         have HBZ:=ah hB
         subst hqi
         clear hbg hB
         go_wp2
         go_ret
         exact ⟨0,rfl,HV,HBZ.out⟩
        ·have hql:q < i:=by omega
         have hqli:(q:Int) < (i:Int):=by omega
         obtain ⟨wo,rfl⟩:∃ V,V=wr:=⟨_,rfl⟩
         clear hqi
         obtain ⟨ad,A1,n1,c1,RR,rfl,hbk,hx,hr1,hn1,hp⟩:=rpp_at (HX.out wo hB) hql
         have HB6:=ah hB
         have HRR:=ah (show ∀ W,Below wo.heap.size wo W->RdRp W W.heap.size N K A1 n1 c1 RR from fun W hb=>hr1.next hb)
         have HLR:=ah hr1.len
         have HPN:=ah (show (nn PP)[q]?=some (RR.map nqp) by rw [nn,List.getElem?_map,hp.out];rfl)
         have hn1':n1<=1048576:=by omega
         clear hB hr1
         go_wp2_with fail
         clear hx
         go_loopw [60] (fun iv wr=>∃ (p:Nat),iv=.int .i64 (p:Int)/\p<=n1/\Hid (∀ L ∈ (RR.map nqp).take p,¬(101 < L.length ∨ 4096 < ht L))/\Below wo.heap.size wo wr) (fun iv _=>n1-(intOf iv).toNat)
         case atStart=>exact ⟨0,rfl,nZ,ah (fun L hL=>by simp at hL),bR⟩
         case round =>
          obtain ⟨p,rfl,hpl,hb7,hB7⟩:=hrel
          by_cases hpn:p=n1
          ·have HBG:=ah (bigv_more HPN.out hbg.out (by
            have h1:=hb7.out
            rw [List.take_of_length_le (by rw [List.length_map,HLR.out,hpn];exact nR)] at h1
            exact h1))
           have HB9:=tM HB6 hB7
           subst hpn
           clear hb7 hB7 hbg
           go_wp2
           go_roundw
           case rel=>exact ⟨q+1,by go_num,by omega,HBG,HB9.out⟩
           case measure=>simp [intOf];omega
          ·have hpl2:p < n1:=by omega
           have hpli:(p:Int) < (n1:Int):=by omega
           clear hpn
           obtain ⟨ad2,A6,n6,c6,R,rfl,hbk6,hx6,hr6,hn6,hs6,hp6⟩:=rp_at (HRR.out wr hB7) hpl2
           have HB7:=ah hB7
           have HR6:=ah (hr6.rd hs6)
           have HOD:=ah (HOK.out RR (gM hp.out) R (gM hp6.out))
           have HPM:=ah (show (RR.map nqp)[p]?=some (nqp R) by rw [List.getElem?_map,hp6.out];rfl)
           clear hr6 hs6 hB7
           go_wp2_with fail
           clear hx6
           refine (fitPoly_any HR6.out (by omega) (by omega) h1N).mono ?_
           rintro _ W9 ⟨v,rfl,hv,hb9⟩
           have HB9:=tM HB7 hb9
           have HB10:=tM HB6 HB9.out
           have HV:=ah (hv.out.trans (fpv_ok HOD.out))
           clear hv hb9
           by_cases hbig:101 < (nqp R).length ∨ 4096 < ht (nqp R)
           ·have hv4:v=4:=by rw [HV.out];exact if_pos hbig
            have HF:=ah (show FitV PP 4 from .inr (.inr (.inl ⟨rfl,HOK.out,HR.out,.inr (.inr ⟨_,gM HPN.out,_,gM HPM.out,hbig⟩)⟩)))
            subst hv4
            clear hbig hb7 hbg
            go_wp2
            go_ret
            exact ⟨4,rfl,HF,HB10.out⟩
           ·have hv0:v=0:=by rw [HV.out];exact if_neg hbig
            have HQ:=ah (show ∀ L ∈ (RR.map nqp).take (p+1),¬(101 < L.length ∨ 4096 < ht L) from fun L' h'=>by
             rw [List.take_add_one,HPM.out] at h'
             rcases List.mem_append.1 h' with h2 | h2
             ·exact hb7.out L' h2
             ·simp only [Option.toList_some,List.mem_singleton] at h2
              subst h2
              exact hbig)
            subst hv0
            clear hbig hb7
            go_wp2
            go_roundw
            case rel=>exact ⟨p+1,by go_num,by omega,HQ,HB9.out⟩
            case measure=>simp [intOf];omega
    ·have hil:i < j:=by omega
     have hili:(i:Int) < (j:Int):=by omega
     have h0n:0 < j:=by omega
     have hn0:(0:Int) < (j:Int):=by omega
     clear hin
     have h':=HX.out wr hB
     obtain ⟨ad,A1,n1,c1,R,rfl,hbk,hx,hr1,hn1,hp⟩:=rpp_at h' hil
     obtain ⟨ad',A2,n2,c2,R0,e,_,hy,hr0,hn2,hp0⟩:=rpp_at h' h0n
     injection e with e
     subst e
     have HC:=ah (show rcol PP=n2 from by rw [<- rcol_zero hp0.out];exact hr0.len)
     have HR:=ah (show R.length=n1 from hr1.len)
     have HPN:=ah (show (nn PP)[i]?=some (R.map nqp) by rw [nn,List.getElem?_map,hp.out];rfl)
     have hy':wr.cell? ad=some (.slice A2 n2 c2):=by rw [<- add_z ad];exact hy
     have HB:=ah hB
     clear hr1 hr0 hB h'
     by_cases hne:n1=n2
     ·have hb3:(n1:Int)=(n2:Int):=by omega
      have HA:=ah (rect_more HPN.out hr.out (by rw [List.length_map,HR.out,rcol_nn,HC.out,hne]))
      clear hne hr
      go_wp2
      go_roundw
      case rel=>exact ⟨i+1,by go_num,by omega,HA,HB.out⟩
      case measure=>simp [intOf];omega
     ·have hb3:¬(n1:Int)=(n2:Int):=by omega
      have HV:=ah (show FitV PP 2 from .inr (.inl ⟨rfl,HOK.out,fun e=>hne (by
       have h1:=e _ (gM HPN.out)
       rw [List.length_map,HR.out,rcol_nn,HC.out] at h1
       exact h1)⟩))
      clear hne hr
      go_wp2
      go_ret
      exact ⟨2,rfl,HV,HB.out⟩
  ·have hjl:j < n:=by omega
   have hjli:(j:Int) < (n:Int):=by omega
   obtain ⟨wo,rfl⟩:∃ V,V=wr:=⟨_,rfl⟩
   clear hjr
   obtain ⟨ad,A1,n1,c1,RR,rfl,hbk,hx,hr1,hn1,hp⟩:=rpp_at (HX.out wo hB) hjl
   have HB3:=ah hB
   have HRR:=ah (show ∀ W,Below wo.heap.size wo W->RdRp W W.heap.size N K A1 n1 c1 RR from fun W hb=>hr1.next hb)
   have HLR:=ah hr1.len
   have hn1':n1<=1048576:=by omega
   clear hB hr1
   go_wp2_with fail
   clear hx
   go_loopw [21] (fun iv wr=>∃ (i:Nat),iv=.int .i64 (i:Int)/\i<=n1/\Hid (∀ R ∈ RR.take i,okD (R.map toQ))/\Below wo.heap.size wo wr) (fun iv _=>n1-(intOf iv).toNat)
   case atStart=>exact ⟨0,rfl,nZ,ah (fun R hR=>by simp at hR),bR⟩
   case round =>
    obtain ⟨i,rfl,hi5,hk5,hB5⟩:=hrel
    by_cases hin:i=n1
    ·have HK5:=ah (okPP_more hp.out hok.out (by rw [<- List.take_of_length_le (l:=RR) (i:=i) (by rw [HLR.out,hin];exact nR)];exact hk5.out))
     have HB9:=tM HB3 hB5
     subst hin
     clear hB5 hk5 hok
     go_wp2
     go_roundw
     case rel=>exact ⟨j+1,by go_num,by omega,HK5,HB9.out⟩
     case measure=>simp [intOf];omega
    ·have hil:i < n1:=by omega
     have hili:(i:Int) < (n1:Int):=by omega
     clear hin
     obtain ⟨ad2,A6,n6,c6,R,rfl,hbk6,hx6,hr6,hn6,hs6,hp6⟩:=rp_at (HRR.out wr hB5) hil
     have HB5:=ah hB5
     have HR6:=ah (hr6.rd hs6)
     clear hB5 hr6 hs6
     go_wp2_with fail
     clear hx6
     refine (rPMay_any HR6.out (by omega) (by omega)).mono ?_
     rintro _ W7 ⟨v,rfl,hv,hb7⟩
     have HB7:=tM HB5 hb7
     have HB9:=tM HB3 HB7.out
     have HV:=hv
     clear hv hb7
     cases v
     case true =>
      have HK7:=ah (okD_more hp6.out hk5.out (HV.out.1 rfl))
      clear HV hk5
      go_wp2
      go_roundw
      case rel=>exact ⟨i+1,by go_num,by omega,HK7,HB7.out⟩
      case measure=>simp [intOf];omega
     case false =>
      have HF:=ah (show FitV PP 6 from .inl ⟨rfl,fun e=>by
       have:=HV.out.2 (e RR (gM hp.out) R (gM hp6.out))
       cases this⟩)
      clear HV hk5 hok
      go_wp2
      go_ret
      exact ⟨6,rfl,HF,HB9.out⟩
theorem rScalar_any {N N' K J:Nat}{A A' A'':Option Addr}{n c n' c' n'' c'':Nat}{s s':Bool}{z d:Int}{PA:List (List (List RawQ))}{w:World}(h:RdRpp w w.heap.size N K J A n c PA)(hz:RdZ w w.heap.size s A' n' c' z)(hd:RdZ w w.heap.size s' A'' n'' c'' d)
  (hV:FitV PA 0) (h0:d ≠ 0) (hn':n'<=N') (hn'':n''<=N') (hN':N'<=1048576) (hsz:∀ RR ∈ PA,∀ R ∈ RR,2+(R.length+1)*(N'+(rsz R+1)+1)<=200000000000) :
  Calls Tryz.prog 21 #[.slice A n c,.agg #[.bool s,.slice A' n' c',.bool s',.slice A'' n'' c'']] w (RetMt (denL (scT (nn PA) (Rat.divInt z d)).flatten) (fromN (scT (nn PA) (Rat.divInt z d))) w):=by
 obtain ⟨i0,hi,hz0,hz1,hz2⟩:=info_parts infoQ
 obtain ⟨i1,hjf,hy0,hy1,hy2⟩:=info_parts infoQr
 obtain ⟨x,hx⟩:∃ x,x=Rat.divInt z d:=⟨_,rfl⟩
 rw [<- hx]
 have HXV:=ah hx
 have HXQ:=ah (show Qs 1048576 x by rw [hx];exact Qs.divInt h0 (nT hz.len (nT hn' hN')) (nT hd.len (nT hn'' hN')))
 have HL:=ah (show PA.length=n/\(nn PA).length=n from ⟨h.len,by rw [nn,List.length_map];exact h.len⟩)
 have HV:=ah hV
 have HSZ:=ah (show (nn PA).length<=24/\colq (nn PA)<=24 by
  have h1:=hV.zero.2.2
  unfold Bigg at h1
  omega)
 have hn24:n<=24:=by rw [<- HL.out.2];exact HSZ.out.1
 have HH:=ah (cJ h0 (cJ hn' (cJ hn'' hsz)))
 obtain ⟨W1,HW1⟩:∃ W,W=(w.alloc (.cells #[.bool s,.slice A' n' c',.bool s',.slice A'' n'' c''] 47)).alloc (.cells #[.bool false,.slice none 0 0,.slice none 0 0] 28):=⟨_,rfl⟩
 have hb1:Below w.heap.size w W1:=by rw [HW1];exact (bA).alloc (by simp) _
 have hX:QC W1 w.heap.size s A' n' c' s' A'' n'' c'':=by rw [HW1];exact (QC.new w s A' n' c' s' A'' n'' c'').next (bA)
 have hM:MC W1 (w.heap.size+1) false none 0 0 none 0 0:=by
  rw [HW1]
  have:=MC.new (w.alloc (.cells #[.bool s,.slice A' n' c',.bool s',.slice A'' n'' c''] 47)) false none 0 0 none 0 0
  simpa using this
 have HX1:=ah (show ∀ W,Below W1.heap.size W1 W->QC W w.heap.size s A' n' c' s' A'' n'' c''/\MC W (w.heap.size+1) false none 0 0 none 0 0 from fun W hb=>⟨hX.next hb,hM.next hb⟩)
 have HB1:=ah hb1
 have HA:=ah (show ∀ W,Below w.heap.size w W->RdRpp W W.heap.size N K J A n c PA/\RdZ W W.heap.size s A' n' c' z/\RdZ W W.heap.size s' A'' n'' c'' d from fun W hb=>⟨h.next hb,hz.next hb,hd.next hb⟩)
 have HW1:=ah HW1
 clear h hz hd hb1 hX hM hV h0 hn' hn'' hN' hsz hx
 go_enter Tryz.func21,Tryz.ntmps21
 go_wp2_with fail
 rw [<- HW1.out]
 clear HW1
 clear HW1
 go_loopw [5,13] (fun ov iv wr=>∃ (j c3:Nat) (A3:Option Addr),ov=.slice A3 j c3/\iv=.int .i64 (j:Int)/\j<=n/\OwQss wr W1.heap.size A3 j c3 ((scT (nn PA) x).take j)/\Below W1.heap.size W1 wr) (fun _ iv _=>n-(intOf iv).toNat)
 case atStart=>exact ⟨0,0,none,rfl,rfl,nZ,OwQss.nil _ _,bR⟩
 case round =>
  obtain ⟨j,c3,A3,rfl,rfl,hj,ho,hB⟩:=hrel
  by_cases hjn:j=n
  ·have HQS:=ah (show OwQss wr W1.heap.size A3 j c3 (scT (nn PA) x) by
    rw [List.take_of_length_le (by unfold scT;rw [List.length_map,HL.out.2,hjn];exact nR)] at ho
    exact ho)
   have HBW:=tM HB1 hB
   have HMM:=ah (HX1.out wr hB).2
   have HSW:=ah hB.size
   subst hjn
   clear ho hB
   go_wp2_with fail
   refine (rFromB_any (N:=110000000) (q:=colq (nn PA)) HQS.out HSW.out (scT_len x HV.out.zero.2.1) (scT_qs (fit_sm HV.out) HXQ.out) (by decide) (by decide) hn24 HSZ.out.2).mono ?_
   rintro _ W8 ⟨s8,A8,n8,c8,G8,r8,k8,y8,M8,rfl,ho8,hm8,hv8,hb8⟩
   have HB8:=tM HBW hb8
   have hMz:=HMM.out.next hb8
   have r0:=hMz.c0
   have r1:=hMz.c1
   have r2:=hMz.c2
   have f0:=hMz.fz 0
   have f1:=hMz.fz 1
   have f2:=hMz.fz 2
   have HSS:=ah (hMz.store s8 A8 n8 c8 G8 r8 k8)
   have HU:=ah ((ho8.base (b':=w.heap.size) HBW.out.size).keep (keepI_put hMz s8 A8 n8 c8 G8 r8 k8).1)
   have HWL:=ah (show w.heap.size+1 < wr.heap.size from HMM.out.lt)
   have HQQ:=ah ((hm8.put hMz HWL.out s8 A8 n8 c8 G8 r8 k8).base (b':=w.heap.size) HBW.out.size)
   have HF:=ah (below_putM HB8.out (show w.heap.size<=w.heap.size+1 by omega) s8 A8 n8 c8 G8 r8 k8)
   have HV8:=hv8
   unfold putM at HSS HU HQQ HF
   clear hMz ho8 hm8 hv8 hb8
   go_wp2_with fail
   generalize ((W8.setCell ⟨w.heap.size+1,0,none⟩ (.bool s8)).setCell ⟨w.heap.size+1,1,none⟩ (.slice A8 n8 c8)).setCell ⟨w.heap.size+1,2,none⟩ (.slice G8 r8 k8)=W9 at *
   have z0:=HSS.out.c0
   have z1:=HSS.out.c1
   have z2:=HSS.out.c2
   exact bodyPost_ret (by simp [results,Tryz.results21,go_sem,z0,z1,z2]) rfl ⟨s8,A8,n8,c8,G8,r8,k8,y8,M8,rfl,HU.out,HQQ.out,HV8,HF.out⟩
  ·have hjl:j < n:=by omega
   have hjli:(j:Int) < (n:Int):=by omega
   obtain ⟨wo,rfl⟩:∃ V,V=wr:=⟨_,rfl⟩
   clear hjn
   obtain ⟨ad,A1,n1,c1,RR,rfl,hbk,hx,hr1,hn1,hp⟩:=rpp_at (HA.out wo (HB1.out.trans (hB.mono HB1.out.size))).1 hjl
   have HPN:=ah (show (nn PA)[j]?=some (RR.map nqp) by rw [nn,List.getElem?_map,hp.out];rfl)
   have HOT:=ah ho
   have HB3:=ah hB
   have HRR:=ah (show ∀ W,Below wo.heap.size wo W->RdRp W W.heap.size N K A1 n1 c1 RR from fun W hb=>hr1.next hb)
   have HLR:=ah hr1.len
   have hn24':n1<=24:=by
    have h1:=HV.out.zero.2.1 _ (gM HPN.out)
    rw [List.length_map,hr1.len] at h1
    rw [h1]
    exact HSZ.out.2
   have HPM:=ah (gM hp.out)
   clear ho hB hr1 hn1
   go_wp2_with fail
   clear hx
   go_loopw [8,19] (fun ov iv wr=>∃ (i c5:Nat) (A5:Option Addr),ov=.slice A5 i c5/\iv=.int .i64 (i:Int)/\i<=n1/\OwQs wr wo.heap.size A5 i c5 (((RR.map nqp).take i).map (valq x))/\Below wo.heap.size wo wr) (fun _ iv _=>n1-(intOf iv).toNat)
   case atStart=>exact ⟨0,0,none,rfl,rfl,nZ,OwQs.nil _ _,bR⟩
   case round =>
    obtain ⟨i,c5,A5,rfl,rfl,hi5,ho5,hB5⟩:=hrel
    by_cases hin:i=n1
    ·have HO5:=ah (show OwQp wr W1.heap.size A5 i c5 ((RR.map nqp).map (valq x)) by
      rw [List.take_of_length_le (by rw [List.length_map,HLR.out,hin];exact nR)] at ho5
      exact ho5.p.base HB3.out.size)
     have HB5:=ah hB5
     obtain ⟨E,hE,hEl,hEn⟩:=HOT.out.next hB5
     have HE:=ah hE
     have HEN:=ah (cJ hEl (hEn.next (bR.alloc nR (.cells #[.slice A5 i c5] 72))))
     subst hin
     clear ho5 hB5 hE hEl hEn
     go_wp2_with (at_builtin;refine wpList_append_own _ rfl _ _ 68 rfl W1.heap.size 72 i1 (.slice none 0 0) 1 24 Tryz.underlying68 hjf hy0 hy1 hy2 rfl (by decide) _ _ _ rfl (HE.out.alloc _) ⟨wr.heap.size,0,none⟩ 1 1 [.slice A5 i c5] rfl rfl (scell1 wr (.slice A5 i c5) 72) (by simp [Value.oneCell']) (by unfold maxLen;omega) (by omega) (by have h1:=HB5.out.size;have h2:=HB3.out.size;simp;omega) ?_;intro v' w1 hown' hgrow _)
     obtain ⟨A9,c9,rfl,ho9⟩:=qss_more (e:=(A5,i,c5)) HO5.out rfl (HE.out.alloc _) HEN.out.1 HEN.out.2 hown' hgrow
     have hbx:=HB3.out.trans (HB5.out.mono HB3.out.size)
     have HB9:=ah ((hbx.alloc hbx.size (.cells #[.slice A5 i c5] 72)).grown hgrow (by have:=hbx.size;simp;omega) (own_block HE.out))
     have HO9:=ah (show OwQss w1 W1.heap.size A9 (j+1) c9 ((scT (nn PA) x).take (j+1)) by
      have e:(scT (nn PA) x)[j]?=some ((RR.map nqp).map (valq x)):=by unfold scT;rw [List.getElem?_map,HPN.out];rfl
      rw [List.take_add_one,e]
      exact ho9)
     clear hown' hgrow HE HEN ho9 hbx
     go_wp2
     go_roundw
     case rel=>exact ⟨j+1,c9,A9,rfl,by go_num,by omega,HO9.out,HB9.out⟩
     case measure=>simp [intOf];omega
    ·have hil:i < n1:=by omega
     have hili:(i:Int) < (n1:Int):=by omega
     clear hin
     obtain ⟨ad2,A6,n6,c6,R,rfl,hbk6,hx6,hr6,hn6,hs6,hp6⟩:=rp_at (HRR.out wr hB5) hil
     have HO5:=ah ho5
     have HB5:=ah hB5
     have HBX:=tM HB3 hB5
     have hqx:=(HX1.out wr HBX.out).1
     have a0:=hqx.c0
     have a1:=hqx.c1
     have a2:=hqx.c2
     have a3:=hqx.c3
     have HR6:=ah (show RdQs wr wr.heap.size (rsz R+1) A6 n6 c6 (R.map toQ) from hr6.rd (Nat.le_succ _))
     have HL6:=ah (show R.length=n6 from hr6.len)
     have HPR:=ah (gM hp6.out)
     have HZD:=ah (HA.out wr (HB1.out.trans (HBX.out.mono HB1.out.size))).2
     clear ho5 hB5 hr6 hs6 hqx
     go_wp2_with fail
     clear hx6 a0 a1 a2 a3
     refine (rqEval_any (N:=rsz R+1) (N':=N') HR6.out HZD.out.1 HZD.out.2 (HV.out.zero.1 RR HPM.out R HPR.out) HH.out.1 HH.out.2.1 HH.out.2.2.1 (by rw [<- HL6.out];exact HH.out.2.2.2 RR HPM.out R HPR.out) (by omega)).mono ?_
     rintro _ W7 ⟨s7,B7,m7,k7,s8,B8,m8,k8,y7,rfl,ho7,hv7,hb7⟩
     have HB7:=tM HB5 hb7
     have HY7:=ah (show y7=valq x (nqp R) by
      rw [hv7.out,HXV.out]
      exact (psum_nq (L:=R.map toQ) (by rw [List.length_map];exact HL6.out) _).symm)
     obtain ⟨E,hE,hEl,hEn⟩:=HO5.out.next hb7
     have HO7:=ah (ho7.base (b':=wo.heap.size) HB5.out.size)
     have HE:=ah hE
     have HEN:=ah (cJ hEl hEn)
     clear hE hEl hEn hb7 ho7 hv7
     go_wp2_with (at_builtin;refine wpList_append_own _ rfl _ _ 72 rfl wo.heap.size 47 i0 (.agg #[.bool false,.slice none 0 0,.bool false,.slice none 0 0]) 4 64 Tryz.underlying72 hi hz0 hz1 hz2 rfl (by decide) _ _ _ rfl (HE.out.alloc _) ⟨W7.heap.size,0,none⟩ 1 1 [.bool s7,.slice B7 m7 k7,.bool s8,.slice B8 m8 k8] rfl rfl (qcell_new _ _ _ _ _ _) (by simp [Value.oneCell']) (by unfold maxLen;omega) (by omega) (by have:=HB7.out.size;simp;omega) ?_;intro v' w1 hown' hgrow _)
     obtain ⟨A9,c9,rfl,ho9⟩:=qs_more (e:=((s7,B7,m7,k7),(s8,B8,m8,k8))) (x:=y7) HO7.out rfl (HE.out.alloc _) HEN.out.1 HEN.out.2 hown' hgrow
     have HB9:=ah ((HB7.out.alloc HB7.out.size (.cells #[.bool s7,.slice B7 m7 k7,.bool s8,.slice B8 m8 k8] 47)).grown hgrow (by have:=HB7.out.size;simp;omega) (own_block HE.out))
     have HO9:=ah (show OwQs w1 wo.heap.size A9 (i+1) c9 (((RR.map nqp).take (i+1)).map (valq x)) by
      have e:(RR.map nqp)[i]?=some (nqp R):=by rw [List.getElem?_map,hp6.out];rfl
      rw [List.take_add_one,e,Option.toList_some,List.map_append]
      rw [HY7.out] at ho9
      exact ho9)
     clear hown' hgrow HE HEN ho9
     go_wp2
     go_roundw
     case rel=>exact ⟨i+1,c9,A9,rfl,by go_num,by omega,HO9.out,HB9.out⟩
     case measure=>simp [intOf];omega
theorem num18_any (z:Int)(w:World):Calls Tryz.prog 16 #[.int .i64 z] w (fun e w'=>e=.returned (.int .i64 z)/\w'=w):=by
 go_enter Tryz.func16,Tryz.ntmps16
 go_wp2
 go_ret
 exact ⟨rfl,rfl⟩
theorem lpoly18_any {A:Option Addr}{n c:Nat}{L:List Int}{w:World}(h:RdK w w.heap.size A n c L)(hn:n<=1048576) :
  Calls Tryz.prog 62 #[.slice A n c] w fun e w'=>∃ (A:Option Addr) (n c:Nat) (M:List Rat),e=.returned (.slice A n c)/\OwQp w' w.heap.size A n c M/\Hid (M=L.map fun z:Int=>(z:Rat))/\Below w.heap.size w w':=by
 have HLEN:=ah h.len
 obtain ⟨i0,hi,hz0,hz1,hz2⟩:=info_parts infoQ
 go_enter Tryz.func62,Tryz.ntmps62
 go_wp2_with fail
 go_loopw [3,8] (fun ov iv wr=>∃ (j c':Nat) (A':Option Addr) (M:List Rat),ov=.slice A' j c'/\iv=.int .i64 j/\j<=n/\OwQs wr w.heap.size A' j c' M/\Hid (M=(L.take j).map fun z:Int=>(z:Rat))/\Below w.heap.size w wr) (fun _ iv _=>n-(intOf iv).toNat)
 case atStart=>exact ⟨0,0,none,[],rfl,rfl,nZ,OwQs.nil _ _,ah rfl,bR⟩
 case round =>
  obtain ⟨j,c',A',M,rfl,rfl,hj,ho,hM,hB⟩:=hrel
  by_cases hjn:j=n
  ·subst hjn
   go_wp2
   go_ret
   exact ⟨_,_,_,_,rfl,ho.p,ah (by rw [hM.out,List.take_of_length_le (by rw [HLEN.out];exact nR)]),hB⟩
  ·have hjl:j < n:=by omega
   clear hjn
   have hjli:(j:Int) < (n:Int):=by omega
   obtain ⟨z,hz⟩:=zs_get (L:=L) (j:=j) (by rw [h.len];exact hjl)
   obtain ⟨h1,h2,ad,rfl,hbk,hx⟩:=h.at_ j z hz
   have hy:=(hB.cell (p:=ad.add j) (by rw [add_blk];exact hbk)).trans hx
   have HZ:=ah hz
   have HRG:=ah (cJ h1 h2)
   have HO:=ah ho
   clear hz hx ho h1 h2
   go_wp2_with fail
   refine (rQOf_any z HRG.out.1 HRG.out.2 wr).mono ?_
   rintro _ W3 ⟨s3,A3,n3,c3,s4,A4,n4,c4,y,rfl,ho3,hy3,hb3⟩
   have hB3:=hB.trans (hb3.mono hB.size)
   obtain ⟨E,hE,hEl,hEn⟩:=HO.out.next hb3
   have HO4:=ah (ho3.base hB.size)
   have HE:=ah hE
   have HEN:=ah (cJ hEl hEn)
   have HM2:=ah (show M ++ [y]=(L.take (j+1)).map fun z:Int=>(z:Rat) by rw [hM.out,hy3.out,List.take_add_one,HZ.out];simp)
   clear hE hEl hEn hy hb3 ho3
   go_wp2_with (at_builtin;refine wpList_append_own _ rfl _ _ 73 rfl w.heap.size 47 i0 (.agg #[.bool false,.slice none 0 0,.bool false,.slice none 0 0]) 4 64 Tryz.underlying73 hi hz0 hz1 hz2 rfl (by decide) _ _ _ rfl (HE.out.alloc _) ⟨W3.heap.size,0,none⟩ 1 1 [.bool s3,.slice A3 n3 c3,.bool s4,.slice A4 n4 c4] rfl rfl (qcell_new _ _ _ _ _ _) (by simp [Value.oneCell']) (by unfold maxLen;omega) (by omega) (by have:=hB3.size;simp;omega) ?_;intro v' w1 hown' hgrow _)
   have hmore:=qs_more (e:=((s3,A3,n3,c3),(s4,A4,n4,c4))) (x:=y) HO4.out rfl (HE.out.alloc _) HEN.out.1 HEN.out.2 hown' hgrow
   have HB5:=ah ((hB3.alloc hB3.size (.cells #[.bool s3,.slice A3 n3 c3,.bool s4,.slice A4 n4 c4] 47)).grown hgrow (by have:=hB3.size;simp;omega) (own_block HE.out))
   obtain ⟨A5,c5,rfl,ho5⟩:=hmore
   clear hown' hgrow HE HEN HO4 hB3 hB
   go_wp2
   go_roundw
   case rel=>exact ⟨j+1,c5,A5,M ++ [y],rfl,by go_num,by omega,ho5,HM2,HB5.out⟩
   case measure=>simp [intOf];omega
def RetT (b t:Nat)(M:M2)(w:World)(e:Ending)(w':World):Prop:=e=.returned (.tuple #[])/\Tb w' b t M/\Below b w w'/\KeepS w w'
theorem swap_to {b t:Nat}{i j:Int}{M:M2}{w:World}(h:Tb w b t M)(hb:b<=w.heap.size)(hij:(i=0/\j=0) ∨ (i=1/\j=1)) :
  Calls Tryz.prog 278 #[.agg #[.int .i64 i,.int .i64 j],.pointer (some ⟨t,0,none⟩)] w (RetT b t (M.swap i j) w):=by
 obtain ⟨gr,cr,g0,c0,g1,c1,x,y,z,u,h⟩:=h
 obtain ⟨W1,HW1⟩:∃ W,W=w.alloc (.cells #[.int .i64 i,.int .i64 j] 221):=⟨_,rfl⟩
 have hb1:Below w.heap.size w W1:=by rw [HW1];exact bA
 have hX:PX W1 w.heap.size 221 [.int .i64 i,.int .i64 j]:=by rw [HW1];exact PX.new w _ [.int .i64 i,.int .i64 j]
 have e0:=hX.cell (i:=0) rfl
 have e1:=hX.cell (i:=1) rfl
 have h1:=h.next hb1
 obtain ⟨k0,k1,k2,k3,_⟩:=h1.cells
 have f0:=h1.rw.frozen 0
 have f1:=h1.rw.frozen 1
 have HB1:=ah hb1
 have HH:=ah h1
 have HW1:=ah HW1
 have HBB:=ah hb
 obtain ⟨gb,hgb⟩:∃ g,g=w.heap.size:=⟨_,rfl⟩
 rw [<- hgb] at e0 e1
 have HNE:=ah (show gr ≠ gb by rw [hgb];exact (HH.out.rw.ne hX (by decide)))
 have HX0:=ah (show PX W1 gb 221 [.int .i64 i,.int .i64 j] by rw [hgb];exact hX)
 clear h1 hb1 hX h hb
 have hn1:¬ t=gr:=HH.out.ht
 have hn2:¬ gb=gr:=HNE.out.symm
 clear HNE
 have HBB2:=ah (HB1.out.mono HBB.out)
 have HKS:=ah (KeepS.below HB1.out)
 rcases hij with ⟨rfl,rfl⟩ | ⟨rfl,rfl⟩
 ·have HS1:=ah (show (W1.setCell ⟨gr,0,none⟩ (.slice (some ⟨g0,0,none⟩) 2 c0)).drew.cell? ⟨t,0,none⟩=some (.slice (some ⟨gr,0,none⟩) 2 cr)/\(W1.setCell ⟨gr,0,none⟩ (.slice (some ⟨g0,0,none⟩) 2 c0)).drew.cell? ⟨gb,0,none⟩=some (.int .i64 0)/\(W1.setCell ⟨gr,0,none⟩ (.slice (some ⟨g0,0,none⟩) 2 c0)).drew.cell? ⟨gb,1,none⟩=some (.int .i64 0)/\(W1.setCell ⟨gr,0,none⟩ (.slice (some ⟨g0,0,none⟩) 2 c0)).drew.cell? ⟨gr,0,none⟩=some (.slice (some ⟨g0,0,none⟩) 2 c0) from ⟨(HH.out.same0.next bR.drew).hd.cell rfl,((HX0.out.far hn2 _).next bR.drew).cell rfl,((HX0.out.far hn2 _).next bR.drew).cell rfl,(HH.out.same0.next bR.drew).rw.cell rfl⟩)
  have HS2:=ah (show ((W1.setCell ⟨gr,0,none⟩ (.slice (some ⟨g0,0,none⟩) 2 c0)).setCell ⟨gr,0,none⟩ (.slice (some ⟨g0,0,none⟩) 2 c0)).drew.cell? ⟨t,0,none⟩=some (.slice (some ⟨gr,0,none⟩) 2 cr)/\((W1.setCell ⟨gr,0,none⟩ (.slice (some ⟨g0,0,none⟩) 2 c0)).setCell ⟨gr,0,none⟩ (.slice (some ⟨g0,0,none⟩) 2 c0)).drew.cell? ⟨gb,0,none⟩=some (.int .i64 0)/\((W1.setCell ⟨gr,0,none⟩ (.slice (some ⟨g0,0,none⟩) 2 c0)).setCell ⟨gr,0,none⟩ (.slice (some ⟨g0,0,none⟩) 2 c0)).drew.cell? ⟨gb,1,none⟩=some (.int .i64 0)/\((W1.setCell ⟨gr,0,none⟩ (.slice (some ⟨g0,0,none⟩) 2 c0)).setCell ⟨gr,0,none⟩ (.slice (some ⟨g0,0,none⟩) 2 c0)).drew.cell? ⟨gr,0,none⟩=some (.slice (some ⟨g0,0,none⟩) 2 c0) from ⟨(HH.out.same0.same0.next bR.drew).hd.cell rfl,(((HX0.out.far hn2 _).far hn2 _).next bR.drew).cell rfl,(((HX0.out.far hn2 _).far hn2 _).next bR.drew).cell rfl,(HH.out.same0.same0.next bR.drew).rw.cell rfl⟩)
  go_enter Tryz.func278,Tryz.ntmps278
  go_wp2_with fail
  rw [<- HW1.out,<- hgb]
  clear HW1 hgb
  clear HW1
  go_region_held3 (fun W=>W.cell? ⟨t,0,none⟩=some (.slice (some ⟨gr,0,none⟩) 2 cr)/\W.cell? ⟨gb,0,none⟩=some (.int .i64 0)/\W.cell? ⟨gb,1,none⟩=some (.int .i64 0)/\W.cell? ⟨gr,0,none⟩=some (.slice (some ⟨g0,0,none⟩) 2 c0))
   (first | exact ⟨k0,e0,e1,k2⟩ | exact HS1.out | exact HS2.out)
   (fail)
  all_goals
   go_wp2
   go_returns
   exact ⟨rfl,⟨_,_,_,_,_,_,_,_,_,_,HH.out.same0.same0.next bR.drew⟩,((HBB2.out.setCell (p:=⟨gr,0,none⟩) HH.out.br (.slice (some ⟨g0,0,none⟩) 2 c0)).setCell (p:=⟨gr,0,none⟩) HH.out.br (.slice (some ⟨g0,0,none⟩) 2 c0)).drew,(HKS.out.trans ((HH.out.rw.keepS (.inr rfl) 0 (.slice (some ⟨g0,0,none⟩) 2 c0)).trans ((HH.out.rw.store 0 (.slice (some ⟨g0,0,none⟩) 2 c0)).keepS (.inr rfl) 0 (.slice (some ⟨g0,0,none⟩) 2 c0)))).trans (.below bR.drew)⟩
 ·have HS1:=ah (show (W1.setCell ⟨gr,1,none⟩ (.slice (some ⟨g1,0,none⟩) 2 c1)).drew.cell? ⟨t,0,none⟩=some (.slice (some ⟨gr,0,none⟩) 2 cr)/\(W1.setCell ⟨gr,1,none⟩ (.slice (some ⟨g1,0,none⟩) 2 c1)).drew.cell? ⟨gb,0,none⟩=some (.int .i64 1)/\(W1.setCell ⟨gr,1,none⟩ (.slice (some ⟨g1,0,none⟩) 2 c1)).drew.cell? ⟨gb,1,none⟩=some (.int .i64 1)/\(W1.setCell ⟨gr,1,none⟩ (.slice (some ⟨g1,0,none⟩) 2 c1)).drew.cell? ⟨gr,1,none⟩=some (.slice (some ⟨g1,0,none⟩) 2 c1) from ⟨(HH.out.same1.next bR.drew).hd.cell rfl,((HX0.out.far hn2 _).next bR.drew).cell rfl,((HX0.out.far hn2 _).next bR.drew).cell rfl,(HH.out.same1.next bR.drew).rw.cell rfl⟩)
  have HS2:=ah (show ((W1.setCell ⟨gr,1,none⟩ (.slice (some ⟨g1,0,none⟩) 2 c1)).setCell ⟨gr,1,none⟩ (.slice (some ⟨g1,0,none⟩) 2 c1)).drew.cell? ⟨t,0,none⟩=some (.slice (some ⟨gr,0,none⟩) 2 cr)/\((W1.setCell ⟨gr,1,none⟩ (.slice (some ⟨g1,0,none⟩) 2 c1)).setCell ⟨gr,1,none⟩ (.slice (some ⟨g1,0,none⟩) 2 c1)).drew.cell? ⟨gb,0,none⟩=some (.int .i64 1)/\((W1.setCell ⟨gr,1,none⟩ (.slice (some ⟨g1,0,none⟩) 2 c1)).setCell ⟨gr,1,none⟩ (.slice (some ⟨g1,0,none⟩) 2 c1)).drew.cell? ⟨gb,1,none⟩=some (.int .i64 1)/\((W1.setCell ⟨gr,1,none⟩ (.slice (some ⟨g1,0,none⟩) 2 c1)).setCell ⟨gr,1,none⟩ (.slice (some ⟨g1,0,none⟩) 2 c1)).drew.cell? ⟨gr,1,none⟩=some (.slice (some ⟨g1,0,none⟩) 2 c1) from ⟨(HH.out.same1.same1.next bR.drew).hd.cell rfl,(((HX0.out.far hn2 _).far hn2 _).next bR.drew).cell rfl,(((HX0.out.far hn2 _).far hn2 _).next bR.drew).cell rfl,(HH.out.same1.same1.next bR.drew).rw.cell rfl⟩)
  go_enter Tryz.func278,Tryz.ntmps278
  go_wp2_with fail
  rw [<- HW1.out,<- hgb]
  clear HW1 hgb
  clear HW1
  go_region_held3 (fun W=>W.cell? ⟨t,0,none⟩=some (.slice (some ⟨gr,0,none⟩) 2 cr)/\W.cell? ⟨gb,0,none⟩=some (.int .i64 1)/\W.cell? ⟨gb,1,none⟩=some (.int .i64 1)/\W.cell? ⟨gr,1,none⟩=some (.slice (some ⟨g1,0,none⟩) 2 c1))
   (first | exact ⟨k0,e0,e1,k3⟩ | exact HS1.out | exact HS2.out)
   (fail)
  all_goals
   go_wp2
   go_returns
   exact ⟨rfl,⟨_,_,_,_,_,_,_,_,_,_,HH.out.same1.same1.next bR.drew⟩,((HBB2.out.setCell (p:=⟨gr,1,none⟩) HH.out.br (.slice (some ⟨g1,0,none⟩) 2 c1)).setCell (p:=⟨gr,1,none⟩) HH.out.br (.slice (some ⟨g1,0,none⟩) 2 c1)).drew,(HKS.out.trans ((HH.out.rw.keepS (.inr rfl) 1 (.slice (some ⟨g1,0,none⟩) 2 c1)).trans ((HH.out.rw.store 1 (.slice (some ⟨g1,0,none⟩) 2 c1)).keepS (.inr rfl) 1 (.slice (some ⟨g1,0,none⟩) 2 c1)))).trans (.below bR.drew)⟩
end Go.Proofs.YtjnklbfhelbjgaaGreat
namespace Go.Proofs.YtjnklbfhelbjgaaGreat
open Go
section
variable {P:Program}{ops:Array Oper}{Q:Exit->Act->World->Prop}{md:Region.Mode}{F:List Nat}{S T:World->Prop}
def Dm (F:List Nat)(S:World->Prop)(listed:Array Bool)(w:World):Prop:=(∀ f ∈ F,listed.getD f false=false)->S w
def WA (P:Program)(md:Region.Mode)(ops:Array Oper)(Q:Exit->Act->World->Prop)(F:List Nat)(S:World->Prop):Nat->Array Bool->Act->World->Prop
 | 0,listed,a,w=>Region.ready md ops listed=[]/\Q .normal a w
 | k + 1, listed, a, w => (Region.ready md ops listed = [] -> Q .normal a w) /\
   ∀ i ∈ Region.ready md ops listed,wpOp P ops Q i (fun a' w'=>Dm F S (listed.setIfInBounds i true) w'/\WA P md ops Q F S k (listed.setIfInBounds i true) a' w') a w
theorem WA.any:∀ (k:Nat) (listed:Array Bool) (a:Act) (w:World),WA P md ops Q F S k listed a w->wpAny P md ops Q k listed a w
 | 0,_,_,_,h=>h
 | k+1,_,_,_,h=>⟨h.1,fun i hi=>wpOp_mono (fun a' w' h'=>WA.any k _ a' w' h'.2) (h.2 i hi)⟩
def Cl (md:Region.Mode)(ops:Array Oper)(listed:Array Bool):Prop:=∀ (j:Nat) (o:Oper),ops[j]?=some o->listed.getD j false=true->∀ e ∈ o.after,Region.binds md e=true->listed.getD e.on false=true
def waits (md:Region.Mode)(ops:Array Oper):Nat->Nat->Nat->Bool
 | 0,_,_=>false
 | k + 1, f, i => match ops[f]? with
   | none=>false
   | some o=>o.after.toList.any fun e=>Region.binds md e && (e.on == i || waits md ops k e.on i)
theorem waits_spec {listed:Array Bool}(hc:Cl md ops listed){i:Nat}:∀ (k f:Nat),(f ∈ Region.ready md ops listed ∨ listed.getD f false=true)->waits md ops k f i=true->listed.getD i false=true
 | 0,_,_,h=>by cases h
 | k + 1, f, hf, h => by
   unfold waits at h
   cases ho:ops[f]? with
   | none=>rw [ho] at h;cases h
   | some o =>
     rw [ho] at h
     obtain ⟨e,he,hb⟩:=List.any_eq_true.1 h
     rw [Bool.and_eq_true,Bool.or_eq_true,beq_iff_eq] at hb
     have h1:listed.getD e.on false=true:=by
      rcases hf with hf | hf
      ·obtain ⟨_,o',ho',hall⟩:=mem_ready.1 hf
       rw [ho] at ho'
       injection ho' with ho'
       subst ho'
       exact hall e (Array.mem_toList_iff.1 he) hb.1
      ·exact hc f o ho hf e (Array.mem_toList_iff.1 he) hb.1
     rcases hb.2 with h2 | h2
     ·rw [<- h2];exact h1
     ·exact waits_spec hc k e.on (.inr h1) h2
theorem getD_un {listed:Array Bool}{i:Nat}(h:listed.getD i true=false):listed.getD i false=false:=by
 rcases Nat.lt_or_ge i listed.size with h' | h'
 ·simp [h'] at h ⊢;exact h
 ·simp [Array.getElem?_eq_none h'] at h
theorem Cl.set {listed:Array Bool}{i:Nat}(hc:Cl md ops listed)(hi:i ∈ Region.ready md ops listed):Cl md ops (listed.setIfInBounds i true):=fun j o ho hj e he hb=>by
 apply getD_set_true
 by_cases hij:i=j
 ·subst hij
  obtain ⟨_,o',ho',hall⟩:=mem_ready.1 hi
  rw [ho] at ho'
  injection ho' with ho'
  subst ho'
  exact hall e he hb
 ·rw [getD_set_ne false hij] at hj
  exact hc j o ho hj e he hb
theorem WA.first {i K:Nat}{oi:Oper}{v:Value}(hi:ops[i]?=some oi)(hsel:∀ (j:Nat)(o:Oper) cs b,ops[j]?=some o->o.op ≠ .select cs b)
  (hQ:∀ c a w,Q (.panic c) (a.put oi.dst v) w->Q (.panic c) a w) (hF:∀ f ∈ F,f ≠ i/\waits md ops K f i=true) :
  ∀ (k:Nat) (listed:Array Bool) (a:Act) (w:World),Cl md ops listed ->
   (∀ j oj,ops[j]?=some oj->j ≠ i->listed.getD j true=false->(∀ e ∈ oj.after,Region.binds md e=true->e.on ≠ i)->oi.apart ops oj=true) ->
   i ∈ Region.ready md ops listed->YieldsIf P ops S oi v a->S w ->
   WA P md ops Q F S k (listed.setIfInBounds i true) (a.put oi.dst v) w->WA P md ops Q F S (k+1) listed a w:=by
 intro k
 induction k with
 | zero =>
   intro listed a w _ _ hr hy ht H
   refine ⟨fun h=>(by rw [h] at hr;cases hr),fun j hj=>?_⟩
   by_cases hji:j=i
   ·subst hji;exact hy.wpOp hi ht ⟨fun _=>ht,H⟩
   ·have:=ready_mono hj hji
    rw [H.1] at this
    cases this
 | succ k ih =>
   intro listed a w hc hfree hr hy ht H
   refine ⟨fun h=>(by rw [h] at hr;cases hr),fun j hj=>?_⟩
   by_cases hji:j=i
   ·subst hji;exact hy.wpOp hi ht ⟨fun _=>ht,H⟩
   ·have h1:=H.2 j (ready_mono hj hji)
    obtain ⟨hjun,oj,hoj,hall⟩:=mem_ready.1 hj
    have hun:=(mem_ready.1 hr).1
    have hunF:=getD_un hun
    have hnot:∀ e ∈ oj.after,Region.binds md e=true->e.on ≠ i:=fun e he hb heq=>by
     have h2:=hall e he hb
     rw [heq,hunF] at h2
     cases h2
    have h2:=wpOp_putIf hoj (hfree j oj hoj hji hjun hnot) (fun cs b=>hsel i oi cs b hi) (fun cs b=>hsel j oj cs b hoj) hQ hy h1
    have hfree':∀ m om,ops[m]?=some om->m ≠ i->(listed.setIfInBounds j true).getD m true=false ->
      (∀ e ∈ om.after,Region.binds md e=true->e.on ≠ i)->oi.apart ops om=true:=fun m om hm hmi hmu hno=>by
     refine hfree m om hm hmi ?_ hno
     by_cases hjm:j=m
     ·subst hjm;exact hjun
     ·rwa [getD_set_ne true hjm] at hmu
    have hlast:∀ f ∈ F,((listed.setIfInBounds i true).setIfInBounds j true).getD f false=false:=fun f hf=>by
     obtain ⟨hfi,hw⟩:=hF f hf
     have hfj:f ≠ j:=by
      rintro rfl
      have:=waits_spec hc K f (.inl hj) hw
      rw [hunF] at this
      cases this
     rw [getD_set_ne false (Ne.symm hfj),getD_set_ne false (Ne.symm hfi)]
     cases hb:listed.getD f false with
     | false=>rfl
     | true =>
       have:=waits_spec hc K f (.inr hb) hw
       rw [hunF] at this
       cases this
    refine wpOp_mono (fun a' w' h3=>⟨fun _=>h3.2.1 hlast,ih (listed.setIfInBounds j true) a' w' (hc.set hj) hfree' (ready_mono hr (Ne.symm hji)) h3.1 (h3.2.1 hlast) ?_⟩) h2
    rw [Array.setIfInBounds_comm _ _ hji]
    exact h3.2.2
def clB (md:Region.Mode)(ops:Array Oper)(listed:Array Bool):Bool:=(List.range ops.size).all fun j=>match ops[j]? with
 | none=>true
 | some o=>!(listed.getD j false) || o.after.toList.all fun e=>!(Region.binds md e) || listed.getD e.on false
theorem clB_spec {listed:Array Bool}(h:clB md ops listed=true):Cl md ops listed:=fun j o ho hj e he hb=>by
 have h1:=List.all_eq_true.1 h j (List.mem_range.2 (Array.getElem?_eq_some_iff.1 ho).1)
 simp only [ho,hj,Bool.not_true,Bool.false_or] at h1
 have h2:=List.all_eq_true.1 h1 e (Array.mem_toList_iff.2 he)
 simpa [hb] using h2
theorem WA.take {i:Nat}(K:Nat){oi:Oper}{v:Value}{k:Nat}{listed:Array Bool}{a:Act}{w:World}(hi:ops[i]?=some oi)
  (hs:Region.noSelect ops=true) (hc:clB md ops listed=true) (hf:Region.free md ops listed i=true) (hr:(Region.ready md ops listed).contains i=true) (hF:(F.all fun f=>f != i && waits md ops K f i)=true)
  (hQ:∀ c a w,Q (.panic c) (a.put oi.dst v) w->Q (.panic c) a w) (hy:YieldsIf P ops S oi v a) (hS:S w)
  (h:WA P md ops Q F S k (listed.setIfInBounds i true) (a.put oi.dst v) w):WA P md ops Q F S (k+1) listed a w :=
 WA.first hi (Region.noSelect_spec hs) hQ (fun f hf'=>by simpa using List.all_eq_true.1 hF f hf') k listed a w (clB_spec hc) (Region.free_spec hi hf) (by simpa using hr) hy hS h
theorem WA.one {i:Nat}{o:Oper}{k:Nat}{listed:Array Bool}{a:Act}{w:World}(hr:Region.ready md ops listed=[i])(ho:ops[i]?=some o)
  (h:∀ K':Act->World->Prop,Shut (∀ a w,Dm F S (listed.setIfInBounds i true) w->WA P md ops Q F S k (listed.setIfInBounds i true) a w->K' a w)->if Region.wanted o (yielded ops a.tmps)=true then Oper.wp P o a w K' Q else K' (a.put o.dst undef) w) :
  WA P md ops Q F S (k+1) listed a w:=by
 refine ⟨fun h0=>(by rw [hr] at h0;cases h0),fun j hj=>?_⟩
 rw [hr] at hj
 obtain rfl:=List.mem_singleton.1 hj
 exact wpOp_step ho fun K' hK=>h K' fun a w h1 h2=>hK a w ⟨h1,h2⟩
theorem WA.done {listed:Array Bool}{a:Act}{w:World}(hr:Region.ready md ops listed=[])(h:Q .normal a w):∀ k,WA P md ops Q F S k listed a w
 | 0=>⟨hr,h⟩
 | _+1=>⟨fun _=>h,by rw [hr];simp⟩
theorem WA.begin (F:List Nat){id:Nat}{a:Act}{w:World}(hm:P.follows .mixedOrders=true)(hS:S w.drew)
  (h:S w.drew->WA P .any ops Q F S ops.size (Array.replicate ops.size false) a w.drew):(Code.region id ops true).wp P Q a w :=
 wp_region_any hm (WA.any _ _ _ _ (h hS))
end
theorem tk {P:Program}{ops:Array Oper}{Q:Exit->Act->World->Prop}{md:Region.Mode}{S:World->Prop}(i:Nat){oi:Oper}{v:Value}{fuel:Nat}{listed l':Array Bool}{a a':Act}{w:World}
  (h:wpAnyH P md ops Q S fuel l' a' w)
  (hi:ops[i]?=some oi:=by exact rfl) (hs:Region.noSelect ops=true:=by kernel_rfl) (hf:Region.free md ops listed i=true:=by kernel_rfl) (hr:(Region.ready md ops listed).contains i=true:=by kernel_rfl)
  (hw:Region.wanted oi (yielded ops a.tmps)=true:=by rfl)
  (hy:∀ w,S w->(execOp a.eval oi).run P w=.ok (.value v) w:=by (intro w hSw;(try dsimp only at hSw);go_simp;try with_reducible rfl))
  (hS:S w:=by assumption) (hQ:∀ c a w,Q (.panic c) (a.put oi.dst v) w->Q (.panic c) a w:=by exact fun _ _ _ h=>h)
  (hl:listed.setIfInBounds i true=l':=by ((try simp only [List.setIfInBounds_toArray,List.set_cons_zero,List.set_cons_succ]);exact rfl)) (ha:a.put oi.dst v=a':=by ((try simp only [Act.put,List.setIfInBounds_toArray,List.set_cons_zero,List.set_cons_succ]);exact rfl)):wpAnyH P md ops Q S (fuel+1) listed a w:=by
 subst hl ha
 exact wpAnyH_take hi hs hf hr hQ (.inl ⟨hw,hy⟩) hS h
theorem wtk {P:Program}{ops:Array Oper}{Q:Exit->Act->World->Prop}{md:Region.Mode}{S:World->Prop}{F:List Nat}(i:Nat){oi:Oper}{v:Value}{k:Nat}{listed l':Array Bool}{a a':Act}{w:World}
  (h:WA P md ops Q F S k l' a' w)
  (hi:ops[i]?=some oi:=by exact rfl) (hs:Region.noSelect ops=true:=by kernel_rfl) (hc:clB md ops listed=true:=by kernel_rfl) (hf:Region.free md ops listed i=true:=by kernel_rfl) (hr:(Region.ready md ops listed).contains i=true:=by kernel_rfl)
  (hF:(F.all fun f=>f != i && waits md ops 40 f i)=true:=by kernel_rfl) (hw:Region.wanted oi (yielded ops a.tmps)=true:=by kernel_rfl)
  (hy:∀ w,S w->(execOp a.eval oi).run P w=.ok (.value v) w:=by (intro w hSw;(try dsimp only at hSw);go_simp;try with_reducible rfl))
  (hS:S w:=by assumption) (hQ:∀ c a w,Q (.panic c) (a.put oi.dst v) w->Q (.panic c) a w:=by exact fun _ _ _ h=>h)
  (hl:listed.setIfInBounds i true=l':=by ((try simp only [List.setIfInBounds_toArray,List.set_cons_zero,List.set_cons_succ]);exact rfl)) (ha:a.put oi.dst v=a':=by ((try simp only [Act.put,List.setIfInBounds_toArray,List.set_cons_zero,List.set_cons_succ]);exact rfl)):WA P md ops Q F S (k+1) listed a w:=by
 subst hl ha
 exact WA.take 40 hi hs hc hf hr hF hQ (.inl ⟨hw,hy⟩) hS h
end Go.Proofs.YtjnklbfhelbjgaaGreat
