/- Sc29. -/
import Derived.Test.YtjnklbfhelbjgaaGreatSc15
import Derived.Test.YtjnklbfhelbjgaaGreatSc14
import Derived.Test.YtjnklbfhelbjgaaGreatSc04
import Derived.Test.YtjnklbfhelbjgaaGreatSc05
import Derived.Handy
import Derived.Test.YtjnklbfhelbjgaaGreatSc28
import Derived.Test.YtjnklbfhelbjgaaGreatSc21
import Derived.Test.YtjnklbfhelbjgaaGreatSc11
import Derived.Test.YtjnklbfhelbjgaaGreatSc00
set_option maxRecDepth 100000
set_option maxHeartbeats 32000000
set_option linter.all false
namespace Go.Proofs.YtjnklbfhelbjgaaGreat
open Go.RowKit Go.IntWalk
attribute [local go_sem ↓] Go.wp_at_zero Go.wp_at_succ
def RetTa (LL:List (List Int))(w:World)(e:Ending)(w':World):Prop :=
 ∃ (s:Bool) (A:Option Addr) (n c:Nat) (G:Option Addr) (r k:Nat),e=.returned (.agg #[.bool s,.slice A n c,.slice G r k])/\OwZ w' w.heap.size s A n c 1/\OwMs w' w.heap.size G r k LL/\Below w.heap.size w w'
theorem table_two {ga ca g0 c0 g1 c1:Nat}{T T0 T1:TypeId}{z0 z1 z2 z3:Int}{w:World}(ha:PX w ga T [.slice (some ⟨g0,0,none⟩) 2 c0,.slice (some ⟨g1,0,none⟩) 2 c1])(h0:PX w g0 T0 [.int .i64 z0,.int .i64 z1])(h1:PX w g1 T1 [.int .i64 z2,.int .i64 z3])
  (b0:-1000<=z0/\z0<=1000) (b1:-1000<=z1/\z1<=1000) (b2:-1000<=z2/\z2<=1000) (b3:-1000<=z3/\z3<=1000) :
  Calls Tryz.prog 61 #[.slice (some ⟨ga,0,none⟩) 2 ca] w (RetTa [[z0,z1],[z2,z3]] w):=by
 obtain ⟨i0,hi,hz0,hz1,hz2⟩:=info_parts infoZ
 obtain ⟨i1,hjf,hy0,hy1,hy2⟩:=info_parts infoIs
 have HX:=ah (show ∀ W,Below w.heap.size w W->W.cell? ⟨ga,0,none⟩=some (.slice (some ⟨g0,0,none⟩) 2 c0)/\W.cell? ⟨ga,1,none⟩=some (.slice (some ⟨g1,0,none⟩) 2 c1)/\W.cell? ⟨g0,0,none⟩=some (.int .i64 z0)/\W.cell? ⟨g0,1,none⟩=some (.int .i64 z1)/\W.cell? ⟨g1,0,none⟩=some (.int .i64 z2)/\W.cell? ⟨g1,1,none⟩=some (.int .i64 z3) from fun W hb=>⟨(ha.next hb).cell rfl,(ha.next hb).cell rfl,(h0.next hb).cell rfl,(h0.next hb).cell rfl,(h1.next hb).cell rfl,(h1.next hb).cell rfl⟩)
 have HBZ:=ah (cJ b0 (cJ b1 (cJ b2 b3)))
 obtain ⟨W1,HW1⟩:∃ W,W=w.alloc (.cells #[.bool false,.slice none 0 0,.slice none 0 0] 28):=⟨_,rfl⟩
 have hb1:Below w.heap.size w W1:=by rw [HW1];exact bA
 obtain ⟨gq,hgq⟩:∃ g,g=w.heap.size:=⟨_,rfl⟩
 have HQ1:=ah (show MC W1 gq false none 0 0 none 0 0 by rw [HW1,hgq];exact MC.new w false none 0 0 none 0 0)
 have HGQ:=ah (show w.heap.size<=gq by rw [hgq];exact nR)
 have HB1:=ah hb1
 have HW1:=ah HW1
 clear ha h0 h1 hb1 b0 b1 b2 b3
 go_enter Tryz.func61,Tryz.ntmps61
 go_wp2_with fail
 rw [<- HW1.out,<- hgq]
 clear HW1 hgq
 clear HW1
 refine (rIOf_any 1 (by decide) (by decide) W1).mono ?_
 rintro _ W2 ⟨sD,AD,nD,cD,yD,rfl,hoD,hyD,hb2⟩
 obtain rfl:=hyD.out
 obtain ⟨W3,HW3⟩:∃ W,W=W2.alloc (.cells #[.bool sD,.slice AD nD cD,.slice none 0 0] 28):=⟨_,rfl⟩
 have hb3:Below W2.heap.size W2 W3:=by rw [HW3];exact bA
 obtain ⟨gm,hgm⟩:∃ g,g=W2.heap.size:=⟨_,rfl⟩
 have HM3:=ah (show MC W3 gm sD AD nD cD none 0 0 by rw [HW3,hgm];exact MC.new W2 sD AD nD cD none 0 0)
 have HGM:=ah (show W1.heap.size<=gm/\gm < W3.heap.size/\gq ≠ gm from by
  have h1:=hb2.size
  have h2:=HQ1.out.lt
  refine ⟨by rw [hgm];exact h1,HM3.out.lt,by omega⟩)
 have HD3:=ah (hoD.next hb3)
 have HQ3:=ah ((HQ1.out.next hb2).next hb3)
 have HB3:=ah (HB1.out.trans ((hb2.trans (hb3.mono hb2.size)).mono HB1.out.size))
 have HO3:=ah (OwMs.nil W3 W3.heap.size)
 have HBW:=ah (Nat.le_refl W3.heap.size)
 have HW3:=ah HW3
 clear hoD hyD hb2 hb3
 have z0':=(HX.out _ HB3.out).1
 go_wp2_with fail
 rw [<- HW3.out,<- hgm]
 clear HW3 hgm
 clear HW3 z0'
 refine wp_loop_rounds 3 ?_
 rw [rounds_succ]
 have x0:=(HX.out _ HB3.out).1
 go_wp2_with fail
 refine wp_loop_rounds 3 ?_
 have HX00:=ah (Below.refl W3.heap.size W3)
 rw [rounds_succ]
 have y0:=(HX.out _ (HB3.out.trans (HX00.out.mono HB3.out.size))).2.2.1
 go_wp2_with fail
 refine (rIOf_any z0 (by have:=HBZ.out.1;omega) (by have:=HBZ.out.1;omega) W3).mono ?_
 rintro _ P00 ⟨s00,A00,n00,c00,yy,rfl,ho,hy,hbp⟩
 obtain rfl:=hy.out.symm
 obtain ⟨EE,hE,hEl,hEn⟩:=(OwZs.nil P00 W3.heap.size)
 have HEE:=ah (cJ hE (cJ hEl hEn))
 have HOZ:=ah (ho.base (b':=W3.heap.size) HX00.out.size)
 have HPP:=tM HX00 hbp
 clear hE hEl hEn ho hy hbp y0
 go_wp2_with (at_builtin;refine wpList_append_own _ rfl _ _ 65 rfl W3.heap.size 25 i0 (.agg #[.bool false,.slice none 0 0]) 2 32 Tryz.underlying65 hi hz0 hz1 hz2 rfl (by decide) _ _ _ rfl (HEE.out.1.alloc _) ⟨P00.heap.size,0,none⟩ 1 1 [.bool s00,.slice A00 n00 c00] rfl rfl (zcell_new _ _ _ _) (by simp [Value.oneCell']) (by decide) (by decide) (by have h1:=HPP.out.size;simp;omega) ?_;intro v' Z00 hown' hgrow _)
 have hba:Below P00.heap.size P00 (P00.alloc (.cells #[.bool s00,.slice A00 n00 c00] 25)):=bA
 obtain ⟨B00,d00,rfl,hoz⟩:=zs_more (e:=(s00,A00,n00,c00)) HOZ.out rfl (HEE.out.1.alloc _) HEE.out.2.1 HEE.out.2.2 hown' hgrow
 have HX01:=ah ((HPP.out.alloc HPP.out.size (.cells #[.bool s00,.slice A00 n00 c00] 25)).grown hgrow (by have h1:=HPP.out.size;simp;omega) (own_block HEE.out.1))
 have HR0:=ah hoz
 clear hown' hgrow hba hoz HEE HOZ HPP
 go_wp2_with fail
 rw [rounds_succ]
 have y0:=(HX.out _ (HB3.out.trans (HX01.out.mono HB3.out.size))).2.2.2.1
 go_wp2_with fail
 refine (rIOf_any z1 (by have:=HBZ.out.2.1;omega) (by have:=HBZ.out.2.1;omega) Z00).mono ?_
 rintro _ P01 ⟨s01,A01,n01,c01,yy,rfl,ho,hy,hbp⟩
 obtain rfl:=hy.out.symm
 obtain ⟨EE,hE,hEl,hEn⟩:=(HR0.out.next hbp)
 have HEE:=ah (cJ hE (cJ hEl hEn))
 have HOZ:=ah (ho.base (b':=W3.heap.size) HX01.out.size)
 have HPP:=tM HX01 hbp
 clear hE hEl hEn ho hy hbp y0
 go_wp2_with (at_builtin;refine wpList_append_own _ rfl _ _ 65 rfl W3.heap.size 25 i0 (.agg #[.bool false,.slice none 0 0]) 2 32 Tryz.underlying65 hi hz0 hz1 hz2 rfl (by decide) _ _ _ rfl (HEE.out.1.alloc _) ⟨P01.heap.size,0,none⟩ 1 1 [.bool s01,.slice A01 n01 c01] rfl rfl (zcell_new _ _ _ _) (by simp [Value.oneCell']) (by decide) (by decide) (by have h1:=HPP.out.size;simp;omega) ?_;intro v' Z01 hown' hgrow _)
 have hba:Below P01.heap.size P01 (P01.alloc (.cells #[.bool s01,.slice A01 n01 c01] 25)):=bA
 obtain ⟨B01,d01,rfl,hoz⟩:=zs_more (e:=(s01,A01,n01,c01)) HOZ.out rfl (HEE.out.1.alloc _) HEE.out.2.1 HEE.out.2.2 hown' hgrow
 have HX02:=ah ((HPP.out.alloc HPP.out.size (.cells #[.bool s01,.slice A01 n01 c01] 25)).grown hgrow (by have h1:=HPP.out.size;simp;omega) (own_block HEE.out.1))
 have HR0:=ah hoz
 clear hown' hgrow hba hoz HEE HOZ HPP
 go_wp2_with fail
 rw [rounds_succ]
 have hm:=HM3.out.next HX02.out
 have m2:=hm.c2
 have f2:=hm.fz 2
 have hba:Below Z01.heap.size Z01 (Z01.alloc (.cells #[.slice B01 (1+1) d01] 65)):=bA
 have m2':=(hm.next hba).c2
 obtain ⟨EE,hE,hEl,hEn⟩:=HO3.out.next HX02.out
 have HEE:=ah (cJ hE (cJ hEl hEn))
 have HMX:=ah hm
 have HXX:=ah (show Below w.heap.size w Z01/\W3.heap.size<=Z01.heap.size from ⟨HB3.out.trans (HX02.out.mono HB3.out.size),nT HBW.out HX02.out.size⟩)
 clear hE hEl hEn hm
 go_wp2_with (at_builtin;refine wpList_append_own _ rfl _ _ 26 rfl W3.heap.size 65 i1 (.slice none 0 0) 1 24 Tryz.underlying26 hjf hy0 hy1 hy2 rfl (by decide) _ _ _ rfl (HEE.out.1.alloc _) ⟨Z01.heap.size,0,none⟩ 1 1 [.slice B01 (1+1) d01] rfl rfl (tcell_new Z01 (.slice B01 (1+1) d01) 65) (by simp [Value.oneCell']) (by decide) (by decide) (by have h1:=HXX.out.2;simp;omega) ?_;intro v' Y0 hown' hgrow _;have hmy:=(HMX.out.next hba).grown (HEE.out.1.alloc _) hgrow;have my:=hmy.c2;have fy:=hmy.fz 2;obtain ⟨G0,k0,rfl,hoy⟩:=ms_more (e:=(B01,1+1,d01)) (HR0.out.ip.base HBW.out) rfl (HEE.out.1.alloc _) HEE.out.2.1 (HEE.out.2.2.next hba) hown' hgrow)
 have hx5:=(HXX.out.1.alloc HXX.out.1.size (.cells #[.slice B01 (1+1) d01] 65)).grown hgrow (by have h1:=HXX.out.1.size;simp;omega) (fun k hk=>nT HB3.out.size (own_block HEE.out.1 k hk))
 have hdy:OwZ Y0 W1.heap.size sD AD nD cD 1:=((HD3.out.next HX02.out).next hba).keep (keepI_grown (HEE.out.1.alloc _) hgrow).1
 have hqy:=((HQ3.out.next HX02.out).next hba).grown (HEE.out.1.alloc _) hgrow
 obtain ⟨V0,HV0⟩:∃ W,W=Y0.setCell ⟨gm,2,none⟩ (.slice G0 (0+1) k0):=⟨_,rfl⟩
 have HM5:=ah (show MC V0 gm sD AD nD cD G0 (0+1) k0 by rw [HV0];exact hmy.num _ _ _)
 have HD5:=ah (show OwZ V0 W1.heap.size sD AD nD cD 1 by rw [HV0];exact hdy.keep (keepI_mc hmy 2 _).1)
 have HQ5:=ah (show MC V0 gq false none 0 0 none 0 0 by rw [HV0];exact hqy.far (p:=⟨gm,2,none⟩) HGM.out.2.2 _)
 have HB5:=ah (show Below w.heap.size w V0 by rw [HV0];exact hx5.setCell (p:=⟨gm,2,none⟩) (nT HB1.out.size HGM.out.1) _)
 have HO5:=ah (show OwMs V0 W3.heap.size G0 (0+1) k0 ([] ++ [[] ++ [z0] ++ [z1]]) by rw [HV0];exact hoy.num hmy HGM.out.2.1 _)
 have HBW5:=ah (show W3.heap.size<=V0.heap.size by rw [HV0,World.size_setCell];have h1:=HXX.out.2;have h2:=hgrow.size;simp at h2;omega)
 rw [<- HV0]
 clear hdy hqy hmy my fy hx5 hoy HV0 hown' hgrow hba m2 f2 m2' HEE HMX HXX HR0 x0
 go_wp2_with fail
 rw [rounds_succ]
 have x0:=(HX.out _ HB5.out).2.1
 go_wp2_with fail
 refine wp_loop_rounds 3 ?_
 have HX10:=ah (Below.refl V0.heap.size V0)
 rw [rounds_succ]
 have y0:=(HX.out _ (HB5.out.trans (HX10.out.mono HB5.out.size))).2.2.2.2.1
 go_wp2_with fail
 refine (rIOf_any z2 (by have:=HBZ.out.2.2.1;omega) (by have:=HBZ.out.2.2.1;omega) V0).mono ?_
 rintro _ P10 ⟨s10,A10,n10,c10,yy,rfl,ho,hy,hbp⟩
 obtain rfl:=hy.out.symm
 obtain ⟨EE,hE,hEl,hEn⟩:=(OwZs.nil P10 V0.heap.size)
 have HEE:=ah (cJ hE (cJ hEl hEn))
 have HOZ:=ah (ho.base (b':=V0.heap.size) HX10.out.size)
 have HPP:=tM HX10 hbp
 clear hE hEl hEn ho hy hbp y0
 go_wp2_with (at_builtin;refine wpList_append_own _ rfl _ _ 65 rfl V0.heap.size 25 i0 (.agg #[.bool false,.slice none 0 0]) 2 32 Tryz.underlying65 hi hz0 hz1 hz2 rfl (by decide) _ _ _ rfl (HEE.out.1.alloc _) ⟨P10.heap.size,0,none⟩ 1 1 [.bool s10,.slice A10 n10 c10] rfl rfl (zcell_new _ _ _ _) (by simp [Value.oneCell']) (by decide) (by decide) (by have h1:=HPP.out.size;simp;omega) ?_;intro v' Z10 hown' hgrow _)
 have hba:Below P10.heap.size P10 (P10.alloc (.cells #[.bool s10,.slice A10 n10 c10] 25)):=bA
 obtain ⟨B10,d10,rfl,hoz⟩:=zs_more (e:=(s10,A10,n10,c10)) HOZ.out rfl (HEE.out.1.alloc _) HEE.out.2.1 HEE.out.2.2 hown' hgrow
 have HX11:=ah ((HPP.out.alloc HPP.out.size (.cells #[.bool s10,.slice A10 n10 c10] 25)).grown hgrow (by have h1:=HPP.out.size;simp;omega) (own_block HEE.out.1))
 have HR1:=ah hoz
 clear hown' hgrow hba hoz HEE HOZ HPP
 go_wp2_with fail
 rw [rounds_succ]
 have y0:=(HX.out _ (HB5.out.trans (HX11.out.mono HB5.out.size))).2.2.2.2.2
 go_wp2_with fail
 refine (rIOf_any z3 (by have:=HBZ.out.2.2.2;omega) (by have:=HBZ.out.2.2.2;omega) Z10).mono ?_
 rintro _ P11 ⟨s11,A11,n11,c11,yy,rfl,ho,hy,hbp⟩
 obtain rfl:=hy.out.symm
 obtain ⟨EE,hE,hEl,hEn⟩:=(HR1.out.next hbp)
 have HEE:=ah (cJ hE (cJ hEl hEn))
 have HOZ:=ah (ho.base (b':=V0.heap.size) HX11.out.size)
 have HPP:=tM HX11 hbp
 clear hE hEl hEn ho hy hbp y0
 go_wp2_with (at_builtin;refine wpList_append_own _ rfl _ _ 65 rfl V0.heap.size 25 i0 (.agg #[.bool false,.slice none 0 0]) 2 32 Tryz.underlying65 hi hz0 hz1 hz2 rfl (by decide) _ _ _ rfl (HEE.out.1.alloc _) ⟨P11.heap.size,0,none⟩ 1 1 [.bool s11,.slice A11 n11 c11] rfl rfl (zcell_new _ _ _ _) (by simp [Value.oneCell']) (by decide) (by decide) (by have h1:=HPP.out.size;simp;omega) ?_;intro v' Z11 hown' hgrow _)
 have hba:Below P11.heap.size P11 (P11.alloc (.cells #[.bool s11,.slice A11 n11 c11] 25)):=bA
 obtain ⟨B11,d11,rfl,hoz⟩:=zs_more (e:=(s11,A11,n11,c11)) HOZ.out rfl (HEE.out.1.alloc _) HEE.out.2.1 HEE.out.2.2 hown' hgrow
 have HX12:=ah ((HPP.out.alloc HPP.out.size (.cells #[.bool s11,.slice A11 n11 c11] 25)).grown hgrow (by have h1:=HPP.out.size;simp;omega) (own_block HEE.out.1))
 have HR1:=ah hoz
 clear hown' hgrow hba hoz HEE HOZ HPP
 go_wp2_with fail
 rw [rounds_succ]
 have hm:=HM5.out.next HX12.out
 have m2:=hm.c2
 have f2:=hm.fz 2
 have hba:Below Z11.heap.size Z11 (Z11.alloc (.cells #[.slice B11 (1+1) d11] 65)):=bA
 have m2':=(hm.next hba).c2
 obtain ⟨EE,hE,hEl,hEn⟩:=HO5.out.next HX12.out
 have HEE:=ah (cJ hE (cJ hEl hEn))
 have HMX:=ah hm
 have HXX:=ah (show Below w.heap.size w Z11/\W3.heap.size<=Z11.heap.size from ⟨HB5.out.trans (HX12.out.mono HB5.out.size),nT HBW5.out HX12.out.size⟩)
 clear hE hEl hEn hm
 go_wp2_with (at_builtin;refine wpList_append_own _ rfl _ _ 26 rfl W3.heap.size 65 i1 (.slice none 0 0) 1 24 Tryz.underlying26 hjf hy0 hy1 hy2 rfl (by decide) _ _ _ rfl (HEE.out.1.alloc _) ⟨Z11.heap.size,0,none⟩ 1 1 [.slice B11 (1+1) d11] rfl rfl (tcell_new Z11 (.slice B11 (1+1) d11) 65) (by simp [Value.oneCell']) (by decide) (by decide) (by have h1:=HXX.out.2;simp;omega) ?_;intro v' Y1 hown' hgrow _;have hmy:=(HMX.out.next hba).grown (HEE.out.1.alloc _) hgrow;have my:=hmy.c2;have fy:=hmy.fz 2;obtain ⟨G1,k1,rfl,hoy⟩:=ms_more (e:=(B11,1+1,d11)) (HR1.out.ip.base HBW5.out) rfl (HEE.out.1.alloc _) HEE.out.2.1 (HEE.out.2.2.next hba) hown' hgrow)
 have hx5:=(HXX.out.1.alloc HXX.out.1.size (.cells #[.slice B11 (1+1) d11] 65)).grown hgrow (by have h1:=HXX.out.1.size;simp;omega) (fun k hk=>nT HB3.out.size (own_block HEE.out.1 k hk))
 have hdy:OwZ Y1 W1.heap.size sD AD nD cD 1:=((HD5.out.next HX12.out).next hba).keep (keepI_grown (HEE.out.1.alloc _) hgrow).1
 have hqy:=((HQ5.out.next HX12.out).next hba).grown (HEE.out.1.alloc _) hgrow
 obtain ⟨V1,HV1⟩:∃ W,W=Y1.setCell ⟨gm,2,none⟩ (.slice G1 (1+1) k1):=⟨_,rfl⟩
 have HM6:=ah (show MC V1 gm sD AD nD cD G1 (1+1) k1 by rw [HV1];exact hmy.num _ _ _)
 have HD6:=ah (show OwZ V1 W1.heap.size sD AD nD cD 1 by rw [HV1];exact hdy.keep (keepI_mc hmy 2 _).1)
 have HQ6:=ah (show MC V1 gq false none 0 0 none 0 0 by rw [HV1];exact hqy.far (p:=⟨gm,2,none⟩) HGM.out.2.2 _)
 have HB6:=ah (show Below w.heap.size w V1 by rw [HV1];exact hx5.setCell (p:=⟨gm,2,none⟩) (nT HB1.out.size HGM.out.1) _)
 have HO6:=ah (show OwMs V1 W3.heap.size G1 (1+1) k1 ([[z0,z1]] ++ [[] ++ [z2] ++ [z3]]) by rw [HV1];exact hoy.num hmy HGM.out.2.1 _)
 have HBW6:=ah (show W3.heap.size<=V1.heap.size by rw [HV1,World.size_setCell];have h1:=HXX.out.2;have h2:=hgrow.size;simp at h2;omega)
 rw [<- HV1]
 clear hdy hqy hmy my fy hx5 hoy HV1 hown' hgrow hba m2 f2 m2' HEE HMX HXX HR1 x0
 have hq:=HQ6.out
 have hm:=HM6.out
 have a0:=hm.c0
 have a1:=hm.c1
 have a2:=hm.c2
 have r0:=hq.c0
 have r1:=hq.c1
 have r2:=hq.c2
 have f0:=hq.fz 0
 have f1:=hq.fz 1
 have f2:=hq.fz 2
 have HSS:=ah (hq.store sD AD nD cD G1 (1+1) k1)
 have HU:=ah ((HD6.out.base (b':=w.heap.size) HB1.out.size).keep (keepI_put hq sD AD nD cD G1 (1+1) k1).1)
 have HQQ:=ah ((HO6.out.put hq (by have h1:=HQ1.out.lt;have h2:=HGM.out;omega) sD AD nD cD G1 (1+1) k1).base (b':=w.heap.size) HB3.out.size)
 have HF:=ah (below_putM HB6.out HGQ.out sD AD nD cD G1 (1+1) k1)
 unfold putM at HSS HU HQQ HF
 clear hq hm
 go_wp2_with fail
 rw [rounds_succ]
 go_wp2_with fail
 generalize ((V1.setCell ⟨gq,0,none⟩ (.bool sD)).setCell ⟨gq,1,none⟩ (.slice AD nD cD)).setCell ⟨gq,2,none⟩ (.slice G1 2 k1)=W9 at *
 have w0:=HSS.out.c0
 have w1:=HSS.out.c1
 have w2:=HSS.out.c2
 exact bodyPost_ret (by simp [results,Tryz.results61,go_sem,w0,w1,w2]) rfl ⟨_,_,_,_,_,_,_,rfl,HU.out,HQQ.out,HF.out⟩
def RetYes18 (w:World)(e:Ending)(w':World):Prop:=e=.returned (.bool true)/\Below w.heap.size w w'
theorem awake_any (w:World):Calls Tryz.prog 17 #[] w (RetYes18 w):=by
 go_enter Tryz.func17,Tryz.ntmps17
 obtain ⟨X0a,HX0a⟩:∃ W,W=w.alloc (.cells #[.int .i64 2,.int .i64 0] 2):=⟨_,rfl⟩
 obtain ⟨X0b,HX0b⟩:∃ W,W=X0a.alloc (.cells #[.int .i64 0,.int .i64 2] 2):=⟨_,rfl⟩
 have hs1:X0a.heap.size=w.heap.size+1:=by rw [HX0a];simp
 have hs2:X0b.heap.size=w.heap.size+2:=by rw [HX0b,World.size_alloc,hs1]
 obtain ⟨X0c,HX0c⟩:∃ W,W=X0b.alloc (.cells #[.slice (some ⟨w.heap.size,0,none⟩) 2 2,.slice (some ⟨w.heap.size+1,0,none⟩) 2 2] 97):=⟨_,rfl⟩
 have hb1:Below w.heap.size w X0a:=by rw [HX0a];exact bA
 have hb2:Below X0a.heap.size X0a X0b:=by rw [HX0b];exact bA
 have hb3:Below X0b.heap.size X0b X0c:=by rw [HX0c];exact bA
 have HP0:=ah (show PX X0c w.heap.size 2 [.int .i64 2,.int .i64 0] by
  have h1:PX X0a w.heap.size 2 [.int .i64 2,.int .i64 0]:=by rw [HX0a];exact PX.new w _ [.int .i64 2,.int .i64 0]
  exact (h1.next hb2).next hb3)
 have HP1:=ah (show PX X0c (w.heap.size+1) 2 [.int .i64 0,.int .i64 2] by
  have h1:PX X0b X0a.heap.size 2 [.int .i64 0,.int .i64 2]:=by rw [HX0b];exact PX.new X0a _ [.int .i64 0,.int .i64 2]
  rw [hs1] at h1
  exact h1.next hb3)
 have HP2:=ah (show PX X0c (w.heap.size+2) 97 [.slice (some ⟨w.heap.size,0,none⟩) 2 2,.slice (some ⟨w.heap.size+1,0,none⟩) 2 2] by
  rw [HX0c,<- hs2]
  exact PX.new X0b _ [.slice (some ⟨w.heap.size,0,none⟩) 2 2,.slice (some ⟨w.heap.size+1,0,none⟩) 2 2])
 have HBX0c:=ah (show Below w.heap.size w X0c from (Below.refl w.heap.size w).trans ((hb1.trans ((hb2.trans (hb3.mono hb2.size)).mono hb1.size)).mono (Below.refl w.heap.size w).size))
 rw [HX0b,HX0a] at HX0c
 have HX0c:=ah HX0c
 clear hb1 hb2 hb3 hs1 hs2 HX0a HX0b
 go_wp2_with fail
 rw [<- HX0c.out]
 clear HX0c
 clear HX0c
 refine (table_two (w:=X0c) (ga:=w.heap.size+2) (g0:=w.heap.size) (g1:=w.heap.size+1) HP2.out HP0.out HP1.out (by decide) (by decide) (by decide) (by decide)).mono ?_
 rintro _ M0 ⟨s,A,n,c,G,r,k,rfl,hoz,hom,hb⟩
 have HZM:=ah (cJ hoz hom)
 have HBM0:=tM HBX0c hb
 clear hoz hom hb HP0 HP1 HP2
 go_wp2_with fail
 refine (factors_A HZM.out.1 HZM.out.2).mono ?_
 rintro _ F0 ⟨A0,n0,c0,rfl,ho,hb⟩
 obtain rfl:n0=2:=ho.len.symm
 have HBF0:=tM HBM0 hb
 have HL0:=ah (show ∀ W,Below F0.heap.size F0 W->OwPs W M0.heap.size A0 2 c0 [xA.a,xA.d] from fun W hb=>ho.next hb)
 clear ho hb HZM
 obtain ⟨X1a,HX1a⟩:∃ W,W=F0.alloc (.cells #[.int .i64 2,.int .i64 0] 2):=⟨_,rfl⟩
 obtain ⟨X1b,HX1b⟩:∃ W,W=X1a.alloc (.cells #[.int .i64 0,.int .i64 3] 2):=⟨_,rfl⟩
 have hs1:X1a.heap.size=F0.heap.size+1:=by rw [HX1a];simp
 have hs2:X1b.heap.size=F0.heap.size+2:=by rw [HX1b,World.size_alloc,hs1]
 obtain ⟨X1c,HX1c⟩:∃ W,W=X1b.alloc (.cells #[.slice (some ⟨F0.heap.size,0,none⟩) 2 2,.slice (some ⟨F0.heap.size+1,0,none⟩) 2 2] 97):=⟨_,rfl⟩
 have hb1:Below F0.heap.size F0 X1a:=by rw [HX1a];exact bA
 have hb2:Below X1a.heap.size X1a X1b:=by rw [HX1b];exact bA
 have hb3:Below X1b.heap.size X1b X1c:=by rw [HX1c];exact bA
 have HP0:=ah (show PX X1c F0.heap.size 2 [.int .i64 2,.int .i64 0] by
  have h1:PX X1a F0.heap.size 2 [.int .i64 2,.int .i64 0]:=by rw [HX1a];exact PX.new F0 _ [.int .i64 2,.int .i64 0]
  exact (h1.next hb2).next hb3)
 have HP1:=ah (show PX X1c (F0.heap.size+1) 2 [.int .i64 0,.int .i64 3] by
  have h1:PX X1b X1a.heap.size 2 [.int .i64 0,.int .i64 3]:=by rw [HX1b];exact PX.new X1a _ [.int .i64 0,.int .i64 3]
  rw [hs1] at h1
  exact h1.next hb3)
 have HP2:=ah (show PX X1c (F0.heap.size+2) 97 [.slice (some ⟨F0.heap.size,0,none⟩) 2 2,.slice (some ⟨F0.heap.size+1,0,none⟩) 2 2] by
  rw [HX1c,<- hs2]
  exact PX.new X1b _ [.slice (some ⟨F0.heap.size,0,none⟩) 2 2,.slice (some ⟨F0.heap.size+1,0,none⟩) 2 2])
 have HQX:=ah (show Below F0.heap.size F0 X1c from hb1.trans ((hb2.trans (hb3.mono hb2.size)).mono hb1.size))
 have HBX1c:=ah (show Below w.heap.size w X1c from HBF0.out.trans ((hb1.trans ((hb2.trans (hb3.mono hb2.size)).mono hb1.size)).mono HBF0.out.size))
 rw [HX1b,HX1a] at HX1c
 have HX1c:=ah HX1c
 clear hb1 hb2 hb3 hs1 hs2 HX1a HX1b
 go_wp2_with fail
 rw [<- HX1c.out]
 clear HX1c
 clear HX1c
 refine (table_two (w:=X1c) (ga:=F0.heap.size+2) (g0:=F0.heap.size) (g1:=F0.heap.size+1) HP2.out HP0.out HP1.out (by decide) (by decide) (by decide) (by decide)).mono ?_
 rintro _ M1 ⟨s,A,n,c,G,r,k,rfl,hoz,hom,hb⟩
 have HZM:=ah (cJ hoz hom)
 have HBQ:=ah (show Below F0.heap.size F0 M1 from HQX.out.trans (hb.mono HQX.out.size))
 have HBM1:=tM HBX1c hb
 clear hoz hom hb HP0 HP1 HP2
 go_wp2_with fail
 refine (factors_B HZM.out.1 HZM.out.2).mono ?_
 rintro _ F1 ⟨A1,n1,c1,rfl,ho,hb⟩
 obtain rfl:n1=1:=ho.len.symm
 have HBF1:=tM HBM1 hb
 have HL1:=ah (show ∀ W,Below F1.heap.size F1 W->OwPs W M1.heap.size A1 1 c1 [xE.d] from fun W hb=>ho.next hb)
 have HBF01:=ah (show Below F0.heap.size F0 F1 from (HBQ.out).trans (hb.mono HBQ.out.size))
 clear ho hb HZM
 obtain ⟨ga,P0,m0,l0,L0,rfl,_,j0,hq0,hL0⟩:=opl_at (HL0.out _ HBF01.out) (show 0 < 2 by decide)
 obtain ⟨ga',P1,m1,l1,L1,e,_,j1,hq1,hL1⟩:=opl_at (HL0.out _ HBF01.out) (show 1 < 2 by decide)
 injection e with e
 injection e with e
 subst e
 obtain ⟨gb,P2,m2,l2,L2,rfl,_,j2,hq2,hL2⟩:=opl_at (HL1.out F1 bR) (show 0 < 1 by decide)
 obtain rfl:L0=xA.a:=by simpa using hL0.out.symm
 obtain rfl:L1=xA.d:=by simpa using hL1.out.symm
 obtain rfl:L2=xE.d:=by simpa using hL2.out.symm
 have hga:ga < F1.heap.size:=World.block_lt_of_cell? F1 ⟨ga,0,none⟩ j0
 have hgb:gb < F1.heap.size:=World.block_lt_of_cell? F1 ⟨gb,0,none⟩ j2
 have HC:=ah (show ∀ W,Below F1.heap.size F1 W->W.cell? ⟨ga,0,none⟩=some (.slice P0 m0 l0)/\W.cell? ⟨ga,1,none⟩=some (.slice P1 m1 l1)/\W.cell? ⟨gb,0,none⟩=some (.slice P2 m2 l2) from fun W hb=>⟨(hb.cell (p:=⟨ga,0,none⟩) hga).trans j0,(hb.cell (p:=⟨ga,1,none⟩) hga).trans j1,(hb.cell (p:=⟨gb,0,none⟩) hgb).trans j2⟩)
 have HO:=ah (show ∀ W,Below F1.heap.size F1 W->OwQp W M0.heap.size P0 m0 l0 xA.a/\OwQp W M0.heap.size P1 m1 l1 xA.d/\OwQp W M1.heap.size P2 m2 l2 xE.d from fun W hb=>⟨hq0.next hb,hq1.next hb,hq2.next hb⟩)
 clear hq0 hq1 hq2 hL0 hL1 hL2 hga hgb j0 j1 j2
 go_upto_region 3 with fail
 have HBD:=ah (Below.refl F1.heap.size F1).drew
 have HBA:=ah (show ∀ o,Below F1.heap.size F1 (F1.alloc o).drew from fun o=>((Below.refl F1.heap.size F1).alloc nR _).drew)
 have HRK:=ah (show RdK (F1.alloc (.cells #[.int .i64 (-2),.int .i64 1] 2)).drew (F1.alloc (.cells #[.int .i64 (-2),.int .i64 1] 2)).drew.heap.size (some ⟨F1.heap.size,0,none⟩) 2 2 [-2,1] from (RdK.new F1 _ [-2,1] (by decide) (by decide) rfl rfl).next bR.drew)
 have HRA:=ah (show ∀ V:World,RdK (V.alloc (.cells #[.int .i64 (-2),.int .i64 1] 2)) (V.alloc (.cells #[.int .i64 (-2),.int .i64 1] 2)).heap.size (some ⟨V.heap.size,0,none⟩) 2 2 [-2,1] from fun V=>RdK.new V _ [-2,1] (by decide) (by decide) rfl rfl)
 have HRB:=ah (show ∀ V:World,RdK (V.alloc (.cells #[.int .i64 6,.int .i64 (-5),.int .i64 1] 2)) (V.alloc (.cells #[.int .i64 6,.int .i64 (-5),.int .i64 1] 2)).heap.size (some ⟨V.heap.size,0,none⟩) 3 3 [6,-5,1] from fun V=>RdK.new V _ [6,-5,1] (by decide) (by decide) rfl rfl)
 have HAL:=ah (show ∀ (V:World) o,Below F1.heap.size F1 V->Below F1.heap.size F1 (V.alloc o) from fun V o hb=>hb.alloc hb.size o)
 have E1:=ah (show xA.a.map ofQ=(([-2,1]:List Int).map fun z:Int=>(z:Rat)).map ofQ from by decide +kernel)
 have E2:=ah (show xA.d.map ofQ=(([-2,1]:List Int).map fun z:Int=>(z:Rat)).map ofQ from by decide +kernel)
 have E3:=ah (show xE.d.map ofQ=(([6,-5,1]:List Int).map fun z:Int=>(z:Rat)).map ofQ from by decide +kernel)
 go_region_held3 (fun W=>W.cell? ⟨ga,0,none⟩=some (.slice P0 m0 l0)/\W.cell? ⟨ga,1,none⟩=some (.slice P1 m1 l1)/\W.cell? ⟨gb,0,none⟩=some (.slice P2 m2 l2))
  (first | exact HC.out _ HBS3.out | exact HC.out _ HBP3.out | exact HC.out _ (HAL.out _ _ HBS2.out) | exact HC.out _ HBS2.out | exact HC.out _ HBP2.out | exact HC.out _ (HAL.out _ _ HBS1.out) | exact HC.out _ HBS1.out | exact HC.out _ HBP1.out | exact HC.out _ (HBA.out _) | exact HC.out _ HBD.out)
  (first
   | (go_at_call 16;refine (num18_any _ _).mono ?_;rintro _ _ ⟨rfl,rfl⟩)
   | (go_at_call 62;have hx:=HBS2.out;clear hx;refine (lpoly18_any (HRB.out _) (by decide)).mono ?_;rintro _ WP3 ⟨B3,d3,f3,M3,rfl,hp,hM,hbp⟩;obtain rfl:=hM.out;have HBP3:Hid (Below F1.heap.size F1 WP3):=ah ((HAL.out _ _ HBS2.out).trans (hbp.mono (HAL.out _ _ HBS2.out).size));have HP3:=ah hp;clear hp hM hbp)
   | (go_at_call 62;have hx:=HBS1.out;clear hx;refine (lpoly18_any (HRA.out _) (by decide)).mono ?_;rintro _ WP2 ⟨B2,d2,f2,M2,rfl,hp,hM,hbp⟩;obtain rfl:=hM.out;have HBP2:Hid (Below F1.heap.size F1 WP2):=ah ((HAL.out _ _ HBS1.out).trans (hbp.mono (HAL.out _ _ HBS1.out).size));have HP2:=ah hp;clear hp hM hbp)
   | (go_at_call 62;refine (lpoly18_any HRK.out (by decide)).mono ?_;rintro _ WP1 ⟨B1,d1,f1,M1',rfl,hp,hM,hbp⟩;obtain rfl:=hM.out;have HBP1:Hid (Below F1.heap.size F1 WP1):=ah ((HBA.out _).trans (hbp.mono (HBA.out _).size));have HP1:=ah hp;clear hp hM hbp)
   | (go_at_call 58;have hx:=HBP3.out;clear hx;refine (same09_any (HO.out _ HBP3.out).2.2.rq HP3.out.rq).mono ?_;rintro _ WS3 ⟨v,rfl,hv,hbs⟩;obtain rfl:v=true:=hv.out.2 E3.out;have HBS3:=tM HBP3 hbs;clear hv hbs)
   | (go_at_call 58;have hx:=HBP2.out;clear hx;refine (same09_any (HO.out _ HBP2.out).2.1.rq HP2.out.rq).mono ?_;rintro _ WS2 ⟨v,rfl,hv,hbs⟩;obtain rfl:v=true:=hv.out.2 E2.out;have HBS2:=tM HBP2 hbs;clear hv hbs)
   | (go_at_call 58;refine (same09_any (HO.out _ HBP1.out).1.rq HP1.out.rq).mono ?_;rintro _ WS1 ⟨v,rfl,hv,hbs⟩;obtain rfl:v=true:=hv.out.2 E1.out;have HBS1:=tM HBP1 hbs;clear hv hbs))
 all_goals
  have HBE:=tM HBF1 HBS3.out
  go_wp2
  go_ret
  exact ⟨rfl,HBE.out⟩
theorem OwZ.words {w:World}{b n c:Nat}{s:Bool}{A:Option Addr}{z:Int}(h:OwZ w b s A n c z):RdU w w.heap.size A n c (Dg.dg z.natAbs):=h.own.rd
theorem fromN_k {LL:List (List Rat)}(h:∀ L ∈ LL,L.length<=24)(hl:LL.length<=24)(hS:∀ L ∈ LL,∀ x ∈ L,Qs 110000000 x):∀ L ∈ fromN LL,L.length<=24/\∀ z ∈ L,Zz.zl z<=70000000000:=fun L hL=>by
 obtain ⟨M,hM,rfl⟩:=List.mem_map.1 hL
 refine ⟨by rw [List.length_map];exact h M hM,fun z hz=>?_⟩
 have e1:=fromN_sz hS _ (List.mem_map.2 ⟨M,hM,rfl⟩) z hz
 have e2:=flatten_le (K:=24) LL h
 have e3:LL.length*24<=24*24:=Nat.mul_le_mul_right _ hl
 have e4:LL.flatten.length*110000000<=576*110000000:=Nat.mul_le_mul_right _ (by omega)
 omega
theorem scalars_any {N N' K J:Nat}{A A' A'':Option Addr}{n c n' c' n'' c'':Nat}{s s':Bool}{z d:Int}{PA:List (List (List RawQ))}{w:World}(h:RdRpp w w.heap.size N K J A n c PA)(hz:RdZ w w.heap.size s A' n' c' z)(hd:RdZ w w.heap.size s' A'' n'' c'' d)
  (hn:n<=1048576) (hJ:J<=1048576) (hK:K<=1048576) (hN:N<=1000000000) (h1N:1<=N) (hn':n'<=N') (hn'':n''<=N') (hN':N'<=1048576) (hsz:∀ RR ∈ PA,∀ R ∈ RR,2+(R.length+1)*(N'+(rsz R+1)+1)<=200000000000) :
  Calls Tryz.prog 5 #[.slice A n c,.agg #[.bool s,.slice A' n' c',.bool s',.slice A'' n'' c'']] w (RetYes18 w):=by
 have hl':=nT hz.len hn'
 obtain ⟨W1,HW1⟩:∃ W,W=w.alloc (.cells #[.bool s,.slice A' n' c',.bool s',.slice A'' n'' c''] 47):=⟨_,rfl⟩
 have hb1:Below w.heap.size w W1:=by rw [HW1];exact bA
 have hX:QC W1 w.heap.size s A' n' c' s' A'' n'' c'':=by rw [HW1];exact QC.new w s A' n' c' s' A'' n'' c''
 have HX1:=ah (show ∀ W,Below W1.heap.size W1 W->QC W w.heap.size s A' n' c' s' A'' n'' c'' from fun W hb=>hX.next hb)
 have HB1:=ah hb1
 have HA:=ah (show ∀ W,Below w.heap.size w W->RdRpp W W.heap.size N K J A n c PA/\RdZ W W.heap.size s A' n' c' z/\RdZ W W.heap.size s' A'' n'' c'' d from fun W hb=>⟨h.next hb,hz.next hb,hd.next hb⟩)
 have HSC:=ah (scalar_any (h.next hb1) (hz.next hb1) (hd.next hb1) hn hJ hK hN h1N (nT hn' hN') (nT hn'' hN'))
 have HFI:=ah (show ∀ W,Below w.heap.size w W->Calls Tryz.prog 19 #[.slice A n c] W (RetFv PA W) from fun W hb=>fit18_any (h.next hb) hn hJ hK hN h1N)
 have HQ:=ah (cJ hn' (cJ hn'' (cJ hN' hsz)))
 have HXQ:=ah (show d ≠ 0->Qs 1048576 (Rat.divInt z d) from fun h0=>Qs.divInt h0 (nT hl' hN') (nT hd.len (nT hn'' hN')))
 have HW1:=ah HW1
 have a0:=hX.c0
 have a1:=hX.c1
 have a2:=hX.c2
 have a3:=hX.c3
 rw [HW1.out] at a0 a1 a2 a3
 clear h hz hd hb1 hX hn hJ hK hN h1N hn' hn'' hN' hsz hl'
 go_enter Tryz.func5,Tryz.ntmps5
 go_wp2_with fail
 rw [<- HW1.out]
 clear HW1 a0 a1 a2 a3
 clear HW1
 refine HSC.out.mono ?_
 clear HSC
 intro _ W2 hpost
 rcases hpost with ⟨kk,hk,s2,A2,n2,c2,G2,r2,k2,y2,M2,k3,rfl,ho2,hm2,hv2,hb2⟩ | ⟨hk,s2,A2,n2,c2,G2,r2,k2,y2,M2,k3,rfl,ho2,hm2,hv2,hb2⟩
 ·obtain ⟨rfl,rfl,rfl⟩:=hv2.out
  obtain rfl:n2=0:=by rw [ho2.len,Zz.zl_zero]
  obtain rfl:r2=0:=hm2.len.symm
  obtain ⟨W3,HW3⟩:∃ W,W=W2.alloc (.cells #[.bool s2,.slice A2 0 c2,.slice G2 0 k2] 28):=⟨_,rfl⟩
  have hb3:Below W1.heap.size W1 W3:=by rw [HW3];exact hb2.alloc hb2.size _
  have hM3:MC W3 W2.heap.size s2 A2 0 c2 G2 0 k2:=by rw [HW3];exact MC.new W2 s2 A2 0 c2 G2 0 k2
  have HM3:=ah (show ∀ W,Below W3.heap.size W3 W->MC W W2.heap.size s2 A2 0 c2 G2 0 k2 from fun W hb=>hM3.next hb)
  have HB3:=ah hb3
  have HBW:=tM HB1 hb3
  have HK:=hk
  have HW3:=ah HW3
  clear hk ho2 hm2 hv2 hb2 hb3 hM3
  go_wp2_with fail
  rw [<- HW3.out]
  clear HW3
  clear HW3
  refine (HFI.out W3 HBW.out).mono ?_
  rintro _ W4 ⟨kf,rfl,hf,hb4⟩
  have HF:=hf
  have HB4:=ah hb4
  have HBW4:=tM HBW hb4
  clear hf hb4
  by_cases hkf:kf=0
  ·subst hkf
   obtain ⟨rfl,rfl⟩:d=0/\k3=6:=by
    rcases HK.out.2 with ⟨h1,h2⟩ | ⟨_,h2 | h2⟩
    ·exact absurd (h1.uniq HF.out) h2
    ·exact h2
    ·exact absurd h2.2 HK.out.1
   have hq4:=HX1.out W4 (HB3.out.trans (HB4.out.mono HB3.out.size))
   have a0:=hq4.c0
   have a1:=hq4.c1
   have a2:=hq4.c2
   have a3:=hq4.c3
   clear hq4
   go_wp2_with fail
   clear a0 a1 a2 a3
   refine (rQMay_any (HA.out W4 HBW4.out).2.2 (by have:=HQ.out;omega)).mono ?_
   rintro _ W5 ⟨v,rfl,hv,hb5⟩
   obtain rfl:v=false:=by
    cases v with
    | false=>rfl
    | true=>exact absurd rfl (hv.out.1 rfl)
   have hm5:=HM3.out W5 (HB4.out.trans (hb5.mono HB4.out.size))
   have HBW5:=tM HBW4 hb5
   have m1:=hm5.c1
   have m2:=hm5.c2
   clear hv hb5 hm5
   go_wp2_with fail
   refine (num18_any 6 W5).mono ?_
   rintro _ W6 ⟨rfl,h1⟩
   rw [h1]
   clear h1
   go_wp2_with fail
   refine (awake_any W5).mono ?_
   rintro _ W7 ⟨rfl,hb7⟩
   have HFB:=tM HBW5 hb7
   clear hb7 m1 m2
   go_wp2
   go_ret
   exact ⟨rfl,HFB.out⟩
  ·obtain rfl:k3=kf:=by
    rcases HK.out.2 with ⟨h1,_⟩ | ⟨h1,_⟩
    ·exact h1.uniq HF.out
    ·exact absurd (HF.out.uniq h1) hkf
   have hkb:(k3 == 0)=false:=by simp;exact hkf
   have hm4:=HM3.out W4 HB4.out
   have m1:=hm4.c1
   have m2:=hm4.c2
   clear hm4
   go_wp2_with fail
   refine (num18_any _ W4).mono ?_
   rintro _ W6 ⟨rfl,h1⟩
   rw [h1]
   clear h1
   go_wp2_with fail
   refine (awake_any W4).mono ?_
   rintro _ W7 ⟨rfl,hb7⟩
   have HFB:=tM HBW4 hb7
   clear hb7 m1 m2
   go_wp2
   go_ret
   exact ⟨rfl,HFB.out⟩
 ·obtain ⟨hy2,hM2,rfl⟩:=hv2.out
  have HV0:=ah (show FitV PA 0/\d ≠ 0 by
   rcases hk.out with ⟨_,h2⟩ | ⟨h1,h2 | h2⟩
   ·exact absurd rfl h2
   ·exact absurd h2.2 (by decide)
   ·exact ⟨h1,h2.1⟩)
  obtain ⟨W3,HW3⟩:∃ W,W=W2.alloc (.cells #[.bool s2,.slice A2 n2 c2,.slice G2 r2 k2] 28):=⟨_,rfl⟩
  have hb23:Below W2.heap.size W2 W3:=by rw [HW3];exact bA
  have hb3:Below W1.heap.size W1 W3:=hb2.trans (hb23.mono hb2.size)
  have hM3:MC W3 W2.heap.size s2 A2 n2 c2 G2 r2 k2:=by rw [HW3];exact MC.new W2 s2 A2 n2 c2 G2 r2 k2
  have HM3:=ah (show ∀ W,Below W3.heap.size W3 W->MC W W2.heap.size s2 A2 n2 c2 G2 r2 k2/\OwZ W W1.heap.size s2 A2 n2 c2 y2/\OwMs W W1.heap.size G2 r2 k2 M2 from fun W hb=>⟨hM3.next hb,(ho2.next hb23).next hb,(hm2.next hb23).next hb⟩)
  have HB3:=ah hb3
  have HBW:=tM HB1 hb3
  have HYM:=ah (cJ hy2 hM2)
  have HW3:=ah HW3
  clear hk ho2 hm2 hv2 hb2 hb3 hM3 hb23 hy2 hM2
  go_wp2_with fail
  rw [<- HW3.out]
  clear HW3
  clear HW3
  refine (HFI.out W3 HBW.out).mono ?_
  rintro _ W4 ⟨kf,rfl,hf,hb4⟩
  obtain rfl:kf=0:=hf.out.uniq HV0.out.1
  have HB4:=ah hb4
  have HBW4:=tM HBW hb4
  have hq4:=HX1.out W4 (HB3.out.trans (hb4.mono HB3.out.size))
  have a0:=hq4.c0
  have a1:=hq4.c1
  have a2:=hq4.c2
  have a3:=hq4.c3
  clear hf hb4 hq4
  go_wp2_with fail
  clear a0 a1 a2 a3
  refine (rQMay_any (HA.out W4 HBW4.out).2.2 (by have:=HQ.out;omega)).mono ?_
  rintro _ W5 ⟨v,rfl,hv,hb5⟩
  obtain rfl:v=true:=hv.out.2 HV0.out.2
  have HB5:=tM HB4 hb5
  have HBW5:=tM HBW4 hb5
  have HBX5:=tM HB3 HB5.out
  have HCE:=ah (show ∀ W,Below W5.heap.size W5 W->(W.cell? ⟨w.heap.size,0,none⟩=some (.bool s)/\W.cell? ⟨w.heap.size,1,none⟩=some (.slice A' n' c')/\W.cell? ⟨w.heap.size,2,none⟩=some (.bool s')/\W.cell? ⟨w.heap.size,3,none⟩=some (.slice A'' n'' c''))/\W.cell? ⟨W2.heap.size,0,none⟩=some (.bool s2)/\W.cell? ⟨W2.heap.size,1,none⟩=some (.slice A2 n2 c2)/\W.cell? ⟨W2.heap.size,2,none⟩=some (.slice G2 r2 k2) from fun W hb=>by
   have h1:=HX1.out W (HBX5.out.trans (hb.mono HBX5.out.size))
   have h2:=(HM3.out W (HB5.out.trans (hb.mono HB5.out.size))).1
   exact ⟨⟨h1.c0,h1.c1,h1.c2,h1.c3⟩,h2.c0,h2.c1,h2.c2⟩)
  have HOO:=ah (show ∀ W,Below W5.heap.size W5 W->OwZ W W1.heap.size s2 A2 n2 c2 y2/\OwMs W W1.heap.size G2 r2 k2 M2/\RdRpp W W.heap.size N K J A n c PA/\RdZ W W.heap.size s A' n' c' z/\RdZ W W.heap.size s' A'' n'' c'' d from fun W hb=>by
   have h2:=(HM3.out W (HB5.out.trans (hb.mono HB5.out.size))).2
   exact ⟨h2.1,h2.2,HA.out W (HBW5.out.trans (hb.mono HBW5.out.size))⟩)
  have HKS:=ah (fromN_k (LL:=scT (nn PA) (Rat.divInt z d)) (fun L hL=>by
   rw [scT_len _ HV0.out.1.zero.2.1 L hL]
   have h1:=HV0.out.1.zero.2.2
   unfold Bigg at h1
   omega) (by
   unfold scT
   rw [List.length_map]
   have h1:=HV0.out.1.zero.2.2
   unfold Bigg at h1
   omega) (scT_qs (fit_sm HV0.out.1) (HXQ.out HV0.out.2)))
  have HD:=ah (Below.refl W5.heap.size W5).drew
  clear hv hb5
  have HR2:=ah (show r2<=1048576 by
   have h1:=(HOO.out W5 bR).2.1.len
   rw [HYM.out.2] at h1
   rw [<- h1]
   unfold fromN
   rw [List.length_map]
   unfold scT
   rw [List.length_map]
   have h1:=HV0.out.1.zero.2.2
   unfold Bigg at h1
   omega)
  obtain ⟨⟨a0,a1,a2,a3⟩,m0,m1,m2⟩:=HCE.out W5 bR
  go_upto_region 7 with fail
  go_region_held3 (fun W=>(W.cell? ⟨w.heap.size,0,none⟩=some (.bool s)/\W.cell? ⟨w.heap.size,1,none⟩=some (.slice A' n' c')/\W.cell? ⟨w.heap.size,2,none⟩=some (.bool s')/\W.cell? ⟨w.heap.size,3,none⟩=some (.slice A'' n'' c''))/\W.cell? ⟨W2.heap.size,0,none⟩=some (.bool s2)/\W.cell? ⟨W2.heap.size,1,none⟩=some (.slice A2 n2 c2)/\W.cell? ⟨W2.heap.size,2,none⟩=some (.slice G2 r2 k2))
   (first | exact HCE.out _ HB9.out | exact HCE.out _ HB8.out | exact HCE.out _ HB7.out | exact HCE.out _ HD.out)
   (first
    | (go_at_call 17;refine (awake_any _).mono ?_;rintro _ W9 ⟨rfl,hb9⟩;have HB9:=tM HB8 hb9;clear hb9)
    | (go_at_call 10;refine (rMSame_any (HOO.out _ HB7.out).1.words ((HOO.out _ HB7.out).2.1.rd (by rw [HYM.out.2];exact HKS.out)) ho7.words (hm7.rd (by rw [hv7.out.2];exact HKS.out)) HR2.out).mono ?_;rintro _ W8 ⟨v8,rfl,hv8,hb8⟩;have HB8:=tM HB7 hb8;obtain rfl:v8=true:=hv8.out.2 ⟨by rw [(HOO.out _ HB7.out).1.sgn,ho7.sgn,HYM.out.1,hv7.out.1],by rw [HYM.out.2,hv7.out.2]⟩;clear hb8 hv8)
    | (go_at_call 21;refine (rScalar_any (HOO.out _ HD.out).2.2.1 (HOO.out _ HD.out).2.2.2.1 (HOO.out _ HD.out).2.2.2.2 HV0.out.1 HV0.out.2 HQ.out.1 HQ.out.2.1 HQ.out.2.2.1 HQ.out.2.2.2).mono ?_;rintro _ W7 ⟨s7,A7,n7,c7,G7,r7,k7,y7,M7,rfl,ho7,hm7,hv7,hb7⟩;have HB7:=tM HD hb7;clear hb7)
    | (go_at_call 16;refine (num18_any 0 _).mono ?_;rintro _ _ ⟨rfl,rfl⟩))
  all_goals
   have HFB:=tM HBW5 HB9.out
   clear a0 a1 a2 a3 m0 m1 m2 ho7 hm7 hv7
   go_wp2
   go_ret
   exact ⟨rfl,HFB.out⟩
theorem mul_cap {L V:Nat}(h:5*L+V<=1048578):2+(L+1)*V<=200000000000:=by
 rcases Nat.lt_or_ge L 104858 with h1 | h1
 ·have h2:(L+1)*V<=104858*1048578:=Nat.mul_le_mul (by omega) (by omega)
  omega
 ·have h2:(L+1)*V<=209716*524288:=Nat.mul_le_mul (by omega) (by omega)
  omega
theorem walk_SmithScalars {Ba:Nat}{A A' A'':Option Addr}{n c n' c' n'' c'':Nat}{s s':Bool}{z d:Int}{PA:List (List (List RawQ))}{w:World}(h:RdRpp w w.heap.size 1048576 1048576 1048576 A n c PA)(hn:n<=1048576)(hJ:∀ RR ∈ PA,∀ R ∈ RR,5*R.length+rsz R<=Ba)
  (hz:RdZ w w.heap.size s A' n' c' z) (hd:RdZ w w.heap.size s' A'' n'' c'' d) (ht:Ba+(n'+n'')<=1048576) :
  Calls Tryz.prog 5 #[.slice A n c,.agg #[.bool s,.slice A' n' c',.bool s',.slice A'' n'' c'']] w (RetYes18 w) :=
 scalars_any (N':=n'+n'') h hz hd hn nR nR (by decide) (by decide) (by omega) (by omega) (by omega) fun RR h1 R h2=>mul_cap (by have:=hJ RR h1 R h2;omega)
end Go.Proofs.YtjnklbfhelbjgaaGreat
