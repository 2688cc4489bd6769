/- Sr28. -/
import Derived.Test.YtjnklbfhelbjgaaGreatSr25
import Derived.Test.YtjnklbfhelbjgaaGreatSr27
import Derived.Test.YtjnklbfhelbjgaaGreatSr11
import Derived.Test.YtjnklbfhelbjgaaGreatSr26
import Derived.Test.YtjnklbfhelbjgaaGreatSr04
import Derived.Test.YtjnklbfhelbjgaaGreatSr05
import Derived.Handy
import Derived.Test.YtjnklbfhelbjgaaGreatSr00
set_option maxRecDepth 100000
set_option maxHeartbeats 32000000
set_option linter.all false
namespace Go.Proofs.YtjnklbfhelbjgaaGreat
open Go.RowKit Go.IntWalk
attribute [local go_sem ↓] Go.wp_at_zero Go.wp_at_succ
def RetFa (LL:List (List Rat))(w:World)(e:Ending)(w':World):Prop:=∃ (A:Option Addr) (n c:Nat),e=.returned (.tuple #[.slice A n c,.int .i64 0])/\OwPs w' w.heap.size A n c LL/\Below w.heap.size w w'
theorem factors_A {b:Nat}{s:Bool}{A G:Option Addr}{n c r k:Nat}{w:World}(h:OwZ w b s A n c 1)(h':OwMs w b G r k [[2,0],[0,2]]) :
  Calls Tryz.prog 60 #[.agg #[.bool s,.slice A n c,.slice G r k]] w (RetFa [xA.a,xA.d] w):=by
 obtain ⟨i1,hjf,hy0,hy1,hy2⟩:=info_parts infoPoly
 obtain ⟨W1,HW1⟩:∃ W,W=w.alloc (.cells #[.bool s,.slice A n c,.slice G r k] 28):=⟨_,rfl⟩
 have hb1:Below w.heap.size w W1:=by rw [HW1];exact bA
 have HI:=ah (cJ (h.next hb1) (h'.next hb1))
 have HB1:=ah hb1
 have HW1:=ah HW1
 clear h h' hb1
 go_enter Tryz.func60,Tryz.ntmps60
 go_wp2_with fail
 rw [<- HW1.out]
 clear HW1
 clear HW1
 refine (char_two HI.out.1 HI.out.2 (by decide) (by decide) (by decide) (by decide) (by decide +kernel)).mono ?_
 rintro _ W2 ⟨t,rfl,ht,hb2⟩
 have HT:=ah (show Tb W2 W1.heap.size t xA from by
  rw [show xA=⟨Pq.nrm [-((2:Int):Rat),1],Pq.nrm [-((0:Int):Rat)],Pq.nrm [-((0:Int):Rat)],Pq.nrm [-((2:Int):Rat),1]⟩ by decide +kernel]
  exact ht)
 have HB2:=ah (cJ hb2.size (HB1.out.trans (hb2.mono HB1.out.size)))
 clear ht hb2
 go_wp2_with fail
 refine (diagonal_any (E:=xA) HT.out HB2.out.1 (by decide +kernel) (by decide +kernel) run_A).mono ?_
 rintro _ W3 ⟨A3,n3,c3,rfl,ho3,hb3⟩
 obtain rfl:n3=2:=ho3.len.symm
 have HO:=ah (show ∀ W,Below W3.heap.size W3 W->OwPs W W1.heap.size A3 2 c3 [xA.a,xA.d] from fun W hb=>ho3.next hb)
 have HB3:=ah (show Below w.heap.size w W3/\W1.heap.size<=W3.heap.size from ⟨HB2.out.2.trans (hb3.mono HB1.out.size),nT HB2.out.1 hb3.size⟩)
 have HX0:=ah (Below.refl W3.heap.size W3)
 clear ho3 hb3
 go_wp2_with fail
 refine wp_loop_rounds 3 ?_
 rw [rounds_succ]
 obtain ⟨g0,B0,m0,l0,L0,hA0,_,k0,hq0,hL0⟩:=opl_at (HO.out _ HX0.out) (show 0 < 2 by decide)
 subst hA0
 obtain rfl:L0=xA.a:=by simpa using hL0.out.symm
 obtain rfl:m0=2:=by rw [<- hq0.len];rfl
 have HQ0:=ah hq0
 clear hq0 hL0
 go_wp2_with fail
 refine (deg_any (by decide)).mono ?_
 rintro _ Wd ⟨rfl,hwd⟩
 rw [hwd]
 clear hwd
 obtain ⟨EE,hE,hEl,hEn⟩:=(OwPs.nil W3 W1.heap.size)
 have HEE:=ah (cJ hE (cJ hEl hEn))
 clear hE hEl hEn
 go_wp2_with (at_builtin;refine wpList_append_own _ rfl _ _ 30 rfl W1.heap.size 73 i1 (.slice none 0 0) 1 24 Tryz.underlying30 hjf hy0 hy1 hy2 rfl (by decide) _ _ _ rfl (HEE.out.1.alloc _) ⟨W3.heap.size,0,none⟩ 1 1 [.slice B0 2 l0] rfl rfl (tcell_new W3 (.slice B0 2 l0) 73) (by simp [Value.oneCell']) (by decide) (by decide) (by have h1:=HB3.out.2;have h2:=HX0.out.size;simp;omega) ?_;intro v' Z0 hown' hgrow _)
 have hba:Below W3.heap.size W3 (W3.alloc (.cells #[.slice B0 2 l0] 73)):=bA
 obtain ⟨A50,c50,rfl,ho5⟩:=ps_more (e:=(B0,2,l0)) HQ0.out rfl (HEE.out.1.alloc _) HEE.out.2.1 (HEE.out.2.2.next hba) hown' hgrow
 have HBZ0:=ah (show Below w.heap.size w Z0 from by
  have h0:=HB3.out.1.trans (HX0.out.mono (nT HB1.out.size HB3.out.2))
  exact (h0.alloc h0.size (.cells #[.slice B0 2 l0] 73)).grown hgrow (by have h1:=h0.size;simp;omega) (fun k hk=>nT HB1.out.size (own_block HEE.out.1 k hk)))
 have HX1:=ah (HX0.out.trans ((hba.trans (bR.grown hgrow (by simp) (fun k hk=>by cases hk)))))
 have HR:=ah ho5
 clear hown' hgrow hba ho5 HEE k0
 go_wp2_with fail
 rw [rounds_succ]
 obtain ⟨g1,B1,m1,l1,L1,hA1,_,k1,hq1,hL1⟩:=opl_at (HO.out _ HX1.out) (show 1 < 2 by decide)
 injection hA1 with hA1;injection hA1 with hA1;subst hA1
 obtain rfl:L1=xA.d:=by simpa using hL1.out.symm
 obtain rfl:m1=2:=by rw [<- hq1.len];rfl
 have HQ1:=ah hq1
 clear hq1 hL1
 go_wp2_with fail
 refine (deg_any (by decide)).mono ?_
 rintro _ Wd ⟨rfl,hwd⟩
 rw [hwd]
 clear hwd
 obtain ⟨EE,hE,hEl,hEn⟩:=HR.out
 have HEE:=ah (cJ hE (cJ hEl hEn))
 clear hE hEl hEn
 go_wp2_with (at_builtin;refine wpList_append_own _ rfl _ _ 30 rfl W1.heap.size 73 i1 (.slice none 0 0) 1 24 Tryz.underlying30 hjf hy0 hy1 hy2 rfl (by decide) _ _ _ rfl (HEE.out.1.alloc _) ⟨Z0.heap.size,0,none⟩ 1 1 [.slice B1 2 l1] rfl rfl (tcell_new Z0 (.slice B1 2 l1) 73) (by simp [Value.oneCell']) (by decide) (by decide) (by have h1:=HB3.out.2;have h2:=HX1.out.size;simp;omega) ?_;intro v' Z1 hown' hgrow _)
 have hba:Below Z0.heap.size Z0 (Z0.alloc (.cells #[.slice B1 2 l1] 73)):=bA
 obtain ⟨A51,c51,rfl,ho5⟩:=ps_more (e:=(B1,2,l1)) HQ1.out rfl (HEE.out.1.alloc _) HEE.out.2.1 (HEE.out.2.2.next hba) hown' hgrow
 have HBZ1:=ah (show Below w.heap.size w Z1 from by
  have h0:=HBZ0.out
  exact (h0.alloc h0.size (.cells #[.slice B1 2 l1] 73)).grown hgrow (by have h1:=h0.size;simp;omega) (fun k hk=>nT HB1.out.size (own_block HEE.out.1 k hk)))
 have HR:=ah ho5
 clear hown' hgrow hba ho5 HEE k1
 go_wp2_with fail
 rw [rounds_succ]
 go_wp2
 go_ret2
 exact ⟨_,_,_,rfl,HR.out.base HB1.out.size,HBZ1.out⟩
theorem factors_B {b:Nat}{s:Bool}{A G:Option Addr}{n c r k:Nat}{w:World}(h:OwZ w b s A n c 1)(h':OwMs w b G r k [[2,0],[0,3]]) :
  Calls Tryz.prog 60 #[.agg #[.bool s,.slice A n c,.slice G r k]] w (RetFa [xE.d] w):=by
 obtain ⟨i1,hjf,hy0,hy1,hy2⟩:=info_parts infoPoly
 obtain ⟨W1,HW1⟩:∃ W,W=w.alloc (.cells #[.bool s,.slice A n c,.slice G r k] 28):=⟨_,rfl⟩
 have hb1:Below w.heap.size w W1:=by rw [HW1];exact bA
 have HI:=ah (cJ (h.next hb1) (h'.next hb1))
 have HB1:=ah hb1
 have HW1:=ah HW1
 clear h h' hb1
 go_enter Tryz.func60,Tryz.ntmps60
 go_wp2_with fail
 rw [<- HW1.out]
 clear HW1
 clear HW1
 refine (char_two HI.out.1 HI.out.2 (by decide) (by decide) (by decide) (by decide) (by decide +kernel)).mono ?_
 rintro _ W2 ⟨t,rfl,ht,hb2⟩
 have HT:=ah (show Tb W2 W1.heap.size t xB from by
  rw [show xB=⟨Pq.nrm [-((2:Int):Rat),1],Pq.nrm [-((0:Int):Rat)],Pq.nrm [-((0:Int):Rat)],Pq.nrm [-((3:Int):Rat),1]⟩ by decide +kernel]
  exact ht)
 have HB2:=ah (cJ hb2.size (HB1.out.trans (hb2.mono HB1.out.size)))
 clear ht hb2
 go_wp2_with fail
 refine (diagonal_any (E:=xE) HT.out HB2.out.1 (by decide +kernel) (by decide +kernel) run_B).mono ?_
 rintro _ W3 ⟨A3,n3,c3,rfl,ho3,hb3⟩
 obtain rfl:n3=2:=ho3.len.symm
 have HO:=ah (show ∀ W,Below W3.heap.size W3 W->OwPs W W1.heap.size A3 2 c3 [xE.a,xE.d] from fun W hb=>ho3.next hb)
 have HB3:=ah (show Below w.heap.size w W3/\W1.heap.size<=W3.heap.size from ⟨HB2.out.2.trans (hb3.mono HB1.out.size),nT HB2.out.1 hb3.size⟩)
 have HX0:=ah (Below.refl W3.heap.size W3)
 clear ho3 hb3
 go_wp2_with fail
 refine wp_loop_rounds 3 ?_
 rw [rounds_succ]
 obtain ⟨g0,B0,m0,l0,L0,hA0,_,k0,hq0,hL0⟩:=opl_at (HO.out _ HX0.out) (show 0 < 2 by decide)
 subst hA0
 obtain rfl:L0=xE.a:=by simpa using hL0.out.symm
 obtain rfl:m0=1:=by rw [<- hq0.len];rfl
 have HQ0:=ah hq0
 clear hq0 hL0
 go_wp2_with fail
 refine (deg_any (by decide)).mono ?_
 rintro _ Wd ⟨rfl,hwd⟩
 rw [hwd]
 clear hwd
 clear k0
 go_wp2_with fail
 rw [rounds_succ]
 obtain ⟨g1,B1,m1,l1,L1,hA1,_,k1,hq1,hL1⟩:=opl_at (HO.out _ HX0.out) (show 1 < 2 by decide)
 injection hA1 with hA1;injection hA1 with hA1;subst hA1
 obtain rfl:L1=xE.d:=by simpa using hL1.out.symm
 obtain rfl:m1=3:=by rw [<- hq1.len];rfl
 have HQ1:=ah hq1
 clear hq1 hL1
 go_wp2_with fail
 refine (deg_any (by decide)).mono ?_
 rintro _ Wd ⟨rfl,hwd⟩
 rw [hwd]
 clear hwd
 obtain ⟨EE,hE,hEl,hEn⟩:=(OwPs.nil W3 W1.heap.size)
 have HEE:=ah (cJ hE (cJ hEl hEn))
 clear hE hEl hEn
 go_wp2_with (at_builtin;refine wpList_append_own _ rfl _ _ 30 rfl W1.heap.size 73 i1 (.slice none 0 0) 1 24 Tryz.underlying30 hjf hy0 hy1 hy2 rfl (by decide) _ _ _ rfl (HEE.out.1.alloc _) ⟨W3.heap.size,0,none⟩ 1 1 [.slice B1 3 l1] rfl rfl (tcell_new W3 (.slice B1 3 l1) 73) (by simp [Value.oneCell']) (by decide) (by decide) (by have h1:=HB3.out.2;have h2:=HX0.out.size;simp;omega) ?_;intro v' Z1 hown' hgrow _)
 have hba:Below W3.heap.size W3 (W3.alloc (.cells #[.slice B1 3 l1] 73)):=bA
 obtain ⟨A51,c51,rfl,ho5⟩:=ps_more (e:=(B1,3,l1)) HQ1.out rfl (HEE.out.1.alloc _) HEE.out.2.1 (HEE.out.2.2.next hba) hown' hgrow
 have HBZ1:=ah (show Below w.heap.size w Z1 from by
  have h0:=HB3.out.1.trans (HX0.out.mono (nT HB1.out.size HB3.out.2))
  exact (h0.alloc h0.size (.cells #[.slice B1 3 l1] 73)).grown hgrow (by have h1:=h0.size;simp;omega) (fun k hk=>nT HB1.out.size (own_block HEE.out.1 k hk)))
 have HR:=ah ho5
 clear hown' hgrow hba ho5 HEE k1
 go_wp2_with fail
 rw [rounds_succ]
 go_wp2
 go_ret2
 exact ⟨_,_,_,rfl,HR.out.base HB1.out.size,HBZ1.out⟩
def RetTa (LL:List (List Int))(w:World)(e:Ending)(w':World):Prop :=
 ∃ (s:Bool) (A:Option Addr) (n c:Nat) (G:Option Addr) (r k:Nat),e=.returned (.agg #[.bool s,.slice A n c,.slice G r k])/\OwZ w' w.heap.size s A n c 1/\OwMs w' w.heap.size G r k LL/\Below w.heap.size w w'
theorem table_two {ga ca g0 c0 g1 c1:Nat}{T T0 T1:TypeId}{z0 z1 z2 z3:Int}{w:World}(ha:PX w ga T [.slice (some ⟨g0,0,none⟩) 2 c0,.slice (some ⟨g1,0,none⟩) 2 c1])(h0:PX w g0 T0 [.int .i64 z0,.int .i64 z1])(h1:PX w g1 T1 [.int .i64 z2,.int .i64 z3])
  (b0:-1000<=z0/\z0<=1000) (b1:-1000<=z1/\z1<=1000) (b2:-1000<=z2/\z2<=1000) (b3:-1000<=z3/\z3<=1000) :
  Calls Tryz.prog 61 #[.slice (some ⟨ga,0,none⟩) 2 ca] w (RetTa [[z0,z1],[z2,z3]] w):=by
 obtain ⟨i0,hi,hz0,hz1,hz2⟩:=info_parts infoZ
 obtain ⟨i1,hjf,hy0,hy1,hy2⟩:=info_parts infoIs
 have HX:=ah (show ∀ W,Below w.heap.size w W->W.cell? ⟨ga,0,none⟩=some (.slice (some ⟨g0,0,none⟩) 2 c0)/\W.cell? ⟨ga,1,none⟩=some (.slice (some ⟨g1,0,none⟩) 2 c1)/\W.cell? ⟨g0,0,none⟩=some (.int .i64 z0)/\W.cell? ⟨g0,1,none⟩=some (.int .i64 z1)/\W.cell? ⟨g1,0,none⟩=some (.int .i64 z2)/\W.cell? ⟨g1,1,none⟩=some (.int .i64 z3) from fun W hb=>⟨(ha.next hb).cell rfl,(ha.next hb).cell rfl,(h0.next hb).cell rfl,(h0.next hb).cell rfl,(h1.next hb).cell rfl,(h1.next hb).cell rfl⟩)
 have HBZ:=ah (cJ b0 (cJ b1 (cJ b2 b3)))
 obtain ⟨W1,HW1⟩:∃ W,W=w.alloc (.cells #[.bool false,.slice none 0 0,.slice none 0 0] 28):=⟨_,rfl⟩
 have hb1:Below w.heap.size w W1:=by rw [HW1];exact bA
 obtain ⟨gq,hgq⟩:∃ g,g=w.heap.size:=⟨_,rfl⟩
 have HQ1:=ah (show MC W1 gq false none 0 0 none 0 0 by rw [HW1,hgq];exact MC.new w false none 0 0 none 0 0)
 have HGQ:=ah (show w.heap.size<=gq by rw [hgq];exact nR)
 have HB1:=ah hb1
 have HW1:=ah HW1
 clear ha h0 h1 hb1 b0 b1 b2 b3
 go_enter Tryz.func61,Tryz.ntmps61
 go_wp2_with fail
 rw [<- HW1.out,<- hgq]
 clear HW1 hgq
 clear HW1
 refine (rIOf_any 1 (by decide) (by decide) W1).mono ?_
 rintro _ W2 ⟨sD,AD,nD,cD,yD,rfl,hoD,hyD,hb2⟩
 obtain rfl:=hyD.out
 obtain ⟨W3,HW3⟩:∃ W,W=W2.alloc (.cells #[.bool sD,.slice AD nD cD,.slice none 0 0] 28):=⟨_,rfl⟩
 have hb3:Below W2.heap.size W2 W3:=by rw [HW3];exact bA
 obtain ⟨gm,hgm⟩:∃ g,g=W2.heap.size:=⟨_,rfl⟩
 have HM3:=ah (show MC W3 gm sD AD nD cD none 0 0 by rw [HW3,hgm];exact MC.new W2 sD AD nD cD none 0 0)
 have HGM:=ah (show W1.heap.size<=gm/\gm < W3.heap.size/\gq ≠ gm from by
  have h1:=hb2.size
  have h2:=HQ1.out.lt
  refine ⟨by rw [hgm];exact h1,HM3.out.lt,by omega⟩)
 have HD3:=ah (hoD.next hb3)
 have HQ3:=ah ((HQ1.out.next hb2).next hb3)
 have HB3:=ah (HB1.out.trans ((hb2.trans (hb3.mono hb2.size)).mono HB1.out.size))
 have HO3:=ah (OwMs.nil W3 W3.heap.size)
 have HBW:=ah (Nat.le_refl W3.heap.size)
 have HW3:=ah HW3
 clear hoD hyD hb2 hb3
 have z0':=(HX.out _ HB3.out).1
 go_wp2_with fail
 rw [<- HW3.out,<- hgm]
 clear HW3 hgm
 clear HW3 z0'
 refine wp_loop_rounds 3 ?_
 rw [rounds_succ]
 have x0:=(HX.out _ HB3.out).1
 go_wp2_with fail
 refine wp_loop_rounds 3 ?_
 have HX00:=ah (Below.refl W3.heap.size W3)
 rw [rounds_succ]
 have y0:=(HX.out _ (HB3.out.trans (HX00.out.mono HB3.out.size))).2.2.1
 go_wp2_with fail
 refine (rIOf_any z0 (by have:=HBZ.out.1;omega) (by have:=HBZ.out.1;omega) W3).mono ?_
 rintro _ P00 ⟨s00,A00,n00,c00,yy,rfl,ho,hy,hbp⟩
 obtain rfl:=hy.out.symm
 obtain ⟨EE,hE,hEl,hEn⟩:=(OwZs.nil P00 W3.heap.size)
 have HEE:=ah (cJ hE (cJ hEl hEn))
 have HOZ:=ah (ho.base (b':=W3.heap.size) HX00.out.size)
 have HPP:=tM HX00 hbp
 clear hE hEl hEn ho hy hbp y0
 go_wp2_with (at_builtin;refine wpList_append_own _ rfl _ _ 65 rfl W3.heap.size 25 i0 (.agg #[.bool false,.slice none 0 0]) 2 32 Tryz.underlying65 hi hz0 hz1 hz2 rfl (by decide) _ _ _ rfl (HEE.out.1.alloc _) ⟨P00.heap.size,0,none⟩ 1 1 [.bool s00,.slice A00 n00 c00] rfl rfl (zcell_new _ _ _ _) (by simp [Value.oneCell']) (by decide) (by decide) (by have h1:=HPP.out.size;simp;omega) ?_;intro v' Z00 hown' hgrow _)
 have hba:Below P00.heap.size P00 (P00.alloc (.cells #[.bool s00,.slice A00 n00 c00] 25)):=bA
 obtain ⟨B00,d00,rfl,hoz⟩:=zs_more (e:=(s00,A00,n00,c00)) HOZ.out rfl (HEE.out.1.alloc _) HEE.out.2.1 HEE.out.2.2 hown' hgrow
 have HX01:=ah ((HPP.out.alloc HPP.out.size (.cells #[.bool s00,.slice A00 n00 c00] 25)).grown hgrow (by have h1:=HPP.out.size;simp;omega) (own_block HEE.out.1))
 have HR0:=ah hoz
 clear hown' hgrow hba hoz HEE HOZ HPP
 go_wp2_with fail
 rw [rounds_succ]
 have y0:=(HX.out _ (HB3.out.trans (HX01.out.mono HB3.out.size))).2.2.2.1
 go_wp2_with fail
 refine (rIOf_any z1 (by have:=HBZ.out.2.1;omega) (by have:=HBZ.out.2.1;omega) Z00).mono ?_
 rintro _ P01 ⟨s01,A01,n01,c01,yy,rfl,ho,hy,hbp⟩
 obtain rfl:=hy.out.symm
 obtain ⟨EE,hE,hEl,hEn⟩:=(HR0.out.next hbp)
 have HEE:=ah (cJ hE (cJ hEl hEn))
 have HOZ:=ah (ho.base (b':=W3.heap.size) HX01.out.size)
 have HPP:=tM HX01 hbp
 clear hE hEl hEn ho hy hbp y0
 go_wp2_with (at_builtin;refine wpList_append_own _ rfl _ _ 65 rfl W3.heap.size 25 i0 (.agg #[.bool false,.slice none 0 0]) 2 32 Tryz.underlying65 hi hz0 hz1 hz2 rfl (by decide) _ _ _ rfl (HEE.out.1.alloc _) ⟨P01.heap.size,0,none⟩ 1 1 [.bool s01,.slice A01 n01 c01] rfl rfl (zcell_new _ _ _ _) (by simp [Value.oneCell']) (by decide) (by decide) (by have h1:=HPP.out.size;simp;omega) ?_;intro v' Z01 hown' hgrow _)
 have hba:Below P01.heap.size P01 (P01.alloc (.cells #[.bool s01,.slice A01 n01 c01] 25)):=bA
 obtain ⟨B01,d01,rfl,hoz⟩:=zs_more (e:=(s01,A01,n01,c01)) HOZ.out rfl (HEE.out.1.alloc _) HEE.out.2.1 HEE.out.2.2 hown' hgrow
 have HX02:=ah ((HPP.out.alloc HPP.out.size (.cells #[.bool s01,.slice A01 n01 c01] 25)).grown hgrow (by have h1:=HPP.out.size;simp;omega) (own_block HEE.out.1))
 have HR0:=ah hoz
 clear hown' hgrow hba hoz HEE HOZ HPP
 go_wp2_with fail
 rw [rounds_succ]
 have hm:=HM3.out.next HX02.out
 have m2:=hm.c2
 have f2:=hm.fz 2
 have hba:Below Z01.heap.size Z01 (Z01.alloc (.cells #[.slice B01 (1+1) d01] 65)):=bA
 have m2':=(hm.next hba).c2
 obtain ⟨EE,hE,hEl,hEn⟩:=HO3.out.next HX02.out
 have HEE:=ah (cJ hE (cJ hEl hEn))
 have HMX:=ah hm
 have HXX:=ah (show Below w.heap.size w Z01/\W3.heap.size<=Z01.heap.size from ⟨HB3.out.trans (HX02.out.mono HB3.out.size),nT HBW.out HX02.out.size⟩)
 clear hE hEl hEn hm
 go_wp2_with (at_builtin;refine wpList_append_own _ rfl _ _ 26 rfl W3.heap.size 65 i1 (.slice none 0 0) 1 24 Tryz.underlying26 hjf hy0 hy1 hy2 rfl (by decide) _ _ _ rfl (HEE.out.1.alloc _) ⟨Z01.heap.size,0,none⟩ 1 1 [.slice B01 (1+1) d01] rfl rfl (tcell_new Z01 (.slice B01 (1+1) d01) 65) (by simp [Value.oneCell']) (by decide) (by decide) (by have h1:=HXX.out.2;simp;omega) ?_;intro v' Y0 hown' hgrow _;have hmy:=(HMX.out.next hba).grown (HEE.out.1.alloc _) hgrow;have my:=hmy.c2;have fy:=hmy.fz 2;obtain ⟨G0,k0,rfl,hoy⟩:=ms_more (e:=(B01,1+1,d01)) (HR0.out.ip.base HBW.out) rfl (HEE.out.1.alloc _) HEE.out.2.1 (HEE.out.2.2.next hba) hown' hgrow)
 have hx5:=(HXX.out.1.alloc HXX.out.1.size (.cells #[.slice B01 (1+1) d01] 65)).grown hgrow (by have h1:=HXX.out.1.size;simp;omega) (fun k hk=>nT HB3.out.size (own_block HEE.out.1 k hk))
 have hdy:OwZ Y0 W1.heap.size sD AD nD cD 1:=((HD3.out.next HX02.out).next hba).keep (keepI_grown (HEE.out.1.alloc _) hgrow).1
 have hqy:=((HQ3.out.next HX02.out).next hba).grown (HEE.out.1.alloc _) hgrow
 obtain ⟨V0,HV0⟩:∃ W,W=Y0.setCell ⟨gm,2,none⟩ (.slice G0 (0+1) k0):=⟨_,rfl⟩
 have HM5:=ah (show MC V0 gm sD AD nD cD G0 (0+1) k0 by rw [HV0];exact hmy.num _ _ _)
 have HD5:=ah (show OwZ V0 W1.heap.size sD AD nD cD 1 by rw [HV0];exact hdy.keep (keepI_mc hmy 2 _).1)
 have HQ5:=ah (show MC V0 gq false none 0 0 none 0 0 by rw [HV0];exact hqy.far (p:=⟨gm,2,none⟩) HGM.out.2.2 _)
 have HB5:=ah (show Below w.heap.size w V0 by rw [HV0];exact hx5.setCell (p:=⟨gm,2,none⟩) (nT HB1.out.size HGM.out.1) _)
 have HO5:=ah (show OwMs V0 W3.heap.size G0 (0+1) k0 ([] ++ [[] ++ [z0] ++ [z1]]) by rw [HV0];exact hoy.num hmy HGM.out.2.1 _)
 have HBW5:=ah (show W3.heap.size<=V0.heap.size by rw [HV0,World.size_setCell];have h1:=HXX.out.2;have h2:=hgrow.size;simp at h2;omega)
 rw [<- HV0]
 clear hdy hqy hmy my fy hx5 hoy HV0 hown' hgrow hba m2 f2 m2' HEE HMX HXX HR0 x0
 go_wp2_with fail
 rw [rounds_succ]
 have x0:=(HX.out _ HB5.out).2.1
 go_wp2_with fail
 refine wp_loop_rounds 3 ?_
 have HX10:=ah (Below.refl V0.heap.size V0)
 rw [rounds_succ]
 have y0:=(HX.out _ (HB5.out.trans (HX10.out.mono HB5.out.size))).2.2.2.2.1
 go_wp2_with fail
 refine (rIOf_any z2 (by have:=HBZ.out.2.2.1;omega) (by have:=HBZ.out.2.2.1;omega) V0).mono ?_
 rintro _ P10 ⟨s10,A10,n10,c10,yy,rfl,ho,hy,hbp⟩
 obtain rfl:=hy.out.symm
 obtain ⟨EE,hE,hEl,hEn⟩:=(OwZs.nil P10 V0.heap.size)
 have HEE:=ah (cJ hE (cJ hEl hEn))
 have HOZ:=ah (ho.base (b':=V0.heap.size) HX10.out.size)
 have HPP:=tM HX10 hbp
 clear hE hEl hEn ho hy hbp y0
 go_wp2_with (at_builtin;refine wpList_append_own _ rfl _ _ 65 rfl V0.heap.size 25 i0 (.agg #[.bool false,.slice none 0 0]) 2 32 Tryz.underlying65 hi hz0 hz1 hz2 rfl (by decide) _ _ _ rfl (HEE.out.1.alloc _) ⟨P10.heap.size,0,none⟩ 1 1 [.bool s10,.slice A10 n10 c10] rfl rfl (zcell_new _ _ _ _) (by simp [Value.oneCell']) (by decide) (by decide) (by have h1:=HPP.out.size;simp;omega) ?_;intro v' Z10 hown' hgrow _)
 have hba:Below P10.heap.size P10 (P10.alloc (.cells #[.bool s10,.slice A10 n10 c10] 25)):=bA
 obtain ⟨B10,d10,rfl,hoz⟩:=zs_more (e:=(s10,A10,n10,c10)) HOZ.out rfl (HEE.out.1.alloc _) HEE.out.2.1 HEE.out.2.2 hown' hgrow
 have HX11:=ah ((HPP.out.alloc HPP.out.size (.cells #[.bool s10,.slice A10 n10 c10] 25)).grown hgrow (by have h1:=HPP.out.size;simp;omega) (own_block HEE.out.1))
 have HR1:=ah hoz
 clear hown' hgrow hba hoz HEE HOZ HPP
 go_wp2_with fail
 rw [rounds_succ]
 have y0:=(HX.out _ (HB5.out.trans (HX11.out.mono HB5.out.size))).2.2.2.2.2
 go_wp2_with fail
 refine (rIOf_any z3 (by have:=HBZ.out.2.2.2;omega) (by have:=HBZ.out.2.2.2;omega) Z10).mono ?_
 rintro _ P11 ⟨s11,A11,n11,c11,yy,rfl,ho,hy,hbp⟩
 obtain rfl:=hy.out.symm
 obtain ⟨EE,hE,hEl,hEn⟩:=(HR1.out.next hbp)
 have HEE:=ah (cJ hE (cJ hEl hEn))
 have HOZ:=ah (ho.base (b':=V0.heap.size) HX11.out.size)
 have HPP:=tM HX11 hbp
 clear hE hEl hEn ho hy hbp y0
 go_wp2_with (at_builtin;refine wpList_append_own _ rfl _ _ 65 rfl V0.heap.size 25 i0 (.agg #[.bool false,.slice none 0 0]) 2 32 Tryz.underlying65 hi hz0 hz1 hz2 rfl (by decide) _ _ _ rfl (HEE.out.1.alloc _) ⟨P11.heap.size,0,none⟩ 1 1 [.bool s11,.slice A11 n11 c11] rfl rfl (zcell_new _ _ _ _) (by simp [Value.oneCell']) (by decide) (by decide) (by have h1:=HPP.out.size;simp;omega) ?_;intro v' Z11 hown' hgrow _)
 have hba:Below P11.heap.size P11 (P11.alloc (.cells #[.bool s11,.slice A11 n11 c11] 25)):=bA
 obtain ⟨B11,d11,rfl,hoz⟩:=zs_more (e:=(s11,A11,n11,c11)) HOZ.out rfl (HEE.out.1.alloc _) HEE.out.2.1 HEE.out.2.2 hown' hgrow
 have HX12:=ah ((HPP.out.alloc HPP.out.size (.cells #[.bool s11,.slice A11 n11 c11] 25)).grown hgrow (by have h1:=HPP.out.size;simp;omega) (own_block HEE.out.1))
 have HR1:=ah hoz
 clear hown' hgrow hba hoz HEE HOZ HPP
 go_wp2_with fail
 rw [rounds_succ]
 have hm:=HM5.out.next HX12.out
 have m2:=hm.c2
 have f2:=hm.fz 2
 have hba:Below Z11.heap.size Z11 (Z11.alloc (.cells #[.slice B11 (1+1) d11] 65)):=bA
 have m2':=(hm.next hba).c2
 obtain ⟨EE,hE,hEl,hEn⟩:=HO5.out.next HX12.out
 have HEE:=ah (cJ hE (cJ hEl hEn))
 have HMX:=ah hm
 have HXX:=ah (show Below w.heap.size w Z11/\W3.heap.size<=Z11.heap.size from ⟨HB5.out.trans (HX12.out.mono HB5.out.size),nT HBW5.out HX12.out.size⟩)
 clear hE hEl hEn hm
 go_wp2_with (at_builtin;refine wpList_append_own _ rfl _ _ 26 rfl W3.heap.size 65 i1 (.slice none 0 0) 1 24 Tryz.underlying26 hjf hy0 hy1 hy2 rfl (by decide) _ _ _ rfl (HEE.out.1.alloc _) ⟨Z11.heap.size,0,none⟩ 1 1 [.slice B11 (1+1) d11] rfl rfl (tcell_new Z11 (.slice B11 (1+1) d11) 65) (by simp [Value.oneCell']) (by decide) (by decide) (by have h1:=HXX.out.2;simp;omega) ?_;intro v' Y1 hown' hgrow _;have hmy:=(HMX.out.next hba).grown (HEE.out.1.alloc _) hgrow;have my:=hmy.c2;have fy:=hmy.fz 2;obtain ⟨G1,k1,rfl,hoy⟩:=ms_more (e:=(B11,1+1,d11)) (HR1.out.ip.base HBW5.out) rfl (HEE.out.1.alloc _) HEE.out.2.1 (HEE.out.2.2.next hba) hown' hgrow)
 have hx5:=(HXX.out.1.alloc HXX.out.1.size (.cells #[.slice B11 (1+1) d11] 65)).grown hgrow (by have h1:=HXX.out.1.size;simp;omega) (fun k hk=>nT HB3.out.size (own_block HEE.out.1 k hk))
 have hdy:OwZ Y1 W1.heap.size sD AD nD cD 1:=((HD5.out.next HX12.out).next hba).keep (keepI_grown (HEE.out.1.alloc _) hgrow).1
 have hqy:=((HQ5.out.next HX12.out).next hba).grown (HEE.out.1.alloc _) hgrow
 obtain ⟨V1,HV1⟩:∃ W,W=Y1.setCell ⟨gm,2,none⟩ (.slice G1 (1+1) k1):=⟨_,rfl⟩
 have HM6:=ah (show MC V1 gm sD AD nD cD G1 (1+1) k1 by rw [HV1];exact hmy.num _ _ _)
 have HD6:=ah (show OwZ V1 W1.heap.size sD AD nD cD 1 by rw [HV1];exact hdy.keep (keepI_mc hmy 2 _).1)
 have HQ6:=ah (show MC V1 gq false none 0 0 none 0 0 by rw [HV1];exact hqy.far (p:=⟨gm,2,none⟩) HGM.out.2.2 _)
 have HB6:=ah (show Below w.heap.size w V1 by rw [HV1];exact hx5.setCell (p:=⟨gm,2,none⟩) (nT HB1.out.size HGM.out.1) _)
 have HO6:=ah (show OwMs V1 W3.heap.size G1 (1+1) k1 ([[z0,z1]] ++ [[] ++ [z2] ++ [z3]]) by rw [HV1];exact hoy.num hmy HGM.out.2.1 _)
 have HBW6:=ah (show W3.heap.size<=V1.heap.size by rw [HV1,World.size_setCell];have h1:=HXX.out.2;have h2:=hgrow.size;simp at h2;omega)
 rw [<- HV1]
 clear hdy hqy hmy my fy hx5 hoy HV1 hown' hgrow hba m2 f2 m2' HEE HMX HXX HR1 x0
 have hq:=HQ6.out
 have hm:=HM6.out
 have a0:=hm.c0
 have a1:=hm.c1
 have a2:=hm.c2
 have r0:=hq.c0
 have r1:=hq.c1
 have r2:=hq.c2
 have f0:=hq.fz 0
 have f1:=hq.fz 1
 have f2:=hq.fz 2
 have HSS:=ah (hq.store sD AD nD cD G1 (1+1) k1)
 have HU:=ah ((HD6.out.base (b':=w.heap.size) HB1.out.size).keep (keepI_put hq sD AD nD cD G1 (1+1) k1).1)
 have HQQ:=ah ((HO6.out.put hq (by have h1:=HQ1.out.lt;have h2:=HGM.out;omega) sD AD nD cD G1 (1+1) k1).base (b':=w.heap.size) HB3.out.size)
 have HF:=ah (below_putM HB6.out HGQ.out sD AD nD cD G1 (1+1) k1)
 unfold putM at HSS HU HQQ HF
 clear hq hm
 go_wp2_with fail
 rw [rounds_succ]
 go_wp2_with fail
 generalize ((V1.setCell ⟨gq,0,none⟩ (.bool sD)).setCell ⟨gq,1,none⟩ (.slice AD nD cD)).setCell ⟨gq,2,none⟩ (.slice G1 2 k1)=W9 at *
 have w0:=HSS.out.c0
 have w1:=HSS.out.c1
 have w2:=HSS.out.c2
 exact bodyPost_ret (by simp [results,Tryz.results61,go_sem,w0,w1,w2]) rfl ⟨_,_,_,_,_,_,_,rfl,HU.out,HQQ.out,HF.out⟩
end Go.Proofs.YtjnklbfhelbjgaaGreat
