/- Sr23. -/
import Derived.Test.YtjnklbfhelbjgaaGreatSr22
import Derived.Test.YtjnklbfhelbjgaaGreatSr18
import Derived.Deep.RegionHeld3
import Derived.Test.YtjnklbfhelbjgaaGreatSr20
import Derived.Deep.DrawnRows
import Derived.Test.YtjnklbfhelbjgaaGreatSr21
import Derived.Test.YtjnklbfhelbjgaaGreatSr00
set_option maxRecDepth 100000
set_option maxHeartbeats 32000000
set_option linter.all false
namespace Go.Proofs.YtjnklbfhelbjgaaGreat
open Go.RowKit Go.IntWalk
attribute [local go_sem ↓] Go.wp_at_zero Go.wp_at_succ
def M2.scale (M:M2)(i:Int)(x:Rat):M2:=if i=0 then ⟨pscl M.a x,pscl M.b x,M.c,M.d⟩ else ⟨M.a,M.b,pscl M.c x,pscl M.d x⟩
theorem scale_to {b b1 t:Nat}{i:Int}{s s':Bool}{A A':Option Addr}{n c n' c':Nat}{x:Rat}{M:M2}{w:World}(h:Tb w b t M)(hb:b<=w.heap.size)(hf:OwQ w b1 s A n c s' A' n' c' x)(hok:M.tiny/\Qs 1 x)(hij:i=0 ∨ i=1) :
  Calls Tryz.prog 280 #[.agg #[.int .i64 i,.bool s,.slice A n c,.bool s',.slice A' n' c'],.pointer (some ⟨t,0,none⟩)] w (RetT b t (M.scale i x) w):=by
 obtain ⟨gr,cr,g0,c0,g1,c1,⟨xa,xn,xc⟩,⟨ya,yn,yc⟩,⟨za,zn,zc⟩,⟨ua,un,uc⟩,h⟩:=h
 have HTN:=ah hok
 have HBB:=ah hb
 clear hok hb
 rcases hij with rfl | rfl
 ·obtain ⟨W1,HW1⟩:∃ W,W=w.alloc (.cells #[.int .i64 0,.bool s,.slice A n c,.bool s',.slice A' n' c'] 228):=⟨_,rfl⟩
  have hb1:Below w.heap.size w W1:=by rw [HW1];exact bA
  have hX:PX W1 w.heap.size 228 [.int .i64 0,.bool s,.slice A n c,.bool s',.slice A' n' c']:=by rw [HW1];exact PX.new w _ [.int .i64 0,.bool s,.slice A n c,.bool s',.slice A' n' c']
  obtain ⟨gb,hgb⟩:∃ g,g=w.heap.size:=⟨_,rfl⟩
  rw [<- hgb] at hX
  have HT0:=ah (h.next hb1)
  have HF0:=ah (hf.next hb1)
  have HX0:=ah hX
  have HV0:=ah (show b<=W1.heap.size/\Below b w W1/\KeepS w W1 from ⟨nT HBB.out hb1.size,hb1.mono HBB.out,.below hb1⟩)
  have k1':(w.alloc (.cells #[.int .i64 0,.bool s,.slice A n c,.bool s',.slice A' n' c'] 228)).cell? ⟨t,1,none⟩=some (.int .i64 2):=by rw [<- HW1];exact HT0.out.hd.cell rfl
  have HW1:=ah HW1
  clear h hf hb1 hX
  go_enter Tryz.func280,Tryz.ntmps280
  go_wp2_with fail
  rw [<- HW1.out,<- hgb]
  clear HW1 hgb
  clear HW1 k1'
  refine wp_loop_rounds 3 ?_
  rw [rounds_succ]
  go_upto_region 4 with fail
  have HQ0:=ah (show ∀ W,Below W1.heap.size W1 W->T2 W b t gr cr g0 c0 g1 c1 (xa,xn,xc) (ya,yn,yc) (za,zn,zc) (ua,un,uc) ⟨M.a,M.b,M.c,M.d⟩/\PX W gb 228 [.int .i64 0,.bool s,.slice A n c,.bool s',.slice A' n' c']/\OwQ W b1 s A n c s' A' n' c' x from fun W hb=>⟨HT0.out.next hb,HX0.out.next hb,HF0.out.next hb⟩)
  have HS0:=ah (show ∀ W,Below W1.heap.size W1 W->W.cell? ⟨gb,0,none⟩=some (.int .i64 0)/\W.cell? ⟨gb,1,none⟩=some (.bool s)/\W.cell? ⟨gb,2,none⟩=some (.slice A n c)/\W.cell? ⟨gb,3,none⟩=some (.bool s')/\W.cell? ⟨gb,4,none⟩=some (.slice A' n' c')/\W.cell? ⟨t,0,none⟩=some (.slice (some ⟨gr,0,none⟩) 2 cr)/\W.cell? ⟨gr,0,none⟩=some (.slice (some ⟨g0,0,none⟩) 2 c0) from fun W hb=>⟨(HQ0.out W hb).2.1.cell rfl,(HQ0.out W hb).2.1.cell rfl,(HQ0.out W hb).2.1.cell rfl,(HQ0.out W hb).2.1.cell rfl,(HQ0.out W hb).2.1.cell rfl,(HQ0.out W hb).1.hd.cell rfl,(HQ0.out W hb).1.rw.cell rfl⟩)
  have HCD:=ah (Below.refl W1.heap.size W1).drew
  have hg:=(HQ0.out _ HCD.out).1.r0.cell (i:=0) (v:=.slice xa xn xc) rfl
  refine wp_region_held_drew (S:=fun W=>W.cell? ⟨gb,0,none⟩=some (.int .i64 0)/\W.cell? ⟨gb,1,none⟩=some (.bool s)/\W.cell? ⟨gb,2,none⟩=some (.slice A n c)/\W.cell? ⟨gb,3,none⟩=some (.bool s')/\W.cell? ⟨gb,4,none⟩=some (.slice A' n' c')/\W.cell? ⟨t,0,none⟩=some (.slice (some ⟨gr,0,none⟩) 2 cr)/\W.cell? ⟨gr,0,none⟩=some (.slice (some ⟨g0,0,none⟩) 2 c0)) (by kernel_rfl) (HS0.out _ HCD.out) (fun hHeld=>?_)
  refine tk 0 ?_
  refine tk 1 ?_
  refine tk 2 ?_
  refine tk 3 ?_
  refine tk 4 ?_
  refine tk 5 ?_
  refine tk 6 ?_
  refine tk 7 ?_
  refine tk 8 ?_
  refine tk 9 ?_
  refine tk 10 ?_
  refine tk 11 ?_
  refine tk 12 ?_
  refine tk 13 ?_
  refine tk 14 ?_
  refine tk 15 ?_
  refine tk 16 ?_
  refine tk 17 ?_
  refine tk 18 ?_
  refine tk 20 ?_
  refine tk 21 ?_
  refine wpAnyH_ready (rs:=[19]) (by kernel_rfl) (by simp) ?_
  refine AllReadyH.cons rfl (fun K hK=>?_) AllReadyH.nil
  go_simp
  refine hK.out _ _ (HS0.out _ HCD.out) (fun hHeld=>?_)
  clear hK K
  (try simp only [Act.put,List.setIfInBounds_toArray,List.set_cons_zero,List.set_cons_succ])
  refine wpAnyH_ready (rs:=[22]) (by kernel_rfl) (by simp) ?_
  refine AllReadyH.cons rfl (fun K hK=>?_) AllReadyH.nil
  go_simp
  refine (pscale_any (HQ0.out _ HCD.out).1.ea (HQ0.out _ HCD.out).2.2 HTN.out.1.1 HTN.out.2).mono ?_
  rintro _ Q0 ⟨B0,m0,q0,rfl,ho0,hb0⟩
  have HE0:Hid (Below W1.heap.size W1 Q0):=tM HCD hb0
  have HP0:=ah (ho0.base (b':=b) (by have h1:=HV0.out.1;have h4:=HCD.out.size;omega))
  have f0:=(HQ0.out _ HE0.out).1.r0.frozen 0
  have e0:=(HQ0.out _ HE0.out).1.r0.cell (i:=0) (v:=.slice xa xn xc) rfl
  clear ho0 hb0 hg
  go_wp2_with fail
  refine hK.out _ _ (HS0.out _ HE0.out) (fun hHeld=>?_)
  clear hK K
  (try simp only [Act.put,List.setIfInBounds_toArray,List.set_cons_zero,List.set_cons_succ])
  refine tk 23 ?_
  refine tk 24 ?_
  refine tk 25 ?_
  refine tk 26 ?_
  have hT:=(HQ0.out _ HE0.out).1.put0 (e:=(B0,m0,q0)) HP0.out
  have hX:=(HQ0.out _ HE0.out).2.1.far (p:=⟨g0,0,none⟩) ((HQ0.out _ HE0.out).2.1.ne (HQ0.out _ HE0.out).1.r0 (by decide)) (.slice B0 m0 q0)
  have hK:=(HQ0.out _ HE0.out).1.r0.keepS (.inl rfl) 0 (.slice B0 m0 q0)
  have HT1:=ah (show T2 (Q0.setCell ⟨g0,0,none⟩ (.slice B0 m0 q0)) b t gr cr g0 c0 g1 c1 (B0,m0,q0) (ya,yn,yc) (za,zn,zc) (ua,un,uc) ⟨pscl (M.a) x,M.b,M.c,M.d⟩ from hT)
  have HX1:=ah (show PX (Q0.setCell ⟨g0,0,none⟩ (.slice B0 m0 q0)) gb 228 [.int .i64 0,.bool s,.slice A n c,.bool s',.slice A' n' c'] from hX)
  have HF1:=ah (show OwQ (Q0.setCell ⟨g0,0,none⟩ (.slice B0 m0 q0)) b1 s A n c s' A' n' c' x from (HQ0.out _ HE0.out).2.2.keep hK.q.1)
  have HV1:=ah (show b<=(Q0.setCell ⟨g0,0,none⟩ (.slice B0 m0 q0)).heap.size/\Below b w (Q0.setCell ⟨g0,0,none⟩ (.slice B0 m0 q0))/\KeepS w (Q0.setCell ⟨g0,0,none⟩ (.slice B0 m0 q0)) from by
   have h1:=HV0.out.1
   have h3:=HE0.out.size
   have h4:=HV0.out.2.1.trans (HE0.out.mono h1)
   refine ⟨by rw [World.size_setCell];omega,h4.setCell (p:=⟨g0,0,none⟩) HT0.out.b0 _,?_⟩
   exact (HV0.out.2.2.trans (.below HE0.out)).trans hK)
  clear hT hX hK
  refine wpAnyH_ready (rs:=[27]) (by kernel_rfl) (by simp) ?_
  refine AllReadyH.cons rfl (fun K hK=>?_) AllReadyH.nil
  go_simp
  refine hK.out _ _ ⟨HX1.out.cell rfl,HX1.out.cell rfl,HX1.out.cell rfl,HX1.out.cell rfl,HX1.out.cell rfl,HT1.out.hd.cell rfl,HT1.out.rw.cell rfl⟩ (fun hHeld=>?_)
  clear hK K
  (try simp only [Act.put,List.setIfInBounds_toArray,List.set_cons_zero,List.set_cons_succ])
  refine wpAnyH_done (by kernel_rfl) ?_ _
  obtain ⟨U0,HU0⟩:∃ W,W=(Q0.setCell ⟨g0,0,none⟩ (.slice B0 m0 q0)):=⟨_,rfl⟩
  rw [<- HU0] at HT1 HX1 HF1 HV1 ⊢
  clear HU0 e0 f0 hHeld
  go_upto_region 5 with fail
  go_wp2_with fail
  rw [rounds_succ]
  go_upto_region 4 with fail
  have HQ1:=ah (show ∀ W,Below U0.heap.size U0 W->T2 W b t gr cr g0 c0 g1 c1 (B0,m0,q0) (ya,yn,yc) (za,zn,zc) (ua,un,uc) ⟨pscl (M.a) x,M.b,M.c,M.d⟩/\PX W gb 228 [.int .i64 0,.bool s,.slice A n c,.bool s',.slice A' n' c']/\OwQ W b1 s A n c s' A' n' c' x from fun W hb=>⟨HT1.out.next hb,HX1.out.next hb,HF1.out.next hb⟩)
  have HS1:=ah (show ∀ W,Below U0.heap.size U0 W->W.cell? ⟨gb,0,none⟩=some (.int .i64 0)/\W.cell? ⟨gb,1,none⟩=some (.bool s)/\W.cell? ⟨gb,2,none⟩=some (.slice A n c)/\W.cell? ⟨gb,3,none⟩=some (.bool s')/\W.cell? ⟨gb,4,none⟩=some (.slice A' n' c')/\W.cell? ⟨t,0,none⟩=some (.slice (some ⟨gr,0,none⟩) 2 cr)/\W.cell? ⟨gr,0,none⟩=some (.slice (some ⟨g0,0,none⟩) 2 c0) from fun W hb=>⟨(HQ1.out W hb).2.1.cell rfl,(HQ1.out W hb).2.1.cell rfl,(HQ1.out W hb).2.1.cell rfl,(HQ1.out W hb).2.1.cell rfl,(HQ1.out W hb).2.1.cell rfl,(HQ1.out W hb).1.hd.cell rfl,(HQ1.out W hb).1.rw.cell rfl⟩)
  have HCD:=ah (Below.refl U0.heap.size U0).drew
  have hg:=(HQ1.out _ HCD.out).1.r0.cell (i:=1) (v:=.slice ya yn yc) rfl
  refine wp_region_held_drew (S:=fun W=>W.cell? ⟨gb,0,none⟩=some (.int .i64 0)/\W.cell? ⟨gb,1,none⟩=some (.bool s)/\W.cell? ⟨gb,2,none⟩=some (.slice A n c)/\W.cell? ⟨gb,3,none⟩=some (.bool s')/\W.cell? ⟨gb,4,none⟩=some (.slice A' n' c')/\W.cell? ⟨t,0,none⟩=some (.slice (some ⟨gr,0,none⟩) 2 cr)/\W.cell? ⟨gr,0,none⟩=some (.slice (some ⟨g0,0,none⟩) 2 c0)) (by kernel_rfl) (HS1.out _ HCD.out) (fun hHeld=>?_)
  refine tk 0 ?_
  refine tk 1 ?_
  refine tk 2 ?_
  refine tk 3 ?_
  refine tk 4 ?_
  refine tk 5 ?_
  refine tk 6 ?_
  refine tk 7 ?_
  refine tk 8 ?_
  refine tk 9 ?_
  refine tk 10 ?_
  refine tk 11 ?_
  refine tk 12 ?_
  refine tk 13 ?_
  refine tk 14 ?_
  refine tk 15 ?_
  refine tk 16 ?_
  refine tk 17 ?_
  refine tk 18 ?_
  refine tk 20 ?_
  refine tk 21 ?_
  refine wpAnyH_ready (rs:=[19]) (by kernel_rfl) (by simp) ?_
  refine AllReadyH.cons rfl (fun K hK=>?_) AllReadyH.nil
  go_simp
  refine hK.out _ _ (HS1.out _ HCD.out) (fun hHeld=>?_)
  clear hK K
  (try simp only [Act.put,List.setIfInBounds_toArray,List.set_cons_zero,List.set_cons_succ])
  refine wpAnyH_ready (rs:=[22]) (by kernel_rfl) (by simp) ?_
  refine AllReadyH.cons rfl (fun K hK=>?_) AllReadyH.nil
  go_simp
  refine (pscale_any (HQ1.out _ HCD.out).1.eb (HQ1.out _ HCD.out).2.2 HTN.out.1.2.1 HTN.out.2).mono ?_
  rintro _ Q1 ⟨B1,m1,q1,rfl,ho1,hb1⟩
  have HE1:Hid (Below U0.heap.size U0 Q1):=tM HCD hb1
  have HP1:=ah (ho1.base (b':=b) (by have h1:=HV1.out.1;have h4:=HCD.out.size;omega))
  have f1:=(HQ1.out _ HE1.out).1.r0.frozen 1
  have e1:=(HQ1.out _ HE1.out).1.r0.cell (i:=1) (v:=.slice ya yn yc) rfl
  clear ho1 hb1 hg
  go_wp2_with fail
  refine hK.out _ _ (HS1.out _ HE1.out) (fun hHeld=>?_)
  clear hK K
  (try simp only [Act.put,List.setIfInBounds_toArray,List.set_cons_zero,List.set_cons_succ])
  refine tk 23 ?_
  refine tk 24 ?_
  refine tk 25 ?_
  refine tk 26 ?_
  have hT:=(HQ1.out _ HE1.out).1.put1 (e:=(B1,m1,q1)) HP1.out
  have hX:=(HQ1.out _ HE1.out).2.1.far (p:=⟨g0,1,none⟩) ((HQ1.out _ HE1.out).2.1.ne (HQ1.out _ HE1.out).1.r0 (by decide)) (.slice B1 m1 q1)
  have hK:=(HQ1.out _ HE1.out).1.r0.keepS (.inl rfl) 1 (.slice B1 m1 q1)
  have HT2:=ah (show T2 (Q1.setCell ⟨g0,1,none⟩ (.slice B1 m1 q1)) b t gr cr g0 c0 g1 c1 (B0,m0,q0) (B1,m1,q1) (za,zn,zc) (ua,un,uc) ⟨pscl (M.a) x,pscl (M.b) x,M.c,M.d⟩ from hT)
  have HX2:=ah (show PX (Q1.setCell ⟨g0,1,none⟩ (.slice B1 m1 q1)) gb 228 [.int .i64 0,.bool s,.slice A n c,.bool s',.slice A' n' c'] from hX)
  have HF2:=ah (show OwQ (Q1.setCell ⟨g0,1,none⟩ (.slice B1 m1 q1)) b1 s A n c s' A' n' c' x from (HQ1.out _ HE1.out).2.2.keep hK.q.1)
  have HV2:=ah (show b<=(Q1.setCell ⟨g0,1,none⟩ (.slice B1 m1 q1)).heap.size/\Below b w (Q1.setCell ⟨g0,1,none⟩ (.slice B1 m1 q1))/\KeepS w (Q1.setCell ⟨g0,1,none⟩ (.slice B1 m1 q1)) from by
   have h1:=HV1.out.1
   have h3:=HE1.out.size
   have h4:=HV1.out.2.1.trans (HE1.out.mono h1)
   refine ⟨by rw [World.size_setCell];omega,h4.setCell (p:=⟨g0,1,none⟩) HT1.out.b0 _,?_⟩
   exact (HV1.out.2.2.trans (.below HE1.out)).trans hK)
  clear hT hX hK
  refine wpAnyH_ready (rs:=[27]) (by kernel_rfl) (by simp) ?_
  refine AllReadyH.cons rfl (fun K hK=>?_) AllReadyH.nil
  go_simp
  refine hK.out _ _ ⟨HX2.out.cell rfl,HX2.out.cell rfl,HX2.out.cell rfl,HX2.out.cell rfl,HX2.out.cell rfl,HT2.out.hd.cell rfl,HT2.out.rw.cell rfl⟩ (fun hHeld=>?_)
  clear hK K
  (try simp only [Act.put,List.setIfInBounds_toArray,List.set_cons_zero,List.set_cons_succ])
  refine wpAnyH_done (by kernel_rfl) ?_ _
  obtain ⟨U1,HU1⟩:∃ W,W=(Q1.setCell ⟨g0,1,none⟩ (.slice B1 m1 q1)):=⟨_,rfl⟩
  rw [<- HU1] at HT2 HX2 HF2 HV2 ⊢
  clear HU1 e1 f1 hHeld
  go_upto_region 5 with fail
  go_wp2_with fail
  rw [rounds_succ]
  go_wp2
  go_returns
  exact ⟨rfl,⟨_,_,_,_,_,_,_,_,_,_,HT2.out⟩,HV2.out.2⟩
 ·obtain ⟨W1,HW1⟩:∃ W,W=w.alloc (.cells #[.int .i64 1,.bool s,.slice A n c,.bool s',.slice A' n' c'] 228):=⟨_,rfl⟩
  have hb1:Below w.heap.size w W1:=by rw [HW1];exact bA
  have hX:PX W1 w.heap.size 228 [.int .i64 1,.bool s,.slice A n c,.bool s',.slice A' n' c']:=by rw [HW1];exact PX.new w _ [.int .i64 1,.bool s,.slice A n c,.bool s',.slice A' n' c']
  obtain ⟨gb,hgb⟩:∃ g,g=w.heap.size:=⟨_,rfl⟩
  rw [<- hgb] at hX
  have HT0:=ah (h.next hb1)
  have HF0:=ah (hf.next hb1)
  have HX0:=ah hX
  have HV0:=ah (show b<=W1.heap.size/\Below b w W1/\KeepS w W1 from ⟨nT HBB.out hb1.size,hb1.mono HBB.out,.below hb1⟩)
  have k1':(w.alloc (.cells #[.int .i64 1,.bool s,.slice A n c,.bool s',.slice A' n' c'] 228)).cell? ⟨t,1,none⟩=some (.int .i64 2):=by rw [<- HW1];exact HT0.out.hd.cell rfl
  have HW1:=ah HW1
  clear h hf hb1 hX
  go_enter Tryz.func280,Tryz.ntmps280
  go_wp2_with fail
  rw [<- HW1.out,<- hgb]
  clear HW1 hgb
  clear HW1 k1'
  refine wp_loop_rounds 3 ?_
  rw [rounds_succ]
  go_upto_region 4 with fail
  have HQ0:=ah (show ∀ W,Below W1.heap.size W1 W->T2 W b t gr cr g0 c0 g1 c1 (xa,xn,xc) (ya,yn,yc) (za,zn,zc) (ua,un,uc) ⟨M.a,M.b,M.c,M.d⟩/\PX W gb 228 [.int .i64 1,.bool s,.slice A n c,.bool s',.slice A' n' c']/\OwQ W b1 s A n c s' A' n' c' x from fun W hb=>⟨HT0.out.next hb,HX0.out.next hb,HF0.out.next hb⟩)
  have HS0:=ah (show ∀ W,Below W1.heap.size W1 W->W.cell? ⟨gb,0,none⟩=some (.int .i64 1)/\W.cell? ⟨gb,1,none⟩=some (.bool s)/\W.cell? ⟨gb,2,none⟩=some (.slice A n c)/\W.cell? ⟨gb,3,none⟩=some (.bool s')/\W.cell? ⟨gb,4,none⟩=some (.slice A' n' c')/\W.cell? ⟨t,0,none⟩=some (.slice (some ⟨gr,0,none⟩) 2 cr)/\W.cell? ⟨gr,1,none⟩=some (.slice (some ⟨g1,0,none⟩) 2 c1) from fun W hb=>⟨(HQ0.out W hb).2.1.cell rfl,(HQ0.out W hb).2.1.cell rfl,(HQ0.out W hb).2.1.cell rfl,(HQ0.out W hb).2.1.cell rfl,(HQ0.out W hb).2.1.cell rfl,(HQ0.out W hb).1.hd.cell rfl,(HQ0.out W hb).1.rw.cell rfl⟩)
  have HCD:=ah (Below.refl W1.heap.size W1).drew
  have hg:=(HQ0.out _ HCD.out).1.r1.cell (i:=0) (v:=.slice za zn zc) rfl
  refine wp_region_held_drew (S:=fun W=>W.cell? ⟨gb,0,none⟩=some (.int .i64 1)/\W.cell? ⟨gb,1,none⟩=some (.bool s)/\W.cell? ⟨gb,2,none⟩=some (.slice A n c)/\W.cell? ⟨gb,3,none⟩=some (.bool s')/\W.cell? ⟨gb,4,none⟩=some (.slice A' n' c')/\W.cell? ⟨t,0,none⟩=some (.slice (some ⟨gr,0,none⟩) 2 cr)/\W.cell? ⟨gr,1,none⟩=some (.slice (some ⟨g1,0,none⟩) 2 c1)) (by kernel_rfl) (HS0.out _ HCD.out) (fun hHeld=>?_)
  refine tk 0 ?_
  refine tk 1 ?_
  refine tk 2 ?_
  refine tk 3 ?_
  refine tk 4 ?_
  refine tk 5 ?_
  refine tk 6 ?_
  refine tk 7 ?_
  refine tk 8 ?_
  refine tk 9 ?_
  refine tk 10 ?_
  refine tk 11 ?_
  refine tk 12 ?_
  refine tk 13 ?_
  refine tk 14 ?_
  refine tk 15 ?_
  refine tk 16 ?_
  refine tk 17 ?_
  refine tk 18 ?_
  refine tk 20 ?_
  refine tk 21 ?_
  refine wpAnyH_ready (rs:=[19]) (by kernel_rfl) (by simp) ?_
  refine AllReadyH.cons rfl (fun K hK=>?_) AllReadyH.nil
  go_simp
  refine hK.out _ _ (HS0.out _ HCD.out) (fun hHeld=>?_)
  clear hK K
  (try simp only [Act.put,List.setIfInBounds_toArray,List.set_cons_zero,List.set_cons_succ])
  refine wpAnyH_ready (rs:=[22]) (by kernel_rfl) (by simp) ?_
  refine AllReadyH.cons rfl (fun K hK=>?_) AllReadyH.nil
  go_simp
  refine (pscale_any (HQ0.out _ HCD.out).1.ec (HQ0.out _ HCD.out).2.2 HTN.out.1.2.2.1 HTN.out.2).mono ?_
  rintro _ Q0 ⟨B0,m0,q0,rfl,ho0,hb0⟩
  have HE0:Hid (Below W1.heap.size W1 Q0):=tM HCD hb0
  have HP0:=ah (ho0.base (b':=b) (by have h1:=HV0.out.1;have h4:=HCD.out.size;omega))
  have f0:=(HQ0.out _ HE0.out).1.r1.frozen 0
  have e0:=(HQ0.out _ HE0.out).1.r1.cell (i:=0) (v:=.slice za zn zc) rfl
  clear ho0 hb0 hg
  go_wp2_with fail
  refine hK.out _ _ (HS0.out _ HE0.out) (fun hHeld=>?_)
  clear hK K
  (try simp only [Act.put,List.setIfInBounds_toArray,List.set_cons_zero,List.set_cons_succ])
  refine tk 23 ?_
  refine tk 24 ?_
  refine tk 25 ?_
  refine tk 26 ?_
  have hT:=(HQ0.out _ HE0.out).1.put2 (e:=(B0,m0,q0)) HP0.out
  have hX:=(HQ0.out _ HE0.out).2.1.far (p:=⟨g1,0,none⟩) ((HQ0.out _ HE0.out).2.1.ne (HQ0.out _ HE0.out).1.r1 (by decide)) (.slice B0 m0 q0)
  have hK:=(HQ0.out _ HE0.out).1.r1.keepS (.inl rfl) 0 (.slice B0 m0 q0)
  have HT1:=ah (show T2 (Q0.setCell ⟨g1,0,none⟩ (.slice B0 m0 q0)) b t gr cr g0 c0 g1 c1 (xa,xn,xc) (ya,yn,yc) (B0,m0,q0) (ua,un,uc) ⟨M.a,M.b,pscl (M.c) x,M.d⟩ from hT)
  have HX1:=ah (show PX (Q0.setCell ⟨g1,0,none⟩ (.slice B0 m0 q0)) gb 228 [.int .i64 1,.bool s,.slice A n c,.bool s',.slice A' n' c'] from hX)
  have HF1:=ah (show OwQ (Q0.setCell ⟨g1,0,none⟩ (.slice B0 m0 q0)) b1 s A n c s' A' n' c' x from (HQ0.out _ HE0.out).2.2.keep hK.q.1)
  have HV1:=ah (show b<=(Q0.setCell ⟨g1,0,none⟩ (.slice B0 m0 q0)).heap.size/\Below b w (Q0.setCell ⟨g1,0,none⟩ (.slice B0 m0 q0))/\KeepS w (Q0.setCell ⟨g1,0,none⟩ (.slice B0 m0 q0)) from by
   have h1:=HV0.out.1
   have h3:=HE0.out.size
   have h4:=HV0.out.2.1.trans (HE0.out.mono h1)
   refine ⟨by rw [World.size_setCell];omega,h4.setCell (p:=⟨g1,0,none⟩) HT0.out.b1 _,?_⟩
   exact (HV0.out.2.2.trans (.below HE0.out)).trans hK)
  clear hT hX hK
  refine wpAnyH_ready (rs:=[27]) (by kernel_rfl) (by simp) ?_
  refine AllReadyH.cons rfl (fun K hK=>?_) AllReadyH.nil
  go_simp
  refine hK.out _ _ ⟨HX1.out.cell rfl,HX1.out.cell rfl,HX1.out.cell rfl,HX1.out.cell rfl,HX1.out.cell rfl,HT1.out.hd.cell rfl,HT1.out.rw.cell rfl⟩ (fun hHeld=>?_)
  clear hK K
  (try simp only [Act.put,List.setIfInBounds_toArray,List.set_cons_zero,List.set_cons_succ])
  refine wpAnyH_done (by kernel_rfl) ?_ _
  obtain ⟨U0,HU0⟩:∃ W,W=(Q0.setCell ⟨g1,0,none⟩ (.slice B0 m0 q0)):=⟨_,rfl⟩
  rw [<- HU0] at HT1 HX1 HF1 HV1 ⊢
  clear HU0 e0 f0 hHeld
  go_upto_region 5 with fail
  go_wp2_with fail
  rw [rounds_succ]
  go_upto_region 4 with fail
  have HQ1:=ah (show ∀ W,Below U0.heap.size U0 W->T2 W b t gr cr g0 c0 g1 c1 (xa,xn,xc) (ya,yn,yc) (B0,m0,q0) (ua,un,uc) ⟨M.a,M.b,pscl (M.c) x,M.d⟩/\PX W gb 228 [.int .i64 1,.bool s,.slice A n c,.bool s',.slice A' n' c']/\OwQ W b1 s A n c s' A' n' c' x from fun W hb=>⟨HT1.out.next hb,HX1.out.next hb,HF1.out.next hb⟩)
  have HS1:=ah (show ∀ W,Below U0.heap.size U0 W->W.cell? ⟨gb,0,none⟩=some (.int .i64 1)/\W.cell? ⟨gb,1,none⟩=some (.bool s)/\W.cell? ⟨gb,2,none⟩=some (.slice A n c)/\W.cell? ⟨gb,3,none⟩=some (.bool s')/\W.cell? ⟨gb,4,none⟩=some (.slice A' n' c')/\W.cell? ⟨t,0,none⟩=some (.slice (some ⟨gr,0,none⟩) 2 cr)/\W.cell? ⟨gr,1,none⟩=some (.slice (some ⟨g1,0,none⟩) 2 c1) from fun W hb=>⟨(HQ1.out W hb).2.1.cell rfl,(HQ1.out W hb).2.1.cell rfl,(HQ1.out W hb).2.1.cell rfl,(HQ1.out W hb).2.1.cell rfl,(HQ1.out W hb).2.1.cell rfl,(HQ1.out W hb).1.hd.cell rfl,(HQ1.out W hb).1.rw.cell rfl⟩)
  have HCD:=ah (Below.refl U0.heap.size U0).drew
  have hg:=(HQ1.out _ HCD.out).1.r1.cell (i:=1) (v:=.slice ua un uc) rfl
  refine wp_region_held_drew (S:=fun W=>W.cell? ⟨gb,0,none⟩=some (.int .i64 1)/\W.cell? ⟨gb,1,none⟩=some (.bool s)/\W.cell? ⟨gb,2,none⟩=some (.slice A n c)/\W.cell? ⟨gb,3,none⟩=some (.bool s')/\W.cell? ⟨gb,4,none⟩=some (.slice A' n' c')/\W.cell? ⟨t,0,none⟩=some (.slice (some ⟨gr,0,none⟩) 2 cr)/\W.cell? ⟨gr,1,none⟩=some (.slice (some ⟨g1,0,none⟩) 2 c1)) (by kernel_rfl) (HS1.out _ HCD.out) (fun hHeld=>?_)
  refine tk 0 ?_
  refine tk 1 ?_
  refine tk 2 ?_
  refine tk 3 ?_
  refine tk 4 ?_
  refine tk 5 ?_
  refine tk 6 ?_
  refine tk 7 ?_
  refine tk 8 ?_
  refine tk 9 ?_
  refine tk 10 ?_
  refine tk 11 ?_
  refine tk 12 ?_
  refine tk 13 ?_
  refine tk 14 ?_
  refine tk 15 ?_
  refine tk 16 ?_
  refine tk 17 ?_
  refine tk 18 ?_
  refine tk 20 ?_
  refine tk 21 ?_
  refine wpAnyH_ready (rs:=[19]) (by kernel_rfl) (by simp) ?_
  refine AllReadyH.cons rfl (fun K hK=>?_) AllReadyH.nil
  go_simp
  refine hK.out _ _ (HS1.out _ HCD.out) (fun hHeld=>?_)
  clear hK K
  (try simp only [Act.put,List.setIfInBounds_toArray,List.set_cons_zero,List.set_cons_succ])
  refine wpAnyH_ready (rs:=[22]) (by kernel_rfl) (by simp) ?_
  refine AllReadyH.cons rfl (fun K hK=>?_) AllReadyH.nil
  go_simp
  refine (pscale_any (HQ1.out _ HCD.out).1.ed (HQ1.out _ HCD.out).2.2 HTN.out.1.2.2.2 HTN.out.2).mono ?_
  rintro _ Q1 ⟨B1,m1,q1,rfl,ho1,hb1⟩
  have HE1:Hid (Below U0.heap.size U0 Q1):=tM HCD hb1
  have HP1:=ah (ho1.base (b':=b) (by have h1:=HV1.out.1;have h4:=HCD.out.size;omega))
  have f1:=(HQ1.out _ HE1.out).1.r1.frozen 1
  have e1:=(HQ1.out _ HE1.out).1.r1.cell (i:=1) (v:=.slice ua un uc) rfl
  clear ho1 hb1 hg
  go_wp2_with fail
  refine hK.out _ _ (HS1.out _ HE1.out) (fun hHeld=>?_)
  clear hK K
  (try simp only [Act.put,List.setIfInBounds_toArray,List.set_cons_zero,List.set_cons_succ])
  refine tk 23 ?_
  refine tk 24 ?_
  refine tk 25 ?_
  refine tk 26 ?_
  have hT:=(HQ1.out _ HE1.out).1.put3 (e:=(B1,m1,q1)) HP1.out
  have hX:=(HQ1.out _ HE1.out).2.1.far (p:=⟨g1,1,none⟩) ((HQ1.out _ HE1.out).2.1.ne (HQ1.out _ HE1.out).1.r1 (by decide)) (.slice B1 m1 q1)
  have hK:=(HQ1.out _ HE1.out).1.r1.keepS (.inl rfl) 1 (.slice B1 m1 q1)
  have HT2:=ah (show T2 (Q1.setCell ⟨g1,1,none⟩ (.slice B1 m1 q1)) b t gr cr g0 c0 g1 c1 (xa,xn,xc) (ya,yn,yc) (B0,m0,q0) (B1,m1,q1) ⟨M.a,M.b,pscl (M.c) x,pscl (M.d) x⟩ from hT)
  have HX2:=ah (show PX (Q1.setCell ⟨g1,1,none⟩ (.slice B1 m1 q1)) gb 228 [.int .i64 1,.bool s,.slice A n c,.bool s',.slice A' n' c'] from hX)
  have HF2:=ah (show OwQ (Q1.setCell ⟨g1,1,none⟩ (.slice B1 m1 q1)) b1 s A n c s' A' n' c' x from (HQ1.out _ HE1.out).2.2.keep hK.q.1)
  have HV2:=ah (show b<=(Q1.setCell ⟨g1,1,none⟩ (.slice B1 m1 q1)).heap.size/\Below b w (Q1.setCell ⟨g1,1,none⟩ (.slice B1 m1 q1))/\KeepS w (Q1.setCell ⟨g1,1,none⟩ (.slice B1 m1 q1)) from by
   have h1:=HV1.out.1
   have h3:=HE1.out.size
   have h4:=HV1.out.2.1.trans (HE1.out.mono h1)
   refine ⟨by rw [World.size_setCell];omega,h4.setCell (p:=⟨g1,1,none⟩) HT1.out.b1 _,?_⟩
   exact (HV1.out.2.2.trans (.below HE1.out)).trans hK)
  clear hT hX hK
  refine wpAnyH_ready (rs:=[27]) (by kernel_rfl) (by simp) ?_
  refine AllReadyH.cons rfl (fun K hK=>?_) AllReadyH.nil
  go_simp
  refine hK.out _ _ ⟨HX2.out.cell rfl,HX2.out.cell rfl,HX2.out.cell rfl,HX2.out.cell rfl,HX2.out.cell rfl,HT2.out.hd.cell rfl,HT2.out.rw.cell rfl⟩ (fun hHeld=>?_)
  clear hK K
  (try simp only [Act.put,List.setIfInBounds_toArray,List.set_cons_zero,List.set_cons_succ])
  refine wpAnyH_done (by kernel_rfl) ?_ _
  obtain ⟨U1,HU1⟩:∃ W,W=(Q1.setCell ⟨g1,1,none⟩ (.slice B1 m1 q1)):=⟨_,rfl⟩
  rw [<- HU1] at HT2 HX2 HF2 HV2 ⊢
  clear HU1 e1 f1 hHeld
  go_upto_region 5 with fail
  go_wp2_with fail
  rw [rounds_succ]
  go_wp2
  go_returns
  exact ⟨rfl,⟨_,_,_,_,_,_,_,_,_,_,HT2.out⟩,HV2.out.2⟩
theorem row_add {b gw:Nat}{b1:Nat}{i j:Int}{f:List Rat}{Af:Option Addr}{nf cf:Nat}{M:M2}{w:World}(h:Wk w b gw M)(hb:b<=w.heap.size)(hf:OwQp w b1 Af nf cf f)(hok:(M).addOK i f)(hij:(i=0/\j=1) ∨ (i=1/\j=0)) :
  Calls Tryz.prog 203 #[.pointer (some ⟨gw,0,none⟩),.iface 226 (.agg #[.int .i64 i,.int .i64 j,.slice Af nf cf])] w (RetWk b gw ((M).add i f) w):=by
 have HH:=ah (cJ hf (cJ hok hij))
 obtain ⟨t,h1,h2,h3⟩:=h
 have HX:=ah h1
 have HT:=ah h3
 have HG:=ah h2
 have HBB:=ah hb
 have k0:=h1.cell (i:=0) rfl
 have HC:=ah k0
 have HBD:=ah (Below.refl w.heap.size w).drew
 have hna : ∀ W : World, Sem.run Tryz.prog (nilAhead 381 226 (.agg #[.int .i64 i, .int .i64 j, .slice Af nf cf]) "simile/smith.to") W = .ok (some false) W := fun W => by kernel_rfl
 clear h1 h2 h3 hb
 clear hf hok hij
 go_enter Tryz.func203,Tryz.ntmps203
 go_wp2_with fail
 go_region_held3 (fun W=>W.cell? ⟨gw,0,none⟩=some (.pointer (some ⟨t,0,none⟩)))
  (first | exact HC.out | exact ((HX.out.next HBD.out).cell (i:=0) rfl) | exact (HX2.out.cell (i:=0) rfl))
  (first
   | (go_at_call 279;refine (add_to (HT.out.next HBD.out) (nT HBB.out HBD.out.size) (HH.out.1.next (HBD.out)) HH.out.2.1 HH.out.2.2).mono ?_;rintro _ W2 ⟨rfl,ht2,hb2,hk2⟩;have HX2:=ah ((HX.out.next HBD.out).keep hk2 (by decide) (by decide));have HT2:=ah ht2;have HB2:=ah ((HBD.out.mono HBB.out).trans hb2);clear ht2 hb2 hk2))
 all_goals
  have k1:=HX2.out.cell (i:=1) rfl
  go_wp2
  go_returns
  exact ⟨rfl,⟨_,HX2.out,HG.out,HT2.out⟩,HB2.out⟩
theorem row_scale {b gw:Nat}{b1:Nat}{i:Int}{s s':Bool}{A A':Option Addr}{n c n' c':Nat}{x:Rat}{M:M2}{w:World}(h:Wk w b gw M)(hb:b<=w.heap.size)(hf:OwQ w b1 s A n c s' A' n' c' x)(hok:(M).tiny/\Qs 1 x)(hij:i=0 ∨ i=1) :
  Calls Tryz.prog 203 #[.pointer (some ⟨gw,0,none⟩),.iface 228 (.agg #[.int .i64 i,.bool s,.slice A n c,.bool s',.slice A' n' c'])] w (RetWk b gw ((M).scale i x) w):=by
 have HH:=ah (cJ hf (cJ hok hij))
 obtain ⟨t,h1,h2,h3⟩:=h
 have HX:=ah h1
 have HT:=ah h3
 have HG:=ah h2
 have HBB:=ah hb
 have k0:=h1.cell (i:=0) rfl
 have HC:=ah k0
 have HBD:=ah (Below.refl w.heap.size w).drew
 have hna : ∀ W : World, Sem.run Tryz.prog (nilAhead 381 228 (.agg #[.int .i64 i, .bool s, .slice A n c, .bool s', .slice A' n' c']) "simile/smith.to") W = .ok (some false) W := fun W => by kernel_rfl
 clear h1 h2 h3 hb
 clear hf hok hij
 go_enter Tryz.func203,Tryz.ntmps203
 go_wp2_with fail
 go_region_held3 (fun W=>W.cell? ⟨gw,0,none⟩=some (.pointer (some ⟨t,0,none⟩)))
  (first | exact HC.out | exact ((HX.out.next HBD.out).cell (i:=0) rfl) | exact (HX2.out.cell (i:=0) rfl))
  (first
   | (go_at_call 280;refine (scale_to (HT.out.next HBD.out) (nT HBB.out HBD.out.size) (HH.out.1.next (HBD.out)) HH.out.2.1 HH.out.2.2).mono ?_;rintro _ W2 ⟨rfl,ht2,hb2,hk2⟩;have HX2:=ah ((HX.out.next HBD.out).keep hk2 (by decide) (by decide));have HT2:=ah ht2;have HB2:=ah ((HBD.out.mono HBB.out).trans hb2);clear ht2 hb2 hk2))
 all_goals
  have k1:=HX2.out.cell (i:=1) rfl
  go_wp2
  go_returns
  exact ⟨rfl,⟨_,HX2.out,HG.out,HT2.out⟩,HB2.out⟩
theorem column_swap01 {b gw:Nat}{M:M2}{w:World}(h:Wk w b gw M)(hb:b<=w.heap.size) :
  Calls Tryz.prog 204 #[.pointer (some ⟨gw,0,none⟩),.iface 221 (.agg #[.int .i64 0,.int .i64 1])] w (RetWk b gw (((M.flip).swap 0 1).flip) w):=by
 have HH:=ah (True.intro)
 obtain ⟨t,h1,h2,h3⟩:=h
 have HX:=ah h1
 have HT:=ah h3
 have HG:=ah h2
 have HBB:=ah hb
 have k0:=h1.cell (i:=0) rfl
 obtain ⟨At,ct,k1,k2⟩:=h3.keepT
 clear h1 h2 h3 hb
 go_enter Tryz.func204,Tryz.ntmps204
 go_wp2_with fail
 refine (flip_any HT.out HBB.out).mono ?_
 rintro _ W1 ⟨t1,rfl,ht1,hb1⟩
 have HT1:=ah ht1
 have HB1:=ah hb1
 have HX1:=ah (HX.out.next hb1)
 clear ht1 hb1 k0 k1 k2
 go_wp2_with fail
 refine (swap_to01 (HT1.out) (nT HBB.out HB1.out.size)).mono ?_
 rintro _ W2 ⟨rfl,ht2,hb2,hk2⟩
 have HX2:=ah (HX1.out.keep hk2 (by decide) (by decide))
 have HT2:=ah ht2
 have HB2:=ah ((HB1.out.mono HBB.out).trans hb2)
 clear ht2 hb2 hk2
 go_wp2_with fail
 refine (flip_any HT2.out (nT HBB.out HB2.out.size)).mono ?_
 rintro _ W3 ⟨t3,rfl,ht3,hb3⟩
 have hx3:=HX2.out.next hb3
 have k0:=hx3.cell (i:=0) rfl
 have f0:=hx3.frozen 0
 have HT4:=ah (ht3.other hx3 (by decide) 0 (.pointer (some ⟨t3,0,none⟩)))
 have HX4:=ah (hx3.store 0 (.pointer (some ⟨t3,0,none⟩)))
 have HB4:=ah ((HB2.out.trans (hb3.mono (nT HBB.out HB2.out.size))).setCell (p:=⟨gw,0,none⟩) HG.out (.pointer (some ⟨t3,0,none⟩)))
 have k2:=HX4.out.cell (i:=2) rfl
 clear ht3 hb3 hx3
 go_wp2
 go_returns
 exact ⟨rfl,⟨_,HX4.out,HG.out,HT4.out⟩,HB4.out⟩
theorem column_add {b gw:Nat}{b1:Nat}{i j:Int}{f:List Rat}{Af:Option Addr}{nf cf:Nat}{M:M2}{w:World}(h:Wk w b gw M)(hb:b<=w.heap.size)(hf:OwQp w b1 Af nf cf f)(hok:(M.flip).addOK i f)(hij:(i=0/\j=1) ∨ (i=1/\j=0)) :
  Calls Tryz.prog 204 #[.pointer (some ⟨gw,0,none⟩),.iface 226 (.agg #[.int .i64 i,.int .i64 j,.slice Af nf cf])] w (RetWk b gw (((M.flip).add i f).flip) w):=by
 have HH:=ah (cJ hf (cJ hok hij))
 obtain ⟨t,h1,h2,h3⟩:=h
 have HX:=ah h1
 have HT:=ah h3
 have HG:=ah h2
 have HBB:=ah hb
 have k0:=h1.cell (i:=0) rfl
 obtain ⟨At,ct,k1,k2⟩:=h3.keepT
 clear h1 h2 h3 hb
 clear hf hok hij
 go_enter Tryz.func204,Tryz.ntmps204
 go_wp2_with fail
 refine (flip_any HT.out HBB.out).mono ?_
 rintro _ W1 ⟨t1,rfl,ht1,hb1⟩
 have HT1:=ah ht1
 have HB1:=ah hb1
 have HX1:=ah (HX.out.next hb1)
 clear ht1 hb1 k0 k1 k2
 go_wp2_with fail
 refine (add_to (HT1.out) (nT HBB.out HB1.out.size) (HH.out.1.next (HB1.out)) HH.out.2.1 HH.out.2.2).mono ?_
 rintro _ W2 ⟨rfl,ht2,hb2,hk2⟩
 have HX2:=ah (HX1.out.keep hk2 (by decide) (by decide))
 have HT2:=ah ht2
 have HB2:=ah ((HB1.out.mono HBB.out).trans hb2)
 clear ht2 hb2 hk2
 go_wp2_with fail
 refine (flip_any HT2.out (nT HBB.out HB2.out.size)).mono ?_
 rintro _ W3 ⟨t3,rfl,ht3,hb3⟩
 have hx3:=HX2.out.next hb3
 have k0:=hx3.cell (i:=0) rfl
 have f0:=hx3.frozen 0
 have HT4:=ah (ht3.other hx3 (by decide) 0 (.pointer (some ⟨t3,0,none⟩)))
 have HX4:=ah (hx3.store 0 (.pointer (some ⟨t3,0,none⟩)))
 have HB4:=ah ((HB2.out.trans (hb3.mono (nT HBB.out HB2.out.size))).setCell (p:=⟨gw,0,none⟩) HG.out (.pointer (some ⟨t3,0,none⟩)))
 have k2:=HX4.out.cell (i:=2) rfl
 clear ht3 hb3 hx3
 go_wp2
 go_returns
 exact ⟨rfl,⟨_,HX4.out,HG.out,HT4.out⟩,HB4.out⟩
end Go.Proofs.YtjnklbfhelbjgaaGreat
