/- Sc24. -/
import Derived.Test.YtjnklbfhelbjgaaGreatSc23
import Derived.Test.YtjnklbfhelbjgaaGreatSc21
import Derived.Deep.RegionHeld3
import Derived.Deep.DrawnRows
import Derived.Test.YtjnklbfhelbjgaaGreatSc15
import Derived.Handy
import Derived.WalkSpells
import Derived.Test.YtjnklbfhelbjgaaGreatSc22
import Derived.Test.YtjnklbfhelbjgaaGreatSc00
set_option maxRecDepth 100000
set_option maxHeartbeats 32000000
set_option linter.all false
namespace Go.Proofs.YtjnklbfhelbjgaaGreat
open Go.RowKit Go.IntWalk
attribute [local go_sem ↓] Go.wp_at_zero Go.wp_at_succ
def M2.scale (M:M2)(i:Int)(x:Rat):M2:=if i=0 then ⟨pscl M.a x,pscl M.b x,M.c,M.d⟩ else ⟨M.a,M.b,pscl M.c x,pscl M.d x⟩
theorem scale_to {b b1 t:Nat}{i:Int}{s s':Bool}{A A':Option Addr}{n c n' c':Nat}{x:Rat}{M:M2}{w:World}(h:Tb w b t M)(hb:b<=w.heap.size)(hf:OwQ w b1 s A n c s' A' n' c' x)(hok:M.tiny/\Qs 1 x)(hij:i=0 ∨ i=1) :
  Calls Tryz.prog 280 #[.agg #[.int .i64 i,.bool s,.slice A n c,.bool s',.slice A' n' c'],.pointer (some ⟨t,0,none⟩)] w (RetT b t (M.scale i x) w):=by
 obtain ⟨gr,cr,g0,c0,g1,c1,⟨xa,xn,xc⟩,⟨ya,yn,yc⟩,⟨za,zn,zc⟩,⟨ua,un,uc⟩,h⟩:=h
 have HTN:=ah hok
 have HBB:=ah hb
 clear hok hb
 rcases hij with rfl | rfl
 ·obtain ⟨W1,HW1⟩:∃ W,W=w.alloc (.cells #[.int .i64 0,.bool s,.slice A n c,.bool s',.slice A' n' c'] 228):=⟨_,rfl⟩
  have hb1:Below w.heap.size w W1:=by rw [HW1];exact bA
  have hX:PX W1 w.heap.size 228 [.int .i64 0,.bool s,.slice A n c,.bool s',.slice A' n' c']:=by rw [HW1];exact PX.new w _ [.int .i64 0,.bool s,.slice A n c,.bool s',.slice A' n' c']
  obtain ⟨gb,hgb⟩:∃ g,g=w.heap.size:=⟨_,rfl⟩
  rw [<- hgb] at hX
  have HT0:=ah (h.next hb1)
  have HF0:=ah (hf.next hb1)
  have HX0:=ah hX
  have HV0:=ah (show b<=W1.heap.size/\Below b w W1/\KeepS w W1 from ⟨nT HBB.out hb1.size,hb1.mono HBB.out,.below hb1⟩)
  have k1':(w.alloc (.cells #[.int .i64 0,.bool s,.slice A n c,.bool s',.slice A' n' c'] 228)).cell? ⟨t,1,none⟩=some (.int .i64 2):=by rw [<- HW1];exact HT0.out.hd.cell rfl
  have HW1:=ah HW1
  clear h hf hb1 hX
  go_enter Tryz.func280,Tryz.ntmps280
  go_wp2_with fail
  rw [<- HW1.out,<- hgb]
  clear HW1 hgb
  clear HW1 k1'
  refine wp_loop_rounds 3 ?_
  rw [rounds_succ]
  go_upto_region 4 with fail
  have HQ0:=ah (show ∀ W,Below W1.heap.size W1 W->T2 W b t gr cr g0 c0 g1 c1 (xa,xn,xc) (ya,yn,yc) (za,zn,zc) (ua,un,uc) ⟨M.a,M.b,M.c,M.d⟩/\PX W gb 228 [.int .i64 0,.bool s,.slice A n c,.bool s',.slice A' n' c']/\OwQ W b1 s A n c s' A' n' c' x from fun W hb=>⟨HT0.out.next hb,HX0.out.next hb,HF0.out.next hb⟩)
  have HS0:=ah (show ∀ W,Below W1.heap.size W1 W->W.cell? ⟨gb,0,none⟩=some (.int .i64 0)/\W.cell? ⟨gb,1,none⟩=some (.bool s)/\W.cell? ⟨gb,2,none⟩=some (.slice A n c)/\W.cell? ⟨gb,3,none⟩=some (.bool s')/\W.cell? ⟨gb,4,none⟩=some (.slice A' n' c')/\W.cell? ⟨t,0,none⟩=some (.slice (some ⟨gr,0,none⟩) 2 cr)/\W.cell? ⟨gr,0,none⟩=some (.slice (some ⟨g0,0,none⟩) 2 c0) from fun W hb=>⟨(HQ0.out W hb).2.1.cell rfl,(HQ0.out W hb).2.1.cell rfl,(HQ0.out W hb).2.1.cell rfl,(HQ0.out W hb).2.1.cell rfl,(HQ0.out W hb).2.1.cell rfl,(HQ0.out W hb).1.hd.cell rfl,(HQ0.out W hb).1.rw.cell rfl⟩)
  have HCD:=ah (Below.refl W1.heap.size W1).drew
  have hg:=(HQ0.out _ HCD.out).1.r0.cell (i:=0) (v:=.slice xa xn xc) rfl
  refine wp_region_held_drew (S:=fun W=>W.cell? ⟨gb,0,none⟩=some (.int .i64 0)/\W.cell? ⟨gb,1,none⟩=some (.bool s)/\W.cell? ⟨gb,2,none⟩=some (.slice A n c)/\W.cell? ⟨gb,3,none⟩=some (.bool s')/\W.cell? ⟨gb,4,none⟩=some (.slice A' n' c')/\W.cell? ⟨t,0,none⟩=some (.slice (some ⟨gr,0,none⟩) 2 cr)/\W.cell? ⟨gr,0,none⟩=some (.slice (some ⟨g0,0,none⟩) 2 c0)) (by kernel_rfl) (HS0.out _ HCD.out) (fun hHeld=>?_)
  refine tk 0 ?_
  refine tk 1 ?_
  refine tk 2 ?_
  refine tk 3 ?_
  refine tk 4 ?_
  refine tk 5 ?_
  refine tk 6 ?_
  refine tk 7 ?_
  refine tk 8 ?_
  refine tk 9 ?_
  refine tk 10 ?_
  refine tk 11 ?_
  refine tk 12 ?_
  refine tk 13 ?_
  refine tk 14 ?_
  refine tk 15 ?_
  refine tk 16 ?_
  refine tk 17 ?_
  refine tk 18 ?_
  refine tk 20 ?_
  refine tk 21 ?_
  refine wpAnyH_ready (rs:=[19]) (by kernel_rfl) (by simp) ?_
  refine AllReadyH.cons rfl (fun K hK=>?_) AllReadyH.nil
  go_simp
  refine hK.out _ _ (HS0.out _ HCD.out) (fun hHeld=>?_)
  clear hK K
  (try simp only [Act.put,List.setIfInBounds_toArray,List.set_cons_zero,List.set_cons_succ])
  refine wpAnyH_ready (rs:=[22]) (by kernel_rfl) (by simp) ?_
  refine AllReadyH.cons rfl (fun K hK=>?_) AllReadyH.nil
  go_simp
  refine (pscale_any (HQ0.out _ HCD.out).1.ea (HQ0.out _ HCD.out).2.2 HTN.out.1.1 HTN.out.2).mono ?_
  rintro _ Q0 ⟨B0,m0,q0,rfl,ho0,hb0⟩
  have HE0:Hid (Below W1.heap.size W1 Q0):=tM HCD hb0
  have HP0:=ah (ho0.base (b':=b) (by have h1:=HV0.out.1;have h4:=HCD.out.size;omega))
  have f0:=(HQ0.out _ HE0.out).1.r0.frozen 0
  have e0:=(HQ0.out _ HE0.out).1.r0.cell (i:=0) (v:=.slice xa xn xc) rfl
  clear ho0 hb0 hg
  go_wp2_with fail
  refine hK.out _ _ (HS0.out _ HE0.out) (fun hHeld=>?_)
  clear hK K
  (try simp only [Act.put,List.setIfInBounds_toArray,List.set_cons_zero,List.set_cons_succ])
  refine tk 23 ?_
  refine tk 24 ?_
  refine tk 25 ?_
  refine tk 26 ?_
  have hT:=(HQ0.out _ HE0.out).1.put0 (e:=(B0,m0,q0)) HP0.out
  have hX:=(HQ0.out _ HE0.out).2.1.far (p:=⟨g0,0,none⟩) ((HQ0.out _ HE0.out).2.1.ne (HQ0.out _ HE0.out).1.r0 (by decide)) (.slice B0 m0 q0)
  have hK:=(HQ0.out _ HE0.out).1.r0.keepS (.inl rfl) 0 (.slice B0 m0 q0)
  have HT1:=ah (show T2 (Q0.setCell ⟨g0,0,none⟩ (.slice B0 m0 q0)) b t gr cr g0 c0 g1 c1 (B0,m0,q0) (ya,yn,yc) (za,zn,zc) (ua,un,uc) ⟨pscl (M.a) x,M.b,M.c,M.d⟩ from hT)
  have HX1:=ah (show PX (Q0.setCell ⟨g0,0,none⟩ (.slice B0 m0 q0)) gb 228 [.int .i64 0,.bool s,.slice A n c,.bool s',.slice A' n' c'] from hX)
  have HF1:=ah (show OwQ (Q0.setCell ⟨g0,0,none⟩ (.slice B0 m0 q0)) b1 s A n c s' A' n' c' x from (HQ0.out _ HE0.out).2.2.keep hK.q.1)
  have HV1:=ah (show b<=(Q0.setCell ⟨g0,0,none⟩ (.slice B0 m0 q0)).heap.size/\Below b w (Q0.setCell ⟨g0,0,none⟩ (.slice B0 m0 q0))/\KeepS w (Q0.setCell ⟨g0,0,none⟩ (.slice B0 m0 q0)) from by
   have h1:=HV0.out.1
   have h3:=HE0.out.size
   have h4:=HV0.out.2.1.trans (HE0.out.mono h1)
   refine ⟨by rw [World.size_setCell];omega,h4.setCell (p:=⟨g0,0,none⟩) HT0.out.b0 _,?_⟩
   exact (HV0.out.2.2.trans (.below HE0.out)).trans hK)
  clear hT hX hK
  refine wpAnyH_ready (rs:=[27]) (by kernel_rfl) (by simp) ?_
  refine AllReadyH.cons rfl (fun K hK=>?_) AllReadyH.nil
  go_simp
  refine hK.out _ _ ⟨HX1.out.cell rfl,HX1.out.cell rfl,HX1.out.cell rfl,HX1.out.cell rfl,HX1.out.cell rfl,HT1.out.hd.cell rfl,HT1.out.rw.cell rfl⟩ (fun hHeld=>?_)
  clear hK K
  (try simp only [Act.put,List.setIfInBounds_toArray,List.set_cons_zero,List.set_cons_succ])
  refine wpAnyH_done (by kernel_rfl) ?_ _
  obtain ⟨U0,HU0⟩:∃ W,W=(Q0.setCell ⟨g0,0,none⟩ (.slice B0 m0 q0)):=⟨_,rfl⟩
  rw [<- HU0] at HT1 HX1 HF1 HV1 ⊢
  clear HU0 e0 f0 hHeld
  go_upto_region 5 with fail
  go_wp2_with fail
  rw [rounds_succ]
  go_upto_region 4 with fail
  have HQ1:=ah (show ∀ W,Below U0.heap.size U0 W->T2 W b t gr cr g0 c0 g1 c1 (B0,m0,q0) (ya,yn,yc) (za,zn,zc) (ua,un,uc) ⟨pscl (M.a) x,M.b,M.c,M.d⟩/\PX W gb 228 [.int .i64 0,.bool s,.slice A n c,.bool s',.slice A' n' c']/\OwQ W b1 s A n c s' A' n' c' x from fun W hb=>⟨HT1.out.next hb,HX1.out.next hb,HF1.out.next hb⟩)
  have HS1:=ah (show ∀ W,Below U0.heap.size U0 W->W.cell? ⟨gb,0,none⟩=some (.int .i64 0)/\W.cell? ⟨gb,1,none⟩=some (.bool s)/\W.cell? ⟨gb,2,none⟩=some (.slice A n c)/\W.cell? ⟨gb,3,none⟩=some (.bool s')/\W.cell? ⟨gb,4,none⟩=some (.slice A' n' c')/\W.cell? ⟨t,0,none⟩=some (.slice (some ⟨gr,0,none⟩) 2 cr)/\W.cell? ⟨gr,0,none⟩=some (.slice (some ⟨g0,0,none⟩) 2 c0) from fun W hb=>⟨(HQ1.out W hb).2.1.cell rfl,(HQ1.out W hb).2.1.cell rfl,(HQ1.out W hb).2.1.cell rfl,(HQ1.out W hb).2.1.cell rfl,(HQ1.out W hb).2.1.cell rfl,(HQ1.out W hb).1.hd.cell rfl,(HQ1.out W hb).1.rw.cell rfl⟩)
  have HCD:=ah (Below.refl U0.heap.size U0).drew
  have hg:=(HQ1.out _ HCD.out).1.r0.cell (i:=1) (v:=.slice ya yn yc) rfl
  refine wp_region_held_drew (S:=fun W=>W.cell? ⟨gb,0,none⟩=some (.int .i64 0)/\W.cell? ⟨gb,1,none⟩=some (.bool s)/\W.cell? ⟨gb,2,none⟩=some (.slice A n c)/\W.cell? ⟨gb,3,none⟩=some (.bool s')/\W.cell? ⟨gb,4,none⟩=some (.slice A' n' c')/\W.cell? ⟨t,0,none⟩=some (.slice (some ⟨gr,0,none⟩) 2 cr)/\W.cell? ⟨gr,0,none⟩=some (.slice (some ⟨g0,0,none⟩) 2 c0)) (by kernel_rfl) (HS1.out _ HCD.out) (fun hHeld=>?_)
  refine tk 0 ?_
  refine tk 1 ?_
  refine tk 2 ?_
  refine tk 3 ?_
  refine tk 4 ?_
  refine tk 5 ?_
  refine tk 6 ?_
  refine tk 7 ?_
  refine tk 8 ?_
  refine tk 9 ?_
  refine tk 10 ?_
  refine tk 11 ?_
  refine tk 12 ?_
  refine tk 13 ?_
  refine tk 14 ?_
  refine tk 15 ?_
  refine tk 16 ?_
  refine tk 17 ?_
  refine tk 18 ?_
  refine tk 20 ?_
  refine tk 21 ?_
  refine wpAnyH_ready (rs:=[19]) (by kernel_rfl) (by simp) ?_
  refine AllReadyH.cons rfl (fun K hK=>?_) AllReadyH.nil
  go_simp
  refine hK.out _ _ (HS1.out _ HCD.out) (fun hHeld=>?_)
  clear hK K
  (try simp only [Act.put,List.setIfInBounds_toArray,List.set_cons_zero,List.set_cons_succ])
  refine wpAnyH_ready (rs:=[22]) (by kernel_rfl) (by simp) ?_
  refine AllReadyH.cons rfl (fun K hK=>?_) AllReadyH.nil
  go_simp
  refine (pscale_any (HQ1.out _ HCD.out).1.eb (HQ1.out _ HCD.out).2.2 HTN.out.1.2.1 HTN.out.2).mono ?_
  rintro _ Q1 ⟨B1,m1,q1,rfl,ho1,hb1⟩
  have HE1:Hid (Below U0.heap.size U0 Q1):=tM HCD hb1
  have HP1:=ah (ho1.base (b':=b) (by have h1:=HV1.out.1;have h4:=HCD.out.size;omega))
  have f1:=(HQ1.out _ HE1.out).1.r0.frozen 1
  have e1:=(HQ1.out _ HE1.out).1.r0.cell (i:=1) (v:=.slice ya yn yc) rfl
  clear ho1 hb1 hg
  go_wp2_with fail
  refine hK.out _ _ (HS1.out _ HE1.out) (fun hHeld=>?_)
  clear hK K
  (try simp only [Act.put,List.setIfInBounds_toArray,List.set_cons_zero,List.set_cons_succ])
  refine tk 23 ?_
  refine tk 24 ?_
  refine tk 25 ?_
  refine tk 26 ?_
  have hT:=(HQ1.out _ HE1.out).1.put1 (e:=(B1,m1,q1)) HP1.out
  have hX:=(HQ1.out _ HE1.out).2.1.far (p:=⟨g0,1,none⟩) ((HQ1.out _ HE1.out).2.1.ne (HQ1.out _ HE1.out).1.r0 (by decide)) (.slice B1 m1 q1)
  have hK:=(HQ1.out _ HE1.out).1.r0.keepS (.inl rfl) 1 (.slice B1 m1 q1)
  have HT2:=ah (show T2 (Q1.setCell ⟨g0,1,none⟩ (.slice B1 m1 q1)) b t gr cr g0 c0 g1 c1 (B0,m0,q0) (B1,m1,q1) (za,zn,zc) (ua,un,uc) ⟨pscl (M.a) x,pscl (M.b) x,M.c,M.d⟩ from hT)
  have HX2:=ah (show PX (Q1.setCell ⟨g0,1,none⟩ (.slice B1 m1 q1)) gb 228 [.int .i64 0,.bool s,.slice A n c,.bool s',.slice A' n' c'] from hX)
  have HF2:=ah (show OwQ (Q1.setCell ⟨g0,1,none⟩ (.slice B1 m1 q1)) b1 s A n c s' A' n' c' x from (HQ1.out _ HE1.out).2.2.keep hK.q.1)
  have HV2:=ah (show b<=(Q1.setCell ⟨g0,1,none⟩ (.slice B1 m1 q1)).heap.size/\Below b w (Q1.setCell ⟨g0,1,none⟩ (.slice B1 m1 q1))/\KeepS w (Q1.setCell ⟨g0,1,none⟩ (.slice B1 m1 q1)) from by
   have h1:=HV1.out.1
   have h3:=HE1.out.size
   have h4:=HV1.out.2.1.trans (HE1.out.mono h1)
   refine ⟨by rw [World.size_setCell];omega,h4.setCell (p:=⟨g0,1,none⟩) HT1.out.b0 _,?_⟩
   exact (HV1.out.2.2.trans (.below HE1.out)).trans hK)
  clear hT hX hK
  refine wpAnyH_ready (rs:=[27]) (by kernel_rfl) (by simp) ?_
  refine AllReadyH.cons rfl (fun K hK=>?_) AllReadyH.nil
  go_simp
  refine hK.out _ _ ⟨HX2.out.cell rfl,HX2.out.cell rfl,HX2.out.cell rfl,HX2.out.cell rfl,HX2.out.cell rfl,HT2.out.hd.cell rfl,HT2.out.rw.cell rfl⟩ (fun hHeld=>?_)
  clear hK K
  (try simp only [Act.put,List.setIfInBounds_toArray,List.set_cons_zero,List.set_cons_succ])
  refine wpAnyH_done (by kernel_rfl) ?_ _
  obtain ⟨U1,HU1⟩:∃ W,W=(Q1.setCell ⟨g0,1,none⟩ (.slice B1 m1 q1)):=⟨_,rfl⟩
  rw [<- HU1] at HT2 HX2 HF2 HV2 ⊢
  clear HU1 e1 f1 hHeld
  go_upto_region 5 with fail
  go_wp2_with fail
  rw [rounds_succ]
  go_wp2
  go_returns
  exact ⟨rfl,⟨_,_,_,_,_,_,_,_,_,_,HT2.out⟩,HV2.out.2⟩
 ·obtain ⟨W1,HW1⟩:∃ W,W=w.alloc (.cells #[.int .i64 1,.bool s,.slice A n c,.bool s',.slice A' n' c'] 228):=⟨_,rfl⟩
  have hb1:Below w.heap.size w W1:=by rw [HW1];exact bA
  have hX:PX W1 w.heap.size 228 [.int .i64 1,.bool s,.slice A n c,.bool s',.slice A' n' c']:=by rw [HW1];exact PX.new w _ [.int .i64 1,.bool s,.slice A n c,.bool s',.slice A' n' c']
  obtain ⟨gb,hgb⟩:∃ g,g=w.heap.size:=⟨_,rfl⟩
  rw [<- hgb] at hX
  have HT0:=ah (h.next hb1)
  have HF0:=ah (hf.next hb1)
  have HX0:=ah hX
  have HV0:=ah (show b<=W1.heap.size/\Below b w W1/\KeepS w W1 from ⟨nT HBB.out hb1.size,hb1.mono HBB.out,.below hb1⟩)
  have k1':(w.alloc (.cells #[.int .i64 1,.bool s,.slice A n c,.bool s',.slice A' n' c'] 228)).cell? ⟨t,1,none⟩=some (.int .i64 2):=by rw [<- HW1];exact HT0.out.hd.cell rfl
  have HW1:=ah HW1
  clear h hf hb1 hX
  go_enter Tryz.func280,Tryz.ntmps280
  go_wp2_with fail
  rw [<- HW1.out,<- hgb]
  clear HW1 hgb
  clear HW1 k1'
  refine wp_loop_rounds 3 ?_
  rw [rounds_succ]
  go_upto_region 4 with fail
  have HQ0:=ah (show ∀ W,Below W1.heap.size W1 W->T2 W b t gr cr g0 c0 g1 c1 (xa,xn,xc) (ya,yn,yc) (za,zn,zc) (ua,un,uc) ⟨M.a,M.b,M.c,M.d⟩/\PX W gb 228 [.int .i64 1,.bool s,.slice A n c,.bool s',.slice A' n' c']/\OwQ W b1 s A n c s' A' n' c' x from fun W hb=>⟨HT0.out.next hb,HX0.out.next hb,HF0.out.next hb⟩)
  have HS0:=ah (show ∀ W,Below W1.heap.size W1 W->W.cell? ⟨gb,0,none⟩=some (.int .i64 1)/\W.cell? ⟨gb,1,none⟩=some (.bool s)/\W.cell? ⟨gb,2,none⟩=some (.slice A n c)/\W.cell? ⟨gb,3,none⟩=some (.bool s')/\W.cell? ⟨gb,4,none⟩=some (.slice A' n' c')/\W.cell? ⟨t,0,none⟩=some (.slice (some ⟨gr,0,none⟩) 2 cr)/\W.cell? ⟨gr,1,none⟩=some (.slice (some ⟨g1,0,none⟩) 2 c1) from fun W hb=>⟨(HQ0.out W hb).2.1.cell rfl,(HQ0.out W hb).2.1.cell rfl,(HQ0.out W hb).2.1.cell rfl,(HQ0.out W hb).2.1.cell rfl,(HQ0.out W hb).2.1.cell rfl,(HQ0.out W hb).1.hd.cell rfl,(HQ0.out W hb).1.rw.cell rfl⟩)
  have HCD:=ah (Below.refl W1.heap.size W1).drew
  have hg:=(HQ0.out _ HCD.out).1.r1.cell (i:=0) (v:=.slice za zn zc) rfl
  refine wp_region_held_drew (S:=fun W=>W.cell? ⟨gb,0,none⟩=some (.int .i64 1)/\W.cell? ⟨gb,1,none⟩=some (.bool s)/\W.cell? ⟨gb,2,none⟩=some (.slice A n c)/\W.cell? ⟨gb,3,none⟩=some (.bool s')/\W.cell? ⟨gb,4,none⟩=some (.slice A' n' c')/\W.cell? ⟨t,0,none⟩=some (.slice (some ⟨gr,0,none⟩) 2 cr)/\W.cell? ⟨gr,1,none⟩=some (.slice (some ⟨g1,0,none⟩) 2 c1)) (by kernel_rfl) (HS0.out _ HCD.out) (fun hHeld=>?_)
  refine tk 0 ?_
  refine tk 1 ?_
  refine tk 2 ?_
  refine tk 3 ?_
  refine tk 4 ?_
  refine tk 5 ?_
  refine tk 6 ?_
  refine tk 7 ?_
  refine tk 8 ?_
  refine tk 9 ?_
  refine tk 10 ?_
  refine tk 11 ?_
  refine tk 12 ?_
  refine tk 13 ?_
  refine tk 14 ?_
  refine tk 15 ?_
  refine tk 16 ?_
  refine tk 17 ?_
  refine tk 18 ?_
  refine tk 20 ?_
  refine tk 21 ?_
  refine wpAnyH_ready (rs:=[19]) (by kernel_rfl) (by simp) ?_
  refine AllReadyH.cons rfl (fun K hK=>?_) AllReadyH.nil
  go_simp
  refine hK.out _ _ (HS0.out _ HCD.out) (fun hHeld=>?_)
  clear hK K
  (try simp only [Act.put,List.setIfInBounds_toArray,List.set_cons_zero,List.set_cons_succ])
  refine wpAnyH_ready (rs:=[22]) (by kernel_rfl) (by simp) ?_
  refine AllReadyH.cons rfl (fun K hK=>?_) AllReadyH.nil
  go_simp
  refine (pscale_any (HQ0.out _ HCD.out).1.ec (HQ0.out _ HCD.out).2.2 HTN.out.1.2.2.1 HTN.out.2).mono ?_
  rintro _ Q0 ⟨B0,m0,q0,rfl,ho0,hb0⟩
  have HE0:Hid (Below W1.heap.size W1 Q0):=tM HCD hb0
  have HP0:=ah (ho0.base (b':=b) (by have h1:=HV0.out.1;have h4:=HCD.out.size;omega))
  have f0:=(HQ0.out _ HE0.out).1.r1.frozen 0
  have e0:=(HQ0.out _ HE0.out).1.r1.cell (i:=0) (v:=.slice za zn zc) rfl
  clear ho0 hb0 hg
  go_wp2_with fail
  refine hK.out _ _ (HS0.out _ HE0.out) (fun hHeld=>?_)
  clear hK K
  (try simp only [Act.put,List.setIfInBounds_toArray,List.set_cons_zero,List.set_cons_succ])
  refine tk 23 ?_
  refine tk 24 ?_
  refine tk 25 ?_
  refine tk 26 ?_
  have hT:=(HQ0.out _ HE0.out).1.put2 (e:=(B0,m0,q0)) HP0.out
  have hX:=(HQ0.out _ HE0.out).2.1.far (p:=⟨g1,0,none⟩) ((HQ0.out _ HE0.out).2.1.ne (HQ0.out _ HE0.out).1.r1 (by decide)) (.slice B0 m0 q0)
  have hK:=(HQ0.out _ HE0.out).1.r1.keepS (.inl rfl) 0 (.slice B0 m0 q0)
  have HT1:=ah (show T2 (Q0.setCell ⟨g1,0,none⟩ (.slice B0 m0 q0)) b t gr cr g0 c0 g1 c1 (xa,xn,xc) (ya,yn,yc) (B0,m0,q0) (ua,un,uc) ⟨M.a,M.b,pscl (M.c) x,M.d⟩ from hT)
  have HX1:=ah (show PX (Q0.setCell ⟨g1,0,none⟩ (.slice B0 m0 q0)) gb 228 [.int .i64 1,.bool s,.slice A n c,.bool s',.slice A' n' c'] from hX)
  have HF1:=ah (show OwQ (Q0.setCell ⟨g1,0,none⟩ (.slice B0 m0 q0)) b1 s A n c s' A' n' c' x from (HQ0.out _ HE0.out).2.2.keep hK.q.1)
  have HV1:=ah (show b<=(Q0.setCell ⟨g1,0,none⟩ (.slice B0 m0 q0)).heap.size/\Below b w (Q0.setCell ⟨g1,0,none⟩ (.slice B0 m0 q0))/\KeepS w (Q0.setCell ⟨g1,0,none⟩ (.slice B0 m0 q0)) from by
   have h1:=HV0.out.1
   have h3:=HE0.out.size
   have h4:=HV0.out.2.1.trans (HE0.out.mono h1)
   refine ⟨by rw [World.size_setCell];omega,h4.setCell (p:=⟨g1,0,none⟩) HT0.out.b1 _,?_⟩
   exact (HV0.out.2.2.trans (.below HE0.out)).trans hK)
  clear hT hX hK
  refine wpAnyH_ready (rs:=[27]) (by kernel_rfl) (by simp) ?_
  refine AllReadyH.cons rfl (fun K hK=>?_) AllReadyH.nil
  go_simp
  refine hK.out _ _ ⟨HX1.out.cell rfl,HX1.out.cell rfl,HX1.out.cell rfl,HX1.out.cell rfl,HX1.out.cell rfl,HT1.out.hd.cell rfl,HT1.out.rw.cell rfl⟩ (fun hHeld=>?_)
  clear hK K
  (try simp only [Act.put,List.setIfInBounds_toArray,List.set_cons_zero,List.set_cons_succ])
  refine wpAnyH_done (by kernel_rfl) ?_ _
  obtain ⟨U0,HU0⟩:∃ W,W=(Q0.setCell ⟨g1,0,none⟩ (.slice B0 m0 q0)):=⟨_,rfl⟩
  rw [<- HU0] at HT1 HX1 HF1 HV1 ⊢
  clear HU0 e0 f0 hHeld
  go_upto_region 5 with fail
  go_wp2_with fail
  rw [rounds_succ]
  go_upto_region 4 with fail
  have HQ1:=ah (show ∀ W,Below U0.heap.size U0 W->T2 W b t gr cr g0 c0 g1 c1 (xa,xn,xc) (ya,yn,yc) (B0,m0,q0) (ua,un,uc) ⟨M.a,M.b,pscl (M.c) x,M.d⟩/\PX W gb 228 [.int .i64 1,.bool s,.slice A n c,.bool s',.slice A' n' c']/\OwQ W b1 s A n c s' A' n' c' x from fun W hb=>⟨HT1.out.next hb,HX1.out.next hb,HF1.out.next hb⟩)
  have HS1:=ah (show ∀ W,Below U0.heap.size U0 W->W.cell? ⟨gb,0,none⟩=some (.int .i64 1)/\W.cell? ⟨gb,1,none⟩=some (.bool s)/\W.cell? ⟨gb,2,none⟩=some (.slice A n c)/\W.cell? ⟨gb,3,none⟩=some (.bool s')/\W.cell? ⟨gb,4,none⟩=some (.slice A' n' c')/\W.cell? ⟨t,0,none⟩=some (.slice (some ⟨gr,0,none⟩) 2 cr)/\W.cell? ⟨gr,1,none⟩=some (.slice (some ⟨g1,0,none⟩) 2 c1) from fun W hb=>⟨(HQ1.out W hb).2.1.cell rfl,(HQ1.out W hb).2.1.cell rfl,(HQ1.out W hb).2.1.cell rfl,(HQ1.out W hb).2.1.cell rfl,(HQ1.out W hb).2.1.cell rfl,(HQ1.out W hb).1.hd.cell rfl,(HQ1.out W hb).1.rw.cell rfl⟩)
  have HCD:=ah (Below.refl U0.heap.size U0).drew
  have hg:=(HQ1.out _ HCD.out).1.r1.cell (i:=1) (v:=.slice ua un uc) rfl
  refine wp_region_held_drew (S:=fun W=>W.cell? ⟨gb,0,none⟩=some (.int .i64 1)/\W.cell? ⟨gb,1,none⟩=some (.bool s)/\W.cell? ⟨gb,2,none⟩=some (.slice A n c)/\W.cell? ⟨gb,3,none⟩=some (.bool s')/\W.cell? ⟨gb,4,none⟩=some (.slice A' n' c')/\W.cell? ⟨t,0,none⟩=some (.slice (some ⟨gr,0,none⟩) 2 cr)/\W.cell? ⟨gr,1,none⟩=some (.slice (some ⟨g1,0,none⟩) 2 c1)) (by kernel_rfl) (HS1.out _ HCD.out) (fun hHeld=>?_)
  refine tk 0 ?_
  refine tk 1 ?_
  refine tk 2 ?_
  refine tk 3 ?_
  refine tk 4 ?_
  refine tk 5 ?_
  refine tk 6 ?_
  refine tk 7 ?_
  refine tk 8 ?_
  refine tk 9 ?_
  refine tk 10 ?_
  refine tk 11 ?_
  refine tk 12 ?_
  refine tk 13 ?_
  refine tk 14 ?_
  refine tk 15 ?_
  refine tk 16 ?_
  refine tk 17 ?_
  refine tk 18 ?_
  refine tk 20 ?_
  refine tk 21 ?_
  refine wpAnyH_ready (rs:=[19]) (by kernel_rfl) (by simp) ?_
  refine AllReadyH.cons rfl (fun K hK=>?_) AllReadyH.nil
  go_simp
  refine hK.out _ _ (HS1.out _ HCD.out) (fun hHeld=>?_)
  clear hK K
  (try simp only [Act.put,List.setIfInBounds_toArray,List.set_cons_zero,List.set_cons_succ])
  refine wpAnyH_ready (rs:=[22]) (by kernel_rfl) (by simp) ?_
  refine AllReadyH.cons rfl (fun K hK=>?_) AllReadyH.nil
  go_simp
  refine (pscale_any (HQ1.out _ HCD.out).1.ed (HQ1.out _ HCD.out).2.2 HTN.out.1.2.2.2 HTN.out.2).mono ?_
  rintro _ Q1 ⟨B1,m1,q1,rfl,ho1,hb1⟩
  have HE1:Hid (Below U0.heap.size U0 Q1):=tM HCD hb1
  have HP1:=ah (ho1.base (b':=b) (by have h1:=HV1.out.1;have h4:=HCD.out.size;omega))
  have f1:=(HQ1.out _ HE1.out).1.r1.frozen 1
  have e1:=(HQ1.out _ HE1.out).1.r1.cell (i:=1) (v:=.slice ua un uc) rfl
  clear ho1 hb1 hg
  go_wp2_with fail
  refine hK.out _ _ (HS1.out _ HE1.out) (fun hHeld=>?_)
  clear hK K
  (try simp only [Act.put,List.setIfInBounds_toArray,List.set_cons_zero,List.set_cons_succ])
  refine tk 23 ?_
  refine tk 24 ?_
  refine tk 25 ?_
  refine tk 26 ?_
  have hT:=(HQ1.out _ HE1.out).1.put3 (e:=(B1,m1,q1)) HP1.out
  have hX:=(HQ1.out _ HE1.out).2.1.far (p:=⟨g1,1,none⟩) ((HQ1.out _ HE1.out).2.1.ne (HQ1.out _ HE1.out).1.r1 (by decide)) (.slice B1 m1 q1)
  have hK:=(HQ1.out _ HE1.out).1.r1.keepS (.inl rfl) 1 (.slice B1 m1 q1)
  have HT2:=ah (show T2 (Q1.setCell ⟨g1,1,none⟩ (.slice B1 m1 q1)) b t gr cr g0 c0 g1 c1 (xa,xn,xc) (ya,yn,yc) (B0,m0,q0) (B1,m1,q1) ⟨M.a,M.b,pscl (M.c) x,pscl (M.d) x⟩ from hT)
  have HX2:=ah (show PX (Q1.setCell ⟨g1,1,none⟩ (.slice B1 m1 q1)) gb 228 [.int .i64 1,.bool s,.slice A n c,.bool s',.slice A' n' c'] from hX)
  have HF2:=ah (show OwQ (Q1.setCell ⟨g1,1,none⟩ (.slice B1 m1 q1)) b1 s A n c s' A' n' c' x from (HQ1.out _ HE1.out).2.2.keep hK.q.1)
  have HV2:=ah (show b<=(Q1.setCell ⟨g1,1,none⟩ (.slice B1 m1 q1)).heap.size/\Below b w (Q1.setCell ⟨g1,1,none⟩ (.slice B1 m1 q1))/\KeepS w (Q1.setCell ⟨g1,1,none⟩ (.slice B1 m1 q1)) from by
   have h1:=HV1.out.1
   have h3:=HE1.out.size
   have h4:=HV1.out.2.1.trans (HE1.out.mono h1)
   refine ⟨by rw [World.size_setCell];omega,h4.setCell (p:=⟨g1,1,none⟩) HT1.out.b1 _,?_⟩
   exact (HV1.out.2.2.trans (.below HE1.out)).trans hK)
  clear hT hX hK
  refine wpAnyH_ready (rs:=[27]) (by kernel_rfl) (by simp) ?_
  refine AllReadyH.cons rfl (fun K hK=>?_) AllReadyH.nil
  go_simp
  refine hK.out _ _ ⟨HX2.out.cell rfl,HX2.out.cell rfl,HX2.out.cell rfl,HX2.out.cell rfl,HX2.out.cell rfl,HT2.out.hd.cell rfl,HT2.out.rw.cell rfl⟩ (fun hHeld=>?_)
  clear hK K
  (try simp only [Act.put,List.setIfInBounds_toArray,List.set_cons_zero,List.set_cons_succ])
  refine wpAnyH_done (by kernel_rfl) ?_ _
  obtain ⟨U1,HU1⟩:∃ W,W=(Q1.setCell ⟨g1,1,none⟩ (.slice B1 m1 q1)):=⟨_,rfl⟩
  rw [<- HU1] at HT2 HX2 HF2 HV2 ⊢
  clear HU1 e1 f1 hHeld
  go_upto_region 5 with fail
  go_wp2_with fail
  rw [rounds_succ]
  go_wp2
  go_returns
  exact ⟨rfl,⟨_,_,_,_,_,_,_,_,_,_,HT2.out⟩,HV2.out.2⟩
theorem make_p2 (w:World):(Instr.makeSlice 30 (.int .i64 2) (.int .i64 2)).run Tryz.prog w=.ok (.slice (some ⟨w.heap.size,0,none⟩) 2 2) (w.alloc (.cells #[.slice none 0 0,.slice none 0 0] 73)):=by
 have h:=run_make_row' 30 73 (.slice none 0 0) 24 Tryz.underlying30 infoPoly rfl .i64 .i64 2 (by omega) (by omega) w
 have e:madeCells #[Value.slice none 0 0] 2=#[.slice none 0 0,.slice none 0 0]:=by
  unfold madeCells
  apply Array.ext
  ·simp
  ·intro i h1 h2
   have h3:i=0 ∨ i=1:=by simp at h2;omega
   rcases h3 with rfl | rfl
   ·simp
   ·simp
 rw [e] at h
 exact h
def RetTb (b:Nat)(M:M2)(w:World)(e:Ending)(w':World):Prop:=∃ t',e=.returned (.pointer (some ⟨t',0,none⟩))/\Tb w' b t' M/\Below w.heap.size w w'
theorem flip_any {b t:Nat}{M:M2}{w:World}(h:Tb w b t M)(hb:b<=w.heap.size):Calls Tryz.prog 230 #[.pointer (some ⟨t,0,none⟩)] w (RetTb b M.flip w):=by
 obtain ⟨gr,cr,g0,c0,g1,c1,⟨xa,xn,xc⟩,⟨ya,yn,yc⟩,⟨za,zn,zc⟩,⟨ua,un,uc⟩,h⟩:=h
 obtain ⟨i1,hjf,hy0,hy1,hy2⟩:=info_parts infoRow
 have hmk:=make_p2
 have HBB:=ah hb
 have HT:=ah (show ∀ V,Below w.heap.size w V->T2 V b t gr cr g0 c0 g1 c1 (xa,xn,xc) (ya,yn,yc) (za,zn,zc) (ua,un,uc) M from fun V hb=>h.next hb)
 have HX:=ah (show ∀ V,Below w.heap.size w V->V.cell? ⟨t,0,none⟩=some (.slice (some ⟨gr,0,none⟩) 2 cr)/\V.cell? ⟨t,1,none⟩=some (.int .i64 2)/\V.cell? ⟨gr,0,none⟩=some (.slice (some ⟨g0,0,none⟩) 2 c0)/\V.cell? ⟨gr,1,none⟩=some (.slice (some ⟨g1,0,none⟩) 2 c1)/\V.cell? ⟨g0,0,none⟩=some (.slice xa xn xc)/\V.cell? ⟨g0,1,none⟩=some (.slice ya yn yc)/\V.cell? ⟨g1,0,none⟩=some (.slice za zn zc)/\V.cell? ⟨g1,1,none⟩=some (.slice ua un uc) from fun V hb=>(h.next hb).cells)
 obtain ⟨k0,_⟩:=HX.out w bR
 obtain ⟨W1,HW1⟩:∃ W,W=w.alloc (.cells #[.slice none 0 0,.int .i64 2] 102):=⟨_,rfl⟩
 have hb1:Below w.heap.size w W1:=by rw [HW1];exact bA
 have k1':(w.alloc (.cells #[.slice none 0 0,.int .i64 2] 102)).cell? ⟨t,1,none⟩=some (.int .i64 2):=by rw [<- HW1];exact (HX.out _ hb1).2.1
 obtain ⟨go,hgo⟩:∃ g,g=w.heap.size:=⟨_,rfl⟩
 have HN1:=ah (show PX W1 go 102 [.slice none 0 0,.int .i64 2] by rw [HW1,hgo];exact PX.new w _ [.slice none 0 0,.int .i64 2])
 have HGT:=ah (show b<=go by rw [hgo];exact hb)
 have HGW:=ah (show w.heap.size<=go by rw [hgo];exact nR)
 have HB1:=ah hb1
 have HW1:=ah HW1
 clear h hb hb1
 go_enter Tryz.func230,Tryz.ntmps230
 go_wp2_with fail
 rw [<- HW1.out,<- hgo]
 clear HW1 hgo
 clear HW1 k0 k1'
 refine wp_loop_rounds 3 ?_
 rw [rounds_succ]
 obtain ⟨k0,k1,k2,k3,k4,k5,k6,k7⟩:=HX.out _ HB1.out
 obtain ⟨W2,HW2⟩:∃ W,W=W1.alloc (.cells #[.slice none 0 0,.slice none 0 0] 73):=⟨_,rfl⟩
 have hb2:Below W1.heap.size W1 W2:=by rw [HW2];exact bA
 have HBW2:=tM HB1 hb2
 have k0':(W1.alloc (.cells #[.slice none 0 0,.slice none 0 0] 73)).cell? ⟨t,0,none⟩=some (.slice (some ⟨gr,0,none⟩) 2 cr):=by rw [<- HW2];exact (HX.out _ HBW2.out).1
 obtain ⟨gn0,hgn0⟩:∃ g,g=W1.heap.size:=⟨_,rfl⟩
 have HPW2:=ah (show PX W2 gn0 73 [.slice none 0 0,.slice none 0 0] by rw [HW2,hgn0];exact PX.new W1 _ [.slice none 0 0,.slice none 0 0])
 have HGgn0:=ah (show w.heap.size<=gn0 by rw [hgn0];exact HB1.out.size)
 have HNW2:=ah (HN1.out.next hb2)
 have HW2:=ah HW2
 clear hb2
 go_wp2_with fail
 rw [<- HW2.out,<- hgn0]
 clear HW2 hgn0
 clear HW2 k0 k1 k2 k3 k4 k5 k6 k7 k0'
 obtain ⟨k0,k1,k2,k3,k4,k5,k6,k7⟩:=HX.out _ HBW2.out
 have q0:=HPW2.out.cell (i:=0) rfl
 have q1:=HPW2.out.cell (i:=1) rfl
 have f0:=HPW2.out.frozen 0
 have f1:=HPW2.out.frozen 1
 obtain ⟨W3,HW3⟩:∃ W,W=W2.setCell ⟨gn0,0,none⟩ (.slice xa xn xc):=⟨_,rfl⟩
 have HBW3:=ah (show Below w.heap.size w W3 by rw [HW3];exact HBW2.out.setCell (p:=⟨gn0,0,none⟩) HGgn0.out _)
 have HPW3:=ah (show PX W3 gn0 73 [.slice xa xn xc,.slice none 0 0] by rw [HW3];exact HPW2.out.store 0 _)
 have HKQW3:=ah (show KeepQ W2 W3 by rw [HW3];exact (HPW2.out.keepS (.inl rfl) 0 _).q)
 have HNW3:=ah (show PX W3 go 102 [.slice none 0 0,.int .i64 2] by rw [HW3];exact HNW2.out.far (HNW2.out.ne HPW2.out (by decide)) _)
 have HW3:=ah HW3
 refine wp_loop_rounds 3 ?_
 rw [rounds_succ]
 go_wp2_with fail
 rw [<- HW3.out]
 clear HW3
 clear HW3 k0 k1 k2 k3 k4 k5 k6 k7 q0 q1 f0 f1
 obtain ⟨k0,k1,k2,k3,k4,k5,k6,k7⟩:=HX.out _ HBW3.out
 have q0:=HPW3.out.cell (i:=0) rfl
 have q1:=HPW3.out.cell (i:=1) rfl
 have f0:=HPW3.out.frozen 0
 have f1:=HPW3.out.frozen 1
 obtain ⟨W4,HW4⟩:∃ W,W=W3.setCell ⟨gn0,1,none⟩ (.slice za zn zc):=⟨_,rfl⟩
 have HBW4:=ah (show Below w.heap.size w W4 by rw [HW4];exact HBW3.out.setCell (p:=⟨gn0,1,none⟩) HGgn0.out _)
 have HPW4:=ah (show PX W4 gn0 73 [.slice xa xn xc,.slice za zn zc]/\w.heap.size<=gn0 from ⟨by rw [HW4];exact HPW3.out.store 1 _,HGgn0.out⟩)
 have HNW4:=ah (show PX W4 go 102 [.slice none 0 0,.int .i64 2] by rw [HW4];exact HNW3.out.far (HNW3.out.ne HPW3.out (by decide)) _)
 have HW4:=ah HW4
 rw [rounds_succ]
 go_wp2_with fail
 rw [<- HW4.out]
 clear HW4
 clear HW4 k0 k1 k2 k3 k4 k5 k6 k7 q0 q1 f0 f1
 rw [rounds_succ]
 have m0:=HNW4.out.cell (i:=0) rfl
 have m0':(W4.alloc (.cells #[.slice (some ⟨gn0,0,none⟩) 2 2] 30)).cell? ⟨go,0,none⟩=some (.slice none 0 0):=by
  have hb0:Below W4.heap.size W4 (W4.alloc (.cells #[.slice (some ⟨gn0,0,none⟩) 2 2] 30)):=bA
  exact (HNW4.out.next hb0).cell (i:=0) rfl
 go_wp2_with (at_builtin;go_loud (refine wpList_append_own _ rfl _ _ 45 rfl w.heap.size 30 i1 (.slice none 0 0) 1 24 Tryz.underlying45 hjf hy0 hy1 hy2 rfl (by decide) _ _ _ rfl (World.ownsRow_nil _ _ _ _) ⟨W4.heap.size,0,none⟩ 1 1 [.slice (some ⟨gn0,0,none⟩) 2 2] rfl rfl (tcell_new W4 (.slice (some ⟨gn0,0,none⟩) 2 2) 30) (by simp [Value.oneCell']) (by decide) (by decide) (by have h1:=HBW4.out.size;have h2:=HBB.out;simp;omega) ?_);intro v' w8 hown' hgrow _;obtain ⟨A_w8,c_w8,rfl,e1_w8,e2_w8,hU_w8⟩:=U1.first (x:=(xa,xn,xc)) (y:=(za,zn,zc)) HNW4.out HGW.out HPW4.out.1 HPW4.out.2 ⟨nR,by decide⟩ ((HT.out _ HBW4.out).ea) ((HT.out _ HBW4.out).ec) hown' hgrow)
 obtain ⟨W5,HW5⟩:∃ W,W=w8.setCell ⟨go,0,none⟩ (.slice A_w8 1 c_w8):=⟨_,rfl⟩
 have HBW5:=ah (show Below w.heap.size w W5 by
  rw [HW5]
  exact (((HBW4.out.alloc HBW4.out.size (.cells #[.slice (some ⟨gn0,0,none⟩) 2 2] 30)).grown hgrow (by have h1:=HBW4.out.size;simp;omega) (own_block (World.ownsRow_nil w w.heap.size 30 1))).setCell (p:=⟨go,0,none⟩) HGW.out _))
 rw [<- HW5] at hU_w8
 have HU1:=ah hU_w8
 rw [<- HW5]
 clear hU_w8 hown' hgrow e1_w8 e2_w8 m0 m0' HW5
 rw [rounds_succ]
 obtain ⟨k0,k1,k2,k3,k4,k5,k6,k7⟩:=HX.out _ HBW5.out
 obtain ⟨W12,HW12⟩:∃ W,W=W5.alloc (.cells #[.slice none 0 0,.slice none 0 0] 73):=⟨_,rfl⟩
 have hb2:Below W5.heap.size W5 W12:=by rw [HW12];exact bA
 have HBW12:=tM HBW5 hb2
 have k0':(W5.alloc (.cells #[.slice none 0 0,.slice none 0 0] 73)).cell? ⟨t,0,none⟩=some (.slice (some ⟨gr,0,none⟩) 2 cr):=by rw [<- HW12];exact (HX.out _ HBW12.out).1
 obtain ⟨gn1,hgn1⟩:∃ g,g=W5.heap.size:=⟨_,rfl⟩
 have HPW12:=ah (show PX W12 gn1 73 [.slice none 0 0,.slice none 0 0] by rw [HW12,hgn1];exact PX.new W5 _ [.slice none 0 0,.slice none 0 0])
 have HGgn1:=ah (show w.heap.size<=gn1 by rw [hgn1];exact HBW5.out.size)
 have HNW12:=ah (HU1.out.next hb2)
 have HNE:=ah (show gn0 ≠ gn1 by have h1:=HU1.out.r0.lt;rw [hgn1];omega)
 have HW12:=ah HW12
 clear hb2
 go_wp2_with fail
 rw [<- HW12.out,<- hgn1]
 clear HW12 hgn1
 clear HW12 k0 k1 k2 k3 k4 k5 k6 k7 k0'
 obtain ⟨k0,k1,k2,k3,k4,k5,k6,k7⟩:=HX.out _ HBW12.out
 have q0:=HPW12.out.cell (i:=0) rfl
 have q1:=HPW12.out.cell (i:=1) rfl
 have f0:=HPW12.out.frozen 0
 have f1:=HPW12.out.frozen 1
 obtain ⟨W13,HW13⟩:∃ W,W=W12.setCell ⟨gn1,0,none⟩ (.slice ya yn yc):=⟨_,rfl⟩
 have HBW13:=ah (show Below w.heap.size w W13 by rw [HW13];exact HBW12.out.setCell (p:=⟨gn1,0,none⟩) HGgn1.out _)
 have HPW13:=ah (show PX W13 gn1 73 [.slice ya yn yc,.slice none 0 0] by rw [HW13];exact HPW12.out.store 0 _)
 have HKQW13:=ah (show KeepQ W12 W13 by rw [HW13];exact (HPW12.out.keepS (.inl rfl) 0 _).q)
 have HNW13:=ah (show U1 W13 b w.heap.size go A_w8 c_w8 gn0 2 (xa,xn,xc) (za,zn,zc) M.a M.c by rw [HW13];exact HNW12.out.put HPW12.out HNE.out 0 _)
 have HW13:=ah HW13
 refine wp_loop_rounds 3 ?_
 rw [rounds_succ]
 go_wp2_with fail
 rw [<- HW13.out]
 clear HW13
 clear HW13 k0 k1 k2 k3 k4 k5 k6 k7 q0 q1 f0 f1
 obtain ⟨k0,k1,k2,k3,k4,k5,k6,k7⟩:=HX.out _ HBW13.out
 have q0:=HPW13.out.cell (i:=0) rfl
 have q1:=HPW13.out.cell (i:=1) rfl
 have f0:=HPW13.out.frozen 0
 have f1:=HPW13.out.frozen 1
 obtain ⟨W14,HW14⟩:∃ W,W=W13.setCell ⟨gn1,1,none⟩ (.slice ua un uc):=⟨_,rfl⟩
 have HBW14:=ah (show Below w.heap.size w W14 by rw [HW14];exact HBW13.out.setCell (p:=⟨gn1,1,none⟩) HGgn1.out _)
 have HPW14:=ah (show PX W14 gn1 73 [.slice ya yn yc,.slice ua un uc]/\w.heap.size<=gn1 from ⟨by rw [HW14];exact HPW13.out.store 1 _,HGgn1.out⟩)
 have HNW14:=ah (show U1 W14 b w.heap.size go A_w8 c_w8 gn0 2 (xa,xn,xc) (za,zn,zc) M.a M.c by rw [HW14];exact HNW13.out.put HPW13.out HNE.out 1 _)
 have HW14:=ah HW14
 rw [rounds_succ]
 go_wp2_with fail
 rw [<- HW14.out]
 clear HW14
 clear HW14 k0 k1 k2 k3 k4 k5 k6 k7 q0 q1 f0 f1
 rw [rounds_succ]
 have m0:=HNW14.out.hd.cell (i:=0) rfl
 have m0':(W14.alloc (.cells #[.slice (some ⟨gn1,0,none⟩) 2 2] 30)).cell? ⟨go,0,none⟩=some (.slice A_w8 1 c_w8):=by
  have hb0:Below W14.heap.size W14 (W14.alloc (.cells #[.slice (some ⟨gn1,0,none⟩) 2 2] 30)):=bA
  exact (HNW14.out.hd.next hb0).cell (i:=0) rfl
 go_wp2_with (at_builtin;go_loud (refine wpList_append_own _ rfl _ _ 45 rfl w.heap.size 30 i1 (.slice none 0 0) 1 24 Tryz.underlying45 hjf hy0 hy1 hy2 rfl (by decide) _ _ _ rfl (HNW14.out.own.alloc _) ⟨W14.heap.size,0,none⟩ 1 1 [.slice (some ⟨gn1,0,none⟩) 2 2] rfl rfl (tcell_new W14 (.slice (some ⟨gn1,0,none⟩) 2 2) 30) (by simp [Value.oneCell']) (by decide) (by decide) (by have h1:=HBW14.out.size;have h2:=HBB.out;simp;omega) ?_);intro v' w9 hown' hgrow _;obtain ⟨A_w9,c_w9,rfl,e1_w9,e2_w9,hU_w9⟩:=HNW14.out.second (z:=(ya,yn,yc)) (u:=(ua,un,uc)) HPW14.out.1 HNE.out HPW14.out.2 HBB.out ⟨nR,by decide⟩ ((HT.out _ HBW14.out).eb) ((HT.out _ HBW14.out).ed) hown' hgrow)
 obtain ⟨W15,HW15⟩:∃ W,W=w9.setCell ⟨go,0,none⟩ (.slice A_w9 2 c_w9):=⟨_,rfl⟩
 have HBW15:=ah (show Below w.heap.size w W15 by
  rw [HW15]
  exact (((HBW14.out.alloc HBW14.out.size (.cells #[.slice (some ⟨gn1,0,none⟩) 2 2] 30)).grown hgrow (by have h1:=HBW14.out.size;simp;omega) (own_block (HNW14.out.own))).setCell (p:=⟨go,0,none⟩) HGW.out _))
 rw [<- HW15] at hU_w9
 have HU2:=ah hU_w9
 rw [<- HW15]
 clear hU_w9 hown' hgrow e1_w9 e2_w9 m0 m0' HW15
 rw [rounds_succ]
 go_wp2
 go_ret
 exact ⟨_,rfl,HU2.out,HBW15.out⟩
def Wk (w:World)(b gw:Nat)(M:M2):Prop:=∃ t,PX w gw 191 [.pointer (some ⟨t,0,none⟩),.pointer none,.pointer none]/\b<=gw/\Tb w b t M
def RetWk (b gw:Nat)(M:M2)(w:World)(e:Ending)(w':World):Prop:=e=.returned (.tuple #[])/\Wk w' b gw M/\Below b w w'
section
variable {w w':World}{b gw t:Nat}{M:M2}
theorem Wk.next (h:Wk w b gw M)(hb:Below w.heap.size w w'):Wk w' b gw M:=by
 obtain ⟨t,h1,h2,h3⟩:=h
 exact ⟨t,h1.next hb,h2,h3.next hb⟩
theorem Tb.other {T:TypeId}{ys:List Value}(h:Tb w b t M)(hz:PX w gw T ys)(h1:T ≠ 102/\T ≠ 30/\T ≠ 73/\T ≠ 171/\T ≠ 47)(j:Nat)(u:Value):Tb (w.setCell ⟨gw,j,none⟩ u) b t M:=by
 obtain ⟨gr,cr,g0,c0,g1,c1,x,y,z,v,h⟩:=h
 have hk:=hz.keepQ h1.2.2.2.1 h1.2.2.2.2 j u
 exact ⟨gr,cr,g0,c0,g1,c1,x,y,z,v,h.hd.far (h.hd.ne hz h1.1.symm) _,h.rw.far (h.rw.ne hz h1.2.1.symm) _,h.r0.far (h.r0.ne hz h1.2.2.1.symm) _,h.r1.far (h.r1.ne hz h1.2.2.1.symm) _,h.ne,h.bt,h.br,h.b0,h.b1,h.lr,h.l0,h.l1,h.ea.keep hk,h.eb.keep hk,h.ec.keep hk,h.ed.keep hk⟩
theorem Tb.keepT (h:Tb w b t M):∃ A c,w.cell? ⟨t,0,none⟩=some (.slice A 2 c)/\w.cell? ⟨t,1,none⟩=some (.int .i64 2):=by
 obtain ⟨gr,cr,g0,c0,g1,c1,x,y,z,v,h⟩:=h
 exact ⟨_,_,h.hd.cell rfl,h.hd.cell rfl⟩
end
theorem row_swap {b gw:Nat}{i j:Int}{M:M2}{w:World}(h:Wk w b gw M)(hb:b<=w.heap.size)(hij:(i=0/\j=0) ∨ (i=1/\j=1)) :
  Calls Tryz.prog 203 #[.pointer (some ⟨gw,0,none⟩),.iface 221 (.agg #[.int .i64 i,.int .i64 j])] w (RetWk b gw ((M).swap i j) w):=by
 have HH:=ah (show _ from hij)
 obtain ⟨t,h1,h2,h3⟩:=h
 have HX:=ah h1
 have HT:=ah h3
 have HG:=ah h2
 have HBB:=ah hb
 have k0:=h1.cell (i:=0) rfl
 have HC:=ah k0
 have HBD:=ah (Below.refl w.heap.size w).drew
 have hna : ∀ W : World, Sem.run Tryz.prog (nilAhead 381 221 (.agg #[.int .i64 i, .int .i64 j]) "simile/smith.to") W = .ok (some false) W := fun W => by kernel_rfl
 clear h1 h2 h3 hb
 clear hij
 go_enter Tryz.func203,Tryz.ntmps203
 go_wp2_with fail
 go_region_held3 (fun W=>W.cell? ⟨gw,0,none⟩=some (.pointer (some ⟨t,0,none⟩)))
  (first | exact HC.out | exact ((HX.out.next HBD.out).cell (i:=0) rfl) | exact (HX2.out.cell (i:=0) rfl))
  (first
   | (go_at_call 278;refine (swap_to (HT.out.next HBD.out) (nT HBB.out HBD.out.size) HH.out).mono ?_;rintro _ W2 ⟨rfl,ht2,hb2,hk2⟩;have HX2:=ah ((HX.out.next HBD.out).keep hk2 (by decide) (by decide));have HT2:=ah ht2;have HB2:=ah ((HBD.out.mono HBB.out).trans hb2);clear ht2 hb2 hk2))
 all_goals
  have k1:=HX2.out.cell (i:=1) rfl
  go_wp2
  go_returns
  exact ⟨rfl,⟨_,HX2.out,HG.out,HT2.out⟩,HB2.out⟩
theorem column_swap {b gw:Nat}{i j:Int}{M:M2}{w:World}(h:Wk w b gw M)(hb:b<=w.heap.size)(hij:(i=0/\j=0) ∨ (i=1/\j=1)) :
  Calls Tryz.prog 204 #[.pointer (some ⟨gw,0,none⟩),.iface 221 (.agg #[.int .i64 i,.int .i64 j])] w (RetWk b gw (((M.flip).swap i j).flip) w):=by
 have HH:=ah (show _ from hij)
 obtain ⟨t,h1,h2,h3⟩:=h
 have HX:=ah h1
 have HT:=ah h3
 have HG:=ah h2
 have HBB:=ah hb
 have k0:=h1.cell (i:=0) rfl
 obtain ⟨At,ct,k1,k2⟩:=h3.keepT
 clear h1 h2 h3 hb
 clear hij
 go_enter Tryz.func204,Tryz.ntmps204
 go_wp2_with fail
 refine (flip_any HT.out HBB.out).mono ?_
 rintro _ W1 ⟨t1,rfl,ht1,hb1⟩
 have HT1:=ah ht1
 have HB1:=ah hb1
 have HX1:=ah (HX.out.next hb1)
 clear ht1 hb1 k0 k1 k2
 go_wp2_with fail
 refine (swap_to (HT1.out) (nT HBB.out HB1.out.size) HH.out).mono ?_
 rintro _ W2 ⟨rfl,ht2,hb2,hk2⟩
 have HX2:=ah (HX1.out.keep hk2 (by decide) (by decide))
 have HT2:=ah ht2
 have HB2:=ah ((HB1.out.mono HBB.out).trans hb2)
 clear ht2 hb2 hk2
 go_wp2_with fail
 refine (flip_any HT2.out (nT HBB.out HB2.out.size)).mono ?_
 rintro _ W3 ⟨t3,rfl,ht3,hb3⟩
 have hx3:=HX2.out.next hb3
 have k0:=hx3.cell (i:=0) rfl
 have f0:=hx3.frozen 0
 have HT4:=ah (ht3.other hx3 (by decide) 0 (.pointer (some ⟨t3,0,none⟩)))
 have HX4:=ah (hx3.store 0 (.pointer (some ⟨t3,0,none⟩)))
 have HB4:=ah ((HB2.out.trans (hb3.mono (nT HBB.out HB2.out.size))).setCell (p:=⟨gw,0,none⟩) HG.out (.pointer (some ⟨t3,0,none⟩)))
 have k2:=HX4.out.cell (i:=2) rfl
 clear ht3 hb3 hx3
 go_wp2
 go_returns
 exact ⟨rfl,⟨_,HX4.out,HG.out,HT4.out⟩,HB4.out⟩
theorem row_add {b gw:Nat}{b1:Nat}{i j:Int}{f:List Rat}{Af:Option Addr}{nf cf:Nat}{M:M2}{w:World}(h:Wk w b gw M)(hb:b<=w.heap.size)(hf:OwQp w b1 Af nf cf f)(hok:(M).addOK i f)(hij:(i=0/\j=1) ∨ (i=1/\j=0)) :
  Calls Tryz.prog 203 #[.pointer (some ⟨gw,0,none⟩),.iface 226 (.agg #[.int .i64 i,.int .i64 j,.slice Af nf cf])] w (RetWk b gw ((M).add i f) w):=by
 have HH:=ah (cJ hf (cJ hok hij))
 obtain ⟨t,h1,h2,h3⟩:=h
 have HX:=ah h1
 have HT:=ah h3
 have HG:=ah h2
 have HBB:=ah hb
 have k0:=h1.cell (i:=0) rfl
 have HC:=ah k0
 have HBD:=ah (Below.refl w.heap.size w).drew
 have hna : ∀ W : World, Sem.run Tryz.prog (nilAhead 381 226 (.agg #[.int .i64 i, .int .i64 j, .slice Af nf cf]) "simile/smith.to") W = .ok (some false) W := fun W => by kernel_rfl
 clear h1 h2 h3 hb
 clear hf hok hij
 go_enter Tryz.func203,Tryz.ntmps203
 go_wp2_with fail
 go_region_held3 (fun W=>W.cell? ⟨gw,0,none⟩=some (.pointer (some ⟨t,0,none⟩)))
  (first | exact HC.out | exact ((HX.out.next HBD.out).cell (i:=0) rfl) | exact (HX2.out.cell (i:=0) rfl))
  (first
   | (go_at_call 279;refine (add_to (HT.out.next HBD.out) (nT HBB.out HBD.out.size) (HH.out.1.next (HBD.out)) HH.out.2.1 HH.out.2.2).mono ?_;rintro _ W2 ⟨rfl,ht2,hb2,hk2⟩;have HX2:=ah ((HX.out.next HBD.out).keep hk2 (by decide) (by decide));have HT2:=ah ht2;have HB2:=ah ((HBD.out.mono HBB.out).trans hb2);clear ht2 hb2 hk2))
 all_goals
  have k1:=HX2.out.cell (i:=1) rfl
  go_wp2
  go_returns
  exact ⟨rfl,⟨_,HX2.out,HG.out,HT2.out⟩,HB2.out⟩
theorem row_scale {b gw:Nat}{b1:Nat}{i:Int}{s s':Bool}{A A':Option Addr}{n c n' c':Nat}{x:Rat}{M:M2}{w:World}(h:Wk w b gw M)(hb:b<=w.heap.size)(hf:OwQ w b1 s A n c s' A' n' c' x)(hok:(M).tiny/\Qs 1 x)(hij:i=0 ∨ i=1) :
  Calls Tryz.prog 203 #[.pointer (some ⟨gw,0,none⟩),.iface 228 (.agg #[.int .i64 i,.bool s,.slice A n c,.bool s',.slice A' n' c'])] w (RetWk b gw ((M).scale i x) w):=by
 have HH:=ah (cJ hf (cJ hok hij))
 obtain ⟨t,h1,h2,h3⟩:=h
 have HX:=ah h1
 have HT:=ah h3
 have HG:=ah h2
 have HBB:=ah hb
 have k0:=h1.cell (i:=0) rfl
 have HC:=ah k0
 have HBD:=ah (Below.refl w.heap.size w).drew
 have hna : ∀ W : World, Sem.run Tryz.prog (nilAhead 381 228 (.agg #[.int .i64 i, .bool s, .slice A n c, .bool s', .slice A' n' c']) "simile/smith.to") W = .ok (some false) W := fun W => by kernel_rfl
 clear h1 h2 h3 hb
 clear hf hok hij
 go_enter Tryz.func203,Tryz.ntmps203
 go_wp2_with fail
 go_region_held3 (fun W=>W.cell? ⟨gw,0,none⟩=some (.pointer (some ⟨t,0,none⟩)))
  (first | exact HC.out | exact ((HX.out.next HBD.out).cell (i:=0) rfl) | exact (HX2.out.cell (i:=0) rfl))
  (first
   | (go_at_call 280;refine (scale_to (HT.out.next HBD.out) (nT HBB.out HBD.out.size) (HH.out.1.next (HBD.out)) HH.out.2.1 HH.out.2.2).mono ?_;rintro _ W2 ⟨rfl,ht2,hb2,hk2⟩;have HX2:=ah ((HX.out.next HBD.out).keep hk2 (by decide) (by decide));have HT2:=ah ht2;have HB2:=ah ((HBD.out.mono HBB.out).trans hb2);clear ht2 hb2 hk2))
 all_goals
  have k1:=HX2.out.cell (i:=1) rfl
  go_wp2
  go_returns
  exact ⟨rfl,⟨_,HX2.out,HG.out,HT2.out⟩,HB2.out⟩
theorem column_swap01 {b gw:Nat}{M:M2}{w:World}(h:Wk w b gw M)(hb:b<=w.heap.size) :
  Calls Tryz.prog 204 #[.pointer (some ⟨gw,0,none⟩),.iface 221 (.agg #[.int .i64 0,.int .i64 1])] w (RetWk b gw (((M.flip).swap 0 1).flip) w):=by
 have HH:=ah (True.intro)
 obtain ⟨t,h1,h2,h3⟩:=h
 have HX:=ah h1
 have HT:=ah h3
 have HG:=ah h2
 have HBB:=ah hb
 have k0:=h1.cell (i:=0) rfl
 obtain ⟨At,ct,k1,k2⟩:=h3.keepT
 clear h1 h2 h3 hb
 go_enter Tryz.func204,Tryz.ntmps204
 go_wp2_with fail
 refine (flip_any HT.out HBB.out).mono ?_
 rintro _ W1 ⟨t1,rfl,ht1,hb1⟩
 have HT1:=ah ht1
 have HB1:=ah hb1
 have HX1:=ah (HX.out.next hb1)
 clear ht1 hb1 k0 k1 k2
 go_wp2_with fail
 refine (swap_to01 (HT1.out) (nT HBB.out HB1.out.size)).mono ?_
 rintro _ W2 ⟨rfl,ht2,hb2,hk2⟩
 have HX2:=ah (HX1.out.keep hk2 (by decide) (by decide))
 have HT2:=ah ht2
 have HB2:=ah ((HB1.out.mono HBB.out).trans hb2)
 clear ht2 hb2 hk2
 go_wp2_with fail
 refine (flip_any HT2.out (nT HBB.out HB2.out.size)).mono ?_
 rintro _ W3 ⟨t3,rfl,ht3,hb3⟩
 have hx3:=HX2.out.next hb3
 have k0:=hx3.cell (i:=0) rfl
 have f0:=hx3.frozen 0
 have HT4:=ah (ht3.other hx3 (by decide) 0 (.pointer (some ⟨t3,0,none⟩)))
 have HX4:=ah (hx3.store 0 (.pointer (some ⟨t3,0,none⟩)))
 have HB4:=ah ((HB2.out.trans (hb3.mono (nT HBB.out HB2.out.size))).setCell (p:=⟨gw,0,none⟩) HG.out (.pointer (some ⟨t3,0,none⟩)))
 have k2:=HX4.out.cell (i:=2) rfl
 clear ht3 hb3 hx3
 go_wp2
 go_returns
 exact ⟨rfl,⟨_,HX4.out,HG.out,HT4.out⟩,HB4.out⟩
theorem column_add {b gw:Nat}{b1:Nat}{i j:Int}{f:List Rat}{Af:Option Addr}{nf cf:Nat}{M:M2}{w:World}(h:Wk w b gw M)(hb:b<=w.heap.size)(hf:OwQp w b1 Af nf cf f)(hok:(M.flip).addOK i f)(hij:(i=0/\j=1) ∨ (i=1/\j=0)) :
  Calls Tryz.prog 204 #[.pointer (some ⟨gw,0,none⟩),.iface 226 (.agg #[.int .i64 i,.int .i64 j,.slice Af nf cf])] w (RetWk b gw (((M.flip).add i f).flip) w):=by
 have HH:=ah (cJ hf (cJ hok hij))
 obtain ⟨t,h1,h2,h3⟩:=h
 have HX:=ah h1
 have HT:=ah h3
 have HG:=ah h2
 have HBB:=ah hb
 have k0:=h1.cell (i:=0) rfl
 obtain ⟨At,ct,k1,k2⟩:=h3.keepT
 clear h1 h2 h3 hb
 clear hf hok hij
 go_enter Tryz.func204,Tryz.ntmps204
 go_wp2_with fail
 refine (flip_any HT.out HBB.out).mono ?_
 rintro _ W1 ⟨t1,rfl,ht1,hb1⟩
 have HT1:=ah ht1
 have HB1:=ah hb1
 have HX1:=ah (HX.out.next hb1)
 clear ht1 hb1 k0 k1 k2
 go_wp2_with fail
 refine (add_to (HT1.out) (nT HBB.out HB1.out.size) (HH.out.1.next (HB1.out)) HH.out.2.1 HH.out.2.2).mono ?_
 rintro _ W2 ⟨rfl,ht2,hb2,hk2⟩
 have HX2:=ah (HX1.out.keep hk2 (by decide) (by decide))
 have HT2:=ah ht2
 have HB2:=ah ((HB1.out.mono HBB.out).trans hb2)
 clear ht2 hb2 hk2
 go_wp2_with fail
 refine (flip_any HT2.out (nT HBB.out HB2.out.size)).mono ?_
 rintro _ W3 ⟨t3,rfl,ht3,hb3⟩
 have hx3:=HX2.out.next hb3
 have k0:=hx3.cell (i:=0) rfl
 have f0:=hx3.frozen 0
 have HT4:=ah (ht3.other hx3 (by decide) 0 (.pointer (some ⟨t3,0,none⟩)))
 have HX4:=ah (hx3.store 0 (.pointer (some ⟨t3,0,none⟩)))
 have HB4:=ah ((HB2.out.trans (hb3.mono (nT HBB.out HB2.out.size))).setCell (p:=⟨gw,0,none⟩) HG.out (.pointer (some ⟨t3,0,none⟩)))
 have k2:=HX4.out.cell (i:=2) rfl
 clear ht3 hb3 hx3
 go_wp2
 go_returns
 exact ⟨rfl,⟨_,HX4.out,HG.out,HT4.out⟩,HB4.out⟩
end Go.Proofs.YtjnklbfhelbjgaaGreat
