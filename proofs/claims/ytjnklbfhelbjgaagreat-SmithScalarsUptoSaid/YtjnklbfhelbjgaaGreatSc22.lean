/- Sc22. -/
import Derived.Handy
import Derived.WalkSpells
import Derived.Test.YtjnklbfhelbjgaaGreatSc21
import Derived.Deep.RegionHeld3
import Derived.Deep.DrawnRows
import Derived.Test.YtjnklbfhelbjgaaGreatSc00
set_option maxRecDepth 100000
set_option maxHeartbeats 32000000
set_option linter.all false
namespace Go.Proofs.YtjnklbfhelbjgaaGreat
open Go.RowKit Go.IntWalk
attribute [local go_sem ↓] Go.wp_at_zero Go.wp_at_succ
theorem swap_to01 {b t:Nat}{M:M2}{w:World}(h:Tb w b t M)(hb:b<=w.heap.size) :
  Calls Tryz.prog 278 #[.agg #[.int .i64 0,.int .i64 1],.pointer (some ⟨t,0,none⟩)] w (RetT b t (M.swap 0 1) w):=by
 obtain ⟨gr,cr,g0,c0,g1,c1,x,y,z,u,h⟩:=h
 obtain ⟨W1,HW1⟩:∃ W,W=w.alloc (.cells #[.int .i64 0,.int .i64 1] 221):=⟨_,rfl⟩
 have hb1:Below w.heap.size w W1:=by rw [HW1];exact bA
 have hX:PX W1 w.heap.size 221 [.int .i64 0,.int .i64 1]:=by rw [HW1];exact PX.new w _ [.int .i64 0,.int .i64 1]
 obtain ⟨gb,hgb⟩:∃ g,g=w.heap.size:=⟨_,rfl⟩
 rw [<- hgb] at hX
 have hbd:=(Below.refl W1.heap.size W1).drew
 have HT:=ah ((h.next hb1).next hbd)
 have HX:=ah (hX.next hbd)
 have HV:=ah (show Below b w W1.drew/\KeepS w W1.drew from ⟨(hb1.mono hb).drew,(KeepS.below hb1).trans (.below hbd)⟩)
 have HS:=ah (show W1.drew.cell? ⟨t,0,none⟩=some (.slice (some ⟨gr,0,none⟩) 2 cr)/\W1.drew.cell? ⟨gb,0,none⟩=some (.int .i64 0)/\W1.drew.cell? ⟨gb,1,none⟩=some (.int .i64 1) from ⟨HT.out.hd.cell rfl,HX.out.cell rfl,HX.out.cell rfl⟩)
 have HN:=ah (HX.out.ne HT.out.rw (by decide))
 have k2:=HT.out.rw.cell (i:=0) rfl
 have k3:=HT.out.rw.cell (i:=1) rfl
 have f0:=HT.out.rw.frozen 0
 obtain ⟨V1,HV1⟩:∃ W,W=W1.drew.setCell ⟨gr,0,none⟩ (.slice (some ⟨g1,0,none⟩) 2 c1):=⟨_,rfl⟩
 have hr1:PX V1 gr 30 [.slice (some ⟨g1,0,none⟩) 2 c1,.slice (some ⟨g1,0,none⟩) 2 c1]:=by rw [HV1];exact HT.out.rw.store 0 _
 have HS1:=ah (show V1.cell? ⟨t,0,none⟩=some (.slice (some ⟨gr,0,none⟩) 2 cr)/\V1.cell? ⟨gb,0,none⟩=some (.int .i64 0)/\V1.cell? ⟨gb,1,none⟩=some (.int .i64 1) from ⟨by rw [HV1];exact (HT.out.hd.far HT.out.ht _).cell rfl,by rw [HV1];exact (HX.out.far HN.out _).cell rfl,by rw [HV1];exact (HX.out.far HN.out _).cell rfl⟩)
 have e1:=hr1.cell (i:=1) rfl
 have f1:=hr1.frozen 1
 obtain ⟨V2,HV2⟩:∃ W,W=V1.setCell ⟨gr,1,none⟩ (.slice (some ⟨g0,0,none⟩) 2 c0):=⟨_,rfl⟩
 have HT2:=ah (show T2 V2 b t gr cr g1 c1 g0 c0 z u x y ⟨M.c,M.d,M.a,M.b⟩ by rw [HV2,HV1];exact HT.out.swap)
 have HS2:=ah (show V2.cell? ⟨t,0,none⟩=some (.slice (some ⟨gr,0,none⟩) 2 cr)/\V2.cell? ⟨gb,0,none⟩=some (.int .i64 0)/\V2.cell? ⟨gb,1,none⟩=some (.int .i64 1) from ⟨HT2.out.hd.cell rfl,by rw [HV2,HV1];exact ((HX.out.far HN.out _).far HN.out _).cell rfl,by rw [HV2,HV1];exact ((HX.out.far HN.out _).far HN.out _).cell rfl⟩)
 have HE:=ah (show Below b w V2/\KeepS w V2 by
  rw [HV2]
  refine ⟨Below.setCell (p:=⟨gr,1,none⟩) ?_ HT.out.br _,KeepS.trans ?_ (hr1.keepS (.inr rfl) 1 _)⟩
  ·rw [HV1]
   exact HV.out.1.setCell (p:=⟨gr,0,none⟩) HT.out.br _
  ·rw [HV1]
   exact HV.out.2.trans (HT.out.rw.keepS (.inr rfl) 0 _))
 have HV1:=ah HV1
 have HV2:=ah HV2
 have HW1:=ah HW1
 clear h hb hb1 hX hbd hr1
 go_enter Tryz.func278,Tryz.ntmps278
 go_wp2_with fail
 rw [<- HW1.out,<- hgb]
 clear HW1 hgb
 clear HW1
 refine wp_region_held_drew (S:=fun W=>W.cell? ⟨t,0,none⟩=some (.slice (some ⟨gr,0,none⟩) 2 cr)/\W.cell? ⟨gb,0,none⟩=some (.int .i64 0)/\W.cell? ⟨gb,1,none⟩=some (.int .i64 1)) (by kernel_rfl) HS.out (fun hHeld=>?_)
 refine tk 0 ?_
 refine tk 1 ?_
 refine tk 2 ?_
 refine tk 3 ?_
 refine tk 4 ?_
 refine tk 5 ?_
 refine tk 6 ?_
 refine tk 7 ?_
 refine tk 8 ?_
 refine tk 9 ?_
 refine tk 10 ?_
 refine tk 11 ?_
 refine tk 12 ?_
 refine tk 13 ?_
 refine tk 14 ?_
 refine tk 15 ?_
 refine tk 16 ?_
 refine tk 17 ?_
 refine tk 18 ?_
 refine tk 20 ?_
 refine tk 21 ?_
 refine tk 22 ?_
 refine tk 23 ?_
 refine tk 24 ?_
 refine tk 25 ?_
 refine tk 26 ?_
 refine wpAnyH_ready (rs:=[19,27]) (by kernel_rfl) (by simp) ?_
 refine AllReadyH.cons rfl (fun K hK=>?_) (AllReadyH.cons rfl (fun K hK=>?_) AllReadyH.nil)
 ·go_simp
  refine hK.out _ _ HS.out (fun hHeld=>?_)
  clear hK K
  (try simp only [Act.put,List.setIfInBounds_toArray,List.set_cons_zero,List.set_cons_succ])
  refine wpAnyH_ready (rs:=[27]) (by kernel_rfl) (by simp) ?_
  refine AllReadyH.cons rfl (fun K hK=>?_) AllReadyH.nil
  go_simp
  refine hK.out _ _ HS.out (fun hHeld=>?_)
  clear hK K
  (try simp only [Act.put,List.setIfInBounds_toArray,List.set_cons_zero,List.set_cons_succ])
  refine tk 28 ?_
  refine wpAnyH_ready (rs:=[29]) (by kernel_rfl) (by simp) ?_
  refine AllReadyH.cons rfl (fun K hK=>?_) AllReadyH.nil
  go_simp
  rw [show (W1.setCell ⟨gr,0,none⟩ (.slice (some ⟨g1,0,none⟩) 2 c1)).drew=V1 from HV1.out.symm]
  clear HV1
  clear HV1 k2 k3 f0
  refine hK.out _ _ HS1.out (fun hHeld=>?_)
  clear hK K
  (try simp only [Act.put,List.setIfInBounds_toArray,List.set_cons_zero,List.set_cons_succ])
  refine tk 30 ?_
  refine wpAnyH_ready (rs:=[31]) (by kernel_rfl) (by simp) ?_
  refine AllReadyH.cons rfl (fun K hK=>?_) AllReadyH.nil
  go_simp
  rw [<- HV2.out]
  clear HV2
  clear HV2
  refine hK.out _ _ HS2.out (fun hHeld=>?_)
  clear hK K
  (try simp only [Act.put,List.setIfInBounds_toArray,List.set_cons_zero,List.set_cons_succ])
  refine wpAnyH_done (by kernel_rfl) ?_ _
  go_wp2
  go_returns
  exact ⟨rfl,⟨_,_,_,_,_,_,_,_,_,_,HT2.out⟩,HE.out⟩
 ·go_simp
  refine hK.out _ _ HS.out (fun hHeld=>?_)
  clear hK K
  (try simp only [Act.put,List.setIfInBounds_toArray,List.set_cons_zero,List.set_cons_succ])
  refine wpAnyH_ready (rs:=[19]) (by kernel_rfl) (by simp) ?_
  refine AllReadyH.cons rfl (fun K hK=>?_) AllReadyH.nil
  go_simp
  refine hK.out _ _ HS.out (fun hHeld=>?_)
  clear hK K
  (try simp only [Act.put,List.setIfInBounds_toArray,List.set_cons_zero,List.set_cons_succ])
  refine tk 28 ?_
  refine wpAnyH_ready (rs:=[29]) (by kernel_rfl) (by simp) ?_
  refine AllReadyH.cons rfl (fun K hK=>?_) AllReadyH.nil
  go_simp
  rw [show (W1.setCell ⟨gr,0,none⟩ (.slice (some ⟨g1,0,none⟩) 2 c1)).drew=V1 from HV1.out.symm]
  clear HV1
  clear HV1 k2 k3 f0
  refine hK.out _ _ HS1.out (fun hHeld=>?_)
  clear hK K
  (try simp only [Act.put,List.setIfInBounds_toArray,List.set_cons_zero,List.set_cons_succ])
  refine tk 30 ?_
  refine wpAnyH_ready (rs:=[31]) (by kernel_rfl) (by simp) ?_
  refine AllReadyH.cons rfl (fun K hK=>?_) AllReadyH.nil
  go_simp
  rw [<- HV2.out]
  clear HV2
  clear HV2
  refine hK.out _ _ HS2.out (fun hHeld=>?_)
  clear hK K
  (try simp only [Act.put,List.setIfInBounds_toArray,List.set_cons_zero,List.set_cons_succ])
  refine wpAnyH_done (by kernel_rfl) ?_ _
  go_wp2
  go_returns
  exact ⟨rfl,⟨_,_,_,_,_,_,_,_,_,_,HT2.out⟩,HE.out⟩
end Go.Proofs.YtjnklbfhelbjgaaGreat
