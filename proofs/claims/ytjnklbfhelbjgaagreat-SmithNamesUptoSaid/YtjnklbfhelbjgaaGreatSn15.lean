/- smith: the two rows of a table change their places. -/
import Derived.Handy
import Derived.WalkSpells
import Derived.Test.YtjnklbfhelbjgaaGreatSn14
import Derived.Deep.RegionHeld3
import Derived.Deep.DrawnRows
import Derived.Test.YtjnklbfhelbjgaaGreatSn13
namespace Go.Proofs.YtjnklbfhelbjgaaGreat
open Go.RowKit Go.IntWalk
attribute [local go_sem ↓] Go.wp_at_zero Go.wp_at_succ
set_option maxRecDepth 100000 in
set_option maxHeartbeats 8000000 in
theorem swap_to01 {b t : Nat} {M : M2} {w : World} (h : Tb w b t M) (hb : b ≤ w.heap.size) :
  Calls Tryz.prog 278 #[.agg #[.int .i64 0, .int .i64 1], .pointer (some ⟨t, 0, none⟩)] w (RetT b t (M.swap 0 1) w) := by
 obtain ⟨gr, cr, g0, c0, g1, c1, x, y, z, u, h⟩ := h
 obtain ⟨W1, HW1⟩ : ∃ W, W = w.alloc (.cells #[.int .i64 0, .int .i64 1] 221) := ⟨_, rfl⟩
 have hb1 : Below w.heap.size w W1 := by rw [HW1]; exact (Below.refl _ _).alloc (Nat.le_refl _) _
 have hX : PX W1 w.heap.size 221 [.int .i64 0, .int .i64 1] := by rw [HW1]; exact PX.new w _ [.int .i64 0, .int .i64 1]
 obtain ⟨gb, hgb⟩ : ∃ g, g = w.heap.size := ⟨_, rfl⟩
 rw [← hgb] at hX
 have hbd := (Below.refl W1.heap.size W1).drew
 have HT := Lib.hid ((h.next hb1).next hbd)
 have HX := Lib.hid (hX.next hbd)
 have HV := Lib.hid (show Below b w W1.drew ∧ KeepS w W1.drew from ⟨(hb1.mono hb).drew, (KeepS.below hb1).trans (.below hbd)⟩)
 have HS := Lib.hid (show W1.drew.cell? ⟨t, 0, none⟩ = some (.slice (some ⟨gr, 0, none⟩) 2 cr) ∧ W1.drew.cell? ⟨gb, 0, none⟩ = some (.int .i64 0) ∧ W1.drew.cell? ⟨gb, 1, none⟩ = some (.int .i64 1) from ⟨HT.out.hd.cell rfl, HX.out.cell rfl, HX.out.cell rfl⟩)
 have HN := Lib.hid (HX.out.ne HT.out.rw (by decide))
 have k2 := HT.out.rw.cell (i := 0) rfl
 have k3 := HT.out.rw.cell (i := 1) rfl
 have f0 := HT.out.rw.frozen 0
 obtain ⟨V1, HV1⟩ : ∃ W, W = W1.drew.setCell ⟨gr, 0, none⟩ (.slice (some ⟨g1, 0, none⟩) 2 c1) := ⟨_, rfl⟩
 have hr1 : PX V1 gr 30 [.slice (some ⟨g1, 0, none⟩) 2 c1, .slice (some ⟨g1, 0, none⟩) 2 c1] := by rw [HV1]; exact HT.out.rw.store 0 _
 have HS1 := Lib.hid (show V1.cell? ⟨t, 0, none⟩ = some (.slice (some ⟨gr, 0, none⟩) 2 cr) ∧ V1.cell? ⟨gb, 0, none⟩ = some (.int .i64 0) ∧ V1.cell? ⟨gb, 1, none⟩ = some (.int .i64 1) from ⟨by rw [HV1]; exact (HT.out.hd.far HT.out.ht _).cell rfl, by rw [HV1]; exact (HX.out.far HN.out _).cell rfl, by rw [HV1]; exact (HX.out.far HN.out _).cell rfl⟩)
 have e1 := hr1.cell (i := 1) rfl
 have f1 := hr1.frozen 1
 obtain ⟨V2, HV2⟩ : ∃ W, W = V1.setCell ⟨gr, 1, none⟩ (.slice (some ⟨g0, 0, none⟩) 2 c0) := ⟨_, rfl⟩
 have HT2 := Lib.hid (show T2 V2 b t gr cr g1 c1 g0 c0 z u x y ⟨M.c, M.d, M.a, M.b⟩ by rw [HV2, HV1]; exact HT.out.swap)
 have HS2 := Lib.hid (show V2.cell? ⟨t, 0, none⟩ = some (.slice (some ⟨gr, 0, none⟩) 2 cr) ∧ V2.cell? ⟨gb, 0, none⟩ = some (.int .i64 0) ∧ V2.cell? ⟨gb, 1, none⟩ = some (.int .i64 1) from ⟨HT2.out.hd.cell rfl, by rw [HV2, HV1]; exact ((HX.out.far HN.out _).far HN.out _).cell rfl, by rw [HV2, HV1]; exact ((HX.out.far HN.out _).far HN.out _).cell rfl⟩)
 have HE := Lib.hid (show Below b w V2 ∧ KeepS w V2 by
  rw [HV2]
  refine ⟨Below.setCell (p := ⟨gr, 1, none⟩) ?_ HT.out.br _, KeepS.trans ?_ (hr1.keepS (.inr rfl) 1 _)⟩
  ·rw [HV1]
   exact HV.out.1.setCell (p := ⟨gr, 0, none⟩) HT.out.br _
  ·rw [HV1]
   exact HV.out.2.trans (HT.out.rw.keepS (.inr rfl) 0 _))
 have HV1 := Lib.hid HV1
 have HV2 := Lib.hid HV2
 have HW1 := Lib.hid HW1
 clear h hb hb1 hX hbd hr1
 go_enter Tryz.func278, Tryz.ntmps278
 go_wp2_with fail
 rw [← HW1.out, ← hgb]
 clear HW1 hgb
 clear HW1
 refine wp_region_held_drew (S := fun W => W.cell? ⟨t, 0, none⟩ = some (.slice (some ⟨gr, 0, none⟩) 2 cr) ∧ W.cell? ⟨gb, 0, none⟩ = some (.int .i64 0) ∧ W.cell? ⟨gb, 1, none⟩ = some (.int .i64 1)) (by kernel_rfl) HS.out (fun hHeld => ?_)
 refine wpAnyH_take (i := 0) (v := ?_) rfl (by kernel_rfl) (by kernel_rfl) (by kernel_rfl) (fun _ _ _ h => h) (Or.inl ⟨by rfl, ?_⟩) (by assumption) ?_
 rotate_left
 ·intro w hSw
  (try dsimp only at hSw)
  go_simp
  try with_reducible rfl
 (try simp only [Act.put, List.setIfInBounds_toArray])
 refine wpAnyH_take (i := 1) (v := ?_) rfl (by kernel_rfl) (by kernel_rfl) (by kernel_rfl) (fun _ _ _ h => h) (Or.inl ⟨by rfl, ?_⟩) (by assumption) ?_
 rotate_left
 ·intro w hSw
  (try dsimp only at hSw)
  go_simp
  try with_reducible rfl
 (try simp only [Act.put])
 refine wpAnyH_take (i := 2) (v := ?_) rfl (by kernel_rfl) (by kernel_rfl) (by kernel_rfl) (fun _ _ _ h => h) (Or.inl ⟨by rfl, ?_⟩) (by assumption) ?_
 rotate_left
 ·intro w hSw
  (try dsimp only at hSw)
  go_simp
  try with_reducible rfl
 (try simp only [Act.put])
 refine wpAnyH_take (i := 3) (v := ?_) rfl (by kernel_rfl) (by kernel_rfl) (by kernel_rfl) (fun _ _ _ h => h) (Or.inl ⟨by rfl, ?_⟩) (by assumption) ?_
 rotate_left
 ·intro w hSw
  (try dsimp only at hSw)
  go_simp
  try with_reducible rfl
 (try simp only [Act.put])
 refine wpAnyH_take (i := 4) (v := ?_) rfl (by kernel_rfl) (by kernel_rfl) (by kernel_rfl) (fun _ _ _ h => h) (Or.inl ⟨by rfl, ?_⟩) (by assumption) ?_
 rotate_left
 ·intro w hSw
  (try dsimp only at hSw)
  go_simp
  try with_reducible rfl
 (try simp only [Act.put])
 refine wpAnyH_take (i := 5) (v := ?_) rfl (by kernel_rfl) (by kernel_rfl) (by kernel_rfl) (fun _ _ _ h => h) (Or.inl ⟨by rfl, ?_⟩) (by assumption) ?_
 rotate_left
 ·intro w hSw
  (try dsimp only at hSw)
  go_simp
  try with_reducible rfl
 (try simp only [Act.put])
 refine wpAnyH_take (i := 6) (v := ?_) rfl (by kernel_rfl) (by kernel_rfl) (by kernel_rfl) (fun _ _ _ h => h) (Or.inl ⟨by rfl, ?_⟩) (by assumption) ?_
 rotate_left
 ·intro w hSw
  (try dsimp only at hSw)
  go_simp
  try with_reducible rfl
 (try simp only [Act.put])
 refine wpAnyH_take (i := 7) (v := ?_) rfl (by kernel_rfl) (by kernel_rfl) (by kernel_rfl) (fun _ _ _ h => h) (Or.inl ⟨by rfl, ?_⟩) (by assumption) ?_
 rotate_left
 ·intro w hSw
  (try dsimp only at hSw)
  go_simp
  try with_reducible rfl
 (try simp only [Act.put])
 refine wpAnyH_take (i := 8) (v := ?_) rfl (by kernel_rfl) (by kernel_rfl) (by kernel_rfl) (fun _ _ _ h => h) (Or.inl ⟨by rfl, ?_⟩) (by assumption) ?_
 rotate_left
 ·intro w hSw
  (try dsimp only at hSw)
  go_simp
  try with_reducible rfl
 (try simp only [Act.put])
 refine wpAnyH_take (i := 9) (v := ?_) rfl (by kernel_rfl) (by kernel_rfl) (by kernel_rfl) (fun _ _ _ h => h) (Or.inl ⟨by rfl, ?_⟩) (by assumption) ?_
 rotate_left
 ·intro w hSw
  (try dsimp only at hSw)
  go_simp
  try with_reducible rfl
 (try simp only [Act.put])
 refine wpAnyH_take (i := 10) (v := ?_) rfl (by kernel_rfl) (by kernel_rfl) (by kernel_rfl) (fun _ _ _ h => h) (Or.inl ⟨by rfl, ?_⟩) (by assumption) ?_
 rotate_left
 ·intro w hSw
  (try dsimp only at hSw)
  go_simp
  try with_reducible rfl
 (try simp only [Act.put])
 refine wpAnyH_take (i := 11) (v := ?_) rfl (by kernel_rfl) (by kernel_rfl) (by kernel_rfl) (fun _ _ _ h => h) (Or.inl ⟨by rfl, ?_⟩) (by assumption) ?_
 rotate_left
 ·intro w hSw
  (try dsimp only at hSw)
  go_simp
  try with_reducible rfl
 (try simp only [Act.put])
 refine wpAnyH_take (i := 12) (v := ?_) rfl (by kernel_rfl) (by kernel_rfl) (by kernel_rfl) (fun _ _ _ h => h) (Or.inl ⟨by rfl, ?_⟩) (by assumption) ?_
 rotate_left
 ·intro w hSw
  (try dsimp only at hSw)
  go_simp
  try with_reducible rfl
 (try simp only [Act.put])
 refine wpAnyH_take (i := 13) (v := ?_) rfl (by kernel_rfl) (by kernel_rfl) (by kernel_rfl) (fun _ _ _ h => h) (Or.inl ⟨by rfl, ?_⟩) (by assumption) ?_
 rotate_left
 ·intro w hSw
  (try dsimp only at hSw)
  go_simp
  try with_reducible rfl
 (try simp only [Act.put])
 refine wpAnyH_take (i := 14) (v := ?_) rfl (by kernel_rfl) (by kernel_rfl) (by kernel_rfl) (fun _ _ _ h => h) (Or.inl ⟨by rfl, ?_⟩) (by assumption) ?_
 rotate_left
 ·intro w hSw
  (try dsimp only at hSw)
  go_simp
  try with_reducible rfl
 (try simp only [Act.put])
 refine wpAnyH_take (i := 15) (v := ?_) rfl (by kernel_rfl) (by kernel_rfl) (by kernel_rfl) (fun _ _ _ h => h) (Or.inl ⟨by rfl, ?_⟩) (by assumption) ?_
 rotate_left
 ·intro w hSw
  (try dsimp only at hSw)
  go_simp
  try with_reducible rfl
 (try simp only [Act.put])
 refine wpAnyH_take (i := 16) (v := ?_) rfl (by kernel_rfl) (by kernel_rfl) (by kernel_rfl) (fun _ _ _ h => h) (Or.inl ⟨by rfl, ?_⟩) (by assumption) ?_
 rotate_left
 ·intro w hSw
  (try dsimp only at hSw)
  go_simp
  try with_reducible rfl
 (try simp only [Act.put])
 refine wpAnyH_take (i := 17) (v := ?_) rfl (by kernel_rfl) (by kernel_rfl) (by kernel_rfl) (fun _ _ _ h => h) (Or.inl ⟨by rfl, ?_⟩) (by assumption) ?_
 rotate_left
 ·intro w hSw
  (try dsimp only at hSw)
  go_simp
  try with_reducible rfl
 (try simp only [Act.put])
 refine wpAnyH_take (i := 18) (v := ?_) rfl (by kernel_rfl) (by kernel_rfl) (by kernel_rfl) (fun _ _ _ h => h) (Or.inl ⟨by rfl, ?_⟩) (by assumption) ?_
 rotate_left
 ·intro w hSw
  (try dsimp only at hSw)
  go_simp
  try with_reducible rfl
 (try simp only [Act.put])
 refine wpAnyH_take (i := 20) (v := ?_) rfl (by kernel_rfl) (by kernel_rfl) (by kernel_rfl) (fun _ _ _ h => h) (Or.inl ⟨by rfl, ?_⟩) (by assumption) ?_
 rotate_left
 ·intro w hSw
  (try dsimp only at hSw)
  go_simp
  try with_reducible rfl
 (try simp only [Act.put])
 refine wpAnyH_take (i := 21) (v := ?_) rfl (by kernel_rfl) (by kernel_rfl) (by kernel_rfl) (fun _ _ _ h => h) (Or.inl ⟨by rfl, ?_⟩) (by assumption) ?_
 rotate_left
 ·intro w hSw
  (try dsimp only at hSw)
  go_simp
  try with_reducible rfl
 (try simp only [Act.put])
 refine wpAnyH_take (i := 22) (v := ?_) rfl (by kernel_rfl) (by kernel_rfl) (by kernel_rfl) (fun _ _ _ h => h) (Or.inl ⟨by rfl, ?_⟩) (by assumption) ?_
 rotate_left
 ·intro w hSw
  (try dsimp only at hSw)
  go_simp
  try with_reducible rfl
 (try simp only [Act.put])
 refine wpAnyH_take (i := 23) (v := ?_) rfl (by kernel_rfl) (by kernel_rfl) (by kernel_rfl) (fun _ _ _ h => h) (Or.inl ⟨by rfl, ?_⟩) (by assumption) ?_
 rotate_left
 ·intro w hSw
  (try dsimp only at hSw)
  go_simp
  try with_reducible rfl
 (try simp only [Act.put])
 refine wpAnyH_take (i := 24) (v := ?_) rfl (by kernel_rfl) (by kernel_rfl) (by kernel_rfl) (fun _ _ _ h => h) (Or.inl ⟨by rfl, ?_⟩) (by assumption) ?_
 rotate_left
 ·intro w hSw
  (try dsimp only at hSw)
  go_simp
  try with_reducible rfl
 (try simp only [Act.put])
 refine wpAnyH_take (i := 25) (v := ?_) rfl (by kernel_rfl) (by kernel_rfl) (by kernel_rfl) (fun _ _ _ h => h) (Or.inl ⟨by rfl, ?_⟩) (by assumption) ?_
 rotate_left
 ·intro w hSw
  (try dsimp only at hSw)
  go_simp
  try with_reducible rfl
 (try simp only [Act.put])
 refine wpAnyH_take (i := 26) (v := ?_) rfl (by kernel_rfl) (by kernel_rfl) (by kernel_rfl) (fun _ _ _ h => h) (Or.inl ⟨by rfl, ?_⟩) (by assumption) ?_
 rotate_left
 ·intro w hSw
  (try dsimp only at hSw)
  go_simp
  try with_reducible rfl
 (try simp only [Act.put])
 refine wpAnyH_ready (rs := [19, 27]) (by kernel_rfl) (by simp) ?_
 refine AllReadyH.cons rfl (fun K hK => ?_) (AllReadyH.cons rfl (fun K hK => ?_) AllReadyH.nil)
 ·go_simp
  refine hK.out _ _ HS.out (fun hHeld => ?_)
  clear hK K
  (try simp only [Act.put, List.setIfInBounds_toArray, List.set_cons_zero, List.set_cons_succ])
  refine wpAnyH_ready (rs := [27]) (by kernel_rfl) (by simp) ?_
  refine AllReadyH.cons rfl (fun K hK => ?_) AllReadyH.nil
  go_simp
  refine hK.out _ _ HS.out (fun hHeld => ?_)
  clear hK K
  (try simp only [Act.put, List.setIfInBounds_toArray, List.set_cons_zero, List.set_cons_succ])
  refine wpAnyH_take (i := 28) (v := ?_) rfl (by kernel_rfl) (by kernel_rfl) (by kernel_rfl) (fun _ _ _ h => h) (Or.inl ⟨by rfl, ?_⟩) (by assumption) ?_
  rotate_left
  ·intro w hSw
   (try dsimp only at hSw)
   go_simp
   try with_reducible rfl
  (try simp only [Act.put, List.setIfInBounds_toArray])
  refine wpAnyH_ready (rs := [29]) (by kernel_rfl) (by simp) ?_
  refine AllReadyH.cons rfl (fun K hK => ?_) AllReadyH.nil
  go_simp
  rw [show (W1.setCell ⟨gr, 0, none⟩ (.slice (some ⟨g1, 0, none⟩) 2 c1)).drew = V1 from HV1.out.symm]
  clear HV1
  clear HV1 k2 k3 f0
  refine hK.out _ _ HS1.out (fun hHeld => ?_)
  clear hK K
  (try simp only [Act.put, List.setIfInBounds_toArray, List.set_cons_zero, List.set_cons_succ])
  refine wpAnyH_take (i := 30) (v := ?_) rfl (by kernel_rfl) (by kernel_rfl) (by kernel_rfl) (fun _ _ _ h => h) (Or.inl ⟨by rfl, ?_⟩) (by assumption) ?_
  rotate_left
  ·intro w hSw
   (try dsimp only at hSw)
   go_simp
   try with_reducible rfl
  (try simp only [Act.put, List.setIfInBounds_toArray])
  refine wpAnyH_ready (rs := [31]) (by kernel_rfl) (by simp) ?_
  refine AllReadyH.cons rfl (fun K hK => ?_) AllReadyH.nil
  go_simp
  rw [← HV2.out]
  clear HV2
  clear HV2
  refine hK.out _ _ HS2.out (fun hHeld => ?_)
  clear hK K
  (try simp only [Act.put, List.setIfInBounds_toArray, List.set_cons_zero, List.set_cons_succ])
  refine wpAnyH_done (by kernel_rfl) ?_ _
  go_wp2
  go_returns
  exact ⟨rfl, ⟨_, _, _, _, _, _, _, _, _, _, HT2.out⟩, HE.out⟩
 ·go_simp
  refine hK.out _ _ HS.out (fun hHeld => ?_)
  clear hK K
  (try simp only [Act.put, List.setIfInBounds_toArray, List.set_cons_zero, List.set_cons_succ])
  refine wpAnyH_ready (rs := [19]) (by kernel_rfl) (by simp) ?_
  refine AllReadyH.cons rfl (fun K hK => ?_) AllReadyH.nil
  go_simp
  refine hK.out _ _ HS.out (fun hHeld => ?_)
  clear hK K
  (try simp only [Act.put, List.setIfInBounds_toArray, List.set_cons_zero, List.set_cons_succ])
  refine wpAnyH_take (i := 28) (v := ?_) rfl (by kernel_rfl) (by kernel_rfl) (by kernel_rfl) (fun _ _ _ h => h) (Or.inl ⟨by rfl, ?_⟩) (by assumption) ?_
  rotate_left
  ·intro w hSw
   (try dsimp only at hSw)
   go_simp
   try with_reducible rfl
  (try simp only [Act.put, List.setIfInBounds_toArray])
  refine wpAnyH_ready (rs := [29]) (by kernel_rfl) (by simp) ?_
  refine AllReadyH.cons rfl (fun K hK => ?_) AllReadyH.nil
  go_simp
  rw [show (W1.setCell ⟨gr, 0, none⟩ (.slice (some ⟨g1, 0, none⟩) 2 c1)).drew = V1 from HV1.out.symm]
  clear HV1
  clear HV1 k2 k3 f0
  refine hK.out _ _ HS1.out (fun hHeld => ?_)
  clear hK K
  (try simp only [Act.put, List.setIfInBounds_toArray, List.set_cons_zero, List.set_cons_succ])
  refine wpAnyH_take (i := 30) (v := ?_) rfl (by kernel_rfl) (by kernel_rfl) (by kernel_rfl) (fun _ _ _ h => h) (Or.inl ⟨by rfl, ?_⟩) (by assumption) ?_
  rotate_left
  ·intro w hSw
   (try dsimp only at hSw)
   go_simp
   try with_reducible rfl
  (try simp only [Act.put, List.setIfInBounds_toArray])
  refine wpAnyH_ready (rs := [31]) (by kernel_rfl) (by simp) ?_
  refine AllReadyH.cons rfl (fun K hK => ?_) AllReadyH.nil
  go_simp
  rw [← HV2.out]
  clear HV2
  clear HV2
  refine hK.out _ _ HS2.out (fun hHeld => ?_)
  clear hK K
  (try simp only [Act.put, List.setIfInBounds_toArray, List.set_cons_zero, List.set_cons_succ])
  refine wpAnyH_done (by kernel_rfl) ?_ _
  go_wp2
  go_returns
  exact ⟨rfl, ⟨_, _, _, _, _, _, _, _, _, _, HT2.out⟩, HE.out⟩
end Go.Proofs.YtjnklbfhelbjgaaGreat

/- Polynomials as coefficient functions with values in Rat: products, tops, division with a rest is of one kind. Nothing of the program. -/
namespace Pq
def cv (a b : Nat → Rat) : Nat → Rat
 | 0 => a 0 * b 0
 | k + 1 => a 0 * b (k + 1) + cv (fun i => a (i + 1)) b k
theorem cv_congr {a a' b b' : Nat → Rat} {k : Nat} (h : ∀ i, i ≤ k → a i = a' i) (h' : ∀ i, i ≤ k → b i = b' i) : cv a b k = cv a' b' k := by
 induction k generalizing a a' with
 | zero => simp [cv, h 0 (Nat.le_refl _), h' 0 (Nat.le_refl _)]
 | succ k ih => rw [cv, cv, h 0 (Nat.zero_le _), h' (k + 1) (Nat.le_refl _), ih (fun i hi => h (i + 1) (by omega)) (fun i hi => h' i (by omega))]
theorem cv_add_left (a b c : Nat → Rat) (k : Nat) : cv (fun i => a i + b i) c k = cv a c k + cv b c k := by
 induction k generalizing a b with
 | zero => simp only [cv]; grind
 | succ k ih => rw [cv, cv, cv, ih]; grind
theorem cv_sub_left (a b c : Nat → Rat) (k : Nat) : cv (fun i => a i - b i) c k = cv a c k - cv b c k := by
 induction k generalizing a b with
 | zero => simp only [cv]; grind
 | succ k ih => rw [cv, cv, cv, ih]; grind
theorem cv_zero_left (b : Nat → Rat) (k : Nat) : cv (fun _ => 0) b k = 0 := by
 induction k with
 | zero => simp only [cv]; grind
 | succ k ih => rw [cv, ih]; grind
def mono (c : Rat) (n : Nat) : Nat → Rat := fun i => if i = n then c else 0
theorem cv_mono (c : Rat) (b : Nat → Rat) (n k : Nat) : cv (mono c n) b k = if n ≤ k then c * b (k - n) else 0 := by
 induction n generalizing k with
 | zero =>
   cases k with
   | zero => simp [cv, mono]
   | succ k =>
     rw [cv, show (fun i => mono c 0 (i + 1)) = fun _ => 0 from funext fun i => by simp [mono], cv_zero_left]
     simp [mono]
     try grind
 | succ n ih =>
   cases k with
   | zero => simp [cv, mono]
   | succ k =>
     rw [cv, show (fun i => mono c (n + 1) (i + 1)) = mono c n from funext fun i => by simp [mono], ih]
     simp [mono]
     try grind
theorem cv_one (b : Nat → Rat) (k : Nat) : cv (mono 1 0) b k = b k := by rw [cv_mono]; simp
def Up (f : Nat → Rat) (n : Nat) : Prop := ∀ k, n ≤ k → f k = 0
theorem Up.mono {f : Nat → Rat} {n m : Nat} (h : Up f n) (hm : n ≤ m) : Up f m := fun k hk => h k (by omega)
theorem Up.sub {f g : Nat → Rat} {n : Nat} (h : Up f n) (k : Up g n) : Up (fun i => f i - g i) n := fun i hi => by
 show f i - g i = 0
 rw [h i hi, k i hi]; grind
theorem cv_left0 {a b : Nat → Rat} (h : ∀ k, a k = 0) (k : Nat) : cv a b k = 0 := by
 rw [cv_congr (fun i _ => h i) (fun _ _ => rfl), cv_zero_left]
theorem cv_top {a b : Nat → Rat} {n m : Nat} (ha : Up a (n + 1)) (hb : Up b (m + 1)) : cv a b (n + m) = a n * b m := by
 induction n generalizing a with
 | zero =>
   rw [Nat.zero_add]
   cases m with
   | zero => rfl
   | succ m =>
     rw [cv, cv_left0 (fun k => ha (k + 1) (by omega))]
     grind
 | succ n ih =>
   rw [show n + 1 + m = (n + m) + 1 by omega, cv, hb (n + m + 1) (by omega), ih (a := fun i => a (i + 1)) fun k hk => ha (k + 1) (by omega)]
   grind
theorem cv_up {a b : Nat → Rat} {n m : Nat} (ha : Up a n) (hb : Up b m) : Up (cv a b) (n + m - 1) := by
 intro k hk
 induction n generalizing a k with
 | zero => exact cv_left0 (fun i => ha i (Nat.zero_le _)) k
 | succ n ih =>
   cases k with
   | zero =>
     have : m = 0 := by omega
     subst this
     rw [cv, hb 0 (Nat.le_refl _)]
     grind
   | succ k =>
     rw [cv, hb (k + 1) (by omega), ih (a := fun i => a (i + 1)) (fun k hk => ha (k + 1) (by omega)) k (by omega)]
     grind
theorem mul_zero' {a b : Rat} (h : a * b = 0) : a = 0 ∨ b = 0 := by
 rcases Classical.em (a = 0) with h0 | h0
 ·exact .inl h0
 ·right
  grind
theorem no_mul {d b : Nat → Rat} {p m : Nat} (hb : Up b (m + 1)) (ht : b m ≠ 0) (hu : Up (cv d b) (p + m)) : ∀ n, Up d n → Up d p
 | 0, h => h.mono (Nat.zero_le _)
 | n + 1, h => by
   rcases Nat.lt_or_ge n p with hn | hn
   ·exact h.mono (by omega)
   ·refine no_mul hb ht hu n fun k hk => ?_
    by_cases hkn : k = n
    ·subst hkn
     have h1 := (cv_top h hb).symm.trans (hu (k + m) (by omega))
     exact (mul_zero' h1).resolve_right ht
    ·exact h k (by omega)
theorem dv_unique {b q r q' r' : Nat → Rat} {m n n' : Nat} (hb : Up b (m + 1)) (ht : b m ≠ 0) (hq : Up q n) (hq' : Up q' n')
  (e : ∀ k, cv q b k + r k = cv q' b k + r' k) (hr : Up r m) (hr' : Up r' m) : (∀ k, q k = q' k) ∧ ∀ k, r k = r' k := by
 have e1 : ∀ k, cv (fun i => q i - q' i) b k = r' k - r k := fun k => by
  rw [cv_sub_left]
  have := e k
  grind
 have hu : Up (cv (fun i => q i - q' i) b) m := fun k hk => by
  rw [e1, hr k hk, hr' k hk]; grind
 have hd : Up (fun i => q i - q' i) (n + n') := (hq.mono (by omega)).sub (hq'.mono (by omega))
 have h0 := no_mul (p := 0) hb ht (by rw [Nat.zero_add]; exact hu) _ hd
 have h1 : ∀ k, q k = q' k := fun k => by
  have := h0 k (Nat.zero_le _)
  simp only at this
  grind
 refine ⟨h1, fun k => ?_⟩
 have := e k
 rw [cv_congr (fun i _ => h1 i) (fun _ _ => rfl)] at this
 grind
end Pq

/- Polynomials over the fractions: the normal form as a function; the rounds of a division. Nothing of the program. -/
namespace Pq
theorem up_co (L : List Rat) : Up (co L) L.length := fun _ h => co_ge h
theorem IsP.self {M : List Rat} (h : Nz M) : IsP (co M) M := ⟨h, fun _ => rfl⟩
theorem co_cons_zero (x : Rat) (L : List Rat) : co (x :: L) 0 = x := rfl
theorem co_cons_succ (x : Rat) (L : List Rat) (i : Nat) : co (x :: L) (i + 1) = co L i := by simp [co]
theorem co_range (f : Nat → Rat) (n i : Nat) : co ((List.range n).map f) i = if i < n then f i else 0 := by
 by_cases h : i < n
 ·rw [if_pos h]; exact co_get (by rw [List.getElem?_map, List.getElem?_range h]; rfl)
 ·rw [if_neg h]; exact co_ge (by simp; omega)
def nrm : List Rat → List Rat
 | [] => []
 | x :: L => if nrm L = [] ∧ x = 0 then [] else x :: nrm L
theorem co_nrm : ∀ (L : List Rat) (i : Nat), co (nrm L) i = co L i
 | [], _ => rfl
 | x :: L, i => by
   have ih := co_nrm L
   unfold nrm
   split
   ·rename_i h
    cases i with
    | zero => rw [co_nil, co_cons_zero, h.2]
    | succ i => rw [co_nil, co_cons_succ, ← ih, h.1, co_nil]
   ·cases i with
    | zero => rfl
    | succ i => rw [co_cons_succ, co_cons_succ, ih]
theorem nz_nrm : ∀ L : List Rat, Nz (nrm L)
 | [] => nz_nil
 | x :: L => by
   have ih := nz_nrm L
   unfold nrm
   split
   ·exact nz_nil
   ·rename_i h
    intro hne
    by_cases h0 : nrm L = []
    ·intro e
     refine h ⟨h0, ?_⟩
     simpa [h0] using e
    ·rw [List.getLast_cons h0]
     exact ih h0
theorem isP_nrm (L : List Rat) : IsP (co L) (nrm L) := ⟨nz_nrm L, co_nrm L⟩
theorem IsP.nrm {L M : List Rat} (h : IsP (co L) M) : M = nrm L := h.unique (isP_nrm L)
theorem nrm_id {M : List Rat} (h : Nz M) : nrm M = M := (IsP.nrm (IsP.self h)).symm
theorem nrm_len (L : List Rat) : (nrm L).length ≤ L.length := nz_len (nz_nrm L) fun i hi => by rw [co_nrm]; exact co_ge hi
def dstep (b a : List Rat) : List Rat := nrm ((List.range a.length).map fun i => co a i - (if i < a.length - b.length then 0 else co a (a.length - 1) / co b (b.length - 1) * co b (i - (a.length - b.length))))
theorem co_dstep {a b : List Rat} (h : b.length ≤ a.length) (i : Nat) : co (dstep b a) i = co a i - (if i < a.length - b.length then 0 else co a (a.length - 1) / co b (b.length - 1) * co b (i - (a.length - b.length))) := by
 unfold dstep
 rw [co_nrm, co_range]
 by_cases h1 : i < a.length
 ·rw [if_pos h1]
 ·rw [if_neg h1, co_ge (L := a) (by omega), co_ge (L := b) (i := i - (a.length - b.length)) (by omega), Rat.mul_zero]
  split <;> grind
theorem dstep_nz (b a : List Rat) : Nz (dstep b a) := nz_nrm _
theorem dstep_len {a b : List Rat} (hb : Nz b) (h0 : 0 < b.length) (h : b.length ≤ a.length) : (dstep b a).length < a.length := by
 have ht := nz_top hb h0
 have : (dstep b a).length ≤ a.length - 1 := nz_len (dstep_nz b a) fun i hi => by
  rw [co_dstep h]
  rcases Nat.eq_or_lt_of_le hi with e | e
  ·rw [← e, if_neg (by omega), show a.length - 1 - (a.length - b.length) = b.length - 1 by omega]
   grind
  ·rw [co_ge (L := a) (by omega), co_ge (L := b) (i := i - (a.length - b.length)) (by omega), Rat.mul_zero]
   split <;> grind
 omega
def drest (b : List Rat) : Nat → List Rat → List Rat
 | 0, a => a
 | j + 1, a => if b.length ≤ a.length then drest b j (dstep b a) else a
theorem drest_step {a b : List Rat} (h : b.length ≤ a.length) (j : Nat) : drest b (j + 1) a = drest b j (dstep b a) := by
 rw [drest, if_pos h]
def IsD (a b Q R : List Rat) : Prop := Nz Q ∧ Nz R ∧ R.length < b.length ∧ ∀ i, co a i = cv (co Q) (co b) i + co R i
theorem IsD.unique {a b Q R Q' R' : List Rat} (hb : Nz b) (h : IsD a b Q R) (h' : IsD a b Q' R') : Q = Q' ∧ R = R' := by
 have hl : 0 < b.length := by have := h.2.2.1; omega
 have ht := nz_top hb hl
 have hu : Up (co b) (b.length - 1 + 1) := by rw [Nat.sub_add_cancel hl]; exact up_co b
 have hr : R.length ≤ b.length - 1 := by have := h.2.2.1; omega
 have hr' : R'.length ≤ b.length - 1 := by have := h'.2.2.1; omega
 obtain ⟨e1, e2⟩ := dv_unique hu ht (up_co Q) (up_co Q') (fun k => (h.2.2.2 k).symm.trans (h'.2.2.2 k)) ((up_co R).mono hr) ((up_co R').mono hr')
 exact ⟨nz_ext h.1 h'.1 e1, nz_ext h.2.1 h'.2.1 e2⟩
theorem dv_step {a b K : List Rat} {q : Nat → Rat} (h : b.length ≤ K.length) (e : ∀ i, co a i = cv q (co b) i + co K i) (hq : q (K.length - b.length) = 0) (i : Nat) :
  co a i = cv (fun t => if t = K.length - b.length then co K (K.length - 1) / co b (b.length - 1) else q t) (co b) i + co (dstep b K) i := by
 have e1 : (fun t => if t = K.length - b.length then co K (K.length - 1) / co b (b.length - 1) else q t) = fun t => q t + mono (co K (K.length - 1) / co b (b.length - 1)) (K.length - b.length) t := by
  funext t
  unfold mono
  by_cases h1 : t = K.length - b.length
  ·rw [if_pos h1, if_pos h1, h1, hq]; grind
  ·rw [if_neg h1, if_neg h1]; grind
 rw [e1, cv_add_left, cv_mono, co_dstep h, e i]
 by_cases h1 : K.length - b.length ≤ i
 ·rw [if_pos h1, if_neg (by omega)]; grind
 ·rw [if_neg h1, if_pos (by omega)]; grind
end Pq

/- qpoly: the top's noughts go; the normal form. -/
namespace Go.Proofs.YtjnklbfhelbjgaaGreat
open Go.RowKit Go.IntWalk
attribute [local go_sem ↓] Go.wp_at_zero Go.wp_at_succ
def RetPqB (b : Nat) (f : Nat → Rat) (w : World) (e : Ending) (w' : World) : Prop :=
 ∃ (A : Option Addr) (n c : Nat) (M : List Rat), e = .returned (.slice A n c) ∧ OwQp w' b A n c M ∧ Hid (Pq.IsP f M) ∧ Below w.heap.size w w'
set_option maxRecDepth 100000 in
set_option maxHeartbeats 4000000 in
theorem qtrim_any {b N : Nat} {A : Option Addr} {n c : Nat} {L : List Rat} {w : World} (h : OwQp w b A n c L) (hz : ∀ x ∈ L, Qs N x) (hn : n ≤ 4398046511103) (hN : N ≤ 17592186044416) :
  Calls Tryz.prog 164 #[.slice A n c] w (RetPqB b (Pq.co L) w) := by
 have HLEN := Lib.hid h.len
 have H := Lib.hid h
 have HSZ := Lib.hid hz
 have hle := h.le.1
 have hmx := h.le.2
 clear h hz
 go_enter Tryz.func164, Tryz.ntmps164
 go_wp2_with fail
 go_loopw [3] (fun kv wr => ∃ k : Nat, kv = .int .i64 k ∧ k ≤ n ∧ Hid (∀ i, k ≤ i → Pq.co L i = 0) ∧ Below w.heap.size w wr) (fun kv _ => (intOf kv).toNat)
 case atStart => exact ⟨n, rfl, Nat.le_refl _, Lib.hid fun i hi => Pq.co_ge (by rw [HLEN.out]; exact hi), Below.refl _ _⟩
 case round =>
  obtain ⟨k, rfl, hk, hZ, hB⟩ := hrel
  rcases Nat.eq_zero_or_pos k with h0 | h0
  ·subst h0
   go_wp2
   go_ret
   exact ⟨_, _, _, [], rfl, OwQp.nil _ _ _, Lib.hid ⟨Pq.nz_nil, fun i => by rw [Pq.co_nil, hZ.out i (Nat.zero_le _)]⟩, hB⟩
  ·obtain ⟨j, rfl⟩ : ∃ j, k = j + 1 := ⟨k - 1, by omega⟩
   obtain ⟨ad, s, A1, n1, c1, s', A1', n1', c1', x, rfl, hbk, hx0, hx1, hx2, hx3, hr, hx⟩ := op_at H.out (show j < n by omega)
   obtain ⟨hy0, hy1, hy2, hy3⟩ := qs_cells hB hbk hx0 hx1 hx2 hx3
   have hn1 : n1 ≤ N := by
    rw [hr.num.len]
    exact (HSZ.out x (List.mem_of_getElem? hx.out)).1
   have hr' := (hr.next hB).num.rd
   clear hx0 hx1 hx2 hx3 hy2 hy3 hr
   go_wp2_with fail
   refine (sign_any hr' (by omega)).mono ?_
   rintro _ W2 ⟨kz, rfl, hkz, hb2⟩
   have HB2 := Lib.hid (hB.trans (hb2.mono hB.size))
   have HZ := Lib.hid (show kz = 0 ↔ Pq.co L j = 0 by rw [hkz.out, Int.sign_eq_zero_iff_zero, Rat.num_eq_zero, Pq.co_get hx.out])
   clear hb2 hy0 hy1 hr'
   by_cases hk0 : kz = 0
   ·have HC := Lib.hid (HZ.out.1 hk0)
    subst hk0
    go_wp2
    go_roundw
    case rel => exact ⟨j, by go_num, by omega, Lib.hid fun i hi => by
     rcases Nat.lt_or_ge j i with h1 | h1
     ·exact hZ.out i h1
     ·rw [show i = j by omega]; exact HC.out, HB2.out⟩
    case measure => simp [intOf]
   ·have HC := Lib.hid (mt HZ.out.2 hk0)
    have hkb : (kz == 0) = false := by simpa using hk0
    clear hk0
    go_wp2
    go_ret
    exact ⟨_, _, _, L.take (j + 1), rfl, (H.out.next HB2.out).take hk, Lib.hid ⟨Pq.nz_take (by rw [HLEN.out]; exact hk) (.inr HC.out), Pq.co_take_all hZ.out⟩, HB2.out⟩
set_option maxRecDepth 100000 in
set_option maxHeartbeats 8000000 in
theorem qpnorm_any {N : Nat} {A : Option Addr} {n c : Nat} {L : List (Int × Int)} {w : World} (h : RdQs w w.heap.size N A n c L) (hn : n ≤ 1048576) (hN : N ≤ 1000000000000) (h1N : 1 ≤ N) :
  Calls Tryz.prog 110 #[.slice A n c] w fun e w' => ((∀ p ∈ L, p.2 ≠ 0) ∧ ∃ (A' : Option Addr) (n' c' : Nat) (M : List Rat), e = .returned (.tuple #[.slice A' n' c', .int .i64 0]) ∧ OwQp w' w.heap.size A' n' c' M ∧ Hid (M = Pq.nrm (L.map qval)) ∧ Below w.heap.size w w') ∨ ((∃ p ∈ L, p.2 = 0) ∧ e = .returned (.tuple #[.slice none 0 0, .int .i64 6]) ∧ Below w.heap.size w w') := by
 have HLEN := Lib.hid h.len
 have H := Lib.hid h
 obtain ⟨i0, hi, hz0, hz1, hz2⟩ := info_parts infoQ
 go_enter Tryz.func110, Tryz.ntmps110
 go_wp2_with fail
 go_loopw [4, 11] (fun ov iv wr => ∃ (j c' : Nat) (A' : Option Addr) (M : List Rat), ov = .slice A' j c' ∧ iv = .int .i64 j ∧ j ≤ n ∧ OwQs wr w.heap.size A' j c' M ∧ Hid (M = (L.take j).map qval) ∧ Hid (∀ (i : Nat) (p : Int × Int), i < j → L[i]? = some p → p.2 ≠ 0) ∧ Below w.heap.size w wr) (fun _ iv _ => n - (intOf iv).toNat)
 case atStart => exact ⟨0, 0, none, [], rfl, rfl, Nat.zero_le _, OwQs.nil _ _, Lib.hid rfl, Lib.hid fun i p hi => absurd hi (Nat.not_lt_zero _), Below.refl _ _⟩
 case round =>
  obtain ⟨j, c', A', M, rfl, rfl, hj, ho, hM, hne, hB⟩ := hrel
  by_cases hjn : j = n
  ·subst hjn
   have HALL := Lib.hid (show ∀ p ∈ L, p.2 ≠ 0 from fun p hp => by
    obtain ⟨i, hi, e⟩ := List.mem_iff_getElem.1 hp
    exact hne.out i p (by rw [← HLEN.out]; exact hi) (by rw [List.getElem?_eq_getElem hi, e]))
   have HML := Lib.hid (show M = L.map qval by rw [hM.out, List.take_of_length_le (by rw [HLEN.out]; exact Nat.le_refl _)])
   have HSM := Lib.hid (show ∀ x ∈ M, Qs N x by rw [HML.out]; exact (H.out.sz HALL.out h1N).mem)
   go_wp2_with fail
   refine (qtrim_any ho.p HSM.out (by omega) (by omega)).mono ?_
   rintro _ W4 ⟨A4, n4, c4, M4, rfl, ho4, hM4, hb4⟩
   go_wp2
   exact bodyPost_ret (by simp [results, Tryz.results110, go_sem]) rfl (.inl ⟨HALL.out, _, _, _, M4, rfl, ho4, Lib.hid (by rw [← HML.out]; exact hM4.out.nrm), hB.trans (hb4.mono hB.size)⟩)
  ·have hjl : j < n := by omega
   clear hjn
   have hjli : (j : Int) < (n : Int) := by omega
   obtain ⟨ad, s1, A1, n1, c1, s2, A2, n2, c2, z1, d1, rfl, hbk, hx0, hx1, hx2, hx3, hr1, hr2, hn1, hn2, hp⟩ := qs_at h hjl
   obtain ⟨hy0, hy1, hy2, hy3⟩ := qs_cells hB hbk hx0 hx1 hx2 hx3
   obtain ⟨W2, HW2⟩ : ∃ W, W = wr.alloc (.cells #[.bool s1, .slice A1 n1 c1, .bool s2, .slice A2 n2 c2] 47) := ⟨_, rfl⟩
   have hb2 : Below wr.heap.size wr W2 := by rw [HW2]; exact (Below.refl _ _).alloc (Nat.le_refl _) _
   have hB2 := hB.trans (hb2.mono hB.size)
   have HO := Lib.hid (ho.next hb2)
   have HRD := Lib.hid (And.intro (hr1.next hB2) (hr2.next hB2))
   have HB2 := Lib.hid hB2
   have HNN := Lib.hid (And.intro (Nat.le_trans hn1 hN) (Nat.le_trans hn2 hN))
   have HW2 := Lib.hid HW2
   clear ho hB hb2 hB2 hr1 hr2 hx0 hx1 hx2 hx3
   go_wp2_with fail
   rw [← HW2.out]
   clear HW2 hy0 hy1 hy2 hy3
   clear HW2
   by_cases hd0 : d1 = 0
   ·subst hd0
    have HEX := Lib.hid (show ∃ p ∈ L, p.2 = 0 from ⟨(z1, 0), List.mem_of_getElem? hp.out, rfl⟩)
    refine (qnorm_zero HRD.out.2 HNN.out.2).mono ?_
    rintro _ W3 ⟨rfl, hb3⟩
    have HB4 := Lib.hid ((HB2.out.trans (hb3.mono HB2.out.size)).alloc (Nat.le_trans HB2.out.size hb3.size) (.cells #[.bool false, .slice none 0 0, .bool false, .slice none 0 0] 47))
    go_wp2
    exact bodyPost_ret (by simp [results, Tryz.results110, go_sem]) rfl (.inr ⟨HEX.out, rfl, HB4.out⟩)
   ·have HD1 := Lib.hid hd0
    clear hd0
    refine (qnorm_any HRD.out.1 HRD.out.2 HNN.out.1 HNN.out.2 HD1.out).mono ?_
    rintro _ W3 ⟨s3, A3, n3, c3, s4, A4, n4, c4, y, rfl, ho3, hy, hb3⟩
    have hB3 := HB2.out.trans (hb3.mono HB2.out.size)
    obtain ⟨W4, HW4⟩ : ∃ W, W = W3.alloc (.cells #[.bool s3, .slice A3 n3 c3, .bool s4, .slice A4 n4 c4] 47) := ⟨_, rfl⟩
    have hb4 : Below W3.heap.size W3 W4 := by rw [HW4]; exact (Below.refl _ _).alloc (Nat.le_refl _) _
    have hB4 := hB3.trans (hb4.mono hB3.size)
    obtain ⟨E, hE, hEl, hEn⟩ := (HO.out.next hb3).next hb4
    have HO4 := Lib.hid ((ho3.base HB2.out.size).next hb4)
    rw [HW4] at hE hB4 hEn
    rw [HW4] at HO4
    have HE := Lib.hid hE
    have HEN := Lib.hid (And.intro hEl hEn)
    have HM2 := Lib.hid (show M ++ [y] = (L.take (j + 1)).map qval by rw [hM.out, hy.out]; exact mapq_snoc hp.out)
    have HNE2 := Lib.hid (show ∀ (i : Nat) (p : Int × Int), i < j + 1 → L[i]? = some p → p.2 ≠ 0 from fun i p hi hq => by
     rcases Nat.lt_or_ge i j with h1 | h1
     ·exact hne.out i p h1 hq
     ·rw [show i = j by omega, hp.out] at hq
      injection hq with hq
      rw [← hq]
      exact HD1.out)
    have HB4 := Lib.hid hB4
    clear hE hEl hEn hb3 ho3 hb4 hB3 hB4 hy HO hne hM
    clear HW4
    go_wp2_with (at_builtin; refine wpList_append_own _ rfl _ _ 73 rfl w.heap.size 47 i0 (.agg #[.bool false, .slice none 0 0, .bool false, .slice none 0 0]) 4 64 Tryz.underlying73 hi hz0 hz1 hz2 rfl (by decide) _ _ _ rfl (HE.out.alloc _) ⟨W3.heap.size + 1, 0, none⟩ 1 1 [.bool s3, .slice A3 n3 c3, .bool s4, .slice A4 n4 c4] rfl rfl (by simpa using qcell_new (W3.alloc (.cells #[.bool s3, .slice A3 n3 c3, .bool s4, .slice A4 n4 c4] 47)) (.bool s3) (.slice A3 n3 c3) (.bool s4) (.slice A4 n4 c4) 47) (by simp [Value.oneCell']) (by unfold maxLen; omega) (by omega) (by have := HB4.out.size; simp at this ⊢; omega) ?_; intro v' w1 hown' hgrow _)
    have hmore := qs_more (e := ((s3, A3, n3, c3), (s4, A4, n4, c4))) (x := y) HO4.out rfl (HE.out.alloc _) HEN.out.1 HEN.out.2 hown' hgrow
    have HB5 := Lib.hid ((HB4.out.alloc HB4.out.size (.cells #[.bool s3, .slice A3 n3 c3, .bool s4, .slice A4 n4 c4] 47)).grown hgrow (by have := HB4.out.size; simp at this ⊢; omega) (own_block HE.out))
    obtain ⟨A5, c5, rfl, ho5⟩ := hmore
    clear hown' hgrow HE HEN HO4
    go_wp2
    go_roundw
    case rel => exact ⟨j + 1, c5, A5, M ++ [y], rfl, by go_num, by omega, ho5, HM2, HNE2, HB5.out⟩
    case measure => simp [intOf]; omega
end Go.Proofs.YtjnklbfhelbjgaaGreat

/- Values of polynomials over the fractions. Nothing of the program. -/
namespace Pq
end Pq

/- Sizes of values of polynomials over the fractions. -/
namespace Go.Proofs.YtjnklbfhelbjgaaGreat
end Go.Proofs.YtjnklbfhelbjgaaGreat
