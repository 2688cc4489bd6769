/- smith: row and column 0 beside the diagonal. -/
import Derived.Test.YtjnklbfhelbjgaaGreatSn27
namespace Go.Proofs.YtjnklbfhelbjgaaGreat
open Go.RowKit Go.IntWalk
attribute [local go_sem ↓] Go.wp_at_zero Go.wp_at_succ
def M2.cl1 (M : M2) (X : List Rat) : M2 := M.add 1 (pscl X (-1))
def M2.cl2 (M : M2) (X : List Rat) : M2 := (M.flip.add 1 (pscl X (-1))).flip
structure ClOK (M : M2) (X R Y S : List Rat) : Prop where
 t0 : M.tiny
 n0 : M.a ≠ []
 d0 : Pq.IsD M.c M.a X R
 x0 : Tiny X
 a0 : M.addOK 1 (pscl X (-1))
 t1 : (M.cl1 X).tiny
 n1 : (M.cl1 X).a ≠ []
 d1 : Pq.IsD (M.cl1 X).b (M.cl1 X).a Y S
 y1 : Tiny Y
 a1 : (M.cl1 X).flip.addOK 1 (pscl Y (-1))
def RetCl (b gw : Nat) (M : M2) (p : Prop) [Decidable p] (w : World) (e : Ending) (w' : World) : Prop := e = .returned (.bool (decide p)) ∧ Wk w' b gw M ∧ Below b w w'
set_option maxRecDepth 100000 in
set_option maxHeartbeats 8000000 in
theorem clear_zero {b gw : Nat} {M : M2} {X R Y S : List Rat} {w : World} (h : Wk w b gw M) (hb : b ≤ w.heap.size) (hok : ClOK M X R Y S) :
  Calls Tryz.prog 205 #[.pointer (some ⟨gw, 0, none⟩), .int .i64 0] w (RetCl b gw ((M.cl1 X).cl2 Y) ((M.cl1 X).c = [] ∧ ((M.cl1 X).cl2 Y).b = []) w) := by
 have HOK := Lib.hid hok
 have HW := Lib.hid h
 have HV := Lib.hid (show b ≤ w.heap.size ∧ Below b w w from ⟨hb, Below.refl _ _⟩)
 clear hok hb h
 go_enter Tryz.func205, Tryz.ntmps205
 obtain ⟨t0, hx0, hg0, gr0, cr0, ga0, ca0, gc0, cc0, ⟨xa0, xn0, xc0⟩, ⟨ya0, yn0, yc0⟩, ⟨za0, zn0, zc0⟩, ⟨ua0, un0, uc0⟩, hT0⟩ := HW.out
 have HT0 := Lib.hid hT0
 have HX0 := Lib.hid hx0
 have HG0 := Lib.hid hg0
 have k0 := hx0.cell (i := 0) rfl
 have k1 := hT0.hd.cell (i := 0) rfl
 have k2 := hT0.hd.cell (i := 1) rfl
 have k3 := hT0.rw.cell (i := 0) rfl
 have k4 := hT0.rw.cell (i := 1) rfl
 have k5 : w.cell? ⟨ga0, 0, none⟩ = some (.slice xa0 xn0 xc0) := hT0.r0.cell rfl
 have k6 : w.cell? ⟨ga0, 1, none⟩ = some (.slice ya0 yn0 yc0) := hT0.r0.cell rfl
 have k7 : w.cell? ⟨gc0, 0, none⟩ = some (.slice za0 zn0 zc0) := hT0.r1.cell rfl
 have k8 : w.cell? ⟨gc0, 1, none⟩ = some (.slice ua0 un0 uc0) := hT0.r1.cell rfl
 clear hx0 hT0 hg0
 go_wp2_with fail
 refine wp_loop_rounds 2 ?_
 rw [rounds_succ]
 go_upto_region 5 with fail
 have HS0 := Lib.hid (show ∀ W, Below w.heap.size w W → W.cell? ⟨gw, 0, none⟩ = some (.pointer (some ⟨t0, 0, none⟩)) ∧ W.cell? ⟨t0, 0, none⟩ = some (.slice (some ⟨gr0, 0, none⟩) 2 cr0) ∧ W.cell? ⟨gr0, 0, none⟩ = some (.slice (some ⟨ga0, 0, none⟩) 2 ca0) ∧ W.cell? ⟨ga0, 0, none⟩ = some (.slice xa0 xn0 xc0) ∧ W.cell? ⟨gr0, 1, none⟩ = some (.slice (some ⟨gc0, 0, none⟩) 2 cc0) ∧ W.cell? ⟨gc0, 0, none⟩ = some (.slice za0 zn0 zc0) from fun W hb => ⟨(HX0.out.next hb).cell rfl, (HT0.out.next hb).hd.cell rfl, (HT0.out.next hb).rw.cell rfl, (HT0.out.next hb).r0.cell rfl, (HT0.out.next hb).rw.cell rfl, (HT0.out.next hb).r1.cell rfl⟩)
 have HM := Lib.hid (show Wk w b gw M from ⟨_, HX0.out, HG0.out, _, _, _, _, _, _, _, _, _, _, HT0.out⟩)
 have HCD := Lib.hid (Below.refl w.heap.size w).drew
 clear k0 k1 k2 k3 k4 k5 k6 k7 k8
 refine WA.begin [32] (S := fun W => W.cell? ⟨gw, 0, none⟩ = some (.pointer (some ⟨t0, 0, none⟩)) ∧ W.cell? ⟨t0, 0, none⟩ = some (.slice (some ⟨gr0, 0, none⟩) 2 cr0) ∧ W.cell? ⟨gr0, 0, none⟩ = some (.slice (some ⟨ga0, 0, none⟩) 2 ca0) ∧ W.cell? ⟨ga0, 0, none⟩ = some (.slice xa0 xn0 xc0) ∧ W.cell? ⟨gr0, 1, none⟩ = some (.slice (some ⟨gc0, 0, none⟩) 2 cc0) ∧ W.cell? ⟨gc0, 0, none⟩ = some (.slice za0 zn0 zc0)) (by kernel_rfl) (HS0.out _ HCD.out) (fun hHeld => ?_)
 refine WA.take (i := 0) 40 (v := ?_) rfl (by kernel_rfl) (by kernel_rfl) (by kernel_rfl) (by kernel_rfl) (by kernel_rfl) (fun _ _ _ h => h) (Or.inl ⟨by kernel_rfl, ?_⟩) (by assumption) ?_
 rotate_left
 ·intro w hSw
  (try dsimp only at hSw)
  go_simp
  try with_reducible rfl
 (try simp only [Act.put, List.setIfInBounds_toArray])
 refine WA.take (i := 1) 40 (v := ?_) rfl (by kernel_rfl) (by kernel_rfl) (by kernel_rfl) (by kernel_rfl) (by kernel_rfl) (fun _ _ _ h => h) (Or.inl ⟨by kernel_rfl, ?_⟩) (by assumption) ?_
 rotate_left
 ·intro w hSw
  (try dsimp only at hSw)
  go_simp
  try with_reducible rfl
 (try simp only [Act.put])
 refine WA.take (i := 2) 40 (v := ?_) rfl (by kernel_rfl) (by kernel_rfl) (by kernel_rfl) (by kernel_rfl) (by kernel_rfl) (fun _ _ _ h => h) (Or.inl ⟨by kernel_rfl, ?_⟩) (by assumption) ?_
 rotate_left
 ·intro w hSw
  (try dsimp only at hSw)
  go_simp
  try with_reducible rfl
 (try simp only [Act.put])
 refine WA.take (i := 3) 40 (v := ?_) rfl (by kernel_rfl) (by kernel_rfl) (by kernel_rfl) (by kernel_rfl) (by kernel_rfl) (fun _ _ _ h => h) (Or.inl ⟨by kernel_rfl, ?_⟩) (by assumption) ?_
 rotate_left
 ·intro w hSw
  (try dsimp only at hSw)
  go_simp
  try with_reducible rfl
 (try simp only [Act.put])
 refine WA.take (i := 4) 40 (v := ?_) rfl (by kernel_rfl) (by kernel_rfl) (by kernel_rfl) (by kernel_rfl) (by kernel_rfl) (fun _ _ _ h => h) (Or.inl ⟨by kernel_rfl, ?_⟩) (by assumption) ?_
 rotate_left
 ·intro w hSw
  (try dsimp only at hSw)
  go_simp
  try with_reducible rfl
 (try simp only [Act.put])
 refine WA.take (i := 5) 40 (v := ?_) rfl (by kernel_rfl) (by kernel_rfl) (by kernel_rfl) (by kernel_rfl) (by kernel_rfl) (fun _ _ _ h => h) (Or.inl ⟨by kernel_rfl, ?_⟩) (by assumption) ?_
 rotate_left
 ·intro w hSw
  (try dsimp only at hSw)
  go_simp
  try with_reducible rfl
 (try simp only [Act.put])
 refine WA.take (i := 6) 40 (v := ?_) rfl (by kernel_rfl) (by kernel_rfl) (by kernel_rfl) (by kernel_rfl) (by kernel_rfl) (fun _ _ _ h => h) (Or.inl ⟨by kernel_rfl, ?_⟩) (by assumption) ?_
 rotate_left
 ·intro w hSw
  (try dsimp only at hSw)
  go_simp
  try with_reducible rfl
 (try simp only [Act.put])
 refine WA.take (i := 7) 40 (v := ?_) rfl (by kernel_rfl) (by kernel_rfl) (by kernel_rfl) (by kernel_rfl) (by kernel_rfl) (fun _ _ _ h => h) (Or.inl ⟨by kernel_rfl, ?_⟩) (by assumption) ?_
 rotate_left
 ·intro w hSw
  (try dsimp only at hSw)
  go_simp
  try with_reducible rfl
 (try simp only [Act.put])
 refine WA.take (i := 8) 40 (v := ?_) rfl (by kernel_rfl) (by kernel_rfl) (by kernel_rfl) (by kernel_rfl) (by kernel_rfl) (fun _ _ _ h => h) (Or.inl ⟨by kernel_rfl, ?_⟩) (by assumption) ?_
 rotate_left
 ·intro w hSw
  (try dsimp only at hSw)
  go_simp
  try with_reducible rfl
 (try simp only [Act.put])
 refine WA.take (i := 9) 40 (v := ?_) rfl (by kernel_rfl) (by kernel_rfl) (by kernel_rfl) (by kernel_rfl) (by kernel_rfl) (fun _ _ _ h => h) (Or.inl ⟨by kernel_rfl, ?_⟩) (by assumption) ?_
 rotate_left
 ·intro w hSw
  (try dsimp only at hSw)
  go_simp
  try with_reducible rfl
 (try simp only [Act.put])
 refine WA.take (i := 10) 40 (v := ?_) rfl (by kernel_rfl) (by kernel_rfl) (by kernel_rfl) (by kernel_rfl) (by kernel_rfl) (fun _ _ _ h => h) (Or.inl ⟨by kernel_rfl, ?_⟩) (by assumption) ?_
 rotate_left
 ·intro w hSw
  (try dsimp only at hSw)
  go_simp
  try with_reducible rfl
 (try simp only [Act.put])
 refine WA.take (i := 11) 40 (v := ?_) rfl (by kernel_rfl) (by kernel_rfl) (by kernel_rfl) (by kernel_rfl) (by kernel_rfl) (fun _ _ _ h => h) (Or.inl ⟨by kernel_rfl, ?_⟩) (by assumption) ?_
 rotate_left
 ·intro w hSw
  (try dsimp only at hSw)
  go_simp
  try with_reducible rfl
 (try simp only [Act.put])
 refine WA.take (i := 12) 40 (v := ?_) rfl (by kernel_rfl) (by kernel_rfl) (by kernel_rfl) (by kernel_rfl) (by kernel_rfl) (fun _ _ _ h => h) (Or.inl ⟨by kernel_rfl, ?_⟩) (by assumption) ?_
 rotate_left
 ·intro w hSw
  (try dsimp only at hSw)
  go_simp
  try with_reducible rfl
 (try simp only [Act.put])
 refine WA.take (i := 13) 40 (v := ?_) rfl (by kernel_rfl) (by kernel_rfl) (by kernel_rfl) (by kernel_rfl) (by kernel_rfl) (fun _ _ _ h => h) (Or.inl ⟨by kernel_rfl, ?_⟩) (by assumption) ?_
 rotate_left
 ·intro w hSw
  (try dsimp only at hSw)
  go_simp
  try with_reducible rfl
 (try simp only [Act.put])
 refine WA.take (i := 14) 40 (v := ?_) rfl (by kernel_rfl) (by kernel_rfl) (by kernel_rfl) (by kernel_rfl) (by kernel_rfl) (fun _ _ _ h => h) (Or.inl ⟨by kernel_rfl, ?_⟩) (by assumption) ?_
 rotate_left
 ·intro w hSw
  (try dsimp only at hSw)
  go_simp
  try with_reducible rfl
 (try simp only [Act.put])
 refine WA.take (i := 15) 40 (v := ?_) rfl (by kernel_rfl) (by kernel_rfl) (by kernel_rfl) (by kernel_rfl) (by kernel_rfl) (fun _ _ _ h => h) (Or.inl ⟨by kernel_rfl, ?_⟩) (by assumption) ?_
 rotate_left
 ·intro w hSw
  (try dsimp only at hSw)
  go_simp
  try with_reducible rfl
 (try simp only [Act.put])
 refine WA.take (i := 16) 40 (v := ?_) rfl (by kernel_rfl) (by kernel_rfl) (by kernel_rfl) (by kernel_rfl) (by kernel_rfl) (fun _ _ _ h => h) (Or.inl ⟨by kernel_rfl, ?_⟩) (by assumption) ?_
 rotate_left
 ·intro w hSw
  (try dsimp only at hSw)
  go_simp
  try with_reducible rfl
 (try simp only [Act.put])
 refine WA.take (i := 17) 40 (v := ?_) rfl (by kernel_rfl) (by kernel_rfl) (by kernel_rfl) (by kernel_rfl) (by kernel_rfl) (fun _ _ _ h => h) (Or.inl ⟨by kernel_rfl, ?_⟩) (by assumption) ?_
 rotate_left
 ·intro w hSw
  (try dsimp only at hSw)
  go_simp
  try with_reducible rfl
 (try simp only [Act.put])
 refine WA.take (i := 18) 40 (v := ?_) rfl (by kernel_rfl) (by kernel_rfl) (by kernel_rfl) (by kernel_rfl) (by kernel_rfl) (fun _ _ _ h => h) (Or.inl ⟨by kernel_rfl, ?_⟩) (by assumption) ?_
 rotate_left
 ·intro w hSw
  (try dsimp only at hSw)
  go_simp
  try with_reducible rfl
 (try simp only [Act.put])
 refine WA.take (i := 19) 40 (v := ?_) rfl (by kernel_rfl) (by kernel_rfl) (by kernel_rfl) (by kernel_rfl) (by kernel_rfl) (fun _ _ _ h => h) (Or.inl ⟨by kernel_rfl, ?_⟩) (by assumption) ?_
 rotate_left
 ·intro w hSw
  (try dsimp only at hSw)
  go_simp
  try with_reducible rfl
 (try simp only [Act.put])
 refine WA.take (i := 20) 40 (v := ?_) rfl (by kernel_rfl) (by kernel_rfl) (by kernel_rfl) (by kernel_rfl) (by kernel_rfl) (fun _ _ _ h => h) (Or.inl ⟨by kernel_rfl, ?_⟩) (by assumption) ?_
 rotate_left
 ·intro w hSw
  (try dsimp only at hSw)
  go_simp
  try with_reducible rfl
 (try simp only [Act.put])
 refine WA.take (i := 21) 40 (v := ?_) rfl (by kernel_rfl) (by kernel_rfl) (by kernel_rfl) (by kernel_rfl) (by kernel_rfl) (fun _ _ _ h => h) (Or.inl ⟨by kernel_rfl, ?_⟩) (by assumption) ?_
 rotate_left
 ·intro w hSw
  (try dsimp only at hSw)
  go_simp
  try with_reducible rfl
 (try simp only [Act.put])
 refine WA.take (i := 22) 40 (v := ?_) rfl (by kernel_rfl) (by kernel_rfl) (by kernel_rfl) (by kernel_rfl) (by kernel_rfl) (fun _ _ _ h => h) (Or.inl ⟨by kernel_rfl, ?_⟩) (by assumption) ?_
 rotate_left
 ·intro w hSw
  (try dsimp only at hSw)
  go_simp
  try with_reducible rfl
 (try simp only [Act.put])
 refine WA.take (i := 23) 40 (v := ?_) rfl (by kernel_rfl) (by kernel_rfl) (by kernel_rfl) (by kernel_rfl) (by kernel_rfl) (fun _ _ _ h => h) (Or.inl ⟨by kernel_rfl, ?_⟩) (by assumption) ?_
 rotate_left
 ·intro w hSw
  (try dsimp only at hSw)
  go_simp
  try with_reducible rfl
 (try simp only [Act.put])
 refine WA.take (i := 24) 40 (v := ?_) rfl (by kernel_rfl) (by kernel_rfl) (by kernel_rfl) (by kernel_rfl) (by kernel_rfl) (fun _ _ _ h => h) (Or.inl ⟨by kernel_rfl, ?_⟩) (by assumption) ?_
 rotate_left
 ·intro w hSw
  (try dsimp only at hSw)
  go_simp
  try with_reducible rfl
 (try simp only [Act.put])
 refine WA.take (i := 25) 40 (v := ?_) rfl (by kernel_rfl) (by kernel_rfl) (by kernel_rfl) (by kernel_rfl) (by kernel_rfl) (fun _ _ _ h => h) (Or.inl ⟨by kernel_rfl, ?_⟩) (by assumption) ?_
 rotate_left
 ·intro w hSw
  (try dsimp only at hSw)
  go_simp
  try with_reducible rfl
 (try simp only [Act.put])
 refine WA.take (i := 26) 40 (v := ?_) rfl (by kernel_rfl) (by kernel_rfl) (by kernel_rfl) (by kernel_rfl) (by kernel_rfl) (fun _ _ _ h => h) (Or.inl ⟨by kernel_rfl, ?_⟩) (by assumption) ?_
 rotate_left
 ·intro w hSw
  (try dsimp only at hSw)
  go_simp
  try with_reducible rfl
 (try simp only [Act.put])
 refine WA.take (i := 27) 40 (v := ?_) rfl (by kernel_rfl) (by kernel_rfl) (by kernel_rfl) (by kernel_rfl) (by kernel_rfl) (fun _ _ _ h => h) (Or.inl ⟨by kernel_rfl, ?_⟩) (by assumption) ?_
 rotate_left
 ·intro w hSw
  (try dsimp only at hSw)
  go_simp
  try with_reducible rfl
 (try simp only [Act.put])
 refine WA.take (i := 28) 40 (v := ?_) rfl (by kernel_rfl) (by kernel_rfl) (by kernel_rfl) (by kernel_rfl) (by kernel_rfl) (fun _ _ _ h => h) (Or.inl ⟨by kernel_rfl, ?_⟩) (by assumption) ?_
 rotate_left
 ·intro w hSw
  (try dsimp only at hSw)
  go_simp
  try with_reducible rfl
 (try simp only [Act.put])
 refine WA.one (i := 29) (by kernel_rfl) rfl (fun K hK => ?_)
 rw [if_pos (by kernel_rfl)]
 go_simp
 refine (minus_any ((HT0.out.next HCD.out).ec) ((HT0.out.next HCD.out).ea) HOK.out.t0.2.2.1 HOK.out.t0.1 HOK.out.n0 HOK.out.d0 HOK.out.x0).mono ?_
 rintro _ P0 ⟨A0, n0, l0, rfl, ho0, hb0⟩
 have HE0 : Hid (Below w.heap.size w P0) := Lib.hid (HCD.out.trans (hb0.mono HCD.out.size))
 have HO0 := Lib.hid ho0
 have HM0 := Lib.hid (HM.out.next HE0.out)
 clear ho0 hb0
 go_wp2_with fail
 refine hK.out _ _ (fun _ => (HS0.out _ HE0.out)) ?_
 have hHeld := (HS0.out _ HE0.out)
 clear hK K
 (try simp only [Act.put, List.setIfInBounds_toArray, List.set_cons_zero, List.set_cons_succ])
 refine WA.take (i := 30) 40 (v := ?_) rfl (by kernel_rfl) (by kernel_rfl) (by kernel_rfl) (by kernel_rfl) (by kernel_rfl) (fun _ _ _ h => h) (Or.inl ⟨by kernel_rfl, ?_⟩) (by assumption) ?_
 rotate_left
 ·intro w hSw
  (try dsimp only at hSw)
  go_simp
  try with_reducible rfl
 (try simp only [Act.put, List.setIfInBounds_toArray])
 refine WA.take (i := 31) 40 (v := ?_) rfl (by kernel_rfl) (by kernel_rfl) (by kernel_rfl) (by kernel_rfl) (by kernel_rfl) (fun _ _ _ h => h) (Or.inl ⟨by kernel_rfl, ?_⟩) (by assumption) ?_
 rotate_left
 ·intro w hSw
  (try dsimp only at hSw)
  go_simp
  try with_reducible rfl
 (try simp only [Act.put])
 refine WA.one (i := 32) (by kernel_rfl) rfl (fun K hK => ?_)
 rw [if_pos (by kernel_rfl)]
 go_simp
 refine (row_add (i := 1) (j := 0) HM0.out (Nat.le_trans HV.out.1 HE0.out.size) HO0.out HOK.out.a0 (.inr ⟨rfl, rfl⟩)).mono ?_
 rintro _ U1 ⟨rfl, hw0, hb0⟩
 have HWU1 := Lib.hid hw0
 have HVU1 := Lib.hid (show b ≤ U1.heap.size ∧ Below b w U1 from ⟨Nat.le_trans (Nat.le_trans HV.out.1 HE0.out.size) hb0.size, (HV.out.2.trans (HE0.out.mono HV.out.1)).trans hb0⟩)
 clear hw0 hb0
 go_wp2_with fail
 refine hK.out _ _ (fun h => Bool.noConfusion ((show _ = true by kernel_rfl).symm.trans (h 32 (List.mem_singleton.2 rfl)))) ?_
 clear hK K
 (try simp only [Act.put, List.setIfInBounds_toArray, List.set_cons_zero, List.set_cons_succ])
 refine WA.done (by kernel_rfl) ?_ _
 clear hHeld
 obtain ⟨t1, hx1, hg1, gr1, cr1, ga1, ca1, gc1, cc1, ⟨xa1, xn1, xc1⟩, ⟨ya1, yn1, yc1⟩, ⟨za1, zn1, zc1⟩, ⟨ua1, un1, uc1⟩, hT1⟩ := HWU1.out
 have HT1 := Lib.hid hT1
 have HX1 := Lib.hid hx1
 have HG1 := Lib.hid hg1
 have k0 := hx1.cell (i := 0) rfl
 have k1 := hT1.hd.cell (i := 0) rfl
 have k2 := hT1.hd.cell (i := 1) rfl
 have k3 := hT1.rw.cell (i := 0) rfl
 have k4 := hT1.rw.cell (i := 1) rfl
 have k5 : U1.cell? ⟨ga1, 0, none⟩ = some (.slice xa1 xn1 xc1) := hT1.r0.cell rfl
 have k6 : U1.cell? ⟨ga1, 1, none⟩ = some (.slice ya1 yn1 yc1) := hT1.r0.cell rfl
 have k7 : U1.cell? ⟨gc1, 0, none⟩ = some (.slice za1 zn1 zc1) := hT1.r1.cell rfl
 have k8 : U1.cell? ⟨gc1, 1, none⟩ = some (.slice ua1 un1 uc1) := hT1.r1.cell rfl
 clear hx1 hT1 hg1
 have HZ := Lib.hid (show zn1 = 0 ↔ (M.cl1 X).c = [] from by
  have e : (M.cl1 X).c.length = zn1 := HT1.out.ec.len
  rw [← e]
  exact List.length_eq_zero_iff)
 go_wp2_with fail
 rw [rounds_succ]
 go_wp2_with fail
 refine wp_loop_rounds 2 ?_
 rw [rounds_succ]
 go_upto_region 10 with fail
 have HS1 := Lib.hid (show ∀ W, Below U1.heap.size U1 W → W.cell? ⟨gw, 0, none⟩ = some (.pointer (some ⟨t1, 0, none⟩)) ∧ W.cell? ⟨t1, 0, none⟩ = some (.slice (some ⟨gr1, 0, none⟩) 2 cr1) ∧ W.cell? ⟨gr1, 0, none⟩ = some (.slice (some ⟨ga1, 0, none⟩) 2 ca1) ∧ W.cell? ⟨ga1, 0, none⟩ = some (.slice xa1 xn1 xc1) ∧ W.cell? ⟨ga1, 1, none⟩ = some (.slice ya1 yn1 yc1) from fun W hb => ⟨(HX1.out.next hb).cell rfl, (HT1.out.next hb).hd.cell rfl, (HT1.out.next hb).rw.cell rfl, (HT1.out.next hb).r0.cell rfl, (HT1.out.next hb).r0.cell rfl⟩)
 have HM := Lib.hid (show Wk U1 b gw (M.cl1 X) from ⟨_, HX1.out, HG1.out, _, _, _, _, _, _, _, _, _, _, HT1.out⟩)
 have HCD := Lib.hid (Below.refl U1.heap.size U1).drew
 clear k0 k1 k2 k3 k4 k5 k6 k7 k8
 refine WA.begin [32] (S := fun W => W.cell? ⟨gw, 0, none⟩ = some (.pointer (some ⟨t1, 0, none⟩)) ∧ W.cell? ⟨t1, 0, none⟩ = some (.slice (some ⟨gr1, 0, none⟩) 2 cr1) ∧ W.cell? ⟨gr1, 0, none⟩ = some (.slice (some ⟨ga1, 0, none⟩) 2 ca1) ∧ W.cell? ⟨ga1, 0, none⟩ = some (.slice xa1 xn1 xc1) ∧ W.cell? ⟨ga1, 1, none⟩ = some (.slice ya1 yn1 yc1)) (by kernel_rfl) (HS1.out _ HCD.out) (fun hHeld => ?_)
 refine WA.take (i := 0) 40 (v := ?_) rfl (by kernel_rfl) (by kernel_rfl) (by kernel_rfl) (by kernel_rfl) (by kernel_rfl) (fun _ _ _ h => h) (Or.inl ⟨by kernel_rfl, ?_⟩) (by assumption) ?_
 rotate_left
 ·intro w hSw
  (try dsimp only at hSw)
  go_simp
  try with_reducible rfl
 (try simp only [Act.put, List.setIfInBounds_toArray])
 refine WA.take (i := 1) 40 (v := ?_) rfl (by kernel_rfl) (by kernel_rfl) (by kernel_rfl) (by kernel_rfl) (by kernel_rfl) (fun _ _ _ h => h) (Or.inl ⟨by kernel_rfl, ?_⟩) (by assumption) ?_
 rotate_left
 ·intro w hSw
  (try dsimp only at hSw)
  go_simp
  try with_reducible rfl
 (try simp only [Act.put])
 refine WA.take (i := 2) 40 (v := ?_) rfl (by kernel_rfl) (by kernel_rfl) (by kernel_rfl) (by kernel_rfl) (by kernel_rfl) (fun _ _ _ h => h) (Or.inl ⟨by kernel_rfl, ?_⟩) (by assumption) ?_
 rotate_left
 ·intro w hSw
  (try dsimp only at hSw)
  go_simp
  try with_reducible rfl
 (try simp only [Act.put])
 refine WA.take (i := 3) 40 (v := ?_) rfl (by kernel_rfl) (by kernel_rfl) (by kernel_rfl) (by kernel_rfl) (by kernel_rfl) (fun _ _ _ h => h) (Or.inl ⟨by kernel_rfl, ?_⟩) (by assumption) ?_
 rotate_left
 ·intro w hSw
  (try dsimp only at hSw)
  go_simp
  try with_reducible rfl
 (try simp only [Act.put])
 refine WA.take (i := 4) 40 (v := ?_) rfl (by kernel_rfl) (by kernel_rfl) (by kernel_rfl) (by kernel_rfl) (by kernel_rfl) (fun _ _ _ h => h) (Or.inl ⟨by kernel_rfl, ?_⟩) (by assumption) ?_
 rotate_left
 ·intro w hSw
  (try dsimp only at hSw)
  go_simp
  try with_reducible rfl
 (try simp only [Act.put])
 refine WA.take (i := 5) 40 (v := ?_) rfl (by kernel_rfl) (by kernel_rfl) (by kernel_rfl) (by kernel_rfl) (by kernel_rfl) (fun _ _ _ h => h) (Or.inl ⟨by kernel_rfl, ?_⟩) (by assumption) ?_
 rotate_left
 ·intro w hSw
  (try dsimp only at hSw)
  go_simp
  try with_reducible rfl
 (try simp only [Act.put])
 refine WA.take (i := 6) 40 (v := ?_) rfl (by kernel_rfl) (by kernel_rfl) (by kernel_rfl) (by kernel_rfl) (by kernel_rfl) (fun _ _ _ h => h) (Or.inl ⟨by kernel_rfl, ?_⟩) (by assumption) ?_
 rotate_left
 ·intro w hSw
  (try dsimp only at hSw)
  go_simp
  try with_reducible rfl
 (try simp only [Act.put])
 refine WA.take (i := 7) 40 (v := ?_) rfl (by kernel_rfl) (by kernel_rfl) (by kernel_rfl) (by kernel_rfl) (by kernel_rfl) (fun _ _ _ h => h) (Or.inl ⟨by kernel_rfl, ?_⟩) (by assumption) ?_
 rotate_left
 ·intro w hSw
  (try dsimp only at hSw)
  go_simp
  try with_reducible rfl
 (try simp only [Act.put])
 refine WA.take (i := 8) 40 (v := ?_) rfl (by kernel_rfl) (by kernel_rfl) (by kernel_rfl) (by kernel_rfl) (by kernel_rfl) (fun _ _ _ h => h) (Or.inl ⟨by kernel_rfl, ?_⟩) (by assumption) ?_
 rotate_left
 ·intro w hSw
  (try dsimp only at hSw)
  go_simp
  try with_reducible rfl
 (try simp only [Act.put])
 refine WA.take (i := 9) 40 (v := ?_) rfl (by kernel_rfl) (by kernel_rfl) (by kernel_rfl) (by kernel_rfl) (by kernel_rfl) (fun _ _ _ h => h) (Or.inl ⟨by kernel_rfl, ?_⟩) (by assumption) ?_
 rotate_left
 ·intro w hSw
  (try dsimp only at hSw)
  go_simp
  try with_reducible rfl
 (try simp only [Act.put])
 refine WA.take (i := 10) 40 (v := ?_) rfl (by kernel_rfl) (by kernel_rfl) (by kernel_rfl) (by kernel_rfl) (by kernel_rfl) (fun _ _ _ h => h) (Or.inl ⟨by kernel_rfl, ?_⟩) (by assumption) ?_
 rotate_left
 ·intro w hSw
  (try dsimp only at hSw)
  go_simp
  try with_reducible rfl
 (try simp only [Act.put])
 refine WA.take (i := 11) 40 (v := ?_) rfl (by kernel_rfl) (by kernel_rfl) (by kernel_rfl) (by kernel_rfl) (by kernel_rfl) (fun _ _ _ h => h) (Or.inl ⟨by kernel_rfl, ?_⟩) (by assumption) ?_
 rotate_left
 ·intro w hSw
  (try dsimp only at hSw)
  go_simp
  try with_reducible rfl
 (try simp only [Act.put])
 refine WA.take (i := 12) 40 (v := ?_) rfl (by kernel_rfl) (by kernel_rfl) (by kernel_rfl) (by kernel_rfl) (by kernel_rfl) (fun _ _ _ h => h) (Or.inl ⟨by kernel_rfl, ?_⟩) (by assumption) ?_
 rotate_left
 ·intro w hSw
  (try dsimp only at hSw)
  go_simp
  try with_reducible rfl
 (try simp only [Act.put])
 refine WA.take (i := 13) 40 (v := ?_) rfl (by kernel_rfl) (by kernel_rfl) (by kernel_rfl) (by kernel_rfl) (by kernel_rfl) (fun _ _ _ h => h) (Or.inl ⟨by kernel_rfl, ?_⟩) (by assumption) ?_
 rotate_left
 ·intro w hSw
  (try dsimp only at hSw)
  go_simp
  try with_reducible rfl
 (try simp only [Act.put])
 refine WA.take (i := 14) 40 (v := ?_) rfl (by kernel_rfl) (by kernel_rfl) (by kernel_rfl) (by kernel_rfl) (by kernel_rfl) (fun _ _ _ h => h) (Or.inl ⟨by kernel_rfl, ?_⟩) (by assumption) ?_
 rotate_left
 ·intro w hSw
  (try dsimp only at hSw)
  go_simp
  try with_reducible rfl
 (try simp only [Act.put])
 refine WA.take (i := 15) 40 (v := ?_) rfl (by kernel_rfl) (by kernel_rfl) (by kernel_rfl) (by kernel_rfl) (by kernel_rfl) (fun _ _ _ h => h) (Or.inl ⟨by kernel_rfl, ?_⟩) (by assumption) ?_
 rotate_left
 ·intro w hSw
  (try dsimp only at hSw)
  go_simp
  try with_reducible rfl
 (try simp only [Act.put])
 refine WA.take (i := 16) 40 (v := ?_) rfl (by kernel_rfl) (by kernel_rfl) (by kernel_rfl) (by kernel_rfl) (by kernel_rfl) (fun _ _ _ h => h) (Or.inl ⟨by kernel_rfl, ?_⟩) (by assumption) ?_
 rotate_left
 ·intro w hSw
  (try dsimp only at hSw)
  go_simp
  try with_reducible rfl
 (try simp only [Act.put])
 refine WA.take (i := 17) 40 (v := ?_) rfl (by kernel_rfl) (by kernel_rfl) (by kernel_rfl) (by kernel_rfl) (by kernel_rfl) (fun _ _ _ h => h) (Or.inl ⟨by kernel_rfl, ?_⟩) (by assumption) ?_
 rotate_left
 ·intro w hSw
  (try dsimp only at hSw)
  go_simp
  try with_reducible rfl
 (try simp only [Act.put])
 refine WA.take (i := 18) 40 (v := ?_) rfl (by kernel_rfl) (by kernel_rfl) (by kernel_rfl) (by kernel_rfl) (by kernel_rfl) (fun _ _ _ h => h) (Or.inl ⟨by kernel_rfl, ?_⟩) (by assumption) ?_
 rotate_left
 ·intro w hSw
  (try dsimp only at hSw)
  go_simp
  try with_reducible rfl
 (try simp only [Act.put])
 refine WA.take (i := 19) 40 (v := ?_) rfl (by kernel_rfl) (by kernel_rfl) (by kernel_rfl) (by kernel_rfl) (by kernel_rfl) (fun _ _ _ h => h) (Or.inl ⟨by kernel_rfl, ?_⟩) (by assumption) ?_
 rotate_left
 ·intro w hSw
  (try dsimp only at hSw)
  go_simp
  try with_reducible rfl
 (try simp only [Act.put])
 refine WA.take (i := 20) 40 (v := ?_) rfl (by kernel_rfl) (by kernel_rfl) (by kernel_rfl) (by kernel_rfl) (by kernel_rfl) (fun _ _ _ h => h) (Or.inl ⟨by kernel_rfl, ?_⟩) (by assumption) ?_
 rotate_left
 ·intro w hSw
  (try dsimp only at hSw)
  go_simp
  try with_reducible rfl
 (try simp only [Act.put])
 refine WA.take (i := 21) 40 (v := ?_) rfl (by kernel_rfl) (by kernel_rfl) (by kernel_rfl) (by kernel_rfl) (by kernel_rfl) (fun _ _ _ h => h) (Or.inl ⟨by kernel_rfl, ?_⟩) (by assumption) ?_
 rotate_left
 ·intro w hSw
  (try dsimp only at hSw)
  go_simp
  try with_reducible rfl
 (try simp only [Act.put])
 refine WA.take (i := 22) 40 (v := ?_) rfl (by kernel_rfl) (by kernel_rfl) (by kernel_rfl) (by kernel_rfl) (by kernel_rfl) (fun _ _ _ h => h) (Or.inl ⟨by kernel_rfl, ?_⟩) (by assumption) ?_
 rotate_left
 ·intro w hSw
  (try dsimp only at hSw)
  go_simp
  try with_reducible rfl
 (try simp only [Act.put])
 refine WA.take (i := 23) 40 (v := ?_) rfl (by kernel_rfl) (by kernel_rfl) (by kernel_rfl) (by kernel_rfl) (by kernel_rfl) (fun _ _ _ h => h) (Or.inl ⟨by kernel_rfl, ?_⟩) (by assumption) ?_
 rotate_left
 ·intro w hSw
  (try dsimp only at hSw)
  go_simp
  try with_reducible rfl
 (try simp only [Act.put])
 refine WA.take (i := 24) 40 (v := ?_) rfl (by kernel_rfl) (by kernel_rfl) (by kernel_rfl) (by kernel_rfl) (by kernel_rfl) (fun _ _ _ h => h) (Or.inl ⟨by kernel_rfl, ?_⟩) (by assumption) ?_
 rotate_left
 ·intro w hSw
  (try dsimp only at hSw)
  go_simp
  try with_reducible rfl
 (try simp only [Act.put])
 refine WA.take (i := 25) 40 (v := ?_) rfl (by kernel_rfl) (by kernel_rfl) (by kernel_rfl) (by kernel_rfl) (by kernel_rfl) (fun _ _ _ h => h) (Or.inl ⟨by kernel_rfl, ?_⟩) (by assumption) ?_
 rotate_left
 ·intro w hSw
  (try dsimp only at hSw)
  go_simp
  try with_reducible rfl
 (try simp only [Act.put])
 refine WA.take (i := 26) 40 (v := ?_) rfl (by kernel_rfl) (by kernel_rfl) (by kernel_rfl) (by kernel_rfl) (by kernel_rfl) (fun _ _ _ h => h) (Or.inl ⟨by kernel_rfl, ?_⟩) (by assumption) ?_
 rotate_left
 ·intro w hSw
  (try dsimp only at hSw)
  go_simp
  try with_reducible rfl
 (try simp only [Act.put])
 refine WA.take (i := 27) 40 (v := ?_) rfl (by kernel_rfl) (by kernel_rfl) (by kernel_rfl) (by kernel_rfl) (by kernel_rfl) (fun _ _ _ h => h) (Or.inl ⟨by kernel_rfl, ?_⟩) (by assumption) ?_
 rotate_left
 ·intro w hSw
  (try dsimp only at hSw)
  go_simp
  try with_reducible rfl
 (try simp only [Act.put])
 refine WA.take (i := 28) 40 (v := ?_) rfl (by kernel_rfl) (by kernel_rfl) (by kernel_rfl) (by kernel_rfl) (by kernel_rfl) (fun _ _ _ h => h) (Or.inl ⟨by kernel_rfl, ?_⟩) (by assumption) ?_
 rotate_left
 ·intro w hSw
  (try dsimp only at hSw)
  go_simp
  try with_reducible rfl
 (try simp only [Act.put])
 refine WA.one (i := 29) (by kernel_rfl) rfl (fun K hK => ?_)
 rw [if_pos (by kernel_rfl)]
 go_simp
 refine (minus_any ((HT1.out.next HCD.out).eb) ((HT1.out.next HCD.out).ea) HOK.out.t1.2.1 HOK.out.t1.1 HOK.out.n1 HOK.out.d1 HOK.out.y1).mono ?_
 rintro _ P1 ⟨A1, n1, l1, rfl, ho1, hb1⟩
 have HE1 : Hid (Below U1.heap.size U1 P1) := Lib.hid (HCD.out.trans (hb1.mono HCD.out.size))
 have HO1 := Lib.hid ho1
 have HM1 := Lib.hid (HM.out.next HE1.out)
 clear ho1 hb1
 go_wp2_with fail
 refine hK.out _ _ (fun _ => (HS1.out _ HE1.out)) ?_
 have hHeld := (HS1.out _ HE1.out)
 clear hK K
 (try simp only [Act.put, List.setIfInBounds_toArray, List.set_cons_zero, List.set_cons_succ])
 refine WA.take (i := 30) 40 (v := ?_) rfl (by kernel_rfl) (by kernel_rfl) (by kernel_rfl) (by kernel_rfl) (by kernel_rfl) (fun _ _ _ h => h) (Or.inl ⟨by kernel_rfl, ?_⟩) (by assumption) ?_
 rotate_left
 ·intro w hSw
  (try dsimp only at hSw)
  go_simp
  try with_reducible rfl
 (try simp only [Act.put, List.setIfInBounds_toArray])
 refine WA.take (i := 31) 40 (v := ?_) rfl (by kernel_rfl) (by kernel_rfl) (by kernel_rfl) (by kernel_rfl) (by kernel_rfl) (fun _ _ _ h => h) (Or.inl ⟨by kernel_rfl, ?_⟩) (by assumption) ?_
 rotate_left
 ·intro w hSw
  (try dsimp only at hSw)
  go_simp
  try with_reducible rfl
 (try simp only [Act.put])
 refine WA.one (i := 32) (by kernel_rfl) rfl (fun K hK => ?_)
 rw [if_pos (by kernel_rfl)]
 go_simp
 refine (column_add (i := 1) (j := 0) HM1.out (Nat.le_trans HVU1.out.1 HE1.out.size) HO1.out HOK.out.a1 (.inr ⟨rfl, rfl⟩)).mono ?_
 rintro _ U2 ⟨rfl, hw1, hb1⟩
 have HWU2 := Lib.hid hw1
 have HVU2 := Lib.hid (show b ≤ U2.heap.size ∧ Below b w U2 from ⟨Nat.le_trans (Nat.le_trans HVU1.out.1 HE1.out.size) hb1.size, (HVU1.out.2.trans (HE1.out.mono HVU1.out.1)).trans hb1⟩)
 clear hw1 hb1
 go_wp2_with fail
 refine hK.out _ _ (fun h => Bool.noConfusion ((show _ = true by kernel_rfl).symm.trans (h 32 (List.mem_singleton.2 rfl)))) ?_
 clear hK K
 (try simp only [Act.put, List.setIfInBounds_toArray, List.set_cons_zero, List.set_cons_succ])
 refine WA.done (by kernel_rfl) ?_ _
 clear hHeld
 obtain ⟨t2, hx2, hg2, gr2, cr2, ga2, ca2, gc2, cc2, ⟨xa2, xn2, xc2⟩, ⟨ya2, yn2, yc2⟩, ⟨za2, zn2, zc2⟩, ⟨ua2, un2, uc2⟩, hT2⟩ := HWU2.out
 have HT2 := Lib.hid hT2
 have HX2 := Lib.hid hx2
 have HG2 := Lib.hid hg2
 have k0 := hx2.cell (i := 0) rfl
 have k1 := hT2.hd.cell (i := 0) rfl
 have k2 := hT2.hd.cell (i := 1) rfl
 have k3 := hT2.rw.cell (i := 0) rfl
 have k4 := hT2.rw.cell (i := 1) rfl
 have k5 : U2.cell? ⟨ga2, 0, none⟩ = some (.slice xa2 xn2 xc2) := hT2.r0.cell rfl
 have k6 : U2.cell? ⟨ga2, 1, none⟩ = some (.slice ya2 yn2 yc2) := hT2.r0.cell rfl
 have k7 : U2.cell? ⟨gc2, 0, none⟩ = some (.slice za2 zn2 zc2) := hT2.r1.cell rfl
 have k8 : U2.cell? ⟨gc2, 1, none⟩ = some (.slice ua2 un2 uc2) := hT2.r1.cell rfl
 clear hx2 hT2 hg2
 have HY := Lib.hid (show yn2 = 0 ↔ ((M.cl1 X).cl2 Y).b = [] from by
  have e : ((M.cl1 X).cl2 Y).b.length = yn2 := HT2.out.eb.len
  rw [← e]
  exact List.length_eq_zero_iff)
 by_cases hz : zn1 = 0
 ·have hzi : (zn1 : Int) = 0 := by omega
  have HZ1 := Lib.hid (HZ.out.1 hz)
  clear hz
  by_cases hy : yn2 = 0
  ·have hyi : (yn2 : Int) = 0 := by omega
   have HY1 := Lib.hid (HY.out.1 hy)
   clear hy
   go_wp2_with fail
   rw [rounds_succ]
   go_wp2
   go_ret
   exact ⟨by rw [decide_eq_true ⟨HZ1.out, HY1.out⟩]; rfl, HWU2.out, HVU2.out.2⟩
  ·have hyi : ¬(yn2 : Int) = 0 := by omega
   have HY1 := Lib.hid (fun e => hy (HY.out.2 e))
   clear hy
   go_wp2_with fail
   rw [rounds_succ]
   go_wp2
   go_ret
   exact ⟨by rw [decide_eq_false fun e => HY1.out e.2]; show Ending.returned (.bool ((yn2 : Int) == 0)) = _; rw [beq_eq_false_iff_ne.2 hyi], HWU2.out, HVU2.out.2⟩
 ·have hzi : ¬(zn1 : Int) = 0 := by omega
  have HZ1 := Lib.hid (fun e => hz (HZ.out.2 e))
  clear hz
  go_wp2_with fail
  rw [rounds_succ]
  go_wp2
  go_ret
  exact ⟨by rw [decide_eq_false fun e => HZ1.out e.1]; rfl, HWU2.out, HVU2.out.2⟩
end Go.Proofs.YtjnklbfhelbjgaaGreat
