/- qpoly.Squarefree at the example, from outside. -/
import Derived.Test.YtipbpdiahemmpaaGreatQ37
namespace Go.Proofs.YtipbpdiahemmpaaGreat
open Go.RowKit Go.IntWalk
attribute [local go_sem ↓] Go.wp_at_zero Go.wp_at_succ

/-- What Squarefree hands out at the example. -/
def RetSq (w : World) (e : Ending) (w' : World) : Prop :=
  ∃ (s : Bool) (A : Option Addr) (n c : Nat) (s' : Bool) (A' : Option Addr) (n' c' g c2 : Nat), e = .returned (.tuple #[.agg #[.bool s, .slice A n c, .bool s', .slice A' n' c'], .slice (some ⟨g, 0, none⟩) 2 c2, .int .i64 0]) ∧ OwQ w' w.heap.size s A n c s' A' n' c' 2 ∧ Hid (g < w'.heap.size ∧ 2 ≤ c2 ∧ w'.cell? ⟨g, 3, none⟩ = some (.int .i64 2)) ∧ Below w.heap.size w w'
set_option maxRecDepth 100000 in
set_option maxHeartbeats 4000000 in
theorem sq_run {A : Option Addr} {n c : Nat} {w : World} (h : RdQs w w.heap.size 1 A n c ((qz [0, 0, -2, 2]).map pr)) :
    Calls Tryz.prog 110 #[.slice A n c] w (RetSq w) := by
  have heg := enters_of Tryz.func207 (by kernel_rfl) rfl
  have hb1 : Below w.heap.size w (w.alloc (.cells #[.bool false, .slice none 0 0, .bool false, .slice none 0 0] 56)) := (Below.refl _ _).alloc (Nat.le_refl _) _
  have hR := QC.new w false none 0 0 false none 0 0
  have HH := Lib.hid h
  have HEG := Lib.hid heg
  have HB1 := Lib.hid (And.intro hb1 hR)
  clear h heg hb1 hR
  go_enter Tryz.func110, Tryz.ntmps110
  go_wp2_with fail
  obtain ⟨W1, HW1⟩ : ∃ W, W = w.alloc (.cells #[.bool false, .slice none 0 0, .bool false, .slice none 0 0] 56) := ⟨_, rfl⟩
  have e1 : W1.heap.size = w.heap.size + 1 := by rw [HW1]; simp
  rw [← HW1] at HB1 ⊢
  rw [← e1]
  obtain ⟨W2, HW2⟩ : ∃ W, W = W1.alloc (.cells #[.slice A n c] 38) := ⟨_, rfl⟩
  rw [← HW2]
  have hps := ps_one (N := 1) (K := 4) (HH.out.next HB1.out.1) (by rw [← HH.out.lenp]; decide) HW2
  have HB2 := Lib.hid (show Below W1.heap.size W1 W2 by rw [HW2]; exact (Below.refl _ _).alloc (Nat.le_refl _) _)
  have HE1 := Lib.hid e1
  clear HW1 HW2 e1
  refine (norms_free (f := 207) hps (by decide) (by decide) (by decide) (Nat.le_refl _) HEG.out (fun L hL p hp => by
    obtain rfl := List.mem_singleton.1 hL
    obtain ⟨x, _, rfl⟩ := List.mem_map.1 hp
    exact pr_ne x) (fun _ W A' c' _ ho => sqIn_run (by
    have e := map_qval_ok (Zs := [[0, 0, -2, 2]]) (fun Z hZ => by obtain rfl := List.mem_singleton.1 hZ; exact nz_check (by decide))
    rw [show List.map nq [List.map pr (qz [0, 0, -2, 2])] = [qz [0, 0, -2, 2]] from e] at ho
    exact ho))).mono ?_
  rintro _ W3 ⟨s1, A3, n3, c3, s2, A4, n4, c4, g, c2, rfl, ho3, hg, hb3⟩
  have hb13 := HB2.out.trans (hb3.mono HB2.out.size)
  have hb03 := HB1.out.1.trans (hb13.mono HB1.out.1.size)
  obtain ⟨W4, HW4⟩ : ∃ W, W = W3.alloc (.cells #[.bool s1, .slice A3 n3 c3, .bool s2, .slice A4 n4 c4, .slice (some ⟨g, 0, none⟩) 2 c2] 175) := ⟨_, rfl⟩
  have hb4 : Below W3.heap.size W3 W4 := by rw [HW4]; exact (Below.refl _ _).alloc (Nat.le_refl _) _
  have hF : FC W4 W3.heap.size s1 A3 n3 c3 s2 A4 n4 c4 (some ⟨g, 0, none⟩) 2 c2 := by rw [HW4]; exact FC.new W3 s1 A3 n3 c3 s2 A4 n4 c4 (some ⟨g, 0, none⟩) 2 c2
  have hR4 := HB1.out.2.next (hb13.trans (hb4.mono hb13.size))
  have hb04 := hb03.trans (hb4.mono hb03.size)
  have ho4 := (ho3.next hb4).base (b' := w.heap.size) (by have := HB1.out.1.size; have := HB2.out.size; omega)
  have hg4 : g < W4.heap.size ∧ 2 ≤ c2 ∧ W4.cell? ⟨g, 3, none⟩ = some (.int .i64 2) := ⟨Nat.lt_of_lt_of_le hg.out.1 hb4.size, hg.out.2.1, (hb4.cell (p := ⟨g, 3, none⟩) hg.out.1).trans hg.out.2.2⟩
  have HS := Lib.hid (hR4.store s1 A3 n3 c3 s2 A4 n4 c4)
  have HK := Lib.hid (ho4.keep (keep_putQ hR4 s1 A3 n3 c3 s2 A4 n4 c4))
  have HBF := Lib.hid (below_putQ hb04 (Nat.le_refl _) s1 A3 n3 c3 s2 A4 n4 c4)
  have HCE := Lib.hid (show g < (putQ W4 w.heap.size s1 A3 n3 c3 s2 A4 n4 c4).heap.size ∧ 2 ≤ c2 ∧ (putQ W4 w.heap.size s1 A3 n3 c3 s2 A4 n4 c4).cell? ⟨g, 3, none⟩ = some (.int .i64 2) from by
    have hne : g ≠ w.heap.size := by
      rintro rfl
      have h1 := hg4.2.2
      rw [hR4.c3] at h1
      injection h1 with h1
      cases h1
    have h2 : (putQ W4 w.heap.size s1 A3 n3 c3 s2 A4 n4 c4).heap[g]? = W4.heap[g]? := by
      unfold putQ
      rw [Below.heap_setCell _ (⟨w.heap.size, 3, none⟩ : Addr) _ g hne, Below.heap_setCell _ (⟨w.heap.size, 2, none⟩ : Addr) _ g hne, Below.heap_setCell _ (⟨w.heap.size, 1, none⟩ : Addr) _ g hne, Below.heap_setCell _ (⟨w.heap.size, 0, none⟩ : Addr) _ g hne]
    exact ⟨(Array.getElem?_eq_some_iff.1 (h2.trans (Array.getElem?_eq_getElem hg4.1))).1, hg4.2.1, (cell_of_same h2 3).trans hg4.2.2⟩)
  have k0 := hF.c0
  have k1 := hF.c1
  have k2 := hF.c2
  have k3 := hF.c3
  have k4 := hF.c4
  have r0 := hR4.c0
  have r1 := hR4.c1
  have r2 := hR4.c2
  have r3 := hR4.c3
  have f0 := hR4.fz 0
  have f1 := hR4.fz 1
  have f2 := hR4.fz 2
  have f3 := hR4.fz 3
  have z0 := HS.out.c0
  have z1 := HS.out.c1
  have z2 := HS.out.c2
  have z3 := HS.out.c3
  unfold putQ at HS HK HBF HCE z0 z1 z2 z3
  have HW4 := Lib.hid HW4
  clear hb3 hb13 hb03 hb4 hF hR4 hb04 ho4 hg4 ho3 hps
  go_upto_region 2 with fail
  rw [← HW4.out]
  clear HW4
  clear HW4
  go_region_law (fail)
  all_goals
    go_wp2
    exact bodyPost_ret (by simp [results, Tryz.results110, go_sem, z0, z1, z2, z3]) rfl ⟨s1, A3, n3, c3, s2, A4, n4, c4, g, c2, rfl, HK.out.next (Below.refl _ _).drew, Lib.hid ⟨HCE.out.1, HCE.out.2.1, HCE.out.2.2⟩, HBF.out.drew⟩
end Go.Proofs.YtipbpdiahemmpaaGreat
