/- modpoly, the document's example: the candidate, the splitter. -/
import Derived.Test.YtmgacikdgbedfaaGreatDoorM9
import Derived.Test.YtmgacikdgbedfaaGreatDoorM4
import Derived.Shelf.Abstract
import Derived.RegionTactic
namespace Go.Proofs.YtmgacikdgbedfaaGreatDoor
open Go.RowKit Go.IntWalk
attribute [local go_sem ↓] Go.wp_at_zero Go.wp_at_succ

set_option maxRecDepth 100000 in
set_option maxHeartbeats 2000000 in
theorem cand_ex (w : World) :
    Calls Tryz.prog 108 #[.agg #[.int .u64 7], .int .u32 1, .int .i64 2] w (RetQ (· = [0, 1]) w) := by
  have hmk : ∀ W : World, (Instr.makeSlice 22 (.int .i64 2) (.int .i64 2)).run Tryz.prog W = .ok (.slice (some ⟨W.heap.size, 0, none⟩) 2 2) (W.alloc (.cells (madeCells #[.int .u32 0] 2) 24)) := fun W => make_words 2 (by decide) W
  go_enter Tryz.func108, Tryz.ntmps108
  go_wp2_with fail
  have HU0 := Lib.hid (UB.made (w.alloc (.cells #[.int .u64 7] 51)) 2)
  have HCB := Lib.hid (show ((w.alloc (.cells #[.int .u64 7] 51)).alloc (.cells (madeCells #[.int .u32 0] 2) 24)).cell? ⟨w.heap.size, 0, none⟩ = some (.int .u64 7) by go_simp)
  have hB0 : Below w.heap.size w ((w.alloc (.cells #[.int .u64 7] 51)).alloc (.cells (madeCells #[.int .u32 0] 2) 24)) := (below1 w _).alloc (by simp) _
  have HU1 := Lib.hid (show UB ((w.alloc (.cells #[.int .u64 7] 51)).alloc (.cells (madeCells #[.int .u32 0] 2) 24)) (w.heap.size + 1) [0, 0] by
    have := HU0.out
    rwa [World.size_alloc] at this)
  clear HU0 hmk
  generalize (w.alloc (.cells #[.int .u64 7] 51)).alloc (.cells (madeCells #[.int .u32 0] 2) 24) = W1 at HU1 HCB hB0 ⊢
  obtain ⟨gb, hgb⟩ : ∃ gb, gb = w.heap.size := ⟨_, rfl⟩
  rw [← hgb] at HCB HU1 ⊢
  have hbb : w.heap.size ≤ gb := by omega
  clear hgb
  have hcb := HCB.out
  go_wp2_with fail
  go_loopw [8, 20] (fun xv iv wr => ∃ (i x : Nat) (O : List Nat), iv = .int .i64 i ∧ xv = .int .u64 x ∧ i ≤ 2 ∧ UB wr (gb + 1) O ∧ Hid ((i = 0 ∧ x = 1 ∧ O = [0, 0]) ∨ (i = 1 ∧ x = 0 ∧ O = [0, 1]) ∨ (i = 2 ∧ x = 0 ∧ O = [0, 1])) ∧ wr.cell? ⟨gb, 0, none⟩ = some (.int .u64 7) ∧ Below w.heap.size w wr) (fun _ iv _ => 2 - (intOf iv).toNat)
  case atStart => exact ⟨0, 1, [0, 0], rfl, rfl, by omega, HU1.out, Lib.hid (.inl ⟨rfl, rfl, rfl⟩), HCB.out, hB0⟩
  case round =>
    clear HU1 HCB hB0 hcb
    obtain ⟨i, x, O, rfl, rfl, hi, hU, hI, hc, hB⟩ := hrel
    rcases hI.out with ⟨rfl, rfl, rfl⟩ | ⟨rfl, rfl, rfl⟩ | ⟨rfl, rfl, rfl⟩
    · have hcell := hU.cell (j := 1) (u := 0) rfl
      have hfz := hU.frozen 1
      have hgl := hU.lt
      clear hI
      go_wp2_with fail
      go_region
      all_goals
        go_wp2
      have hU1 : UB (wr.setCell ⟨gb + 1, 1, none⟩ (.int .u32 1)).drew (gb + 1) [0, 1] := (hU.set 1 1).drewN 1
      have hc1 : (wr.setCell ⟨gb + 1, 1, none⟩ (.int .u32 1)).drew.cell? ⟨gb, 0, none⟩ = some (.int .u64 7) := by go_simp
      exact ⟨⟨1, 0, [0, 1], rfl, rfl, by omega, hU1, Lib.hid (.inr (.inl ⟨rfl, rfl, rfl⟩)), hc1, (hB.setCell (p := ⟨gb + 1, 1, none⟩) (by simp; omega) _).drew⟩, by simp [intOf]⟩
    · have hcell := hU.cell (j := 0) (u := 0) rfl
      have hfz := hU.frozen 0
      have hgl := hU.lt
      clear hI
      go_wp2_with fail
      go_region
      all_goals
        go_wp2
      have hU1 : UB (wr.setCell ⟨gb + 1, 0, none⟩ (.int .u32 0)).drew (gb + 1) [0, 1] := (hU.set 0 0).drewN 1
      have hc1 : (wr.setCell ⟨gb + 1, 0, none⟩ (.int .u32 0)).drew.cell? ⟨gb, 0, none⟩ = some (.int .u64 7) := by go_simp
      exact ⟨⟨2, 0, [0, 1], rfl, rfl, by omega, hU1, Lib.hid (.inr (.inr ⟨rfl, rfl, rfl⟩)), hc1, (hB.setCell (p := ⟨gb + 1, 0, none⟩) (by simp; omega) _).drew⟩, by simp [intOf]⟩
    · have hw : Dg.Wd [0, 1] := fun x hx => by simp at hx; omega
      have hR := hU.rd hw (B := wr.heap.size) hU.lt (k := 2) (Nat.le_refl _) (by unfold maxLen; simp)
      have hpo := hU.po hw (b := w.heap.size) (by omega) (k := 2) (c := 2) (Nat.le_refl _) (Nat.le_refl _) (by unfold maxLen; simp)
      go_wp2_with fail
      refine (mtrim_any hR (by omega)).mono ?_
      rintro _ _ ⟨m, rfl, hm, rfl⟩
      have hm2 : m = 2 := by
        have h1 := hm.out.1
        have h2 := hm.out.2.2 1
        simp only [List.take_succ_cons, List.take_nil] at h2
        rcases Nat.lt_or_ge m 2 with h3 | h3
        · rw [Dg.ld_ge (by rw [List.length_take]; exact Nat.le_trans (Nat.min_le_left _ _) (by omega))] at h2
          exact absurd h2 (by decide)
        · have : [0, 1].length = 2 := rfl
          rw [List.length_take] at h1
          simp at h1
          omega
      subst hm2
      go_wp2
      go_ret
      exact ⟨_, 2, 2, [0, 1], rfl, hpo, Lib.hid rfl, hB⟩
end Go.Proofs.YtmgacikdgbedfaaGreatDoor
