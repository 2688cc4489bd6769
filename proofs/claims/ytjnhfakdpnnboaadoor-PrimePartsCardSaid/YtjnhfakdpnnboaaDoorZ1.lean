/- Sorting words: the row in memory; less; swaps. -/
import Derived.Test.YtjnhfakdpnnboaaDoorU1
import Derived.Sort.AssemblyPlain
import Derived.Sort.LotD2
import Derived.BigQuiet
import Derived.Deep.QuietTactic
import Derived.Deep.LoopGhost
import Derived.LoopTactic
import Derived.OwnWalk
namespace Go.Proofs.YtjnhfakdpnnboaaDoor
open Go.RowKit Go.IntWalk

/-- Less, on words. -/
def ltN (x y : Nat) : Bool := decide (x < y)
theorem swoN : Sort.SWO ltN where
  irrefl := fun x => by simp [ltN]
  trans := fun x y z h1 h2 => by simp [ltN] at *; omega
  ntrans := fun x y z h1 h2 => by simp [ltN] at *; omega
/-- Block g begins with the words d; behind them lies what lies there. -/
def SB (w : World) (g : Nat) (d : Array Nat) (rest : List Value) : Prop := w.heap[g]? = some (.cells (uc d.toList ++ rest).toArray 25 (0, 0))
/-- All but block g is as it was. -/
structure Om (g : Nat) (w w' : World) : Prop where
  os : w'.os = w.os
  tape : w'.tape = w.tape
  output : w'.output = w.output
  size : w'.heap.size = w.heap.size
  far : ∀ b, b ≠ g → w'.heap[b]? = w.heap[b]?
theorem Om.refl (g : Nat) (w : World) : Om g w w := ⟨rfl, rfl, rfl, rfl, fun _ _ => rfl⟩
theorem Om.trans {g : Nat} {w w' w'' : World} (h : Om g w w') (k : Om g w' w'') : Om g w w'' :=
  ⟨k.os.trans h.os, k.tape.trans h.tape, k.output.trans h.output, k.size.trans h.size, fun b hb => (k.far b hb).trans (h.far b hb)⟩
theorem Om.drew {g : Nat} {w w' : World} (h : Om g w w') : Om g w w'.drew := ⟨h.os, h.tape, h.output, h.size, h.far⟩
theorem Om.drewN {g : Nat} {w w' : World} (h : Om g w w') (n : Nat) : Om g w (w'.drewN n) := ⟨h.os, h.tape, h.output, h.size, h.far⟩
theorem Om.set {g i : Nat} {w w' : World} (h : Om g w w') (u : Value) : Om g w (w'.setCell ⟨g, i, none⟩ u) :=
  ⟨h.os, h.tape, h.output, by simp [World.setCell]; exact h.size, fun b hb => (Below.heap_setCell w' ⟨g, i, none⟩ u b (by simpa using hb)).trans (h.far b hb)⟩
theorem Om.below {g : Nat} {w w' : World} (h : Om g w w') {B : Nat} (hB : B ≤ g) : Below B w w' := ⟨h.os, h.tape, h.output, by rw [h.size]; exact Nat.le_refl _, fun b hb => h.far b (by omega)⟩
theorem SB.lt {w : World} {g : Nat} {d : Array Nat} {rest : List Value} (h : SB w g d rest) : g < w.heap.size := (Array.getElem?_eq_some_iff.1 h).1
theorem SB.drew {w : World} {g : Nat} {d : Array Nat} {rest : List Value} (h : SB w g d rest) : SB w.drew g d rest := h
theorem SB.drewN {w : World} {g : Nat} {d : Array Nat} {rest : List Value} (h : SB w g d rest) (n : Nat) : SB (w.drewN n) g d rest := h
theorem SB.cell {w : World} {g : Nat} {d : Array Nat} {rest : List Value} (h : SB w g d rest) {i : Nat} (hi : i < d.size) : w.cell? ⟨g, i, none⟩ = some (.int .u32 (d[i]! : Nat)) := by
  rw [cell_of_row w g i _ _ _ h]
  simp only [List.getElem?_toArray]
  rw [List.getElem?_append_left (by rw [uc_len]; simpa using hi)]
  simp [uc, hi]
theorem SB.frozen {w : World} {g : Nat} {d : Array Nat} {rest : List Value} (h : SB w g d rest) (i : Nat) : w.frozen? ⟨g, i, none⟩ = false := frozen_of_row w g i _ _ h
theorem SB.set {w : World} {g : Nat} {d : Array Nat} {rest : List Value} (h : SB w g d rest) {i : Nat} (hi : i < d.size) (v : Nat) : SB (w.setCell ⟨g, i, none⟩ (.int .u32 (v : Nat))) g (d.setIfInBounds i v) rest := by
  unfold SB at h ⊢
  simp only [World.setCell, Array.getElem?_modify, h]
  simp
  rw [uc_set, List.set_append_left _ _ (by rw [uc_len]; simpa using hi)]
/-- The two stores of a swap. -/
theorem SB.swap {w : World} {g : Nat} {d : Array Nat} {rest : List Value} (h : SB w g d rest) {i j : Nat} (hi : i < d.size) (hj : j < d.size) {x y : Nat} (hx : x = d[j]!) (hy : y = d[i]!) :
    SB ((w.setCell ⟨g, i, none⟩ (.int .u32 (x : Nat))).setCell ⟨g, j, none⟩ (.int .u32 (y : Nat))) g (Sort.swp d i j) rest := by
  subst hx hy
  exact (h.set hi _).set (by simpa using hj) _
theorem size_swp (d : Array Nat) (i j : Nat) : (Sort.swp d i j).size = d.size := Sort.size_swp d i j

theorem nan_any (x : Int) (w : World) : Calls Tryd.prog 86 #[.int .u32 x] w fun e w' => e = .returned (.bool false) ∧ w = w' := by
  go_enter Tryd.func86, Tryd.ntmps86
  go_wp2
  go_ret
  exact ⟨by simp, rfl⟩
theorem less_any (x y : Nat) (w : World) : Calls Tryd.prog 76 #[.int .u32 x, .int .u32 y] w fun e w' => e = .returned (.bool (ltN x y)) ∧ w = w' := by
  go_enter Tryd.func76, Tryd.ntmps76
  go_wp2_with (go_at_call 86; refine (nan_any _ _).mono ?_; rintro e w' ⟨rfl, rfl⟩)
  go_ret
  exact ⟨rfl, rfl⟩
theorem less_q (x y : Nat) {b : Bool} (hb : b = ltN x y) (w0 : World) (n : Nat) : Calls Tryd.prog 76 #[.int .u32 x, .int .u32 y] (w0.drewN n) fun e w' => e = .returned (.bool b) ∧ ∃ m, w' = w0.drewN m :=
  (less_any x y _).mono fun _ _ ⟨h1, h2⟩ => ⟨by rw [hb]; exact h1, n, h2.symm⟩
end Go.Proofs.YtjnhfakdpnnboaaDoor
