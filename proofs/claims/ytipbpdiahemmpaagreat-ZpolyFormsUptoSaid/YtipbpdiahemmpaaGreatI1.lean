/- Integers in memory: a sign and a row of words. -/
import Derived.Test.YtipbpdiahemmpaaGreatN22
import Derived.Test.YtipbpdiahemmpaaGreatI0
namespace Go.Proofs.YtipbpdiahemmpaaGreat
open Go.RowKit Go.IntWalk

/-- A sign and a slice that came in read as the integer z; the slice lies below block B. -/
def RdZ (w : World) (B : Nat) (s : Bool) (A : Option Addr) (n c : Nat) (z : Int) : Prop := ∃ M, RdU w B A n c M ∧ z = Zz.sg s (Dg.val M)
section
variable {w w' : World} {B B' b b' : Nat} {s : Bool} {A : Option Addr} {n c : Nat} {z : Int}
theorem RdZ.below (h : RdZ w B s A n c z) (hb : Below B w w') : RdZ w' B s A n c z := by
  obtain ⟨M, h, e⟩ := h
  exact ⟨M, h.below hb, e⟩
theorem RdZ.more (h : RdZ w B s A n c z) (hB : B ≤ B') : RdZ w B' s A n c z := by
  obtain ⟨M, h, e⟩ := h
  exact ⟨M, h.more hB, e⟩
theorem RdZ.next (h : RdZ w w.heap.size s A n c z) (hb : Below w.heap.size w w') : RdZ w' w'.heap.size s A n c z := (h.below hb).more hb.size
theorem RdZ.len (h : RdZ w B s A n c z) : Zz.zl z ≤ n := by
  obtain ⟨M, h, rfl⟩ := h
  rw [Zz.zl_le, Zz.abs_sg, ← h.len]
  exact Dg.val_lt h.wd
theorem RdZ.zero (w : World) (B : Nat) (s : Bool) : RdZ w B s none 0 0 0 := ⟨[], RdU.nil w B 0 none (Nat.zero_le _), by rw [show Dg.val [] = 0 from rfl, Zz.sg_zero]⟩
theorem RdZ.raw (h : RdZ w B s A n c z) : ∃ M, RdU w B A n c M ∧ Hid (z = Zz.sg s (Dg.val M)) := by
  obtain ⟨M, h, e⟩ := h
  exact ⟨M, h, Lib.hid e⟩

/-- An integer in normal form, its row in memory of the call's own, from block b on. -/
structure OwZ (w : World) (b : Nat) (s : Bool) (A : Option Addr) (n c : Nat) (z : Int) : Prop where
  own : OwU w b A n c (Dg.dg z.natAbs)
  sgn : s = decide (z < 0)
theorem OwZ.rd (h : OwZ w b s A n c z) : RdZ w w.heap.size s A n c z := ⟨_, h.own.rd, by rw [Dg.val_dg, h.sgn, Zz.sg_abs]⟩
theorem OwZ.next (h : OwZ w b s A n c z) (hb : Below w.heap.size w w') : OwZ w' b s A n c z := ⟨h.own.next hb, h.sgn⟩
theorem OwZ.base (h : OwZ w b s A n c z) (hb : b' ≤ b) : OwZ w b' s A n c z := ⟨h.own.base hb, h.sgn⟩
theorem OwZ.len (h : OwZ w b s A n c z) : n = Zz.zl z := h.own.len.symm
theorem OwZ.zero (w : World) (b : Nat) : OwZ w b false none 0 0 0 := ⟨by rw [show (0 : Int).natAbs = 0 from rfl, Dg.dg_zero]; exact OwU.nil w b, by decide⟩
theorem OwZ.mk' {t : Bool} {x : Nat} (h : OwU w b A n c (Dg.dg x)) : OwZ w b (t && decide (0 < n)) A n c (Zz.sg t x) := by
  refine ⟨by rw [Zz.abs_sg]; exact h, ?_⟩
  have h0 : n = 0 ↔ x = 0 := by
    rw [← h.len, List.length_eq_zero_iff, Dg.dg_nil]
  have h1 : (0 < n) ↔ (x ≠ 0) := by omega
  have h2 := Zz.sg_lt t x
  cases t
  · simp [Zz.sg]
  · simp only [Bool.true_and]
    rw [decide_eq_decide, h1, h2]
    simp
theorem OwZ.eq0 (h : OwZ w b s A n c z) : n = 0 ↔ z = 0 := by
  rw [h.len, show Zz.zl z = (Dg.dg z.natAbs).length from rfl, List.length_eq_zero_iff, Dg.dg_nil]
  omega

/-- An integer comes back in normal form, in memory of its own. -/
def RetI (z : Int) (w : World) (e : Ending) (w' : World) : Prop :=
  ∃ (s : Bool) (A : Option Addr) (n c : Nat) (y : Int), e = .returned (.agg #[.bool s, .slice A n c]) ∧ OwZ w' w.heap.size s A n c y ∧ Hid (y = z) ∧ Below w.heap.size w w'
theorem RetI.later {w1 : World} {e : Ending} (h : RetI z w1 e w') (hb : Below w.heap.size w w1) : RetI z w e w' := by
  obtain ⟨s, A, n, c, y, h1, h2, h3, h4⟩ := h
  exact ⟨s, A, n, c, y, h1, h2.base hb.size, h3, hb.trans (h4.mono hb.size)⟩
/-- Two integers and an error's number. -/
def RetII (q r : Int) (w : World) (e : Ending) (w' : World) : Prop :=
  ∃ (s : Bool) (A : Option Addr) (n c : Nat) (y : Int) (s' : Bool) (A' : Option Addr) (n' c' : Nat) (y' : Int), e = .returned (.tuple #[.agg #[.bool s, .slice A n c], .agg #[.bool s', .slice A' n' c'], .int .i64 0]) ∧ OwZ w' w.heap.size s A n c y ∧ OwZ w' w.heap.size s' A' n' c' y' ∧ Hid (y = q ∧ y' = r) ∧ Below w.heap.size w w'
end
end Go.Proofs.YtipbpdiahemmpaaGreat
