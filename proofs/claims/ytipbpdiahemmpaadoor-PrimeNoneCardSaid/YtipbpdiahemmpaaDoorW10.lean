/- The reference's factors. -/
import Derived.Test.YtipbpdiahemmpaaDoorW9
import Derived.Laws.OwnMore
import Derived.RangeFuncBox
namespace Go.Proofs.YtipbpdiahemmpaaDoor
open Go.RowKit Go.IntWalk

theorem fcells_len (L : List (Nat × Nat)) : (fcells L).length = L.length * 2 := by
  induction L with
  | nil => rfl
  | cons x L ih =>
    have : fcells (x :: L) = [Value.int .u32 x.1, Value.int .i64 x.2] ++ fcells L := rfl
    rw [this, List.length_append, ih, List.length_cons]
    simp; omega
theorem fcells_at0 (L : List (Nat × Nat)) (p k : Nat) : (fcells (L ++ [(p, k)]))[L.length * 2]? = some (.int .u32 p) := by
  rw [fcells_append, fcells_one, List.getElem?_append_right (by rw [fcells_len]; exact Nat.le_refl _), fcells_len, Nat.sub_self]
  rfl
theorem fcells_at1 (L : List (Nat × Nat)) (p k : Nat) : (fcells (L ++ [(p, k)]))[L.length * 2 + 1]? = some (.int .i64 k) := by
  rw [fcells_append, fcells_one, List.getElem?_append_right (by rw [fcells_len]; omega), fcells_len, Nat.add_sub_cancel_left]
  rfl
theorem fcells_set (L : List (Nat × Nat)) (p k : Nat) : (fcells (L ++ [(p, k)])).set (L.length * 2 + 1) (.int .i64 ((k : Int) + 1)) = fcells (L ++ [(p, k + 1)]) := by
  rw [fcells_append, fcells_append, fcells_one, fcells_one, List.set_append_right _ _ (by rw [fcells_len]; omega), fcells_len, Nat.add_sub_cancel_left]
  rfl
/-- One time more. -/
theorem fac_again {w W W1 : World} {g cap p k : Nat} {L : List (Nat × Nat)} {T : TypeId} (hB : Below w.heap.size w W) (hown : W.ownsRow w.heap.size T 2 (.slice (some ⟨g, 0, none⟩) (L.length + 1) cap) (L.length + 1) (fcells (L ++ [(p, k)])))
    (h1 : W1 = W.setCell ⟨g, L.length * 2 + 1, none⟩ (.int .i64 ((k : Int) + 1))) :
    W1.ownsRow w.heap.size T 2 (.slice (some ⟨g, 0, none⟩) (L.length + 1) cap) (L ++ [(p, k + 1)]).length (fcells (L ++ [(p, k + 1)])) ∧ Below w.heap.size w W1 := by
  obtain ⟨h2, h3⟩ := hown.stored (L.length * 2 + 1) (.int .i64 ((k : Int) + 1))
  rw [fcells_set] at h2
  subst h1
  refine ⟨by rw [List.length_append]; exact h2, hB.grown h3 hB.size (fun j hj => ?_)⟩
  cases hj
  exact own_block hown _ rfl

theorem fac_more' {w W w1 : World} {v v' : Value} {L : List (Nat × Nat)} {p n : Nat} {T t : TypeId} (hn : n = L.length) (hB : Below w.heap.size w W) (hown : W.ownsRow w.heap.size T 2 v n (fcells L))
    (hown' : w1.ownsRow w.heap.size T 2 v' (n + 1) (fcells L ++ [Value.int .u32 p, Value.int .i64 0])) (hg : (W.alloc (.cells #[Value.int .u32 p, Value.int .i64 0] t)).grownBy w1 v.ownBlock) :
    ∃ g cap, v' = .slice (some ⟨g, 0, none⟩) (n + 1) cap ∧ w1.cell? ⟨g, n * 2, none⟩ = some (.int .u32 p) ∧ w1.cell? ⟨g, n * 2 + 1, none⟩ = some (.int .i64 0) ∧ w1.frozen? ⟨g, n * 2 + 1, none⟩ = false ∧
      (w1.setCell ⟨g, n * 2 + 1, none⟩ (.int .i64 1)).ownsRow w.heap.size T 2 (.slice (some ⟨g, 0, none⟩) (n + 1) cap) (L ++ [(p, 1)]).length (fcells (L ++ [(p, 1)])) ∧ Below w.heap.size w (w1.setCell ⟨g, n * 2 + 1, none⟩ (.int .i64 1)) := by
  subst hn
  obtain ⟨h1, h2⟩ := fac_more (k := 0) hB hown hown' hg
  rw [List.length_append] at h1
  obtain ⟨g, cap, rfl⟩ := ownsRow_succ h1
  have h3 := fac_again (W1 := w1.setCell ⟨g, L.length * 2 + 1, none⟩ (.int .i64 1)) (k := 0) h2 h1 rfl
  exact ⟨g, cap, rfl, (h1.cellAt (L.length * 2) (by omega)).trans (fcells_at0 L p 0), (h1.cellAt (L.length * 2 + 1) (by omega)).trans (fcells_at1 L p 0), h1.frozenAt _, h3.1, h3.2⟩

theorem fac_first {w W w1 : World} {v v' : Value} {p : Nat} {T t : TypeId} (hB : Below w.heap.size w W) (hown : W.ownsRow w.heap.size T 2 v 0 [])
    (hown' : w1.ownsRow w.heap.size T 2 v' (0 + 1) ([] ++ [Value.int .u32 p, Value.int .i64 0])) (hg : (W.alloc (.cells #[Value.int .u32 p, Value.int .i64 0] t)).grownBy w1 v.ownBlock) :
    ∃ g cap, v' = .slice (some ⟨g, 0, none⟩) 1 cap ∧ w1.cell? ⟨g, 0, none⟩ = some (.int .u32 p) ∧ w1.cell? ⟨g, 1, none⟩ = some (.int .i64 0) ∧ w1.frozen? ⟨g, 1, none⟩ = false ∧
      (w1.setCell ⟨g, 1, none⟩ (.int .i64 1)).ownsRow w.heap.size T 2 (.slice (some ⟨g, 0, none⟩) 1 cap) 1 (fcells [(p, 1)]) ∧ Below w.heap.size w (w1.setCell ⟨g, 1, none⟩ (.int .i64 1)) :=
  fac_more' (L := []) rfl hB hown hown' hg

theorem Rs_exp {n m p k : Nat} {L : List (Nat × Nat)} (h : Nt.Rs n m (L ++ [(p, k)])) (hn : n < 4294967296) : k < 32 := by
  have h1 := (Nt.IsFac.mk rfl h.sorted h.pr : Nt.IsFac (Nt.fprod (L ++ [(p, k)])) (L ++ [(p, k)])).exp (p, k) (by simp)
  have h2 : Nt.fprod (L ++ [(p, k)]) * 1 ≤ Nt.fprod (L ++ [(p, k)]) * m := Nat.mul_le_mul_left _ h.pos
  rw [h.prod] at h2
  have h3 : 2 ^ k ≤ Nt.fprod (L ++ [(p, k)]) := h1.1
  exact len32 (n := n) (by omega) hn

end Go.Proofs.YtipbpdiahemmpaaDoor
