/- Lists of integers as polynomials: coefficients, the normal list. Nothing of the program. -/
namespace Pz
def co (L : List Int) (i : Nat) : Int := L.getD i 0
/-- No nought at the top. -/
def Nz (L : List Int) : Prop := ∀ h : L ≠ [], L.getLast h ≠ 0
theorem co_ge {L : List Int} {i : Nat} (h : L.length ≤ i) : co L i = 0 := by simp [co, h]
theorem co_nil (i : Nat) : co [] i = 0 := by simp [co]
theorem co_get {L : List Int} {i : Nat} {z : Int} (h : L[i]? = some z) : co L i = z := by simp [co, List.getD_eq_getElem?_getD, h]
theorem get_co {L : List Int} {i : Nat} (h : i < L.length) : L[i]? = some (co L i) := by simp [co, h]
theorem mem_co {L : List Int} {z : Int} (h : z ∈ L) : ∃ i, i < L.length ∧ co L i = z := by
  obtain ⟨i, hi⟩ := List.getElem?_of_mem h
  refine ⟨i, ?_, co_get hi⟩
  rcases Nat.lt_or_ge i L.length with h1 | h1
  · exact h1
  · rw [List.getElem?_eq_none h1] at hi; cases hi
theorem co_take {L : List Int} {k i : Nat} (h : i < k) : co (L.take k) i = co L i := by
  simp only [co, List.getD_eq_getElem?_getD, List.getElem?_take_of_lt h]
theorem co_take_all {L : List Int} {k : Nat} (h : ∀ i, k ≤ i → co L i = 0) (i : Nat) : co (L.take k) i = co L i := by
  rcases Nat.lt_or_ge i k with h1 | h1
  · exact co_take h1
  · rw [h i h1]; exact co_ge (by rw [List.length_take]; omega)
theorem nz_nil : Nz [] := fun h => absurd rfl h
theorem nz_take {L : List Int} {k : Nat} (hk : k ≤ L.length) (h : k = 0 ∨ co L (k - 1) ≠ 0) : Nz (L.take k) := by
  intro hne
  have hk0 : k ≠ 0 := by rintro rfl; simp at hne
  have hl := h.resolve_left hk0
  rw [List.getLast_eq_getElem]
  simp only [List.length_take, Nat.min_eq_left hk, List.getElem_take]
  have e := get_co (L := L) (i := k - 1) (by omega)
  rw [List.getElem?_eq_getElem (by omega)] at e
  injection e with e
  rw [e]
  exact hl
theorem nz_top {L : List Int} (h : Nz L) (h0 : 0 < L.length) : co L (L.length - 1) ≠ 0 := by
  have hne : L ≠ [] := by rintro rfl; simp at h0
  have e := h hne
  rw [List.getLast_eq_getElem] at e
  have e2 := get_co (L := L) (i := L.length - 1) (by omega)
  rw [List.getElem?_eq_getElem (by omega)] at e2
  injection e2 with e2
  rw [← e2]
  exact e
theorem nz_len {L : List Int} (h : Nz L) {k : Nat} (hk : ∀ i, k ≤ i → co L i = 0) : L.length ≤ k := by
  apply Classical.byContradiction
  intro hc
  exact nz_top h (by omega) (hk _ (by omega))
theorem nz_ext {L M : List Int} (h : Nz L) (h' : Nz M) (e : ∀ i, co L i = co M i) : L = M := by
  have h1 : L.length ≤ M.length := nz_len h fun i hi => by rw [e]; exact co_ge hi
  have h2 : M.length ≤ L.length := nz_len h' fun i hi => by rw [← e]; exact co_ge hi
  apply List.ext_getElem?
  intro i
  rcases Nat.lt_or_ge i L.length with hi | hi
  · rw [get_co hi, get_co (by omega), e]
  · rw [List.getElem?_eq_none hi, List.getElem?_eq_none (by omega)]
theorem nz_nil_iff {L : List Int} (h : Nz L) : L = [] ↔ ∀ i, co L i = 0 := by
  constructor
  · rintro rfl i; exact co_nil i
  · intro e
    exact nz_ext h nz_nil fun i => by rw [e, co_nil]
/-- The normal list of coefficients. -/
def IsP (f : Nat → Int) (M : List Int) : Prop := Nz M ∧ ∀ i, co M i = f i
theorem IsP.unique {f : Nat → Int} {L M : List Int} (h : IsP f L) (h' : IsP f M) : L = M := nz_ext h.1 h'.1 fun i => by rw [h.2, h'.2]
theorem IsP.congr {f g : Nat → Int} {L : List Int} (h : IsP f L) (e : ∀ i, f i = g i) : IsP g L := ⟨h.1, fun i => by rw [h.2, e]⟩
theorem IsP.len {f : Nat → Int} {L : List Int} (h : IsP f L) {k : Nat} (hk : ∀ i, k ≤ i → f i = 0) : L.length ≤ k := nz_len h.1 fun i hi => by rw [h.2]; exact hk i hi
theorem co_map {φ : Int → Int} (h0 : φ 0 = 0) (L : List Int) (i : Nat) : co (L.map φ) i = φ (co L i) := by
  simp only [co, List.getD_eq_getElem?_getD, List.getElem?_map]
  cases L[i]? <;> simp [h0]
end Pz
