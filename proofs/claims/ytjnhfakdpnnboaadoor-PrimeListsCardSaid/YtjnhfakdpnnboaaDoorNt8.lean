import Derived.Test.YtjnhfakdpnnboaaDoorNt
/- The next prime and the last one: one answer. Nothing of the program. -/
namespace Nt
def IsNext (n v : Nat) (b : Bool) : Prop :=
  (b = true ∧ Pr v ∧ n < v ∧ v < 4294967296 ∧ ∀ q, n < q → q < v → ¬ Pr q) ∨ (b = false ∧ v = 0 ∧ ∀ q, n < q → q < 4294967296 → ¬ Pr q)
def IsLast (n v : Nat) (b : Bool) : Prop :=
  (b = true ∧ Pr v ∧ v < n ∧ ∀ q, v < q → q < n → ¬ Pr q) ∨ (b = false ∧ v = 0 ∧ ∀ q, q < n → ¬ Pr q)
theorem IsNext.unique {n v v' : Nat} {b b' : Bool} (h : IsNext n v b) (k : IsNext n v' b') : v = v' ∧ b = b' := by
  rcases h with ⟨rfl, h1, h2, h3, h4⟩ | ⟨rfl, rfl, h1⟩ <;> rcases k with ⟨rfl, k1, k2, k3, k4⟩ | ⟨rfl, rfl, k1⟩
  · refine ⟨?_, rfl⟩
    rcases Nat.lt_trichotomy v v' with c | c | c
    · exact absurd h1 (k4 v h2 c)
    · exact c
    · exact absurd k1 (h4 v' k2 c)
  · exact absurd h1 (k1 v h2 h3)
  · exact absurd k1 (h1 v' k2 k3)
  · exact ⟨rfl, rfl⟩
theorem IsLast.unique {n v v' : Nat} {b b' : Bool} (h : IsLast n v b) (k : IsLast n v' b') : v = v' ∧ b = b' := by
  rcases h with ⟨rfl, h1, h2, h4⟩ | ⟨rfl, rfl, h1⟩ <;> rcases k with ⟨rfl, k1, k2, k4⟩ | ⟨rfl, rfl, k1⟩
  · refine ⟨?_, rfl⟩
    rcases Nat.lt_trichotomy v v' with c | c | c
    · exact absurd k1 (h4 v' c k2)
    · exact c
    · exact absurd h1 (k4 v c h2)
  · exact absurd h1 (k1 v h2)
  · exact absurd k1 (h1 v' k2)
  · exact ⟨rfl, rfl⟩
end Nt
