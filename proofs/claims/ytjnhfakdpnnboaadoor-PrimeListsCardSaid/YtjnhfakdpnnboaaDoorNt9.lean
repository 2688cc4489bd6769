import Derived.Test.YtjnhfakdpnnboaaDoorMrE
/- The primes from a number up to another one, in a list. Nothing of the program. -/
namespace Nt
noncomputable def ups (lo k : Nat) : List Nat := (List.range' lo (k - lo)).filter isP
theorem ups_self (lo k : Nat) (h : k ≤ lo) : ups lo k = [] := by
  unfold ups
  rw [show k - lo = 0 by omega]
  rfl
theorem ups_range (lo k : Nat) (h : lo ≤ k) : List.range' lo (k + 1 - lo) = List.range' lo (k - lo) ++ [k] := by
  rw [show k + 1 - lo = (k - lo) + 1 by omega, List.range'_concat]
  simp
  omega
theorem ups_yes {lo k : Nat} (h : lo ≤ k) (hp : Pr k) : ups lo (k + 1) = ups lo k ++ [k] := by
  unfold ups
  rw [ups_range lo k h, List.filter_append]
  simp [isP_iff.2 hp]
theorem ups_no {lo k : Nat} (h : lo ≤ k) (hp : ¬ Pr k) : ups lo (k + 1) = ups lo k := by
  unfold ups
  rw [ups_range lo k h, List.filter_append]
  simp [isP_false_iff.2 hp]
theorem ups_len (lo k : Nat) : (ups lo k).length ≤ k - lo := by
  unfold ups
  have := List.length_filter_le isP (List.range' lo (k - lo))
  simpa using this
theorem mem_ups {lo k q : Nat} : q ∈ ups lo k ↔ lo ≤ q ∧ q < k ∧ Pr q := by
  unfold ups
  rw [List.mem_filter, List.mem_range'_1, isP_iff]
  constructor
  · rintro ⟨⟨h1, h2⟩, h3⟩; exact ⟨h1, by omega, h3⟩
  · rintro ⟨h1, h2, h3⟩; exact ⟨⟨h1, by omega⟩, h3⟩
end Nt
