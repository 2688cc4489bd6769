import Derived.Test.YtipbpdiahemmpaaDoorNt
/- The least divisor; factors. Nothing of the program. -/
namespace Nt

structure IsLpf (n v : Nat) : Prop where
  dvd : v ∣ n
  two : 2 ≤ v
  least : ∀ e, 2 ≤ e → e ∣ n → v ≤ e
theorem IsLpf.prime {n v : Nat} (h : IsLpf n v) : Pr v := by
  refine ⟨h.two, fun d hd => ?_⟩
  have hle := Nat.le_of_dvd (by have := h.two; omega) hd
  have h0 : d ≠ 0 := by
    rintro rfl
    have := Nat.eq_zero_of_zero_dvd hd
    have := h.two
    omega
  by_cases h1 : d = 1
  · exact Or.inl h1
  · right
    have := h.least d (by omega) (Nat.dvd_trans hd h.dvd)
    omega
theorem IsLpf.unique {n v v' : Nat} (h : IsLpf n v) (h' : IsLpf n v') : v = v' :=
  Nat.le_antisymm (h.least _ h'.two h'.dvd) (h'.least _ h.two h.dvd)
theorem lpf_prime_iff {n v : Nat} (h : IsLpf n v) : Pr n ↔ v = n := by
  constructor
  · intro hp
    rcases hp.2 v h.dvd with e | e
    · have := h.two; omega
    · exact e
  · intro e
    have := h.prime
    rwa [e] at this

def NoD (n d : Nat) : Prop := ∀ e, 2 ≤ e → e < d → ¬ e ∣ n
theorem noD_lpf {n d : Nat} (h : NoD n d) (hd : d ∣ n) (h2 : 2 ≤ d) : IsLpf n d :=
  ⟨hd, h2, fun e he hen => by
    apply Classical.byContradiction
    intro hlt
    exact h e he (by omega) hen⟩
theorem noD_self {n : Nat} (h2 : 2 ≤ n) (h : NoD n n) : IsLpf n n := noD_lpf h (Nat.dvd_refl n) h2
theorem noD_big {n d : Nat} (h2 : 2 ≤ n) (h : NoD n d) (hlt : n < d * d) : NoD n n := by
  intro e he hen hd
  obtain ⟨k, hk⟩ := hd
  by_cases h1 : e < d
  · exact h e he h1 ⟨k, hk⟩
  · have hk1 : k ≠ 1 := by rintro rfl; omega
    have hk0 : k ≠ 0 := by rintro rfl; omega
    have hkd : k < d := by
      apply Classical.byContradiction
      intro hkd
      have := Nat.mul_le_mul (show d ≤ e by omega) (show d ≤ k by omega)
      omega
    exact h k (by omega) hkd ⟨e, by rw [Nat.mul_comm]; exact hk⟩
theorem noD_all {n d : Nat} (h2 : 2 ≤ n) (h : NoD n d) (hlt : n < d * d) : IsLpf n n := noD_self h2 (noD_big h2 h hlt)
theorem noD_2 (n : Nat) : NoD n 2 := fun e he hlt => by omega
theorem noD_succ {n d : Nat} (h : NoD n d) (hd : n % d ≠ 0) : NoD n (d + 1) := fun e he hlt => by
  by_cases h1 : e = d
  · subst h1; exact fun hdv => hd (Nat.mod_eq_zero_of_dvd hdv)
  · exact h e he (by omega)
theorem not_dvd_mul {n a e : Nat} (h : ¬ a ∣ n) (hae : a ∣ e) : ¬ e ∣ n := fun hd => h (Nat.dvd_trans hae hd)
theorem noD_5 {n : Nat} (h2 : n % 2 ≠ 0) (h3 : n % 3 ≠ 0) : NoD n 5 := by
  intro e he hlt
  have h : e = 2 ∨ e = 3 ∨ e = 4 := by omega
  rcases h with rfl | rfl | rfl <;> intro hd <;> have := Nat.mod_eq_zero_of_dvd hd <;> omega
theorem noD_step {n d : Nat} (h : NoD n d) (h5 : 5 ≤ d) (hm : d % 6 = 5) (h1 : n % d ≠ 0) (h2 : n % (d + 2) ≠ 0) : NoD n (d + 6) := by
  have d2 := h 2 (by omega) (by omega)
  have d3 := h 3 (by omega) (by omega)
  intro e he hlt
  by_cases c : e < d
  · exact h e he c
  have hc : e = d ∨ e = d + 1 ∨ e = d + 2 ∨ e = d + 3 ∨ e = d + 4 ∨ e = d + 5 := by omega
  rcases hc with rfl | rfl | rfl | rfl | rfl | rfl
  · exact fun hd => h1 (Nat.mod_eq_zero_of_dvd hd)
  · exact not_dvd_mul d2 (Nat.dvd_of_mod_eq_zero (by omega))
  · exact fun hd => h2 (Nat.mod_eq_zero_of_dvd hd)
  · exact not_dvd_mul d2 (Nat.dvd_of_mod_eq_zero (by omega))
  · exact not_dvd_mul d3 (Nat.dvd_of_mod_eq_zero (by omega))
  · exact not_dvd_mul d2 (Nat.dvd_of_mod_eq_zero (by omega))
end Nt
