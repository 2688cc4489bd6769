/- The reference's natural numbers, tenth part: the greatest common divisor, plain. -/
import Derived.Test.YtipbpdiahemmpaaGreatN18
namespace Go.Proofs.YtipbpdiahemmpaaGreat
open Go.RowKit Go.IntWalk

theorem gcd_both {a b : Nat} (ha : a % 2 = 0) (hb : b % 2 = 0) : Nat.gcd a b = 2 * Nat.gcd (a / 2) (b / 2) := by
  have e1 : a = 2 * (a / 2) := by omega
  have e2 : b = 2 * (b / 2) := by omega
  conv => lhs; rw [e1, e2]
  exact Nat.gcd_mul_left _ _ _
theorem odd_half {g a : Nat} (hg : g % 2 = 1) (h : g ∣ 2 * a) : g ∣ a := by
  obtain ⟨c, hc⟩ := h
  have h2 : c % 2 = 0 := by
    rcases Nat.mod_two_eq_zero_or_one c with e | e
    · exact e
    · have : (g * c) % 2 = 1 := by rw [Nat.mul_mod, hg, e]
      omega
  refine ⟨c / 2, ?_⟩
  have e : c = 2 * (c / 2) := by omega
  rw [e] at hc
  have : 2 * a = 2 * (g * (c / 2)) := by rw [hc]; grind
  omega
theorem gcd_half {a b : Nat} (ha : a % 2 = 0) (ho : Nat.gcd a b % 2 = 1) : Nat.gcd (a / 2) b = Nat.gcd a b := by
  have e1 : a = 2 * (a / 2) := by omega
  apply Nat.dvd_antisymm
  · refine Nat.dvd_gcd ?_ (Nat.gcd_dvd_right _ _)
    exact Nat.dvd_trans (Nat.gcd_dvd_left _ _) ⟨2, by omega⟩
  · refine Nat.dvd_gcd (odd_half ho ?_) (Nat.gcd_dvd_right _ _)
    rw [← e1]
    exact Nat.gcd_dvd_left _ _
theorem gcd_less {a b : Nat} (h : b ≤ a) : Nat.gcd (a - b) b = Nat.gcd a b := by
  apply Nat.dvd_antisymm
  · refine Nat.dvd_gcd ?_ (Nat.gcd_dvd_right _ _)
    have h1 := Nat.dvd_add (Nat.gcd_dvd_left (a - b) b) (Nat.gcd_dvd_right (a - b) b)
    rw [Nat.sub_add_cancel h] at h1
    exact h1
  · exact Nat.dvd_gcd (Nat.dvd_sub (Nat.gcd_dvd_left _ _) (Nat.gcd_dvd_right _ _)) (Nat.gcd_dvd_right _ _)
theorem gcd_odd {a b : Nat} (h : ¬ (a % 2 = 0 ∧ b % 2 = 0)) : Nat.gcd a b % 2 = 1 := by
  rcases Nat.mod_two_eq_zero_or_one (Nat.gcd a b) with e | e
  · exfalso
    obtain ⟨c, hc⟩ := Nat.gcd_dvd_left a b
    obtain ⟨d, hd⟩ := Nat.gcd_dvd_right a b
    apply h
    constructor
    · rw [hc, Nat.mul_mod, e]; simp
    · rw [hd, Nat.mul_mod, e]; simp
  · exact e
end Go.Proofs.YtipbpdiahemmpaaGreat
