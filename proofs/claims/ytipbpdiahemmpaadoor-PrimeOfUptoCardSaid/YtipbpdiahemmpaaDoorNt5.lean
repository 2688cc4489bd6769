import Derived.Test.YtipbpdiahemmpaaDoorNt3
import Derived.Test.YtipbpdiahemmpaaDoorNt4
/- Tonelli's way to a root. Nothing of the program. -/
namespace Nt

structure To (p a m c t r : Nat) : Prop where
  sq : r * r % p = a * t % p
  m1 : 1 ≤ m
  cm : c ^ (2 ^ (m - 1)) % p = p - 1
  tm : t ^ (2 ^ (m - 1)) % p = 1

theorem half_pow {p q s : Nat} (hs : 1 ≤ s) (h : p - 1 = q * 2 ^ s) : (p - 1) / 2 = q * 2 ^ (s - 1) := by
  obtain ⟨k, rfl⟩ : ∃ k, s = k + 1 := ⟨s - 1, by omega⟩
  rw [h, Nat.pow_succ, ← Nat.mul_assoc, Nat.mul_div_cancel _ (by omega), Nat.add_sub_cancel]
theorem To.start {p a q s z : Nat} (hs : 1 ≤ s) (h : p - 1 = q * 2 ^ s) (hq : q % 2 = 1) (ha : a ^ ((p - 1) / 2) % p = 1) (hz : z ^ ((p - 1) / 2) % p = p - 1) :
    To p a s (z ^ q % p) (a ^ q % p) (a ^ ((q + 1) / 2) % p) where
  sq := by
    rw [← Nat.mul_mod, ← Nat.pow_add]
    rw [mul_mod_congr (a' := a) (b' := a ^ q) rfl (Nat.mod_mod _ _), ← Nat.pow_succ']
    congr 2
    omega
  m1 := hs
  cm := by rw [← Nat.pow_mod, ← Nat.pow_mul, ← half_pow hs h, hz]
  tm := by rw [← Nat.pow_mod, ← Nat.pow_mul, ← half_pow hs h, ha]

/-- The least i with t^(2^i) = 1. -/
theorem To.step {p a m c t r i : Nat} (hp : Pr p) (h : To p a m c t r) (h1 : t ^ 2 ^ i % p = 1) (hi : 1 ≤ i) (him : i ≤ m - 1) (hne : t ^ 2 ^ (i - 1) % p ≠ 1) :
    To p a i (c ^ 2 ^ (m - i - 1) % p * (c ^ 2 ^ (m - i - 1) % p) % p) (t * (c ^ 2 ^ (m - i - 1) % p * (c ^ 2 ^ (m - i - 1) % p) % p) % p) (r * (c ^ 2 ^ (m - i - 1) % p) % p) where
  sq := by
    generalize c ^ 2 ^ (m - i - 1) % p = b
    rw [← Nat.mul_mod]
    have e1 : r * b * (r * b) = r * r * (b * b) := by ac_rfl
    have e2 : a * (t * (b * b % p) % p) % p = a * t * (b * b) % p := by
      rw [mul_mod_congr (a' := a) (b' := t * (b * b)) rfl (by rw [Nat.mod_mod]; exact mul_mod_congr rfl (Nat.mod_mod _ _)), Nat.mul_assoc]
    rw [e1, e2]
    exact mul_mod_congr h.sq rfl
  m1 := hi
  cm := by
    rw [← Nat.mul_mod, ← Nat.pow_mod, ← Nat.pow_two, ← Nat.pow_mul, ← Nat.pow_mul, ← Nat.pow_succ', ← Nat.pow_add]
    rw [show m - i - 1 + (i - 1).succ = m - 1 by omega]
    exact h.cm
  tm := by
    have hp2 := hp.1
    have ht : t ^ 2 ^ (i - 1) % p = p - 1 := by
      have e : t ^ 2 ^ (i - 1) * t ^ 2 ^ (i - 1) % p = 1 := by
        rw [← Nat.pow_add, ← Nat.two_mul, ← Nat.pow_succ', show (i - 1).succ = i by omega]
        exact h1
      rcases sqrt_one hp e with h2 | h2
      · exact absurd h2 hne
      · exact h2
    have hc : (c ^ 2 ^ (m - i - 1) % p * (c ^ 2 ^ (m - i - 1) % p) % p) ^ 2 ^ (i - 1) % p = p - 1 := by
      rw [← Nat.mul_mod, ← Nat.pow_mod, ← Nat.pow_two, ← Nat.pow_mul, ← Nat.pow_mul, ← Nat.pow_succ', ← Nat.pow_add]
      rw [show m - i - 1 + (i - 1).succ = m - 1 by omega]
      exact h.cm
    rw [← Nat.pow_mod, Nat.mul_pow, Nat.mul_mod, ht, hc]
    obtain ⟨k, rfl⟩ : ∃ k, p = k + 2 := ⟨p - 2, by omega⟩
    have e : (k + 2 - 1) * (k + 2 - 1) = 1 + (k + 2) * k := by
      rw [show k + 2 - 1 = k + 1 by omega]
      simp only [Nat.mul_add, Nat.add_mul, Nat.mul_one, Nat.one_mul]
      omega
    rw [e, Nat.add_mul_mod_self_left, Nat.mod_eq_of_lt (by omega)]

/-- One more squaring. -/
theorem sq_pow {t p i u : Nat} (h : u = t ^ 2 ^ i % p) : u * u % p = t ^ 2 ^ (i + 1) % p := by
  rw [h, ← Nat.mul_mod, ← Nat.pow_add, ← Nat.two_mul, ← Nat.pow_succ']
theorem leg_nonres {z p : Nat} (hp : Pr p) (h3 : 3 ≤ p) (h : leg z p = -1) : z ^ ((p - 1) / 2) % p = p - 1 := by
  unfold leg at h
  by_cases h0 : z % p = 0
  · simp [h0] at h
  rw [if_neg h0] at h
  by_cases h1 : p = 2 ∨ z ^ ((p - 1) / 2) % p = 1
  · rw [if_pos h1] at h; omega
  have hodd : p % 2 = 1 := by
    by_cases e : p % 2 = 0
    · rcases hp.2 2 (Nat.dvd_of_mod_eq_zero e) with h | h <;> omega
    · omega
  have hf := fermat hp (fun hd => h0 (Nat.mod_eq_zero_of_dvd hd))
  have e : z ^ ((p - 1) / 2) * z ^ ((p - 1) / 2) % p = 1 := by
    rw [← Nat.pow_add, show (p - 1) / 2 + (p - 1) / 2 = p - 1 by omega]
    exact hf
  rcases sqrt_one hp e with h2 | h2
  · exact absurd (Or.inr h2) h1
  · exact h2
theorem some_leg {p : Nat} (hp : Pr p) (h3 : 3 ≤ p) : ∃ z, 2 ≤ z ∧ z < p ∧ leg z p = -1 := by
  obtain ⟨z, h2, hz, h⟩ := some_nonres hp h3
  refine ⟨z, h2, hz, ?_⟩
  unfold leg
  rw [if_neg (by rw [Nat.mod_eq_of_lt hz]; omega), if_neg (by rintro (e | e) <;> omega)]
/-- The lesser root. -/
theorem root_min {p a r : Nat} (hp : Pr p) (h3 : 3 ≤ p) (ha : ¬ a % p = 0) (hr : r < p) (h : r * r % p = a % p) :
    min r (p - r) < p ∧ min r (p - r) * min r (p - r) % p = a % p ∧ min r (p - r) ≤ (0 % p + p - min r (p - r) % p) % p := by
  have hr0 : r ≠ 0 := by
    rintro rfl
    rw [Nat.mul_zero, Nat.zero_mod] at h
    exact ha h.symm
  have hodd : p % 2 = 1 := by
    by_cases e : p % 2 = 0
    · rcases hp.2 2 (Nat.dvd_of_mod_eq_zero e) with h | h <;> omega
    · omega
  rw [Nat.zero_mod, Nat.zero_add]
  by_cases hle : r ≤ p - r
  · rw [Nat.min_eq_left hle]
    rw [Nat.mod_eq_of_lt hr, Nat.mod_eq_of_lt (show p - r < p by omega)]
    exact ⟨hr, h, hle⟩
  · rw [Nat.min_eq_right (by omega)]
    rw [Nat.mod_eq_of_lt (show p - r < p by omega), Nat.mod_eq_of_lt (show p - (p - r) < p by omega)]
    refine ⟨by omega, ?_, by omega⟩
    rw [← h]
    have e : (p - r) * (p - r) + 2 * r * p = r * r + p * p := by
      obtain ⟨k, rfl⟩ : ∃ k, p = r + k := ⟨p - r, by omega⟩
      rw [Nat.add_sub_cancel_left]
      simp only [Nat.mul_add, Nat.add_mul]
      have e1 : r * k = k * r := Nat.mul_comm _ _
      have e2 : 2 * r * r = r * r + r * r := by rw [Nat.mul_assoc, Nat.two_mul]
      have e3 : 2 * r * k = r * k + r * k := by rw [Nat.mul_assoc, Nat.two_mul]
      omega
    have h1 : ((p - r) * (p - r) + 2 * r * p) % p = (p - r) * (p - r) % p := Nat.add_mul_mod_self_right _ _ _
    have h2 : (r * r + p * p) % p = r * r % p := Nat.add_mul_mod_self_right _ _ _
    rw [← h1, ← h2, e]
end Nt
