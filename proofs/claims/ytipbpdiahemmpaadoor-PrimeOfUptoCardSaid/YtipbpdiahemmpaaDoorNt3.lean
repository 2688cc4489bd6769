import Derived.Test.YtipbpdiahemmpaaDoorNt
/- Euclid's way to an inverse modulo a prime. Nothing of the program. -/
namespace Nt

structure Eu (p a r s : Nat) (x y : Int) : Prop where
  pos : 0 < r
  lt : s < r
  sgn : ∃ X Y : Nat, ((x = X ∧ y = -Y) ∨ (x = -X ∧ y = Y)) ∧ r * Y + s * X = p ∧ X ≤ Y
  cx : (p : Int) ∣ x * a - r
  cy : (p : Int) ∣ y * a - s
  g : Nat.gcd r s = 1

theorem Eu.start {p a : Nat} (hp : Pr p) (ha : ¬ a % p = 0) : Eu p a p (a % p) 0 1 where
  pos := hp.pos
  lt := Nat.mod_lt _ hp.pos
  sgn := ⟨0, 1, Or.inr ⟨by simp, by simp⟩, by simp, by omega⟩
  cx := ⟨-1, by simp⟩
  cy := ⟨((a / p : Nat) : Int), by
    have := Nat.div_add_mod a p
    have e : (a : Int) = (p : Int) * ((a / p : Nat) : Int) + ((a % p : Nat) : Int) := by rw [← Int.natCast_mul, ← Int.natCast_add, this]
    rw [Int.one_mul]
    omega⟩
  g := hp.coprime (fun hd => Pr.not_dvd_lt (by omega) (Nat.mod_lt _ hp.pos) hd)

theorem Eu.bound {p a r s : Nat} {x y : Int} (h : Eu p a r s x y) : -(p : Int) ≤ x ∧ x ≤ p ∧ -(p : Int) ≤ y ∧ y ≤ p := by
  obtain ⟨X, Y, hs, he, hle⟩ := h.sgn
  have h1 : 1 * Y ≤ r * Y := Nat.mul_le_mul_right Y h.pos
  have hY : Y ≤ p := by omega
  rcases hs with ⟨rfl, rfl⟩ | ⟨rfl, rfl⟩ <;> omega

theorem Eu.step {p a r s : Nat} {x y : Int} (h : Eu p a r s x y) (hs : 0 < s) : Eu p a s (r % s) y (x - ((r / s : Nat) : Int) * y) where
  pos := hs
  lt := Nat.mod_lt _ hs
  sgn := by
    obtain ⟨X, Y, hsg, he, hle⟩ := h.sgn
    have hq : 1 ≤ r / s := (Nat.le_div_iff_mul_le hs).2 (by have := h.lt; omega)
    have hqY : 1 * Y ≤ r / s * Y := Nat.mul_le_mul_right Y hq
    refine ⟨Y, X + r / s * Y, ?_, ?_, by omega⟩
    · rcases hsg with ⟨rfl, rfl⟩ | ⟨rfl, rfl⟩
      · right
        refine ⟨rfl, ?_⟩
        rw [Int.natCast_add, Int.natCast_mul, Int.mul_neg]; omega
      · left
        refine ⟨rfl, ?_⟩
        rw [Int.natCast_add, Int.natCast_mul]; omega
    · have hr := Nat.div_add_mod r s
      rw [← he]
      conv => rhs; rw [← hr]
      rw [Nat.mul_add, Nat.add_mul]
      have : s * (r / s * Y) = s * (r / s) * Y := by rw [Nat.mul_assoc]
      omega
  cx := h.cy
  cy := by
    obtain ⟨k, hk⟩ := h.cx
    obtain ⟨l, hl⟩ := h.cy
    refine ⟨k - ((r / s : Nat) : Int) * l, ?_⟩
    have hr := Nat.div_add_mod r s
    have hr' : (r : Int) = (s : Int) * ((r / s : Nat) : Int) + ((r % s : Nat) : Int) := by rw [← Int.natCast_mul, ← Int.natCast_add, hr]
    rw [Int.mul_sub, Int.sub_mul, ← hk, Int.mul_left_comm, ← hl, Int.mul_sub, Int.mul_assoc]
    have : ((r / s : Nat) : Int) * (s : Int) = (s : Int) * ((r / s : Nat) : Int) := Int.mul_comm _ _
    omega
  g := by
    rw [← h.g, Nat.gcd_comm r s, Nat.gcd_rec s r, Nat.gcd_comm]

/-- What is left at the end. -/
theorem Eu.done {p a r : Nat} {x y : Int} (hp : Pr p) (h : Eu p a r 0 x y) : ∃ v : Nat, (x + p) % p = v ∧ v < p ∧ v * a % p = 1 := by
  have hp2 := hp.1
  have hr : r = 1 := by have := h.g; simpa using this
  have h0 : 0 ≤ (x + p) % (p : Int) := Int.emod_nonneg _ (by omega)
  have hlt : (x + p) % (p : Int) < p := Int.emod_lt_of_pos _ (by omega)
  refine ⟨((x + p) % (p : Int)).toNat, by omega, by omega, ?_⟩
  have e : ((((x + p) % (p : Int)).toNat : Nat) : Int) = (x + p) % (p : Int) := by omega
  obtain ⟨k, hk⟩ := h.cx
  have h1 : ((((x + p) % (p : Int)).toNat * a % p : Nat) : Int) = 1 := by
    rw [Int.natCast_emod, Int.natCast_mul, e, Int.mul_emod, Int.emod_emod_of_dvd _ (Int.dvd_refl _), ← Int.mul_emod, Int.add_mul]
    have e2 : x * (a : Int) + p * a = 1 + p * (k + a) := by
      rw [Int.mul_add, ← hk, hr]; omega
    rw [e2, Int.add_mul_emod_self_left]
    exact Int.emod_eq_of_lt (by omega) (by omega)
  omega

theorem inv_unique {p a u v : Nat} (hp : Pr p) (hu : u < p) (hv : v < p) (h1 : u * a % p = 1) (h2 : v * a % p = 1) : u = v := by
  have hnd : ¬ p ∣ a := fun hd => by
    rw [Nat.mul_mod, Nat.mod_eq_zero_of_dvd hd, Nat.mul_zero, Nat.zero_mod] at h1
    omega
  have := cancel (a := u) (b := v) (hp.coprime hnd) (by rw [Nat.mul_comm a u, Nat.mul_comm a v, h1, h2])
  rwa [Nat.mod_eq_of_lt hu, Nat.mod_eq_of_lt hv] at this
theorem inv_pow {p a : Nat} (hp : Pr p) (ha : ¬ a % p = 0) : a ^ (p - 2) % p * a % p = 1 := by
  have hp2 := hp.1
  rw [Nat.mul_mod, Nat.mod_mod, ← Nat.mul_mod, ← Nat.pow_succ, show (p - 2).succ = p - 1 by omega]
  exact fermat hp (fun hd => ha (Nat.mod_eq_zero_of_dvd hd))

/-- Legendre's sign, as both texts reckon it. -/
def leg (a p : Nat) : Int := if a % p = 0 then 0 else if p = 2 ∨ a ^ ((p - 1) / 2) % p = 1 then 1 else -1
end Nt
