/- Integers as a sign and a size. Nothing of the program. -/
import Derived.Test.YtipbpdiahemmpaaGreatDg
namespace Zz
/-- A sign and a size. -/
def sg (b : Bool) (n : Nat) : Int := if b then -(n : Int) else n
theorem sg_false (n : Nat) : sg false n = n := rfl
theorem sg_true (n : Nat) : sg true n = -(n : Int) := rfl
theorem sg_zero (b : Bool) : sg b 0 = 0 := by cases b <;> simp [sg]
theorem abs_sg (b : Bool) (n : Nat) : (sg b n).natAbs = n := by cases b <;> simp [sg]
theorem sg_lt (b : Bool) (n : Nat) : sg b n < 0 ↔ b = true ∧ n ≠ 0 := by cases b <;> simp [sg] <;> omega
theorem sg_eq_zero {b : Bool} {n : Nat} : sg b n = 0 ↔ n = 0 := by cases b <;> simp [sg] <;> omega
theorem sg_abs (z : Int) : sg (decide (z < 0)) z.natAbs = z := by
  by_cases h : z < 0
  · rw [decide_eq_true h, sg_true]; omega
  · rw [decide_eq_false h, sg_false]; omega
theorem sg_not (b : Bool) (n : Nat) : sg (!b) n = -sg b n := by cases b <;> simp [sg]
theorem sg_add (b : Bool) (x y : Nat) : sg b x + sg b y = sg b (x + y) := by cases b <;> simp [sg] <;> omega
theorem sg_sub {b c : Bool} {x y : Nat} (h : c ≠ b) (hl : y ≤ x) : sg b x + sg c y = sg b (x - y) := by cases b <;> cases c <;> simp [sg] at h ⊢ <;> omega
theorem sg_mul (b c : Bool) (x y : Nat) : sg b x * sg c y = sg (b != c) (x * y) := by cases b <;> cases c <;> simp [sg, Int.neg_mul, Int.mul_neg]
theorem sg_div (b c : Bool) (x y : Nat) : (sg b x).tdiv (sg c y) = sg (b != c) (x / y) := by cases b <;> cases c <;> simp [sg, Int.neg_tdiv, Int.tdiv_neg]
theorem sg_mod (b c : Bool) (x y : Nat) : (sg b x).tmod (sg c y) = sg b (x % y) := by cases b <;> cases c <;> simp [sg, Int.neg_tmod, Int.tmod_neg] <;> rfl
/-- How many limbs an integer has. -/
def zl (z : Int) : Nat := (Dg.dg z.natAbs).length
theorem zl_le {z : Int} {k : Nat} : zl z ≤ k ↔ z.natAbs < 4294967296 ^ k := Dg.dg_len_lt
theorem zl_lt (z : Int) : z.natAbs < 4294967296 ^ zl z := zl_le.1 (Nat.le_refl _)
theorem zl_of_le {x y : Int} (h : x.natAbs ≤ y.natAbs) : zl x ≤ zl y := zl_le.2 (Nat.lt_of_le_of_lt h (zl_lt y))
theorem zl_zero : zl 0 = 0 := by unfold zl; simp [Dg.dg_zero]
theorem zl_neg (z : Int) : zl (-z) = zl z := by unfold zl; rw [Int.natAbs_neg]
theorem zl_abs (z : Int) : zl z.natAbs = zl z := by unfold zl; simp
theorem zl_small {z : Int} (h : z.natAbs < 4294967296) : zl z ≤ 1 := zl_le.2 (by simpa using h)
theorem zl_mul (x y : Int) : zl (x * y) ≤ zl x + zl y := by
  rw [zl_le, Int.natAbs_mul, Nat.pow_add]
  exact Nat.mul_lt_mul'' (zl_lt x) (zl_lt y)
theorem zl_add (x y : Int) : zl (x + y) ≤ max (zl x) (zl y) + 1 := by
  rw [zl_le, Nat.pow_succ]
  have h1 := zl_lt x
  have h2 := zl_lt y
  have h3 : 4294967296 ^ zl x ≤ 4294967296 ^ max (zl x) (zl y) := Nat.pow_le_pow_right (by omega) (by omega)
  have h4 : 4294967296 ^ zl y ≤ 4294967296 ^ max (zl x) (zl y) := Nat.pow_le_pow_right (by omega) (by omega)
  omega
theorem zl_sub (x y : Int) : zl (x - y) ≤ max (zl x) (zl y) + 1 := by
  rw [Int.sub_eq_add_neg]
  have := zl_add x (-y)
  rwa [zl_neg] at this
theorem zl_tdiv (x y : Int) : zl (x.tdiv y) ≤ zl x := zl_of_le (by rw [Int.natAbs_tdiv]; exact Nat.div_le_self _ _)
theorem zl_tmod (x y : Int) : zl (x.tmod y) ≤ zl x := zl_of_le (by rw [Int.natAbs_tmod]; exact Nat.mod_le _ _)
theorem zl_tmod_lt (x : Int) {y : Int} (h : y ≠ 0) : zl (x.tmod y) ≤ zl y := zl_of_le (by rw [Int.natAbs_tmod]; exact Nat.le_of_lt (Nat.mod_lt _ (by omega)))
theorem zl_gcd_left (x y : Int) (h : x ≠ 0) : zl (Int.gcd x y) ≤ zl x := zl_of_le (by
  simp only [Int.natAbs_natCast]
  exact Nat.le_of_dvd (by omega) (Nat.gcd_dvd_left _ _))
theorem zl_gcd (x y : Int) : zl (Int.gcd x y) ≤ max (zl x) (zl y) := by
  by_cases h : x = 0
  · subst h
    rw [show (Int.gcd 0 y : Int) = (y.natAbs : Int) by simp, zl_abs]
    omega
  · have := zl_gcd_left x y h
    omega
end Zz
