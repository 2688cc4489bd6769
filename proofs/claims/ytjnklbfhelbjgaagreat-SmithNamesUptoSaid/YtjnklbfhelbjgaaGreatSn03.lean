/- Knuth's division: the top digit, and what is added back. Plain. -/
import Derived.Test.YtjnklbfhelbjgaaGreatSn02
namespace Kn
open Dg
theorem top_same {VV UU UM Z W P u2 s : Nat} (hV : VV + Z = UU + s * P) (hU : UM = UU + u2 * P) (hl : VV < P) (hW : W ≤ P) (h1 : Z ≤ UM) (h2 : UM < Z + W) : u2 = s ∧ VV + Z = UM := by
 have e : u2 = s := by
  rcases Nat.lt_trichotomy u2 s with h | h | h
  ·have := Nat.mul_le_mul_right P (show u2 + 1 ≤ s from h)
   rw [Nat.add_mul, Nat.one_mul] at this
   omega
  ·exact h
  ·have := Nat.mul_le_mul_right P (show s + 1 ≤ u2 from h)
   rw [Nat.add_mul, Nat.one_mul] at this
   omega
 subst e
 exact ⟨rfl, by omega⟩
theorem top_more {VV UU UM Z W P u2 s : Nat} (hV : VV + (Z + W) = UU + s * P) (hU : UM = UU + u2 * P) (hl : VV < P) (hW : W ≤ P) (h1 : Z ≤ UM) (h2 : UM < Z + W) : u2 + 1 = s ∧ VV + (Z + W) = UM + P := by
 have e : u2 + 1 = s := by
  rcases Nat.lt_trichotomy (u2 + 1) s with h | h | h
  ·have := Nat.mul_le_mul_right P (show u2 + 1 + 1 ≤ s from h)
   rw [Nat.add_mul, Nat.add_mul, Nat.one_mul] at this
   omega
  ·exact h
  ·have := Nat.mul_le_mul_right P (show s ≤ u2 by omega)
   omega
 subst e
 rw [Nat.add_mul, Nat.one_mul] at hV
 exact ⟨rfl, by omega⟩
theorem back {X X' Y W v c sl c' u i j : Nat} (hI : X + c * 4294967296 ^ (i + j) = Y + W * 4294967296 ^ j) (hX : X' + u * 4294967296 ^ (i + j) = X + sl * 4294967296 ^ (i + j)) (hs : u + v + c = sl + 4294967296 * c') :
  X' + c' * 4294967296 ^ (i + 1 + j) = Y + (W + v * 4294967296 ^ i) * 4294967296 ^ j := by
 have e1 : 4294967296 ^ (i + 1 + j) = 4294967296 ^ (i + j) * 4294967296 := by rw [← Nat.pow_succ]; congr 1; omega
 have e2 : 4294967296 ^ (i + j) = 4294967296 ^ i * 4294967296 ^ j := Nat.pow_add _ _ _
 have e3 : (u + v + c) * 4294967296 ^ (i + j) = (sl + 4294967296 * c') * 4294967296 ^ (i + j) := by rw [hs]
 have e4 : (W + v * 4294967296 ^ i) * 4294967296 ^ j = W * 4294967296 ^ j + v * 4294967296 ^ (i + j) := by rw [e2]; grind
 rw [e4, e1]
 generalize 4294967296 ^ (i + j) = P at *
 generalize W * 4294967296 ^ j = Z at *
 grind
theorem dig_le {T UM D BJ : Nat} (hT : T = UM / BJ) (hB : 0 < BJ) (hD : 0 < D) : T / D * D * BJ ≤ UM ∧ UM < T / D * D * BJ + D * BJ := by
 have h1 := Nat.div_add_mod T D
 have h2 := Nat.mod_lt T hD
 have h3 := Nat.div_add_mod UM BJ
 have h4 := Nat.mod_lt UM hB
 rw [← hT] at h3
 have h5 : T / D * D ≤ T := Nat.div_mul_le_self T D
 have h6 := Nat.mul_le_mul_right BJ h5
 have h7 : T + 1 ≤ T / D * D + D := by rw [Nat.mul_comm (T / D)]; omega
 have h8 := Nat.mul_le_mul_right BJ h7
 rw [Nat.add_mul, Nat.add_mul, Nat.one_mul] at h8
 rw [Nat.mul_comm BJ] at h3
 constructor <;> omega
theorem dig_step {Q : List Nat} {j q D VV UM R : Nat} (hj : j < Q.length) (hI : val (Q.drop (j + 1)) * (D * 4294967296 ^ (j + 1)) + UM = R) (hV : VV + q * D * 4294967296 ^ j = UM) :
  val ((Q.set j q).drop j) * (D * 4294967296 ^ j) + VV = R := by
 rw [val_drop (by simpa using hj), ld_set_same q hj, drop_set q (Nat.lt_succ_self j), ← hI, ← hV, Nat.pow_succ]
 generalize val (Q.drop (j + 1)) = X
 generalize 4294967296 ^ j = P
 grind
theorem end_div {Q X Y s D VU : Nat} (h : Q * D + VU = X * 2 ^ s) (hl : VU < D) (hD : D = Y * 2 ^ s) : Q = X / Y ∧ VU = X % Y * 2 ^ s := by
 subst hD
 have hp := Nat.two_pow_pos s
 have h1 : Q * Y ≤ X := by
  apply Nat.le_of_mul_le_mul_right (c := 2 ^ s) _ hp
  rw [Nat.mul_assoc]; omega
 obtain ⟨r, hr⟩ : ∃ r, X = Q * Y + r := ⟨X - Q * Y, by omega⟩
 have h2 : VU = r * 2 ^ s := by
  rw [hr, Nat.add_mul, Nat.mul_assoc] at h; omega
 have h3 : r < Y := by
  rw [h2] at hl; exact Nat.lt_of_mul_lt_mul_right hl
 have h4 : X / Y = Q := by rw [hr, Nat.mul_comm Q, Nat.mul_add_div (by omega), Nat.div_eq_of_lt h3]; omega
 have h5 : X % Y = r := by rw [hr, Nat.mul_comm Q, Nat.mul_add_mod, Nat.mod_eq_of_lt h3]
 exact ⟨h4.symm, by rw [h5]; exact h2⟩
theorem pos32 : 0 < 4294967296 := by omega
theorem sub_start (X q j : Nat) (f : Nat → Nat) : X + q * Dg.vf f 0 * 4294967296 ^ j = X + (0 + 0) * 4294967296 ^ (0 + j) := by simp [Dg.vf]
theorem back_start (X j : Nat) (f : Nat → Nat) : X + 0 * 4294967296 ^ (0 + j) = X + Dg.vf f 0 * 4294967296 ^ j := by simp [Dg.vf]
theorem top_all {VV UU UM D T BJ P u2 s q : Nat} (hV : VV + q * D * BJ = UU + s * P) (hU : UM = UU + u2 * P) (hl : VV < P) (hW : D * BJ ≤ P) (hT : T = UM / BJ) (hB : 0 < BJ) (hD : 0 < D) :
  (q = T / D → u2 = s ∧ VV + T / D * D * BJ = UM ∧ VV < D * BJ) ∧ (q = T / D + 1 → u2 + 1 = s ∧ VV + T / D * D * BJ + D * BJ = UM + P) := by
 obtain ⟨h1, h2⟩ := dig_le hT hB hD
 constructor
 ·rintro rfl
  obtain ⟨a, b⟩ := top_same hV hU hl hW h1 h2
  exact ⟨a, b, by omega⟩
 ·rintro rfl
  rw [Nat.add_mul, Nat.add_mul, Nat.one_mul] at hV
  obtain ⟨a, b⟩ := top_more hV hU hl hW h1 h2
  exact ⟨a, by omega⟩
theorem back_end {VV V0 UM T c D BJ P : Nat} (h : VV + c * P = V0 + D * BJ) (h0 : V0 + T / D * D * BJ + D * BJ = UM + P) (hl : VV < P) (hc : c ≤ 1) (hT : T = UM / BJ) (hB : 0 < BJ) (hD : 0 < D) :
  c = 1 ∧ VV + T / D * D * BJ = UM ∧ VV < D * BJ := by
 obtain ⟨h1, h2⟩ := dig_le hT hB hD
 have hc' : c = 0 ∨ c = 1 := by omega
 rcases hc' with rfl | rfl
 ·rw [Nat.zero_mul] at h; omega
 ·rw [Nat.one_mul] at h; exact ⟨rfl, by omega, by omega⟩
theorem vf_clear {V : List Nat} {m M : Nat} (hm : m ≤ M) (h0 : ld V m = 0) (hz : ∀ x, m < x → x < M → ld V x = 0) : vf (ld V) M = vf (ld V) m :=
 vf_cut hm fun x a b => by
  rcases Nat.eq_or_lt_of_le a with e | e
  ·rw [← e]; exact h0
  ·exact hz x e b
theorem above {U : List Nat} {D j p M x : Nat} (hD : D < 4294967296 ^ (p + 2)) (hU : vf (ld U) M < D * 4294967296 ^ (j + 1)) (hx : j + p + 3 ≤ x) (hM : x < M) : ld U x = 0 := by
 refine zero_above (k := j + p + 3) ?_ hx hM
 refine Nat.lt_of_lt_of_le hU ?_
 have := Nat.mul_le_mul_right (4294967296 ^ (j + 1)) (Nat.le_of_lt hD)
 rw [← Nat.pow_add] at this
 rwa [show j + p + 3 = p + 2 + (j + 1) by omega]
theorem vf_top {V U : List Nat} {D j p M x2 : Nat} (hx2 : x2 = j + p + 2) (hM : x2 < M) (hl : x2 < V.length) (hD : D < 4294967296 ^ (p + 2)) (hU : vf (ld U) M < D * 4294967296 ^ (j + 1)) (hd : ∀ x, x2 < x → ld V x = ld U x) :
  vf (ld (V.set x2 0)) M = vf (ld V) (j + p + 2) := by
 rw [vf_clear (m := x2) (Nat.le_of_lt hM) (ld_set_same 0 hl) (fun x a b => by rw [ld_set_other 0 (by omega), hd x a, above hD hU (by omega) b]), vf_set 0 (Nat.le_refl _), hx2]
theorem take_val {U : List Nat} {p M D : Nat} (hl : p + 2 ≤ U.length) (hM : p + 2 ≤ M) (hD : D ≤ 4294967296 ^ (p + 2)) (h : vf (ld U) M < D * 4294967296 ^ 0) : val (U.take (p + 2)) = vf (ld U) M := by
 rw [Nat.pow_zero, Nat.mul_one] at h
 rw [← vf_eq_val (L := U.take (p + 2)) (n := p + 2) (by rw [List.length_take]; omega), vf_cut hM (fun x a b => zero_above (Nat.lt_of_lt_of_le h hD) a b)]
 exact vf_congr fun j hj => by rw [ld_lt (by rw [List.length_take]; omega), ld_lt (by omega), List.getElem_take]
theorem end_all {Q U : List Nat} {p M D X Y s x y : Nat} (h : val (Q.drop 0) * (D * 4294967296 ^ 0) + vf (ld U) M = X * 2 ^ s) (hl : vf (ld U) M < D * 4294967296 ^ 0) (hD : D = Y * 2 ^ s) (hx : x = val Q) (ht : val (U.take (p + 2)) = vf (ld U) M) (hy : y = val (U.take (p + 2)) / 2 ^ s) :
  x = X / Y ∧ y = X % Y := by
 rw [Nat.pow_zero, Nat.mul_one] at h hl
 rw [List.drop_zero] at h
 obtain ⟨a, b⟩ := end_div h hl hD
 exact ⟨hx.trans a, by rw [hy, ht, b, Nat.mul_div_cancel _ (Nat.two_pow_pos s)]⟩
end Kn
