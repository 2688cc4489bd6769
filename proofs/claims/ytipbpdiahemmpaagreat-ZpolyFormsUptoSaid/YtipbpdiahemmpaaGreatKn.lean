import Derived.Test.YtipbpdiahemmpaaGreatDg
/- Knuth's division: the guess of a digit, and what it is off by. Nothing of the program. -/
namespace Kn
/-- What is known of the numbers at one digit: D the divisor, T what is left of the dividend from the digit on. -/
structure At (D T top next t u2 P low lowT : Nat) : Prop where
  hD : D = (top * 4294967296 + next) * P + low
  hT : T = (t * 4294967296 + u2) * P + lowT
  low : low < P
  lowT : lowT < P
  top1 : 2147483648 ≤ top
  top2 : top < 4294967296
  next : next < 4294967296
  u2 : u2 < 4294967296
  lt : T < D * 4294967296
variable {D T top next t u2 P low lowT : Nat}
theorem At.big (h : At D T top next t u2 P low lowT) {q : Nat} (hq : t * 4294967296 + u2 < q * (top * 4294967296 + next)) : T < q * D := by
  have h1 := Nat.mul_le_mul_right P (Nat.succ_le_of_lt hq)
  have h2 : q * (top * 4294967296 + next) * P ≤ q * D := by
    rw [Nat.mul_assoc]
    exact Nat.mul_le_mul_left q (by rw [h.hD]; omega)
  have h3 := h.hT
  have h4 := h.lowT
  rw [Nat.succ_mul] at h1
  omega
theorem At.tlt (h : At D T top next t u2 P low lowT) : t < (top + 1) * 4294967296 := by
  have hP : 0 < P := by have := h.low; omega
  apply Classical.byContradiction
  intro hn
  have h1 : D < (top + 1) * 4294967296 * P := by
    have h2 : (top * 4294967296 + next + 1) * P ≤ (top + 1) * 4294967296 * P := Nat.mul_le_mul_right P (by have := h.next; omega)
    rw [Nat.add_mul _ 1, Nat.one_mul] at h2
    have h3 := h.hD
    have h4 := h.low
    omega
  have h2 : (top + 1) * 4294967296 * 4294967296 * P ≤ T := by
    have h3 : (top + 1) * 4294967296 * 4294967296 * P ≤ (t * 4294967296 + u2) * P := Nat.mul_le_mul_right P (by omega)
    have h4 := h.hT
    omega
  have h3 := h.lt
  have h4 : (top + 1) * 4294967296 * 4294967296 * P = (top + 1) * 4294967296 * P * 4294967296 := by grind
  omega
theorem At.close (h : At D T top next t u2 P low lowT) {q : Nat} (hq : q < 4294967296) (hv : q * (top * 4294967296 + next) ≤ t * 4294967296 + u2) : q * D < T + D := by
  have hP : 0 < P := by have := h.low; omega
  have h1 : q * D = q * (top * 4294967296 + next) * P + q * low := by rw [h.hD]; grind
  have h2 := Nat.mul_le_mul_right P hv
  have h3 : q * low ≤ 4294967295 * P := Nat.mul_le_mul (by omega) (Nat.le_of_lt h.low)
  have h4 : 4294967296 * P ≤ (top * 4294967296 + next) * P := Nat.mul_le_mul_right P (by have := h.top1; omega)
  have h5 := h.hT
  have h6 := h.hD
  omega
/-- The break: the rest is no limb any more. -/
theorem At.brk (h : At D T top next t u2 P low lowT) {q r : Nat} (he : q * top + r = t) (hr : 4294967296 ≤ r) : q < 4294967296 ∧ q * (top * 4294967296 + next) ≤ t * 4294967296 + u2 := by
  have h1 := h.tlt
  have h2 : q * top < top * 4294967296 := by rw [Nat.add_mul] at h1; omega
  have hq : q < 4294967296 := by
    apply Classical.byContradiction
    intro hn
    have := Nat.mul_le_mul_right top (show 4294967296 ≤ q by omega)
    rw [Nat.mul_comm 4294967296] at this
    omega
  refine ⟨hq, ?_⟩
  have h3 : q * next ≤ 4294967295 * 4294967295 := Nat.mul_le_mul (by omega) (by have := h.next; omega)
  have h4 : q * (top * 4294967296 + next) = q * top * 4294967296 + q * next := by grind
  rw [h4, ← he, Nat.add_mul]
  omega
/-- The test passed over. -/
theorem At.fin (_ : At D T top next t u2 P low lowT) {q r : Nat} (he : q * top + r = t) (hv : q * next ≤ r * 4294967296 + u2) : q * (top * 4294967296 + next) ≤ t * 4294967296 + u2 := by
  have h4 : q * (top * 4294967296 + next) = q * top * 4294967296 + q * next := by grind
  rw [h4, ← he, Nat.add_mul]
  omega
set_option maxRecDepth 100000 in
/-- The test met: one less. -/
theorem At.less (h : At D T top next t u2 P low lowT) {q r : Nat} (he : q * top + r = t) (hv : 4294967296 ≤ q ∨ r * 4294967296 + u2 < q * next) : T / D ≤ q - 1 ∧ 1 ≤ q := by
  have hD0 : 0 < D := by
    rcases Nat.eq_zero_or_pos D with h0 | h0
    · have := h.lt; rw [h0] at this; omega
    · exact h0
  have hlt : T / D < q := by
    rcases hv with hv | hv
    · have h1 : T / D < 4294967296 := by
        rw [Nat.div_lt_iff_lt_mul hD0, Nat.mul_comm]
        exact h.lt
      have h5 : ¬ q ≤ T / D := fun h6 => absurd (Nat.le_trans hv h6) (Nat.not_le_of_gt h1)
      exact Nat.lt_of_not_le h5
    · rw [Nat.div_lt_iff_lt_mul hD0]
      refine h.big ?_
      have h4 : q * (top * 4294967296 + next) = q * top * 4294967296 + q * next := by grind
      rw [h4, ← he, Nat.add_mul, Nat.add_assoc]
      exact Nat.add_lt_add_left hv _
  exact ⟨Nat.le_sub_one_of_lt hlt, Nat.lt_of_le_of_lt (Nat.zero_le _) hlt⟩
/-- The guess is the digit, or one more. -/
theorem At.guess (h : At D T top next t u2 P low lowT) {q : Nat} (hQ : T / D ≤ q) (hq : q < 4294967296) (hv : q * (top * 4294967296 + next) ≤ t * 4294967296 + u2) : q = T / D ∨ q = T / D + 1 := by
  have h1 := h.close hq hv
  have hD0 : 0 < D := by
    rcases Nat.eq_zero_or_pos D with h0 | h0
    · have := h.lt; rw [h0] at this; omega
    · exact h0
  have h2 : q - 1 ≤ T / D := by
    rw [Nat.le_div_iff_mul_le hD0, Nat.sub_mul]
    omega
  omega
end Kn

namespace Dg
theorem vf_split (f : Nat → Nat) (j : Nat) : ∀ c, vf f (j + c) = vf f j + 4294967296 ^ j * vf (fun x => f (j + x)) c
  | 0 => by simp [vf]
  | c + 1 => by
    rw [← Nat.add_assoc, vf_succ, vf_split f j c, vf_succ, Nat.pow_add, Nat.mul_add]
    grind
theorem vf_set_in {U : List Nat} {k : Nat} (s : Nat) (hl : k < U.length) : ∀ {n : Nat}, k < n → vf (ld (U.set k s)) n + ld U k * 4294967296 ^ k = vf (ld U) n + s * 4294967296 ^ k
  | 0, h => by omega
  | n + 1, h => by
    rw [vf_succ, vf_succ]
    by_cases hk : k = n
    · subst hk
      rw [vf_set s (Nat.le_refl k), ld_set_same s hl]
      omega
    · have ih := vf_set_in s hl (n := n) (by omega)
      rw [ld_set_other s (by omega)]
      omega
theorem term_le (f : Nat → Nat) {x : Nat} : ∀ {M : Nat}, x < M → f x * 4294967296 ^ x ≤ vf f M
  | 0, h => by omega
  | M + 1, h => by
    rw [vf_succ]
    by_cases hx : x = M
    · subst hx; omega
    · have := term_le f (x := x) (M := M) (by omega); omega
theorem zero_above {f : Nat → Nat} {M k x : Nat} (h : vf f M < 4294967296 ^ k) (hk : k ≤ x) (hx : x < M) : f x = 0 := by
  have h1 := term_le f hx
  have h2 : 4294967296 ^ k ≤ 4294967296 ^ x := Nat.pow_le_pow_right (by omega) hk
  apply Classical.byContradiction
  intro hn
  have h3 := Nat.mul_le_mul_right (4294967296 ^ x) (show 1 ≤ f x by omega)
  omega
theorem vf_cut {f : Nat → Nat} {k : Nat} : ∀ {M : Nat}, k ≤ M → (∀ x, k ≤ x → x < M → f x = 0) → vf f M = vf f k
  | 0, h, _ => by rw [show k = 0 by omega]
  | M + 1, h, hz => by
    by_cases hk : k = M + 1
    · rw [hk]
    · rw [vf_succ, hz M (by omega) (by omega), vf_cut (k := k) (M := M) (by omega) (fun x a b => hz x a (by omega))]; simp
end Dg
namespace Kn
open Dg
/-- The state at one digit: what is read of the two numbers. -/
theorem at_digit {V U : List Nat} {p j M : Nat} (hV : Wd V) (hU : Wd U) (hM : j + p + 3 ≤ M) (htop : 2147483648 ≤ ld V (p + 1))
    (hlt : vf (ld U) M < vf (ld V) (p + 2) * 4294967296 ^ (j + 1)) :
    At (vf (ld V) (p + 2)) (vf (ld U) M / 4294967296 ^ j) (ld V (p + 1)) (ld V p) (ld U (j + p + 2) * 4294967296 + ld U (j + p + 1)) (ld U (j + p)) (4294967296 ^ p) (vf (ld V) p) (vf (fun x => ld U (j + x)) p) ∧
      vf (ld U) M / 4294967296 ^ j = vf (fun x => ld U (j + x)) (p + 3) ∧ vf (ld U) M = vf (ld U) (j + p + 3) := by
  have hD : vf (ld V) (p + 2) < 4294967296 ^ (p + 2) := vf_lt (ld_word hV) _
  have hb : vf (ld U) M < 4294967296 ^ (j + p + 3) := by
    refine Nat.lt_of_lt_of_le hlt ?_
    have := Nat.mul_le_mul_right (4294967296 ^ (j + 1)) (Nat.le_of_lt hD)
    rw [← Nat.pow_add] at this
    rwa [show j + p + 3 = p + 2 + (j + 1) by omega]
  have hc : vf (ld U) M = vf (ld U) (j + p + 3) := vf_cut hM (fun x a b => zero_above hb a b)
  have hT : vf (ld U) M / 4294967296 ^ j = vf (fun x => ld U (j + x)) (p + 3) := by
    rw [hc, show j + p + 3 = j + (p + 3) by omega, vf_split, Nat.add_mul_div_left _ _ (Nat.pow_pos (by omega)), Nat.div_eq_of_lt (vf_lt (ld_word hU) j), Nat.zero_add]
  refine ⟨⟨?_, ?_, vf_lt (ld_word hV) p, vf_lt (fun x => ld_word hU (j + x)) p, htop, ld_word hV _, ld_word hV _, ld_word hU _, ?_⟩, hT, hc⟩
  · rw [vf_succ, vf_succ, Nat.pow_succ]; grind
  · rw [hT, vf_succ, vf_succ, vf_succ, Nat.pow_succ, Nat.pow_succ]
    simp only [Nat.add_assoc]
    grind
  · rw [Nat.div_lt_iff_lt_mul (Nat.pow_pos (by omega)), Nat.mul_assoc, ← Nat.pow_succ', Nat.add_comm]
    rwa [Nat.add_comm] at hlt
end Kn
namespace Kn
open Dg
theorem top_lt {L : List Nat} {p : Nat} (hw : Wd L) (hl : L.length = p + 2) : val L < (ld L (p + 1) + 1) * 4294967296 ^ (p + 1) ∧ ld L (p + 1) * 4294967296 ^ (p + 1) ≤ val L := by
  have e := vf_eq_val (L := L) (n := p + 2) (by omega)
  rw [vf_succ] at e
  have h1 := vf_lt (ld_word hw) (p + 1)
  rw [Nat.add_mul, Nat.one_mul]
  constructor <;> omega
/-- The divisor, shifted. -/
theorem norm_v {L O : List Nat} {p s k tp : Nat} (hw : Wd L) (hl : L.length = p + 2) (htp : tp = ld L (p + 1)) (hk : k ≤ 31) (hs : s = 31 - k) (h1 : 2 ^ k ≤ tp) (h2 : tp < 2 ^ (k + 1)) :
    val L * 2 ^ s < 4294967296 ^ (p + 2) ∧ (Wd O → O.length = p + 2 → val O = val L * 2 ^ s → 2147483648 ≤ ld O (p + 1)) := by
  obtain ⟨t1, t2⟩ := top_lt hw hl
  rw [← htp] at t1 t2
  have e31 : 2 ^ k * 2 ^ s = 2147483648 := by rw [← Nat.pow_add, show k + s = 31 by omega]
  have e32 : 2 ^ (k + 1) * 2 ^ s = 4294967296 := by rw [← Nat.pow_add, show k + 1 + s = 32 by omega]
  constructor
  · have h3 : (tp + 1) * 2 ^ s ≤ 4294967296 := by rw [← e32]; exact Nat.mul_le_mul_right _ h2
    have h4 : val L * 2 ^ s < (tp + 1) * 4294967296 ^ (p + 1) * 2 ^ s := Nat.mul_lt_mul_of_pos_right t1 (Nat.two_pow_pos s)
    have h5 : (tp + 1) * 4294967296 ^ (p + 1) * 2 ^ s = (tp + 1) * 2 ^ s * 4294967296 ^ (p + 1) := by grind
    have h6 : (tp + 1) * 2 ^ s * 4294967296 ^ (p + 1) ≤ 4294967296 * 4294967296 ^ (p + 1) := Nat.mul_le_mul_right _ h3
    rw [show p + 2 = (p + 1) + 1 from rfl, Nat.pow_succ _ (p + 1), Nat.mul_comm _ 4294967296]
    omega
  · intro hO hOl hv
    have h3 := (top_lt hO hOl).1
    have h4 : 2147483648 * 4294967296 ^ (p + 1) ≤ val O := by
      rw [hv, ← e31]
      have h5 := Nat.mul_le_mul_right (2 ^ s) t2
      have h6 : 2 ^ k * 2 ^ s * 4294967296 ^ (p + 1) ≤ tp * 4294967296 ^ (p + 1) * 2 ^ s := by
        have := Nat.mul_le_mul_right (2 ^ s * 4294967296 ^ (p + 1)) h1
        grind
      omega
    have h5 := Nat.lt_of_le_of_lt h4 h3
    have h6 := Nat.lt_of_mul_lt_mul_right h5
    omega
end Kn
namespace Kn
open Dg
/-- The dividend, shifted, with a limb more. -/
theorem norm_u {L L' O1 O2 : List Nat} {p e s m2 : Nat} (hw : Wd L) (hl : L.length = p + 2 + e) (hO1 : O1.length = p + 5) (hv1 : val (O1.take (p + 2)) = val L' * 2 ^ s) (htop : 2147483648 ≤ ld O1 (p + 1)) (hs : s < 32)
    (hO2 : O2.length = p + 2 + e + 3) (hm1 : p + 2 + e ≤ m2) (hm2 : m2 ≤ p + 2 + e + 1) (hv2 : val (O2.take m2) = val L * 2 ^ s) :
    vf (ld O1) (p + 2) = val L' * 2 ^ s ∧ vf (ld ((O2.set m2 0).set (m2 + 1) 0)) (p + 2 + e + 1) = val L * 2 ^ s ∧ val L * 2 ^ s < vf (ld O1) (p + 2) * 4294967296 ^ (e + 1) := by
  have hD : vf (ld O1) (p + 2) = val L' * 2 ^ s := by
    rw [← hv1, ← vf_eq_val (L := O1.take (p + 2)) (n := p + 2) (by simp; omega)]
    exact vf_congr fun j hj => by rw [ld_lt (by omega), ld_lt (by rw [List.length_take]; omega), List.getElem_take]
  refine ⟨hD, ?_, ?_⟩
  · rw [← hv2, ← vf_eq_val (L := O2.take m2) (n := p + 2 + e + 1) (by simp; omega)]
    refine vf_congr fun j hj => ?_
    rw [ld_set_other 0 (by omega)]
    by_cases h : j = m2
    · subst h
      rw [ld_set_same 0 (by omega), ld_ge (by rw [List.length_take]; omega)]
    · rw [ld_set_other 0 h, ld_lt (by omega), ld_lt (by rw [List.length_take]; omega), List.getElem_take]
  · have h1 : 2147483648 * 4294967296 ^ (p + 1) ≤ vf (ld O1) (p + 2) := by
      rw [vf_succ]
      have := Nat.mul_le_mul_right (4294967296 ^ (p + 1)) htop
      omega
    have h2 := val_lt hw
    rw [hl] at h2
    have h3 : 2 ^ s ≤ 2147483648 := Nat.pow_le_pow_right (by omega) (show s ≤ 31 by omega)
    have h4 : val L * 2 ^ s < 4294967296 ^ (p + 2 + e) * 2147483648 := Nat.lt_of_lt_of_le (Nat.mul_lt_mul_of_pos_right h2 (Nat.two_pow_pos s)) (Nat.mul_le_mul_left _ h3)
    have h5 := Nat.mul_le_mul_right (4294967296 ^ (e + 1)) h1
    have h6 : 2147483648 * 4294967296 ^ (p + 1) * 4294967296 ^ (e + 1) = 4294967296 ^ (p + 2 + e) * 2147483648 := by
      rw [show p + 2 + e = (p + 1) + (e + 1) by omega, Nat.pow_add]; grind
    omega
end Kn
namespace Kn
theorem At.start {D T top next t u2 P low lowT : Nat} (h : At D T top next t u2 P low lowT) : T / D ≤ t / top := by
  have hD0 : 0 < D := by
    rcases Nat.eq_zero_or_pos D with h0 | h0
    · have := h.lt; rw [h0] at this; omega
    · exact h0
  have h1 : T / D < t / top + 1 := by
    rw [Nat.div_lt_iff_lt_mul hD0]
    refine h.big ?_
    have ht : 0 < top := by have := h.top1; omega
    have h2 : t + 1 ≤ (t / top + 1) * top := by
      have h3 := Nat.div_add_mod t top
      have h4 := Nat.mod_lt t ht
      rw [Nat.add_mul, Nat.one_mul, Nat.mul_comm (t / top)]
      omega
    have h5 := Nat.mul_le_mul_right 4294967296 h2
    have h6 : (t / top + 1) * (top * 4294967296 + next) = (t / top + 1) * top * 4294967296 + (t / top + 1) * next := by grind
    have h7 := h.u2
    rw [h6]
    rw [Nat.add_mul t 1] at h5
    omega
  omega
end Kn
namespace Kn
open Dg
/-- One limb of the subtraction: what p, the carries and the digit are. -/
theorem msub {X X' Y W q v cy br u pl cy' dl br' i j : Nat} (hI : X + q * W * 4294967296 ^ j = Y + (cy + br) * 4294967296 ^ (i + j)) (hX : X' + u * 4294967296 ^ (i + j) = X + dl * 4294967296 ^ (i + j))
    (hp : q * v + cy = pl + 4294967296 * cy') (hd : dl + pl + br = u + 4294967296 * br') :
    X' + q * (W + v * 4294967296 ^ i) * 4294967296 ^ j = Y + (cy' + br') * 4294967296 ^ (i + 1 + j) := by
  have e1 : 4294967296 ^ (i + 1 + j) = 4294967296 ^ (i + j) * 4294967296 := by rw [← Nat.pow_succ]; congr 1; omega
  have e2 : 4294967296 ^ (i + j) = 4294967296 ^ i * 4294967296 ^ j := Nat.pow_add _ _ _
  have e3 : (q * v + cy) * 4294967296 ^ (i + j) = (pl + 4294967296 * cy') * 4294967296 ^ (i + j) := by rw [hp]
  have e4 : (dl + pl + br) * 4294967296 ^ (i + j) = (u + 4294967296 * br') * 4294967296 ^ (i + j) := by rw [hd]
  have e5 : q * (W + v * 4294967296 ^ i) * 4294967296 ^ j = q * W * 4294967296 ^ j + q * v * 4294967296 ^ (i + j) := by rw [e2]; grind
  rw [e5, e1]
  generalize 4294967296 ^ (i + j) = P at *
  generalize q * W * 4294967296 ^ j = Z at *
  grind
/-- The numbers of one limb of the subtraction. -/
theorem msub_nums (q v cy br u : Nat) (hq : q < 4294967296) (hv : v < 4294967296) (hcy : cy < 4294967296) (hbr : br ≤ 1) (hu : u < 4294967296) :
    ∃ pv pr pl cy' w1 dd dl br' : Nat, pv = q * v ∧ pv ≤ 18446744065119617025 ∧ pr = pv + cy ∧ pr < 18446744073709551616 ∧ pl = pr % 4294967296 ∧ cy' = pr / 4294967296 ∧ cy' < 4294967296 ∧
      (w1 : Int) = ((u : Int) - pl) % 18446744073709551616 ∧ (dd : Int) = ((w1 : Int) - br) % 18446744073709551616 ∧ dl = dd % 4294967296 ∧ br' = dd / 9223372036854775808 ∧ br' ≤ 1 ∧ dl < 4294967296 ∧ q * v + cy = pl + 4294967296 * cy' ∧ dl + pl + br = u + 4294967296 * br' := by
  have h1 := Nat.mul_le_mul (show q ≤ 4294967295 by omega) (show v ≤ 4294967295 by omega)
  refine ⟨q * v, q * v + cy, (q * v + cy) % 4294967296, (q * v + cy) / 4294967296, (((u : Int) - ((q * v + cy) % 4294967296 : Nat)) % 18446744073709551616).toNat, (((((u : Int) - ((q * v + cy) % 4294967296 : Nat)) % 18446744073709551616).toNat - br : Int) % 18446744073709551616).toNat, _, _, rfl, h1, rfl, ?_, rfl, rfl, ?_, ?_, ?_, rfl, rfl, ?_⟩
  all_goals generalize q * v = m at *
  · omega
  · omega
  · omega
  · omega
  · refine ⟨?_, ?_, ?_, ?_⟩ <;> omega
end Kn
