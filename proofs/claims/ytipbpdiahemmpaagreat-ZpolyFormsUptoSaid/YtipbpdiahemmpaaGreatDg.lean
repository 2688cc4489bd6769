/- Numbers as digits in the base 2^32, the lowest first. Nothing of the program. -/
namespace Dg

/-- The number of the first i digits. -/
def vf (f : Nat → Nat) : Nat → Nat
  | 0 => 0
  | i + 1 => vf f i + f i * 4294967296 ^ i
/-- The digit at a place; 0 past the end. -/
def ld (L : List Nat) (i : Nat) : Nat := L.getD i 0
def val : List Nat → Nat
  | [] => 0
  | x :: L => x + 4294967296 * val L
/-- All are words. -/
def Wd (L : List Nat) : Prop := ∀ x ∈ L, x < 4294967296
/-- No nought at the top. -/
def Nm (L : List Nat) : Prop := ∀ h : L ≠ [], L.getLast h ≠ 0

theorem ld_nil (i : Nat) : ld [] i = 0 := by simp [ld]
theorem ld_lt {L : List Nat} {i : Nat} (h : i < L.length) : ld L i = L[i] := by simp [ld, h]
theorem ld_ge {L : List Nat} {i : Nat} (h : L.length ≤ i) : ld L i = 0 := by simp [ld, h]
theorem ld_cons_zero (x : Nat) (L : List Nat) : ld (x :: L) 0 = x := rfl
theorem ld_cons_succ (x : Nat) (L : List Nat) (i : Nat) : ld (x :: L) (i + 1) = ld L i := by simp [ld]
theorem ld_word {L : List Nat} (h : Wd L) (i : Nat) : ld L i < 4294967296 := by
  by_cases hi : i < L.length
  · rw [ld_lt hi]; exact h _ (List.getElem_mem hi)
  · rw [ld_ge (by omega)]; omega
theorem ld_of_get {L : List Nat} {i x : Nat} (h : L[i]? = some x) : ld L i = x := by simp [ld, List.getD_eq_getElem?_getD, h]
theorem get_of_ld {L : List Nat} {i : Nat} (h : i < L.length) : L[i]? = some (ld L i) := by rw [ld_lt h, List.getElem?_eq_getElem h]
theorem ld_set_same {L : List Nat} {k : Nat} (s : Nat) (h : k < L.length) : ld (L.set k s) k = s := by
  rw [ld_lt (by simpa using h)]; simp
theorem ld_set_other {L : List Nat} {k i : Nat} (s : Nat) (h : i ≠ k) : ld (L.set k s) i = ld L i := by
  simp only [ld, List.getD_eq_getElem?_getD]
  rw [List.getElem?_set_ne (by omega)]
theorem ld_append_lt {L M : List Nat} {i : Nat} (h : i < L.length) : ld (L ++ M) i = ld L i := by
  simp only [ld, List.getD_eq_getElem?_getD]
  rw [List.getElem?_append_left h]
theorem ld_append_ge {L M : List Nat} {i : Nat} (h : L.length ≤ i) : ld (L ++ M) i = ld M (i - L.length) := by
  simp only [ld, List.getD_eq_getElem?_getD]
  rw [List.getElem?_append_right h]
theorem ld_replicate (n i : Nat) : ld (List.replicate n 0) i = 0 := by
  simp only [ld, List.getD_eq_getElem?_getD, List.getElem?_replicate]
  split <;> rfl

theorem vf_congr {f g : Nat → Nat} : ∀ {i : Nat}, (∀ j, j < i → f j = g j) → vf f i = vf g i
  | 0, _ => rfl
  | i + 1, h => by rw [vf, vf, vf_congr (fun j hj => h j (by omega)), h i (by omega)]
theorem vf_set {L : List Nat} {k i : Nat} (s : Nat) (h : i ≤ k) : vf (ld (L.set k s)) i = vf (ld L) i := vf_congr fun j hj => ld_set_other s (by omega)
theorem vf_succ (f : Nat → Nat) (i : Nat) : vf f (i + 1) = vf f i + f i * 4294967296 ^ i := rfl
theorem vf_shift (f : Nat → Nat) : ∀ i, vf f (i + 1) = f 0 + 4294967296 * vf (fun j => f (j + 1)) i
  | 0 => by simp [vf]
  | i + 1 => by
    rw [vf_succ f (i + 1), vf_shift f i, vf_succ _ i, Nat.pow_succ]
    grind
theorem vf_eq_val {L : List Nat} : ∀ {n : Nat}, L.length ≤ n → vf (ld L) n = val L := by
  induction L with
  | nil =>
    intro n _
    rw [vf_congr (g := fun _ => 0) (fun j _ => ld_nil j)]
    induction n with
    | zero => rfl
    | succ n ih => rw [vf_succ, ih (by simp)]; simp [val]
  | cons x L ih =>
    intro n hn
    obtain ⟨m, rfl⟩ : ∃ m, n = m + 1 := ⟨n - 1, by simp at hn; omega⟩
    rw [vf_shift, ld_cons_zero, vf_congr (g := ld L) (fun j _ => ld_cons_succ x L j), ih (by simpa using hn)]
    rfl
theorem vf_lt {f : Nat → Nat} (h : ∀ j, f j < 4294967296) : ∀ i, vf f i < 4294967296 ^ i
  | 0 => by simp [vf]
  | i + 1 => by
    have h1 := vf_lt h i
    have h2 := h i
    rw [vf_succ, Nat.pow_succ]
    have h3 : f i * 4294967296 ^ i + 4294967296 ^ i ≤ 4294967296 ^ i * 4294967296 := by
      have := Nat.mul_le_mul_right (4294967296 ^ i) (show f i + 1 ≤ 4294967296 by omega)
      grind
    omega
theorem val_lt {L : List Nat} (h : Wd L) : val L < 4294967296 ^ L.length := by
  rw [← vf_eq_val (Nat.le_refl _)]; exact vf_lt (ld_word h) _
theorem val_append (L M : List Nat) : val (L ++ M) = val L + 4294967296 ^ L.length * val M := by
  induction L with
  | nil => simp [val]
  | cons x L ih => simp only [List.cons_append, val, ih, List.length_cons, Nat.pow_succ]; grind
theorem val_snoc (L : List Nat) (x : Nat) : val (L ++ [x]) = val L + 4294967296 ^ L.length * x := by rw [val_append]; simp [val]
theorem val_zeros : ∀ n, val (List.replicate n 0) = 0
  | 0 => rfl
  | n + 1 => by rw [List.replicate_succ, val, val_zeros n]
theorem val_set : ∀ {L : List Nat} {k : Nat} (s : Nat), k < L.length → val (L.set k s) + ld L k * 4294967296 ^ k = val L + s * 4294967296 ^ k
  | [], k, s, h => by simp at h
  | x :: L, 0, s, _ => by simp [val, ld_cons_zero]; omega
  | x :: L, k + 1, s, h => by
    have ih := val_set (L := L) (k := k) s (by simpa using h)
    rw [List.set_cons_succ, val, val, ld_cons_succ, Nat.pow_succ]
    grind
theorem Wd.nil : Wd [] := fun _ h => by simp at h
theorem Wd.cons {x : Nat} {L : List Nat} (hx : x < 4294967296) (h : Wd L) : Wd (x :: L) := fun y hy => by
  rcases List.mem_cons.1 hy with rfl | hy
  · exact hx
  · exact h y hy
theorem Wd.append {L M : List Nat} (h : Wd L) (k : Wd M) : Wd (L ++ M) := fun y hy => (List.mem_append.1 hy).elim (h y) (k y)
theorem Wd.set {L : List Nat} (h : Wd L) (k : Nat) {s : Nat} (hs : s < 4294967296) : Wd (L.set k s) := fun y hy => by
  rcases List.mem_or_eq_of_mem_set hy with hy | rfl
  · exact h y hy
  · exact hs
theorem Wd.take {L : List Nat} (h : Wd L) (k : Nat) : Wd (L.take k) := fun y hy => h y (List.mem_of_mem_take hy)
theorem Wd.drop {L : List Nat} (h : Wd L) (k : Nat) : Wd (L.drop k) := fun y hy => h y (List.mem_of_mem_drop hy)
theorem Wd.zeros (n : Nat) : Wd (List.replicate n 0) := fun y hy => by rw [List.eq_of_mem_replicate hy]; omega
theorem Wd.of_get {L : List Nat} (h : Wd L) {i x : Nat} (hx : L[i]? = some x) : x < 4294967296 := h x (List.mem_of_getElem? hx)

/-- The digits of a number: its one normal form. -/
def dg (n : Nat) : List Nat := if h : n = 0 then [] else n % 4294967296 :: dg (n / 4294967296)
termination_by n
decreasing_by exact Nat.div_lt_self (by omega) (by omega)
theorem dg_zero : dg 0 = [] := by rw [dg]; rfl
theorem dg_pos {n : Nat} (h : n ≠ 0) : dg n = n % 4294967296 :: dg (n / 4294967296) := by rw [dg, dif_neg h]
theorem val_dg (n : Nat) : val (dg n) = n := by
  induction n using Nat.strongRecOn with
  | _ n ih =>
    by_cases h : n = 0
    · rw [h, dg_zero]; rfl
    · rw [dg_pos h, val, ih _ (Nat.div_lt_self (by omega) (by omega))]; omega
theorem dg_wd (n : Nat) : Wd (dg n) := by
  induction n using Nat.strongRecOn with
  | _ n ih =>
    by_cases h : n = 0
    · rw [h, dg_zero]; exact Wd.nil
    · rw [dg_pos h]; exact Wd.cons (Nat.mod_lt _ (by omega)) (ih _ (Nat.div_lt_self (by omega) (by omega)))
theorem dg_nil {n : Nat} : dg n = [] ↔ n = 0 := by
  constructor
  · intro h; rw [← val_dg n, h]; rfl
  · rintro rfl; exact dg_zero
theorem dg_val_cons {x v : Nat} (hx : x < 4294967296) (h : x + 4294967296 * v ≠ 0) : dg (x + 4294967296 * v) = x :: dg v := by
  rw [dg_pos h]; congr 1
  · omega
  · congr 1; omega
/-- Without noughts at the top, they are the digits. -/
theorem eq_dg : ∀ {L : List Nat}, Wd L → Nm L → L = dg (val L)
  | [], _, _ => by rw [val, dg_zero]
  | x :: L, hw, hn => by
    have hx : x < 4294967296 := hw x (by simp)
    have hL : Wd L := fun y hy => hw y (by simp [hy])
    have hnL : Nm L := fun h => by have := hn (by simp); rwa [List.getLast_cons h] at this
    have ih := eq_dg hL hnL
    have h0 : x + 4294967296 * val L ≠ 0 := by
      intro h
      have hx0 : x = 0 := by omega
      have hv : val L = 0 := by omega
      have hLn : L = [] := by rw [ih, hv, dg_zero]
      subst hLn
      exact hn (by simp) (by simpa using hx0)
    rw [val, dg_val_cons hx h0, ← ih]
theorem dg_nm (n : Nat) : Nm (dg n) := by
  induction n using Nat.strongRecOn with
  | _ n ih =>
    by_cases h : n = 0
    · rw [h, dg_zero]; exact fun h => absurd rfl h
    · intro hne
      have hlt := Nat.div_lt_self (show 0 < n by omega) (show 1 < 4294967296 by omega)
      have ihd := ih _ hlt
      have e := dg_pos h
      by_cases h0 : n / 4294967296 = 0
      · have e2 : dg n = [n % 4294967296] := by rw [e, h0, dg_zero]
        simp only [e2, List.getLast_singleton]
        omega
      · have hd : dg (n / 4294967296) ≠ [] := fun hh => h0 (dg_nil.1 hh)
        simp only [e, List.getLast_cons hd]
        exact ihd hd
theorem dg_inj {a b : Nat} (h : dg a = dg b) : a = b := by rw [← val_dg a, h, val_dg]
/-- A nought at the top says nothing. -/
theorem val_take {L : List Nat} {n : Nat} (h : ∀ i, n ≤ i → ld L i = 0) : val (L.take n) = val L := by
  rw [← vf_eq_val (L := L.take n) (n := n) (by simp; omega), ← vf_eq_val (L := L) (n := max n L.length) (by omega)]
  have hk : ∀ k, vf (ld L) (n + k) = vf (ld L) n := by
    intro k
    induction k with
    | zero => rfl
    | succ k ih => rw [← Nat.add_assoc, vf_succ, ih, h _ (by omega)]; simp
  have h1 := hk (max n L.length - n)
  rw [show n + (max n L.length - n) = max n L.length by omega] at h1
  rw [h1]
  refine vf_congr fun j hj => ?_
  by_cases hl : j < L.length
  · rw [ld_lt (by simp; omega), ld_lt hl]; simp
  · rw [ld_ge (by simp; omega), ld_ge (by omega)]
/-- How the size tells the length. -/
theorem dg_len_lt {n k : Nat} : (dg n).length ≤ k ↔ n < 4294967296 ^ k := by
  constructor
  · intro h
    have := val_lt (dg_wd n)
    rw [val_dg] at this
    exact Nat.lt_of_lt_of_le this (Nat.pow_le_pow_right (by omega) h)
  · intro h
    induction k generalizing n with
    | zero => have : n = 0 := by simpa using h
              subst this; simp [dg_zero]
    | succ k ih =>
      by_cases h0 : n = 0
      · subst h0; simp [dg_zero]
      · rw [dg_pos h0, List.length_cons]
        have : n / 4294967296 < 4294967296 ^ k := by
          rw [Nat.div_lt_iff_lt_mul (by omega), ← Nat.pow_succ]; exact h
        have := ih this
        omega
theorem dg_len_ge {n k : Nat} : k < (dg n).length ↔ 4294967296 ^ k ≤ n := by
  rw [← Nat.not_le, dg_len_lt, Nat.not_lt]
end Dg
namespace Dg
/-- -1, 0, 1. -/
def cmp (a b : Nat) : Int := if a < b then -1 else if a = b then 0 else 1
theorem cmp_lt {a b : Nat} (h : a < b) : cmp a b = -1 := by simp [cmp, h]
theorem cmp_eq {a b : Nat} (h : a = b) : cmp a b = 0 := by simp [cmp, h]
theorem cmp_gt {a b : Nat} (h : b < a) : cmp a b = 1 := by unfold cmp; rw [if_neg (by omega), if_neg (by omega)]
theorem vf_tail {f g : Nat → Nat} {t : Nat} (h : ∀ x, t < x → f x = g x) : ∀ d, vf f (t + 1 + d) + vf g (t + 1) = vf g (t + 1 + d) + vf f (t + 1)
  | 0 => by simp; omega
  | d + 1 => by
    have ih := vf_tail h d
    rw [← Nat.add_assoc, vf_succ f (t + 1 + d), vf_succ g (t + 1 + d), h _ (by omega)]
    omega
/-- Where they differ at the top, there the greater one is told. -/
theorem lt_of_top {L M : List Nat} {t : Nat} (hL : Wd L) (h : ∀ x, t < x → ld L x = ld M x) (ht : ld L t < ld M t) : val L < val M := by
  have e1 := vf_eq_val (L := L) (n := t + 1 + (L.length + M.length)) (by omega)
  have e2 := vf_eq_val (L := M) (n := t + 1 + (L.length + M.length)) (by omega)
  have h1 := vf_tail h (L.length + M.length)
  rw [e1, e2, vf_succ, vf_succ] at h1
  have h2 := vf_lt (ld_word hL) t
  have h3 := Nat.mul_le_mul_right (4294967296 ^ t) (show ld L t + 1 ≤ ld M t by omega)
  rw [Nat.add_mul] at h3
  omega
theorem eq_of_ld {L M : List Nat} (h : ∀ x, ld L x = ld M x) : val L = val M := by
  rw [← vf_eq_val (L := L) (n := L.length + M.length) (by omega), ← vf_eq_val (L := M) (n := L.length + M.length) (by omega)]
  exact vf_congr fun j _ => h j
theorem lt_of_len {a b : Nat} (h : (dg a).length < (dg b).length) : a < b := by
  have h1 := dg_len_ge.1 h
  have h2 := (dg_len_lt (n := a) (k := (dg a).length)).1 (Nat.le_refl _)
  omega
theorem val_two (n : Nat) : val [n % 4294967296, n / 4294967296] = n := by simp [val]; omega
theorem dg_len_one {n : Nat} (h : n < 4294967296) : (dg n).length ≤ 1 := dg_len_lt.2 (by simpa using h)
theorem ld_dg_one {n : Nat} (h : n < 4294967296) : ld (dg n) 0 = n := by
  by_cases h0 : n = 0
  · subst h0; rw [dg_zero]; rfl
  · rw [dg_pos h0, ld_cons_zero]; omega
end Dg
namespace Dg
theorem val_drop {L : List Nat} {t : Nat} (h : t < L.length) : val (L.drop t) = ld L t + 4294967296 * val (L.drop (t + 1)) := by
  rw [List.drop_eq_getElem_cons h, val, ld_lt h]
theorem drop_set {L : List Nat} {t k : Nat} (s : Nat) (h : t < k) : (L.set t s).drop k = L.drop k := by
  rw [List.drop_set]; rw [if_pos h]
theorem short_step {L O : List Nat} {t b r q : Nat} (hL : t < L.length) (hO : t < O.length) (hI : val (O.drop (t + 1)) * b + r = val (L.drop (t + 1)))
    (hq : q = (r * 4294967296 + ld L t) / b) : val ((O.set t q).drop t) * b + (r * 4294967296 + ld L t) % b = val (L.drop t) := by
  rw [val_drop hL, val_drop (by simpa using hO), ld_set_same q hO, drop_set q (Nat.lt_succ_self t), ← hI, hq]
  have h := Nat.div_add_mod (r * 4294967296 + ld L t) b
  grind
theorem short_lt {b r a : Nat} (hr : r < b) (ha : a < 4294967296) : (r * 4294967296 + a) / b < 4294967296 := by
  rw [Nat.div_lt_iff_lt_mul (by omega)]
  have := Nat.mul_le_mul_right 4294967296 (show r + 1 ≤ b by omega)
  rw [Nat.mul_comm b] at this
  omega
end Dg
namespace Dg
theorem vf_digits (N : Nat) : ∀ i, vf (fun j => N / 4294967296 ^ j % 4294967296) i = N % 4294967296 ^ i
  | 0 => by simp [vf, Nat.mod_one]
  | i + 1 => by rw [vf_succ, vf_digits N i, Nat.pow_succ, Nat.mod_mul, Nat.mul_comm (N / 4294967296 ^ i % 4294967296)]
theorem val_div {L : List Nat} (hw : Wd L) {i : Nat} (h : i ≤ L.length) : val L / 4294967296 ^ i = val (L.drop i) := by
  have e : val L = val (L.take i) + 4294967296 ^ i * val (L.drop i) := by
    have := val_append (L.take i) (L.drop i)
    rwa [List.take_append_drop, List.length_take, Nat.min_eq_left h] at this
  have hl : val (L.take i) < 4294967296 ^ i := by
    have := val_lt (hw.take i)
    rwa [List.length_take, Nat.min_eq_left h] at this
  rw [e, Nat.add_mul_div_left _ _ (Nat.pow_pos (by omega)), Nat.div_eq_of_lt hl, Nat.zero_add]
/-- A digit of what is shifted down. -/
theorem right_dig {L : List Nat} (hw : Wd L) {i s : Nat} (h : i < L.length) (hs : 2 ^ s ∣ 4294967296) :
    (ld L i + 4294967296 * ld L (i + 1)) / 2 ^ s % 4294967296 = val L / 2 ^ s / 4294967296 ^ i % 4294967296 := by
  obtain ⟨f, hf⟩ := hs
  rw [Nat.div_div_eq_div_mul, Nat.mul_comm (2 ^ s), ← Nat.div_div_eq_div_mul, val_div hw (Nat.le_of_lt h), val_drop h]
  have h2 : ∃ Z, val (L.drop (i + 1)) = ld L (i + 1) + 4294967296 * Z := by
    by_cases h1 : i + 1 < L.length
    · exact ⟨_, val_drop h1⟩
    · rw [ld_ge (by omega), List.drop_eq_nil_of_le (by omega)]
      exact ⟨0, rfl⟩
  obtain ⟨Z, hZ⟩ := h2
  rw [hZ, show ld L i + 4294967296 * (ld L (i + 1) + 4294967296 * Z) = (ld L i + 4294967296 * ld L (i + 1)) + 2 ^ s * (f * (4294967296 * Z)) by
    rw [← Nat.mul_assoc (2 ^ s), ← hf]; grind]
  rw [Nat.add_mul_div_left _ _ (Nat.two_pow_pos s), show f * (4294967296 * Z) = 4294967296 * (f * Z) by grind, Nat.add_mul_mod_self_left]
theorem right_val {L O : List Nat} (hw : Wd L) {s k : Nat} (hk : L.length = k) (hO : O.length = k) (h : ∀ x, x < k → ld O x = val L / 2 ^ s / 4294967296 ^ x % 4294967296) : val O = val L / 2 ^ s := by
  rw [← vf_eq_val (L := O) (n := k) (by omega), vf_congr h, vf_digits]
  refine Nat.mod_eq_of_lt (Nat.lt_of_le_of_lt (Nat.div_le_self _ _) ?_)
  have := val_lt hw
  rwa [hk] at this
end Dg
namespace Dg
theorem term_le' {f : Nat → Nat} {x : Nat} : ∀ {M : Nat}, x < M → f x * 4294967296 ^ x ≤ vf f M
  | 0, h => by omega
  | M + 1, h => by
    rw [vf_succ]
    by_cases hx : x = M
    · subst hx; omega
    · have := term_le' (f := f) (x := x) (M := M) (by omega); omega
end Dg
