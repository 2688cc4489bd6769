/- Products of polynomials over the integers, term by term; sizes. Nothing of the program. -/
import Derived.Test.YtipbpdiahemmpaaGreatPz
import Derived.Test.YtipbpdiahemmpaaGreatI0
namespace Pz
/-- The terms of the first i coefficients of a, times b. -/
def cvp (a b : Nat → Int) : Nat → Nat → Int
  | 0, _ => 0
  | i + 1, t => cvp a b i t + (if i ≤ t then a i * b (t - i) else 0)
theorem cvp_zero (a b : Nat → Int) (t : Nat) : cvp a b 0 t = 0 := rfl
theorem cvp_succ (a b : Nat → Int) (i t : Nat) : cvp a b (i + 1) t = cvp a b i t + (if i ≤ t then a i * b (t - i) else 0) := rfl
theorem cvp_congr {a a' b b' : Nat → Int} (ha : ∀ i, a i = a' i) (hb : ∀ i, b i = b' i) (t : Nat) : ∀ i, cvp a b i t = cvp a' b' i t
  | 0 => rfl
  | i + 1 => by rw [cvp_succ, cvp_succ, cvp_congr ha hb t i, ha, hb]
theorem cvp_stop {a b : Nat → Int} {k : Nat} (h : ∀ i, k ≤ i → a i = 0) (t : Nat) : ∀ d, cvp a b (k + d) t = cvp a b k t
  | 0 => rfl
  | d + 1 => by
    rw [show k + (d + 1) = (k + d) + 1 by omega, cvp_succ, cvp_stop h t d, h _ (by omega)]
    simp
theorem cvp_stop' {a b : Nat → Int} {k m : Nat} (h : ∀ i, k ≤ i → a i = 0) (hm : k ≤ m) (t : Nat) : cvp a b m t = cvp a b k t := by
  obtain ⟨d, rfl⟩ : ∃ d, m = k + d := ⟨m - k, by omega⟩
  exact cvp_stop h t d
theorem cvp_above {a b : Nat → Int} {k : Nat} (hb : ∀ i, k ≤ i → b i = 0) : ∀ {i t : Nat}, i + k ≤ t + 1 → cvp a b i t = 0
  | 0, _, _ => rfl
  | i + 1, t, h => by
    rw [cvp_succ, cvp_above hb (by omega), hb (t - i) (by omega)]
    simp
/-- In the midst of the i-th row. -/
def cvm (a b : Nat → Int) (i k t : Nat) : Int := cvp a b i t + (if i ≤ t ∧ t < i + k then a i * b (t - i) else 0)
theorem cvm_zero (a b : Nat → Int) (i t : Nat) : cvm a b i 0 t = cvp a b i t := by
  unfold cvm
  rw [if_neg (by omega), Int.add_zero]
theorem cvm_end {a b : Nat → Int} {k : Nat} (hb : ∀ i, k ≤ i → b i = 0) (i t : Nat) : cvm a b i k t = cvp a b (i + 1) t := by
  unfold cvm
  rw [cvp_succ]
  by_cases h1 : i ≤ t
  · rw [if_pos h1]
    by_cases h2 : t < i + k
    · rw [if_pos ⟨h1, h2⟩]
    · rw [if_neg (by omega), hb (t - i) (by omega), Int.mul_zero]
  · rw [if_neg h1, if_neg (by omega)]
theorem cvm_step (a b : Nat → Int) (i k t : Nat) : cvm a b i (k + 1) t = if t = i + k then cvm a b i k (i + k) + a i * b k else cvm a b i k t := by
  unfold cvm
  by_cases h : t = i + k
  · subst h
    rw [if_pos rfl, if_pos (by omega), if_neg (by omega), show i + k - i = k by omega, Int.add_zero]
  · rw [if_neg h]
    congr 1
    by_cases h2 : i ≤ t ∧ t < i + k
    · rw [if_pos h2, if_pos (by omega)]
    · rw [if_neg h2, if_neg (by omega)]
theorem mul_size {x y : Int} {N N' : Nat} (hx : Zz.zl x ≤ N) (hy : Zz.zl y ≤ N') : (x * y).natAbs ≤ 4294967296 ^ (N + N') := by
  have e := Zz.zl_mul x y
  exact Nat.le_of_lt (Zz.zl_le.1 (show Zz.zl (x * y) ≤ N + N' by omega))
theorem cvp_size {a b : Nat → Int} {N N' : Nat} (ha : ∀ i, Zz.zl (a i) ≤ N) (hb : ∀ i, Zz.zl (b i) ≤ N') (t : Nat) : ∀ i, (cvp a b i t).natAbs ≤ i * 4294967296 ^ (N + N')
  | 0 => by simp [cvp_zero]
  | i + 1 => by
    have ih := cvp_size ha hb t i
    have e := mul_size (ha i) (hb (t - i))
    rw [cvp_succ, Nat.succ_mul]
    split
    · omega
    · omega
theorem cvm_zl {a b : Nat → Int} {N N' : Nat} (ha : ∀ i, Zz.zl (a i) ≤ N) (hb : ∀ i, Zz.zl (b i) ≤ N') {i : Nat} (hi : i < 4294967295) (k t : Nat) : Zz.zl (cvm a b i k t) ≤ N + N' + 1 := by
  rw [Zz.zl_le, Nat.pow_succ]
  have e1 := cvp_size ha hb t i
  have e2 := mul_size (ha i) (hb (t - i))
  have hp : 0 < 4294967296 ^ (N + N') := Nat.pow_pos (by omega)
  have e3 : (i + 1) * 4294967296 ^ (N + N') < 4294967296 ^ (N + N') * 4294967296 := by
    rw [Nat.mul_comm]
    exact Nat.mul_lt_mul_of_pos_left (by omega) hp
  rw [Nat.succ_mul] at e3
  unfold cvm
  split
  · omega
  · omega
theorem cvp_zl {a b : Nat → Int} {N N' : Nat} (ha : ∀ i, Zz.zl (a i) ≤ N) (hb : ∀ i, Zz.zl (b i) ≤ N') {i : Nat} (hi : i < 4294967295) (t : Nat) : Zz.zl (cvp a b i t) ≤ N + N' + 1 := by
  rw [← cvm_zero]; exact cvm_zl ha hb hi 0 t
end Pz

/- Values of polynomials over the integers. Nothing of the program. -/
namespace Pz
/-- From the top down. -/
def hor (a : Nat → Int) (x : Int) (n : Nat) : Nat → Int
  | 0 => 0
  | d + 1 => hor a x n d * x + a (n - 1 - d)
/-- From the bottom up. -/
def psum (a : Nat → Int) (x : Int) : Nat → Int
  | 0 => 0
  | i + 1 => psum a x i + a i * x ^ i
theorem hor_succ (a : Nat → Int) (x : Int) (n d : Nat) : hor a x n (d + 1) = hor a x n d * x + a (n - 1 - d) := rfl
theorem psum_succ (a : Nat → Int) (x : Int) (i : Nat) : psum a x (i + 1) = psum a x i + a i * x ^ i := rfl
theorem hor_psum (a : Nat → Int) (x : Int) (n : Nat) : ∀ d, d ≤ n → hor a x n d * x ^ (n - d) + psum a x (n - d) = psum a x n
  | 0, _ => by simp [hor]
  | d + 1, h => by
    have ih := hor_psum a x n d (by omega)
    obtain ⟨k, hk⟩ : ∃ k, n - d = k + 1 := ⟨n - d - 1, by omega⟩
    rw [hk, psum_succ] at ih
    rw [hor_succ, show n - (d + 1) = k by omega, show n - 1 - d = k by omega, ← ih, Int.pow_succ]
    generalize x ^ k = p
    generalize psum a x k = s
    generalize hor a x n d = y
    generalize a k = z
    grind
theorem hor_all (a : Nat → Int) (x : Int) (n : Nat) : hor a x n n = psum a x n := by
  have h := hor_psum a x n n (Nat.le_refl _)
  rw [Nat.sub_self] at h
  simpa [psum] using h
theorem hor_zl {a : Nat → Int} {x : Int} {N N' : Nat} (ha : ∀ i, Zz.zl (a i) ≤ N) (hx : Zz.zl x ≤ N') (n : Nat) : ∀ d, Zz.zl (hor a x n d) ≤ N + d * (N' + 1)
  | 0 => by rw [show hor a x n 0 = 0 from rfl, Zz.zl_zero]; omega
  | d + 1 => by
    have ih := hor_zl ha hx n d
    have e1 := Zz.zl_add (hor a x n d * x) (a (n - 1 - d))
    have e2 := Zz.zl_mul (hor a x n d) x
    have e3 := ha (n - 1 - d)
    rw [hor_succ, Nat.succ_mul]
    omega
end Pz

/- Polynomials as coefficient functions with values in Int: products, tops, division with a rest is of one kind. Nothing of the program. -/
namespace Pz
/-- The product of two polynomials. -/
def cv (a b : Nat → Int) : Nat → Int
  | 0 => a 0 * b 0
  | k + 1 => a 0 * b (k + 1) + cv (fun i => a (i + 1)) b k
theorem cv_right (a b : Nat → Int) : ∀ k, cv a b (k + 1) = cv a (fun i => b (i + 1)) k + a (k + 1) * b 0 := by
  intro k
  induction k generalizing a with
  | zero => simp [cv]
  | succ k ih =>
    rw [cv, ih, cv]
    grind
theorem cv_comm (a b : Nat → Int) (k : Nat) : cv a b k = cv b a k := by
  induction k generalizing a with
  | zero => simp only [cv]; grind
  | succ k ih => rw [cv, cv_right b a, ih]; grind
theorem cv_congr {a a' b b' : Nat → Int} {k : Nat} (h : ∀ i, i ≤ k → a i = a' i) (h' : ∀ i, i ≤ k → b i = b' i) : cv a b k = cv a' b' k := by
  induction k generalizing a a' with
  | zero => simp [cv, h 0 (Nat.le_refl _), h' 0 (Nat.le_refl _)]
  | succ k ih => rw [cv, cv, h 0 (Nat.zero_le _), h' (k + 1) (Nat.le_refl _), ih (fun i hi => h (i + 1) (by omega)) (fun i hi => h' i (by omega))]
theorem cv_add_left (a b c : Nat → Int) (k : Nat) : cv (fun i => a i + b i) c k = cv a c k + cv b c k := by
  induction k generalizing a b with
  | zero => simp only [cv]; grind
  | succ k ih => rw [cv, cv, cv, ih]; grind
theorem cv_add_right (a b c : Nat → Int) (k : Nat) : cv a (fun i => b i + c i) k = cv a b k + cv a c k := by
  rw [cv_comm, cv_add_left, cv_comm b, cv_comm c]
theorem cv_smul_left (x : Int) (a b : Nat → Int) (k : Nat) : cv (fun i => x * a i) b k = x * cv a b k := by
  induction k generalizing a with
  | zero => simp only [cv]; grind
  | succ k ih => rw [cv, cv, ih]; grind
theorem cv_smul_right (x : Int) (a b : Nat → Int) (k : Nat) : cv a (fun i => x * b i) k = x * cv a b k := by
  rw [cv_comm, cv_smul_left, cv_comm]
theorem cv_sub_left (a b c : Nat → Int) (k : Nat) : cv (fun i => a i - b i) c k = cv a c k - cv b c k := by
  induction k generalizing a b with
  | zero => simp only [cv]; grind
  | succ k ih => rw [cv, cv, cv, ih]; grind
theorem cv_sub_right (a b c : Nat → Int) (k : Nat) : cv a (fun i => b i - c i) k = cv a b k - cv a c k := by
  rw [cv_comm, cv_sub_left, cv_comm b, cv_comm c]
theorem cv_zero_left (b : Nat → Int) (k : Nat) : cv (fun _ => 0) b k = 0 := by
  induction k with
  | zero => simp only [cv]; grind
  | succ k ih => rw [cv, ih]; grind
theorem cv_zero_right (a : Nat → Int) (k : Nat) : cv a (fun _ => 0) k = 0 := by rw [cv_comm, cv_zero_left]
theorem cv_assoc (a b c : Nat → Int) (k : Nat) : cv (cv a b) c k = cv a (cv b c) k := by
  induction k generalizing a with
  | zero => simp only [cv]; grind
  | succ k ih =>
    rw [cv, cv, show (fun i => cv a b (i + 1)) = (fun i => a 0 * b (i + 1) + cv (fun j => a (j + 1)) b i) from rfl, cv_add_left, cv_smul_left, ih, cv, cv]
    grind
/-- c x^n -/
def mono (c : Int) (n : Nat) : Nat → Int := fun i => if i = n then c else 0
theorem cv_mono (c : Int) (b : Nat → Int) (n k : Nat) : cv (mono c n) b k = if n ≤ k then c * b (k - n) else 0 := by
  induction n generalizing k with
  | zero =>
    cases k with
    | zero => simp [cv, mono]
    | succ k =>
      rw [cv, show (fun i => mono c 0 (i + 1)) = fun _ => 0 from funext fun i => by simp [mono], cv_zero_left]
      simp [mono]
      try grind
  | succ n ih =>
    cases k with
    | zero => simp [cv, mono]
    | succ k =>
      rw [cv, show (fun i => mono c (n + 1) (i + 1)) = mono c n from funext fun i => by simp [mono], ih]
      simp [mono]
      try grind
theorem cv_one (b : Nat → Int) (k : Nat) : cv (mono 1 0) b k = b k := by rw [cv_mono]; simp
/-- Nothing from n on. -/
def Up (f : Nat → Int) (n : Nat) : Prop := ∀ k, n ≤ k → f k = 0
theorem Up.mono {f : Nat → Int} {n m : Nat} (h : Up f n) (hm : n ≤ m) : Up f m := fun k hk => h k (by omega)
theorem Up.add {f g : Nat → Int} {n : Nat} (h : Up f n) (k : Up g n) : Up (fun i => f i + g i) n := fun i hi => by
  show f i + g i = 0
  rw [h i hi, k i hi]; grind
theorem Up.sub {f g : Nat → Int} {n : Nat} (h : Up f n) (k : Up g n) : Up (fun i => f i - g i) n := fun i hi => by
  show f i - g i = 0
  rw [h i hi, k i hi]; grind
theorem Up.smul {f : Nat → Int} {n : Nat} (h : Up f n) (c : Int) : Up (fun i => c * f i) n := fun i hi => by
  show c * f i = 0
  rw [h i hi]; grind
theorem cv_left0 {a b : Nat → Int} (h : ∀ k, a k = 0) (k : Nat) : cv a b k = 0 := by
  rw [cv_congr (fun i _ => h i) (fun _ _ => rfl), cv_zero_left]
/-- The top of a product. -/
theorem cv_top {a b : Nat → Int} {n m : Nat} (ha : Up a (n + 1)) (hb : Up b (m + 1)) : cv a b (n + m) = a n * b m := by
  induction n generalizing a with
  | zero =>
    rw [Nat.zero_add]
    cases m with
    | zero => rfl
    | succ m =>
      rw [cv, cv_left0 (fun k => ha (k + 1) (by omega))]
      grind
  | succ n ih =>
    rw [show n + 1 + m = (n + m) + 1 by omega, cv, hb (n + m + 1) (by omega), ih (a := fun i => a (i + 1)) fun k hk => ha (k + 1) (by omega)]
    grind
/-- Above the top there is nothing. -/
theorem cv_up {a b : Nat → Int} {n m : Nat} (ha : Up a n) (hb : Up b m) : Up (cv a b) (n + m - 1) := by
  intro k hk
  induction n generalizing a k with
  | zero => exact cv_left0 (fun i => ha i (Nat.zero_le _)) k
  | succ n ih =>
    cases k with
    | zero =>
      have : m = 0 := by omega
      subst this
      rw [cv, hb 0 (Nat.le_refl _)]
      grind
    | succ k =>
      rw [cv, hb (k + 1) (by omega), ih (a := fun i => a (i + 1)) (fun k hk => ha (k + 1) (by omega)) k (by omega)]
      grind
theorem mul_zero' {a b : Int} (h : a * b = 0) : a = 0 ∨ b = 0 := by
  exact Int.mul_eq_zero.1 h
/-- A product with what has a top is nothing from p + m on: then the other factor is nothing from p on. -/
theorem no_mul {d b : Nat → Int} {p m : Nat} (hb : Up b (m + 1)) (ht : b m ≠ 0) (hu : Up (cv d b) (p + m)) : ∀ n, Up d n → Up d p
  | 0, h => h.mono (Nat.zero_le _)
  | n + 1, h => by
    rcases Nat.lt_or_ge n p with hn | hn
    · exact h.mono (by omega)
    · refine no_mul hb ht hu n fun k hk => ?_
      by_cases hkn : k = n
      · subst hkn
        have h1 := (cv_top h hb).symm.trans (hu (k + m) (by omega))
        exact (mul_zero' h1).resolve_right ht
      · exact h k (by omega)
/-- Quotient and rest are the only ones. -/
theorem dv_unique {b q r q' r' : Nat → Int} {m n n' : Nat} (hb : Up b (m + 1)) (ht : b m ≠ 0) (hq : Up q n) (hq' : Up q' n')
    (e : ∀ k, cv q b k + r k = cv q' b k + r' k) (hr : Up r m) (hr' : Up r' m) : (∀ k, q k = q' k) ∧ ∀ k, r k = r' k := by
  have e1 : ∀ k, cv (fun i => q i - q' i) b k = r' k - r k := fun k => by
    rw [cv_sub_left]
    have := e k
    grind
  have hu : Up (cv (fun i => q i - q' i) b) m := fun k hk => by
    rw [e1, hr k hk, hr' k hk]; grind
  have hd : Up (fun i => q i - q' i) (n + n') := (hq.mono (by omega)).sub (hq'.mono (by omega))
  have h0 := no_mul (p := 0) hb ht (by rw [Nat.zero_add]; exact hu) _ hd
  have h1 : ∀ k, q k = q' k := fun k => by
    have := h0 k (Nat.zero_le _)
    simp only at this
    grind
  refine ⟨h1, fun k => ?_⟩
  have := e k
  rw [cv_congr (fun i _ => h1 i) (fun _ _ => rfl)] at this
  grind
end Pz

/- Division of polynomials over the integers: without fractions, and exactly. Nothing of the program. -/
namespace Pz
theorem cvp_cv (a b : Nat → Int) (t : Nat) : ∀ n, cvp a b n t = cv (fun i => if i < n then a i else 0) b t
  | 0 => by rw [cvp_zero, cv_left0 (fun k => by simp)]
  | n + 1 => by
    rw [cvp_succ, cvp_cv a b t n]
    have e : cv (fun i => if i < n + 1 then a i else 0) b t = cv (fun i => (if i < n then a i else 0) + mono (a n) n i) b t := cv_congr (fun i _ => by
      unfold mono
      by_cases h1 : i = n
      · subst h1; simp
      · by_cases h2 : i < n
        · rw [if_pos (by omega), if_pos h2, if_neg h1]; simp
        · rw [if_neg (by omega), if_neg h2, if_neg h1]; simp) (fun _ _ => rfl)
    rw [e, cv_add_left, cv_mono]
theorem cvp_full {a b : Nat → Int} {n : Nat} (h : Up a n) (t : Nat) : cvp a b n t = cv a b t := by
  rw [cvp_cv]
  exact cv_congr (fun i _ => by
    by_cases h1 : i < n
    · rw [if_pos h1]
    · rw [if_neg h1, h i (by omega)]) (fun _ _ => rfl)
theorem up_co (L : List Int) : Up (co L) L.length := fun _ hk => co_ge hk
theorem IsP.up {f : Nat → Int} {M : List Int} (h : IsP f M) : Up f M.length := fun k hk => by rw [← h.2]; exact co_ge hk
/-- j steps of a division by b, with the lead l. -/
def Psd (l : Int) (j : Nat) (a b q r : Nat → Int) : Prop := ∀ t, l ^ j * a t = cv q b t + r t
theorem psd_zero (l : Int) (a b : Nat → Int) : Psd l 0 a b (co []) a := fun t => by
  rw [cv_left0 (fun i => co_nil i)]
  simp
theorem shift_mono (c : Int) (k : Nat) (b : Nat → Int) (t : Nat) : cv (mono c k) b t = if t < k then 0 else b (t - k) * c := by
  rw [cv_mono]
  by_cases h : t < k
  · rw [if_neg (by omega), if_pos h]
  · rw [if_pos (by omega), if_neg h, Int.mul_comm]
theorem psd_step {l : Int} {j : Nat} {a b q r : Nat → Int} (h : Psd l j a b q r) (c : Int) (k : Nat) {q' r' : Nat → Int} (hq : ∀ t, q' t = q t * l + mono c k t) (hr : ∀ t, r' t = r t * l - (if t < k then 0 else b (t - k) * c)) : Psd l (j + 1) a b q' r' := fun t => by
  have e : cv q' b t = cv (fun i => l * q i + mono c k i) b t := cv_congr (fun i _ => by rw [hq, Int.mul_comm]) (fun _ _ => rfl)
  rw [e, cv_add_left, cv_smul_left, shift_mono, hr, Int.pow_succ]
  have := h t
  grind
theorem psd_scale {l : Int} {j : Nat} {a b q r : Nat → Int} (h : Psd l j a b q r) {q' r' : Nat → Int} (hq : ∀ t, q' t = q t * l) (hr : ∀ t, r' t = r t * l) : Psd l (j + 1) a b q' r' := fun t => by
  have e : cv q' b t = cv (fun i => l * q i) b t := cv_congr (fun i _ => by rw [hq, Int.mul_comm]) (fun _ _ => rfl)
  rw [e, cv_smul_left, hr, Int.pow_succ]
  have := h t
  grind
/-- The top is gone. -/
theorem top_gone {b r r' : Nat → Int} {n m : Nat} (hb : Up b (m + 1)) (hr : Up r (n + m + 1)) (e : ∀ t, r' t = r t * b m - (if t < n then 0 else b (t - n) * r (n + m))) : Up r' (n + m) := fun t ht => by
  rw [e, if_neg (by omega)]
  rcases Nat.eq_or_lt_of_le ht with h | h
  · subst h
    rw [show n + m - n = m by omega]
    grind
  · rw [hr t (by omega), hb (t - n) (by omega)]
    grind
theorem psd_unique {l : Int} {j m n n' : Nat} {a b q r q' r' : Nat → Int} (h : Psd l j a b q r) (h' : Psd l j a b q' r') (hb : Up b (m + 1)) (ht : b m ≠ 0) (hq : Up q n) (hq' : Up q' n') (hr : Up r m) (hr' : Up r' m) : (∀ k, q k = q' k) ∧ ∀ k, r k = r' k :=
  dv_unique hb ht hq hq' (fun k => (h k).symm.trans (h' k)) hr hr'
theorem mono_zl {c : Int} {N : Nat} (h : Zz.zl c ≤ N) (k t : Nat) : Zz.zl (mono c k t) ≤ N := by
  unfold mono
  split
  · exact h
  · rw [Zz.zl_zero]; exact Nat.zero_le _
theorem step_size {x y l : Int} {N N' : Nat} (hx : Zz.zl x ≤ N) (hy : Zz.zl y ≤ N + N') (hl : Zz.zl l ≤ N') : Zz.zl (x * l + y) ≤ N + (N' + 1) := by
  have h1 := Zz.zl_add (x * l) y
  have h2 := Zz.zl_mul x l
  omega
theorem step_size' {x y l c : Int} {N N' : Nat} {p : Prop} [Decidable p] (hx : Zz.zl x ≤ N) (hy : Zz.zl y ≤ N') (hl : Zz.zl l ≤ N') (hc : Zz.zl c ≤ N) : Zz.zl (x * l - (if p then 0 else y * c)) ≤ N + (N' + 1) := by
  have h2 := Zz.zl_mul x l
  have h3 := Zz.zl_mul y c
  split
  · rw [Int.sub_zero]; omega
  · have h1 := Zz.zl_sub (x * l) (y * c)
    omega
/-- A division that leaves nothing, so far. -/
def Exd (a b q r : Nat → Int) : Prop := ∀ t, a t = cv q b t + r t
theorem exd_zero (a b : Nat → Int) : Exd a b (co []) a := fun t => by
  rw [cv_left0 (fun i => co_nil i), Int.zero_add]
theorem exd_step {a b q r : Nat → Int} (h : Exd a b q r) (c : Int) (k : Nat) {q' r' : Nat → Int} (hq : ∀ t, q' t = q t + mono c k t) (hr : ∀ t, r' t = r t - (if t < k then 0 else b (t - k) * c)) : Exd a b q' r' := fun t => by
  have e : cv q' b t = cv (fun i => q i + mono c k i) b t := cv_congr (fun i _ => hq i) (fun _ _ => rfl)
  rw [e, cv_add_left, shift_mono, hr]
  have := h t
  grind
theorem top_gone' {b r r' : Nat → Int} {n m : Nat} {c : Int} (hb : Up b (m + 1)) (hr : Up r (n + m + 1)) (hc : b m * c = r (n + m)) (e : ∀ t, r' t = r t - (if t < n then 0 else b (t - n) * c)) : Up r' (n + m) := fun t ht => by
  rw [e, if_neg (by omega)]
  rcases Nat.eq_or_lt_of_le ht with h | h
  · subst h
    rw [show n + m - n = m by omega]
    grind
  · rw [hr t (by omega), hb (t - n) (by omega)]
    grind
/-- b divides a. -/
def Dvs (b a : Nat → Int) : Prop := ∃ q n, Up q n ∧ ∀ t, a t = cv q b t
theorem exd_rest {a b q r : Nat → Int} {n : Nat} (h : Exd a b q r) (hq : Up q n) (hd : Dvs b a) : Dvs b r := by
  obtain ⟨q0, n0, h0, e⟩ := hd
  refine ⟨fun i => q0 i - q i, n0 + n, (h0.mono (by omega)).sub (hq.mono (by omega)), fun t => ?_⟩
  rw [cv_sub_left, ← e, h t]
  grind
theorem dvs_top {b r : Nat → Int} {p m : Nat} (hb : Up b (m + 1)) (ht : b m ≠ 0) (hr : Up r (p + m + 1)) (hd : Dvs b r) : b m ∣ r (p + m) := by
  obtain ⟨q, n, hq, e⟩ := hd
  have h1 := no_mul (p := p + 1) hb ht (fun k hk => by rw [← e]; exact hr k (by omega)) n hq
  exact ⟨q p, by rw [e, cv_top h1 hb, Int.mul_comm]⟩
theorem dvs_low {b r : Nat → Int} {m : Nat} (hb : Up b (m + 1)) (ht : b m ≠ 0) (hr : Up r m) (hd : Dvs b r) (t : Nat) : r t = 0 := by
  obtain ⟨q, n, hq, e⟩ := hd
  have h1 := no_mul (p := 0) hb ht (fun k hk => by rw [← e]; exact hr k (by omega)) n hq
  rw [e, cv_left0 fun k => h1 k (Nat.zero_le _)]
theorem exd_end {a b q r : Nat → Int} (h : Exd a b q r) (hr : ∀ t, r t = 0) (t : Nat) : a t = cv q b t := by
  rw [h t, hr t, Int.add_zero]
theorem dvs_unique {a b q q' : Nat → Int} {m n n' : Nat} (hb : Up b (m + 1)) (ht : b m ≠ 0) (hq : Up q n) (hq' : Up q' n') (h : ∀ t, a t = cv q b t) (h' : ∀ t, a t = cv q' b t) (t : Nat) : q t = q' t :=
  (dv_unique (r := fun _ => 0) (r' := fun _ => 0) hb ht hq hq' (fun k => by rw [← h, ← h']) (fun _ _ => rfl) (fun _ _ => rfl)).1 t
end Pz

/- The rounds of a division of polynomials over the integers, with sizes. Nothing of the program. -/
namespace Pz
theorem norm_exists (L : List Int) : ∃ M, IsP (co L) M ∧ M.length ≤ L.length := by
  have key : ∀ k, k ≤ L.length → (∀ i, k ≤ i → co L i = 0) → ∃ M, IsP (co L) M ∧ M.length ≤ L.length := by
    intro k
    induction k with
    | zero =>
      intro _ h
      exact ⟨[], ⟨nz_nil, fun i => by rw [co_nil, h i (Nat.zero_le _)]⟩, Nat.zero_le _⟩
    | succ k ih =>
      intro hk h
      by_cases h0 : co L k = 0
      · exact ih (by omega) fun i hi => by
          rcases Nat.eq_or_lt_of_le hi with e | e
          · rw [← e]; exact h0
          · exact h i e
      · refine ⟨L.take (k + 1), ⟨nz_take hk (.inr (by simpa using h0)), fun i => co_take_all h i⟩, ?_⟩
        rw [List.length_take]
        omega
  exact key L.length (Nat.le_refl _) fun i hi => co_ge hi
theorem IsP.top {f : Nat → Int} {M : List Int} (h : IsP f M) {m : Nat} (hm : M.length = m + 1) : f m ≠ 0 := by
  have e := nz_top h.1 (by omega)
  rw [h.2, hm] at e
  simpa using e
theorem IsP.up1 {f : Nat → Int} {M : List Int} (h : IsP f M) {m : Nat} (hm : M.length = m + 1) : Up f (m + 1) := by
  rw [← hm]; exact h.up
theorem IsP.self {M : List Int} (h : Nz M) : IsP (co M) M := ⟨h, fun _ => rfl⟩
/-- How a division without fractions stands after j steps. -/
structure St (l : Int) (a b : Nat → Int) (N N' S j : Nat) (Q K : List Int) : Prop where
  nq : Nz Q
  nk : Nz K
  eq : Psd l j a b (co Q) (co K)
  upq : Up (co Q) S
  zq : ∀ i, Zz.zl (co Q i) ≤ N + j * (N' + 1)
  zk : ∀ i, Zz.zl (co K i) ≤ N + j * (N' + 1)
theorem st_zero {l : Int} {a b : Nat → Int} {N N' S : Nat} {M : List Int} (hM : IsP a M) (hz : ∀ i, Zz.zl (a i) ≤ N) : St l a b N N' S 0 [] M :=
  ⟨nz_nil, hM.1, fun t => by rw [hM.2]; exact psd_zero l a b t, fun k _ => co_nil k, fun i => by rw [co_nil, Zz.zl_zero]; exact Nat.zero_le _, fun i => by rw [hM.2]; have := hz i; omega⟩
theorem co_one (c : Int) (i k : Nat) : (if i < k then 0 else co [1] (i - k) * c) = mono c k i := by
  unfold mono
  by_cases h : i < k
  · rw [if_pos h, if_neg (by omega)]
  · rw [if_neg h]
    by_cases h2 : i = k
    · subst h2; simp [co]
    · rw [if_neg h2, co_ge (by simp; omega), Int.zero_mul]
theorem st_step {l : Int} {a b x y u v : Nat → Int} {N N' S j k m : Nat} {Q K Q' K' : List Int} (h : St l a b N N' S j Q K) (hb : Up b (m + 1)) (hbz : ∀ i, Zz.zl (b i) ≤ N') (hl : l = b m) (hK : K.length = k + m + 1) (hkS : k < S)
    (hQ' : IsP (fun i => x i + y i) Q') (hx : ∀ i, x i = co Q i * l) (hy : ∀ i, y i = if i < k then 0 else co [1] (i - k) * co K (k + m))
    (hK' : IsP (fun i => u i - v i) K') (hu : ∀ i, u i = co K i * l) (hv : ∀ i, v i = if i < k then 0 else b (i - k) * co K (k + m)) : St l a b N N' S (j + 1) Q' K' ∧ K'.length ≤ k + m := by
  have e1 : ∀ t, co Q' t = co Q t * l + mono (co K (k + m)) k t := fun t => (hQ'.2 t).trans (by show x t + y t = _; rw [hx, hy, co_one])
  have e2 : ∀ t, co K' t = co K t * l - (if t < k then 0 else b (t - k) * co K (k + m)) := fun t => (hK'.2 t).trans (by show u t - v t = _; rw [hu, hv])
  have hlz : Zz.zl l ≤ N' := by rw [hl]; exact hbz m
  have eN : N + (j + 1) * (N' + 1) = N + j * (N' + 1) + (N' + 1) := by rw [Nat.succ_mul, Nat.add_assoc]
  refine ⟨⟨hQ'.1, hK'.1, psd_step h.eq _ _ e1 e2, fun t ht => ?_, fun t => ?_, fun t => ?_⟩, ?_⟩
  · rw [e1, h.upq t ht]
    unfold mono
    rw [if_neg (by omega)]
    simp
  · rw [e1, eN]
    exact step_size (h.zq t) (mono_zl (Nat.le_trans (h.zk _) (Nat.le_add_right _ _)) k t) hlz
  · rw [e2, eN]
    exact step_size' (h.zk t) (hbz (t - k)) hlz (h.zk _)
  · refine nz_len hK'.1 (top_gone (r := co K) (b := b) hb ?_ fun t => ?_)
    · rw [← hK]; exact up_co K
    · rw [e2, hl]
theorem st_scale {l : Int} {a b x u : Nat → Int} {N N' S j : Nat} {Q K Q' K' : List Int} (h : St l a b N N' S j Q K) (hl : Zz.zl l ≤ N')
    (hQ' : IsP x Q') (hx : ∀ i, x i = co Q i * l) (hK' : IsP u K') (hu : ∀ i, u i = co K i * l) : St l a b N N' S (j + 1) Q' K' ∧ K'.length ≤ K.length := by
  have e1 : ∀ t, co Q' t = co Q t * l := fun t => by rw [hQ'.2, hx]
  have e2 : ∀ t, co K' t = co K t * l := fun t => by rw [hK'.2, hu]
  have eN : N + (j + 1) * (N' + 1) = N + j * (N' + 1) + (N' + 1) := by rw [Nat.succ_mul, Nat.add_assoc]
  refine ⟨⟨hQ'.1, hK'.1, psd_scale h.eq e1 e2, fun t ht => by rw [e1, h.upq t ht, Int.zero_mul], fun t => ?_, fun t => ?_⟩, ?_⟩
  · rw [e1, eN]
    have e3 := Zz.zl_mul (co Q t) l
    have e4 := h.zq t
    omega
  · rw [e2, eN]
    have e3 := Zz.zl_mul (co K t) l
    have e4 := h.zk t
    omega
  · exact nz_len hK'.1 fun t ht => by rw [e2, co_ge ht, Int.zero_mul]
theorem st_unique {l : Int} {a b : Nat → Int} {N N' S j m N2 N2' S2 : Nat} {Q K Q2 K2 : List Int} (h : St l a b N N' S j Q K) (h' : St l a b N2 N2' S2 j Q2 K2) (hb : Up b (m + 1)) (hm : b m ≠ 0) (hK : Up (co K) m) (hK2 : Up (co K2) m) : Q = Q2 ∧ K = K2 := by
  obtain ⟨h1, h2⟩ := psd_unique h.eq h'.eq hb hm h.upq h'.upq hK hK2
  exact ⟨nz_ext h.nq h'.nq h1, nz_ext h.nk h'.nk h2⟩
/-- How an exact division stands. -/
structure Ex (a b : Nat → Int) (N N' S j : Nat) (Q K : List Int) : Prop where
  nq : Nz Q
  nk : Nz K
  eq : Exd a b (co Q) (co K)
  upq : Up (co Q) S
  zq : ∀ i, Zz.zl (co Q i) ≤ N + j * (N' + 1)
  zk : ∀ i, Zz.zl (co K i) ≤ N + j * (N' + 1)
theorem ex_zero {a b : Nat → Int} {N N' S : Nat} {M : List Int} (hM : IsP a M) (hz : ∀ i, Zz.zl (a i) ≤ N) : Ex a b N N' S 0 [] M :=
  ⟨nz_nil, hM.1, fun t => by rw [hM.2]; exact exd_zero a b t, fun k _ => co_nil k, fun i => by rw [co_nil, Zz.zl_zero]; exact Nat.zero_le _, fun i => by rw [hM.2]; have := hz i; omega⟩
theorem ex_step {a b y v : Nat → Int} {c : Int} {N N' S j k m : Nat} {Q K Q' K' : List Int} (h : Ex a b N N' S j Q K) (hb : Up b (m + 1)) (hbz : ∀ i, Zz.zl (b i) ≤ N') (hc : b m * c = co K (k + m)) (hcz : Zz.zl c ≤ Zz.zl (co K (k + m))) (hK : K.length = k + m + 1) (hkS : k < S)
    (hQ' : IsP (fun i => co Q i + y i) Q') (hy : ∀ i, y i = if i < k then 0 else co [1] (i - k) * c)
    (hK' : IsP (fun i => co K i - v i) K') (hv : ∀ i, v i = if i < k then 0 else b (i - k) * c) : Ex a b N N' S (j + 1) Q' K' ∧ K'.length ≤ k + m := by
  have e1 : ∀ t, co Q' t = co Q t + mono c k t := fun t => (hQ'.2 t).trans (by show co Q t + y t = _; rw [hy, co_one])
  have e2 : ∀ t, co K' t = co K t - (if t < k then 0 else b (t - k) * c) := fun t => (hK'.2 t).trans (by show co K t - v t = _; rw [hv])
  have eN : N + (j + 1) * (N' + 1) = N + j * (N' + 1) + (N' + 1) := by rw [Nat.succ_mul, Nat.add_assoc]
  have hcz' : Zz.zl c ≤ N + j * (N' + 1) := Nat.le_trans hcz (h.zk _)
  refine ⟨⟨hQ'.1, hK'.1, exd_step h.eq c k e1 e2, fun t ht => ?_, fun t => ?_, fun t => ?_⟩, ?_⟩
  · rw [e1, h.upq t ht]
    unfold mono
    rw [if_neg (by omega)]
    simp
  · rw [e1, eN]
    have e3 := Zz.zl_add (co Q t) (mono c k t)
    have e4 := h.zq t
    have e5 := mono_zl hcz' k t
    omega
  · rw [e2, eN]
    have e4 := h.zk t
    split
    · rw [Int.sub_zero]; omega
    · have e3 := Zz.zl_sub (co K t) (b (t - k) * c)
      have e5 := Zz.zl_mul (b (t - k)) c
      have e6 := hbz (t - k)
      omega
  · refine nz_len hK'.1 (top_gone' (r := co K) (b := b) (c := c) hb ?_ hc e2)
    rw [← hK]; exact up_co K
end Pz

/- Determinants without fractions, a given run with no exchange of rows. Nothing of the program. -/
namespace Pz
/-- What an exact division answers. -/
def ex (x y : Int) : Int := if x.tmod y = 0 then x.tdiv y else 0
/-- A round of the elimination. -/
def elm (F : Nat → Nat → Int) (k : Nat) (l : Int) : Nat → Nat → Int := fun i j => if k < i ∧ k ≤ j then ex (F i j * F k k - F k j * F i k) l else F i j
/-- In the midst of it: the rows before i are done, and row i from column j on. -/
def mid (F : Nat → Nat → Int) (k : Nat) (l : Int) (i j : Nat) : Nat → Nat → Int := fun i' j' => if i' < i ∨ (i' = i ∧ j ≤ j') then elm F k l i' j' else F i' j'
theorem mid_row {F : Nat → Nat → Int} {k : Nat} {l : Int} {i j i' : Nat} (h : i' ≤ k) (j' : Nat) : mid F k l i j i' j' = F i' j' := by
  unfold mid elm
  split
  · rw [if_neg (by omega)]
  · rfl
theorem mid_here {F : Nat → Nat → Int} {k : Nat} {l : Int} {i j j' : Nat} (h : j' < j) : mid F k l i j i j' = F i j' := by
  unfold mid
  rw [if_neg (by omega)]
theorem mid_step {F : Nat → Nat → Int} {k : Nat} {l : Int} {i j : Nat} (hk : k < i) (hj : k ≤ j) (i' j' : Nat) : mid F k l i j i' j' = if i' = i ∧ j' = j then ex (F i j * F k k - F k j * F i k) l else mid F k l i (j + 1) i' j' := by
  unfold mid
  by_cases h : i' = i ∧ j' = j
  · obtain ⟨rfl, rfl⟩ := h
    rw [if_pos (by omega), if_pos ⟨rfl, rfl⟩]
    unfold elm
    rw [if_pos ⟨hk, hj⟩]
  · rw [if_neg h]
    by_cases h1 : i' < i ∨ (i' = i ∧ j ≤ j')
    · rw [if_pos h1, if_pos (by omega)]
    · rw [if_neg h1, if_neg (by omega)]
theorem mid_next {F : Nat → Nat → Int} {k : Nat} {l : Int} {i n : Nat} (i' j' : Nat) (hj : j' < n) : mid F k l i k i' j' = mid F k l (i + 1) n i' j' := by
  unfold mid
  by_cases h1 : i' < i ∨ (i' = i ∧ k ≤ j')
  · rw [if_pos h1, if_pos (by omega)]
  · rw [if_neg h1]
    by_cases h2 : i' < i + 1 ∨ (i' = i + 1 ∧ n ≤ j')
    · rw [if_pos h2]
      unfold elm
      rw [if_neg (by omega)]
    · rw [if_neg h2]
theorem mid_start {F : Nat → Nat → Int} {k : Nat} {l : Int} {n : Nat} (i' j' : Nat) (hj : j' < n) : mid F k l (k + 1) n i' j' = F i' j' := by
  unfold mid
  split
  · unfold elm
    rw [if_neg (by omega)]
  · rfl
theorem mid_end {F : Nat → Nat → Int} {k : Nat} {l : Int} {n : Nat} (i' j' : Nat) (hi : i' < n) : mid F k l n n i' j' = elm F k l i' j' := by
  unfold mid
  rw [if_pos (.inl hi)]
end Pz

/- The examples of the law: a pseudo-division, a run of the elimination. Nothing of the program. -/
namespace Pz
/-- A finite table as a function. -/
def tab (T : List (List Int)) (i j : Nat) : Int := (T.getD i []).getD j 0
def exT : Nat → Nat → Nat → Int
  | 0 => tab [[1, 0, 1], [1, -2, 0], [0, 1, -2]]
  | 1 => tab [[1, 0, 1], [0, -2, -1], [0, 1, -2]]
  | _ => tab [[1, 0, 1], [0, -2, -1], [0, 0, 5]]
def exL : Nat → Int
  | 0 => 1
  | 1 => 1
  | 2 => -2
  | _ => 5
theorem exT_step : ∀ k, k < 3 → ∀ i, i < 3 → ∀ j, j < 3 → exT (k + 1) i j = elm (exT k) k (exL k) i j := by decide +kernel
theorem exL_step : ∀ k, k < 3 → exL (k + 1) = exT k k k := by decide +kernel
theorem exT_ne : ∀ k, k < 3 → exT k k k ≠ 0 := by decide +kernel
theorem exT_small : ∀ k, k < 3 → ∀ i, i < 3 → ∀ j, j < 3 → (exT k i j).natAbs < 4294967296 := by decide +kernel
theorem nz_ex1 : Nz [0, 0, 1] := fun _ => by simp
theorem nz_ex2 : Nz [1, 2] := fun _ => by simp
theorem nz_ex3 : Nz [-1, 2] := fun _ => by simp
theorem nz_ex4 : Nz [1] := fun _ => by simp
theorem nz_ex5 : Nz [1, 0, 1] := fun _ => by simp
theorem nz_ex6 : Nz [-2, 1] := fun _ => by simp
theorem psd_ex : Psd 2 2 (co [0, 0, 1]) (co [1, 2]) (co [-1, 2]) (co [1]) := by
  intro t
  match t with
  | 0 => decide
  | 1 => decide
  | 2 => decide
  | t + 3 =>
    rw [cv_up (up_co [-1, 2]) (up_co [1, 2]) (t + 3) (by simp), co_ge (by simp), co_ge (by simp)]
    rfl
theorem psd_ex_unique {Q R : List Int} (hq : Nz Q) (hr : Nz R) (h : Psd 2 2 (co [0, 0, 1]) (co [1, 2]) (co Q) (co R)) (hu : Up (co R) 1) : Q = [-1, 2] ∧ R = [1] := by
  obtain ⟨e1, e2⟩ := psd_unique h psd_ex (m := 1) (up_co [1, 2]) (by decide) (up_co Q) (up_co [-1, 2]) hu (up_co [1])
  exact ⟨nz_ext hq nz_ex3 e1, nz_ext hr nz_ex4 e2⟩
end Pz

/- A round of the reference's division: the coefficient may be nought. Nothing of the program. -/
namespace Pz
theorem st_step' {l : Int} {a b x y u v : Nat → Int} {N N' S j k m : Nat} {Q K Q' K' : List Int} (h : St l a b N N' S j Q K) (hb : Up b (m + 1)) (hbz : ∀ i, Zz.zl (b i) ≤ N') (hl : l = b m) (hK : K.length ≤ k + m + 1) (hkS : k < S)
    (hQ' : IsP (fun i => x i + y i) Q') (hx : ∀ i, x i = co Q i * l) (hy : ∀ i, y i = if i < k then 0 else co [co K (k + m)] (i - k))
    (hK' : IsP (fun i => u i - v i) K') (hu : ∀ i, u i = co K i * l) (hv : ∀ i, v i = if i < k then 0 else b (i - k) * co K (k + m)) : St l a b N N' S (j + 1) Q' K' ∧ K'.length ≤ k + m := by
  have e0 : ∀ t, y t = mono (co K (k + m)) k t := fun t => by
    rw [hy]
    unfold mono
    by_cases h1 : t < k
    · rw [if_pos h1, if_neg (by omega)]
    · rw [if_neg h1]
      by_cases h2 : t = k
      · subst h2; simp [co]
      · rw [if_neg h2, co_ge (by simp; omega)]
  have e1 : ∀ t, co Q' t = co Q t * l + mono (co K (k + m)) k t := fun t => (hQ'.2 t).trans (by show x t + y t = _; rw [hx, e0])
  have e2 : ∀ t, co K' t = co K t * l - (if t < k then 0 else b (t - k) * co K (k + m)) := fun t => (hK'.2 t).trans (by show u t - v t = _; rw [hu, hv])
  have hlz : Zz.zl l ≤ N' := by rw [hl]; exact hbz m
  have eN : N + (j + 1) * (N' + 1) = N + j * (N' + 1) + (N' + 1) := by rw [Nat.succ_mul, Nat.add_assoc]
  refine ⟨⟨hQ'.1, hK'.1, psd_step h.eq _ _ e1 e2, fun t ht => ?_, fun t => ?_, fun t => ?_⟩, ?_⟩
  · rw [e1, h.upq t ht]
    unfold mono
    rw [if_neg (by omega)]
    simp
  · rw [e1, eN]
    exact step_size (h.zq t) (mono_zl (Nat.le_trans (h.zk _) (Nat.le_add_right _ _)) k t) hlz
  · rw [e2, eN]
    exact step_size' (h.zk t) (hbz (t - k)) hlz (h.zk _)
  · refine nz_len hK'.1 (top_gone (r := co K) (b := b) hb ?_ fun t => ?_)
    · exact (up_co K).mono hK
    · rw [e2, hl]
theorem co_sing (c : Int) (i k : Nat) : (if i < k then 0 else co [c] (i - k)) = mono c k i := by
  unfold mono
  by_cases h1 : i < k
  · rw [if_pos h1, if_neg (by omega)]
  · rw [if_neg h1]
    by_cases h2 : i = k
    · subst h2; simp [co]
    · rw [if_neg h2, co_ge (by simp; omega)]
theorem ex_step' {a b y v : Nat → Int} {c : Int} {N N' S j k m : Nat} {Q K Q' K' : List Int} (h : Ex a b N N' S j Q K) (hb : Up b (m + 1)) (hbz : ∀ i, Zz.zl (b i) ≤ N') (hc : b m * c = co K (k + m)) (hcz : Zz.zl c ≤ Zz.zl (co K (k + m))) (hK : K.length = k + m + 1) (hkS : k < S)
    (hQ' : IsP (fun i => co Q i + y i) Q') (hy : ∀ i, y i = if i < k then 0 else co [c] (i - k))
    (hK' : IsP (fun i => co K i - v i) K') (hv : ∀ i, v i = if i < k then 0 else b (i - k) * c) : Ex a b N N' S (j + 1) Q' K' ∧ K'.length ≤ k + m :=
  ex_step h hb hbz hc hcz hK hkS hQ' (fun i => (hy i).trans ((co_sing c i k).trans (co_one c i k).symm)) hK' hv
end Pz
