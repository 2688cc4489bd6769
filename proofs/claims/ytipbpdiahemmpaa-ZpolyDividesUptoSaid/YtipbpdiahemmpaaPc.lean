/- Polynomials as coefficient functions with values in Int: products, tops, division with a rest is of one kind. Nothing of the program. -/
namespace Pz
/-- The product of two polynomials. -/
def cv (a b : Nat → Int) : Nat → Int
  | 0 => a 0 * b 0
  | k + 1 => a 0 * b (k + 1) + cv (fun i => a (i + 1)) b k
theorem cv_right (a b : Nat → Int) : ∀ k, cv a b (k + 1) = cv a (fun i => b (i + 1)) k + a (k + 1) * b 0 := by
  intro k
  induction k generalizing a with
  | zero => simp [cv]
  | succ k ih =>
    rw [cv, ih, cv]
    grind
theorem cv_comm (a b : Nat → Int) (k : Nat) : cv a b k = cv b a k := by
  induction k generalizing a with
  | zero => simp only [cv]; grind
  | succ k ih => rw [cv, cv_right b a, ih]; grind
theorem cv_congr {a a' b b' : Nat → Int} {k : Nat} (h : ∀ i, i ≤ k → a i = a' i) (h' : ∀ i, i ≤ k → b i = b' i) : cv a b k = cv a' b' k := by
  induction k generalizing a a' with
  | zero => simp [cv, h 0 (Nat.le_refl _), h' 0 (Nat.le_refl _)]
  | succ k ih => rw [cv, cv, h 0 (Nat.zero_le _), h' (k + 1) (Nat.le_refl _), ih (fun i hi => h (i + 1) (by omega)) (fun i hi => h' i (by omega))]
theorem cv_add_left (a b c : Nat → Int) (k : Nat) : cv (fun i => a i + b i) c k = cv a c k + cv b c k := by
  induction k generalizing a b with
  | zero => simp only [cv]; grind
  | succ k ih => rw [cv, cv, cv, ih]; grind
theorem cv_add_right (a b c : Nat → Int) (k : Nat) : cv a (fun i => b i + c i) k = cv a b k + cv a c k := by
  rw [cv_comm, cv_add_left, cv_comm b, cv_comm c]
theorem cv_smul_left (x : Int) (a b : Nat → Int) (k : Nat) : cv (fun i => x * a i) b k = x * cv a b k := by
  induction k generalizing a with
  | zero => simp only [cv]; grind
  | succ k ih => rw [cv, cv, ih]; grind
theorem cv_smul_right (x : Int) (a b : Nat → Int) (k : Nat) : cv a (fun i => x * b i) k = x * cv a b k := by
  rw [cv_comm, cv_smul_left, cv_comm]
theorem cv_sub_left (a b c : Nat → Int) (k : Nat) : cv (fun i => a i - b i) c k = cv a c k - cv b c k := by
  induction k generalizing a b with
  | zero => simp only [cv]; grind
  | succ k ih => rw [cv, cv, cv, ih]; grind
theorem cv_sub_right (a b c : Nat → Int) (k : Nat) : cv a (fun i => b i - c i) k = cv a b k - cv a c k := by
  rw [cv_comm, cv_sub_left, cv_comm b, cv_comm c]
theorem cv_zero_left (b : Nat → Int) (k : Nat) : cv (fun _ => 0) b k = 0 := by
  induction k with
  | zero => simp only [cv]; grind
  | succ k ih => rw [cv, ih]; grind
theorem cv_zero_right (a : Nat → Int) (k : Nat) : cv a (fun _ => 0) k = 0 := by rw [cv_comm, cv_zero_left]
theorem cv_assoc (a b c : Nat → Int) (k : Nat) : cv (cv a b) c k = cv a (cv b c) k := by
  induction k generalizing a with
  | zero => simp only [cv]; grind
  | succ k ih =>
    rw [cv, cv, show (fun i => cv a b (i + 1)) = (fun i => a 0 * b (i + 1) + cv (fun j => a (j + 1)) b i) from rfl, cv_add_left, cv_smul_left, ih, cv, cv]
    grind
/-- c x^n -/
def mono (c : Int) (n : Nat) : Nat → Int := fun i => if i = n then c else 0
theorem cv_mono (c : Int) (b : Nat → Int) (n k : Nat) : cv (mono c n) b k = if n ≤ k then c * b (k - n) else 0 := by
  induction n generalizing k with
  | zero =>
    cases k with
    | zero => simp [cv, mono]
    | succ k =>
      rw [cv, show (fun i => mono c 0 (i + 1)) = fun _ => 0 from funext fun i => by simp [mono], cv_zero_left]
      simp [mono]
      try grind
  | succ n ih =>
    cases k with
    | zero => simp [cv, mono]
    | succ k =>
      rw [cv, show (fun i => mono c (n + 1) (i + 1)) = mono c n from funext fun i => by simp [mono], ih]
      simp [mono]
      try grind
theorem cv_one (b : Nat → Int) (k : Nat) : cv (mono 1 0) b k = b k := by rw [cv_mono]; simp
/-- Nothing from n on. -/
def Up (f : Nat → Int) (n : Nat) : Prop := ∀ k, n ≤ k → f k = 0
theorem Up.mono {f : Nat → Int} {n m : Nat} (h : Up f n) (hm : n ≤ m) : Up f m := fun k hk => h k (by omega)
theorem Up.add {f g : Nat → Int} {n : Nat} (h : Up f n) (k : Up g n) : Up (fun i => f i + g i) n := fun i hi => by
  show f i + g i = 0
  rw [h i hi, k i hi]; grind
theorem Up.sub {f g : Nat → Int} {n : Nat} (h : Up f n) (k : Up g n) : Up (fun i => f i - g i) n := fun i hi => by
  show f i - g i = 0
  rw [h i hi, k i hi]; grind
theorem Up.smul {f : Nat → Int} {n : Nat} (h : Up f n) (c : Int) : Up (fun i => c * f i) n := fun i hi => by
  show c * f i = 0
  rw [h i hi]; grind
theorem cv_left0 {a b : Nat → Int} (h : ∀ k, a k = 0) (k : Nat) : cv a b k = 0 := by
  rw [cv_congr (fun i _ => h i) (fun _ _ => rfl), cv_zero_left]
/-- The top of a product. -/
theorem cv_top {a b : Nat → Int} {n m : Nat} (ha : Up a (n + 1)) (hb : Up b (m + 1)) : cv a b (n + m) = a n * b m := by
  induction n generalizing a with
  | zero =>
    rw [Nat.zero_add]
    cases m with
    | zero => rfl
    | succ m =>
      rw [cv, cv_left0 (fun k => ha (k + 1) (by omega))]
      grind
  | succ n ih =>
    rw [show n + 1 + m = (n + m) + 1 by omega, cv, hb (n + m + 1) (by omega), ih (a := fun i => a (i + 1)) fun k hk => ha (k + 1) (by omega)]
    grind
/-- Above the top there is nothing. -/
theorem cv_up {a b : Nat → Int} {n m : Nat} (ha : Up a n) (hb : Up b m) : Up (cv a b) (n + m - 1) := by
  intro k hk
  induction n generalizing a k with
  | zero => exact cv_left0 (fun i => ha i (Nat.zero_le _)) k
  | succ n ih =>
    cases k with
    | zero =>
      have : m = 0 := by omega
      subst this
      rw [cv, hb 0 (Nat.le_refl _)]
      grind
    | succ k =>
      rw [cv, hb (k + 1) (by omega), ih (a := fun i => a (i + 1)) (fun k hk => ha (k + 1) (by omega)) k (by omega)]
      grind
theorem mul_zero' {a b : Int} (h : a * b = 0) : a = 0 ∨ b = 0 := by
  exact Int.mul_eq_zero.1 h
/-- A product with what has a top is nothing from p + m on: then the other factor is nothing from p on. -/
theorem no_mul {d b : Nat → Int} {p m : Nat} (hb : Up b (m + 1)) (ht : b m ≠ 0) (hu : Up (cv d b) (p + m)) : ∀ n, Up d n → Up d p
  | 0, h => h.mono (Nat.zero_le _)
  | n + 1, h => by
    rcases Nat.lt_or_ge n p with hn | hn
    · exact h.mono (by omega)
    · refine no_mul hb ht hu n fun k hk => ?_
      by_cases hkn : k = n
      · subst hkn
        have h1 := (cv_top h hb).symm.trans (hu (k + m) (by omega))
        exact (mul_zero' h1).resolve_right ht
      · exact h k (by omega)
/-- Quotient and rest are the only ones. -/
theorem dv_unique {b q r q' r' : Nat → Int} {m n n' : Nat} (hb : Up b (m + 1)) (ht : b m ≠ 0) (hq : Up q n) (hq' : Up q' n')
    (e : ∀ k, cv q b k + r k = cv q' b k + r' k) (hr : Up r m) (hr' : Up r' m) : (∀ k, q k = q' k) ∧ ∀ k, r k = r' k := by
  have e1 : ∀ k, cv (fun i => q i - q' i) b k = r' k - r k := fun k => by
    rw [cv_sub_left]
    have := e k
    grind
  have hu : Up (cv (fun i => q i - q' i) b) m := fun k hk => by
    rw [e1, hr k hk, hr' k hk]; grind
  have hd : Up (fun i => q i - q' i) (n + n') := (hq.mono (by omega)).sub (hq'.mono (by omega))
  have h0 := no_mul (p := 0) hb ht (by rw [Nat.zero_add]; exact hu) _ hd
  have h1 : ∀ k, q k = q' k := fun k => by
    have := h0 k (Nat.zero_le _)
    simp only at this
    grind
  refine ⟨h1, fun k => ?_⟩
  have := e k
  rw [cv_congr (fun i _ => h1 i) (fun _ _ => rfl)] at this
  grind
end Pz
