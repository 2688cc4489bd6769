/- Polynomials modulo a prime: coefficients as functions of the place. Nothing of the program. -/
import Derived.Test.YtmgacikdgbedfaaGreatDoorNt
import Derived.Test.YtmgacikdgbedfaaGreatDoorDg
namespace Pm
open Dg

/-- Congruence. -/
def cz (p : Nat) (x y : Int) : Prop := (p : Int) ∣ x - y
theorem cz.refl {p : Nat} (x : Int) : cz p x x := by unfold cz; rw [Int.sub_self]; exact Int.dvd_zero _
theorem cz.of_eq {p : Nat} {x y : Int} (h : x = y) : cz p x y := h ▸ cz.refl x
theorem cz.symm {p : Nat} {x y : Int} (h : cz p x y) : cz p y x := by
  unfold cz at *
  have := Int.dvd_neg.2 h
  rwa [Int.neg_sub] at this
theorem cz.trans {p : Nat} {x y z : Int} (h : cz p x y) (k : cz p y z) : cz p x z := by
  unfold cz at *
  have := Int.dvd_add h k
  rwa [show x - y + (y - z) = x - z by omega] at this
theorem cz.add {p : Nat} {a b c d : Int} (h : cz p a b) (k : cz p c d) : cz p (a + c) (b + d) := by
  unfold cz at *
  have := Int.dvd_add h k
  rwa [show a - b + (c - d) = a + c - (b + d) by omega] at this
theorem cz.sub {p : Nat} {a b c d : Int} (h : cz p a b) (k : cz p c d) : cz p (a - c) (b - d) := by
  unfold cz at *
  have := Int.dvd_sub h k
  rwa [show a - b - (c - d) = a - c - (b - d) by omega] at this
theorem cz.mul {p : Nat} {a b c d : Int} (h : cz p a b) (k : cz p c d) : cz p (a * c) (b * d) := by
  unfold cz at *
  have := Int.dvd_add (Int.dvd_trans h (Int.dvd_mul_right (a - b) c)) (Int.dvd_trans k (Int.dvd_mul_left b (c - d)))
  rwa [show (a - b) * c + b * (c - d) = a * c - b * d by grind] at this
theorem cz_mod {p : Nat} (n : Nat) : cz p ((n % p : Nat) : Int) n := by
  unfold cz
  refine ⟨-((n / p : Nat) : Int), ?_⟩
  have h : ((p : Int)) * ((n / p : Nat) : Int) + ((n % p : Nat) : Int) = n := by
    have := Nat.div_add_mod n p
    exact_mod_cast this
  rw [Int.mul_neg]
  omega
theorem cz_eq {p a b : Nat} (ha : a < p) (hb : b < p) (h : cz p a b) : a = b := by
  obtain ⟨c, hc⟩ := h
  have h1 : c = 0 := by
    apply Classical.byContradiction
    intro hne
    rcases Int.lt_or_gt_of_ne hne with h | h
    · have := Int.mul_le_mul_of_nonneg_left (show c ≤ -1 by omega) (show (0 : Int) ≤ p by omega)
      omega
    · have := Int.mul_le_mul_of_nonneg_left (show 1 ≤ c by omega) (show (0 : Int) ≤ p by omega)
      omega
  rw [h1] at hc
  omega
theorem cz_zero {p a : Nat} (h : cz p a 0) : a % p = 0 := by
  obtain ⟨c, hc⟩ := h
  have : (p : Int) ∣ (a : Int) := ⟨c, by omega⟩
  exact Nat.mod_eq_zero_of_dvd (Int.natCast_dvd_natCast.1 this)
theorem cz.of_zero {p a : Nat} (h : a % p = 0) : cz p a 0 := by
  have := cz_mod (p := p) a
  rw [h] at this
  exact this.symm
theorem cz_mul_zero {p : Nat} (hp : Nt.Pr p) {a b : Int} (h : cz p (a * b) 0) : cz p a 0 ∨ cz p b 0 := by
  unfold cz at *
  rw [Int.sub_zero] at h
  have h1 := Int.natAbs_dvd_natAbs.2 h
  rw [Int.natAbs_mul, Int.natAbs_natCast] at h1
  rcases hp.dvd_mul h1 with h2 | h2
  · left; rw [Int.sub_zero]; exact Int.natAbs_dvd_natAbs.1 (by rwa [Int.natAbs_natCast])
  · right; rw [Int.sub_zero]; exact Int.natAbs_dvd_natAbs.1 (by rwa [Int.natAbs_natCast])

/-- The product of two polynomials. -/
def cv (a b : Nat → Int) : Nat → Int
  | 0 => a 0 * b 0
  | k + 1 => a 0 * b (k + 1) + cv (fun i => a (i + 1)) b k
/-- Congruence of all coefficients. -/
def Cg (p : Nat) (f g : Nat → Int) : Prop := ∀ k, cz p (f k) (g k)
theorem Cg.refl {p : Nat} (f : Nat → Int) : Cg p f f := fun _ => cz.refl _
theorem Cg.of_eq {p : Nat} {f g : Nat → Int} (h : ∀ k, f k = g k) : Cg p f g := fun k => cz.of_eq (h k)
theorem Cg.symm {p : Nat} {f g : Nat → Int} (h : Cg p f g) : Cg p g f := fun k => (h k).symm
theorem Cg.trans {p : Nat} {f g h : Nat → Int} (a : Cg p f g) (b : Cg p g h) : Cg p f h := fun k => (a k).trans (b k)
theorem Cg.add {p : Nat} {a b c d : Nat → Int} (h : Cg p a b) (k : Cg p c d) : Cg p (fun i => a i + c i) (fun i => b i + d i) := fun i => (h i).add (k i)
theorem Cg.sub {p : Nat} {a b c d : Nat → Int} (h : Cg p a b) (k : Cg p c d) : Cg p (fun i => a i - c i) (fun i => b i - d i) := fun i => (h i).sub (k i)
theorem Cg.cv {p : Nat} : ∀ {a b c d : Nat → Int}, Cg p a b → Cg p c d → Cg p (cv a c) (cv b d) := by
  intro a b c d h k i
  induction i generalizing a b with
  | zero => exact (h 0).mul (k 0)
  | succ i ih => exact ((h 0).mul (k (i + 1))).add (ih (fun j => h (j + 1)))

theorem cv_right (a b : Nat → Int) : ∀ k, cv a b (k + 1) = cv a (fun i => b (i + 1)) k + a (k + 1) * b 0 := by
  intro k
  induction k generalizing a with
  | zero => simp [cv]
  | succ k ih =>
    rw [cv, ih, cv]
    simp only [Int.add_assoc]
theorem cv_comm (a b : Nat → Int) (k : Nat) : cv a b k = cv b a k := by
  induction k generalizing a with
  | zero => simp [cv, Int.mul_comm]
  | succ k ih => rw [cv, cv_right b a, ih, Int.mul_comm, Int.add_comm]
theorem cv_congr {a a' b b' : Nat → Int} {k : Nat} (h : ∀ i, i ≤ k → a i = a' i) (h' : ∀ i, i ≤ k → b i = b' i) : cv a b k = cv a' b' k := by
  induction k generalizing a a' with
  | zero => simp [cv, h 0 (Nat.le_refl _), h' 0 (Nat.le_refl _)]
  | succ k ih => rw [cv, cv, h 0 (Nat.zero_le _), h' (k + 1) (Nat.le_refl _), ih (fun i hi => h (i + 1) (by omega)) (fun i hi => h' i (by omega))]
theorem cv_add_left (a b c : Nat → Int) (k : Nat) : cv (fun i => a i + b i) c k = cv a c k + cv b c k := by
  induction k generalizing a b with
  | zero => simp [cv, Int.add_mul]
  | succ k ih => rw [cv, cv, cv, ih]; grind
theorem cv_add_right (a b c : Nat → Int) (k : Nat) : cv a (fun i => b i + c i) k = cv a b k + cv a c k := by
  rw [cv_comm, cv_add_left, cv_comm b, cv_comm c]
theorem cv_smul_left (x : Int) (a b : Nat → Int) (k : Nat) : cv (fun i => x * a i) b k = x * cv a b k := by
  induction k generalizing a with
  | zero => simp [cv, Int.mul_assoc]
  | succ k ih => rw [cv, cv, ih, Int.mul_assoc, Int.mul_add]
theorem cv_smul_right (x : Int) (a b : Nat → Int) (k : Nat) : cv a (fun i => x * b i) k = x * cv a b k := by
  rw [cv_comm, cv_smul_left, cv_comm]
theorem cv_neg_left (a b : Nat → Int) (k : Nat) : cv (fun i => - a i) b k = - cv a b k := by
  have := cv_smul_left (-1) a b k
  simpa using this
theorem cv_sub_left (a b c : Nat → Int) (k : Nat) : cv (fun i => a i - b i) c k = cv a c k - cv b c k := by
  induction k generalizing a b with
  | zero => simp [cv, Int.sub_mul]
  | succ k ih => rw [cv, cv, cv, ih]; grind
theorem cv_sub_right (a b c : Nat → Int) (k : Nat) : cv a (fun i => b i - c i) k = cv a b k - cv a c k := by
  rw [cv_comm, cv_sub_left, cv_comm b, cv_comm c]
theorem cv_zero_left (b : Nat → Int) (k : Nat) : cv (fun _ => 0) b k = 0 := by
  induction k with
  | zero => simp [cv]
  | succ k ih => rw [cv, ih]; simp
theorem cv_zero_right (a : Nat → Int) (k : Nat) : cv a (fun _ => 0) k = 0 := by rw [cv_comm, cv_zero_left]
theorem cv_assoc (a b c : Nat → Int) (k : Nat) : cv (cv a b) c k = cv a (cv b c) k := by
  induction k generalizing a with
  | zero => simp [cv, Int.mul_assoc]
  | succ k ih =>
    rw [cv, cv, show (fun i => cv a b (i + 1)) = (fun i => a 0 * b (i + 1) + cv (fun j => a (j + 1)) b i) from rfl, cv_add_left, cv_smul_left, ih, cv, cv]
    grind
/-- c x^n -/
def mono (c : Int) (n : Nat) : Nat → Int := fun i => if i = n then c else 0
theorem cv_mono (c : Int) (b : Nat → Int) (n k : Nat) : cv (mono c n) b k = if n ≤ k then c * b (k - n) else 0 := by
  induction n generalizing k with
  | zero =>
    cases k with
    | zero => simp [cv, mono]
    | succ k =>
      rw [cv, show (fun i => mono c 0 (i + 1)) = fun _ => 0 from funext fun i => by simp [mono], cv_zero_left]
      simp [mono]
  | succ n ih =>
    cases k with
    | zero => simp [cv, mono]
    | succ k =>
      rw [cv, show (fun i => mono c (n + 1) (i + 1)) = mono c n from funext fun i => by simp [mono], ih]
      simp [mono]
theorem cv_one (b : Nat → Int) (k : Nat) : cv (mono 1 0) b k = b k := by rw [cv_mono]; simp
/-- Nothing from n on. -/
def Up (p : Nat) (f : Nat → Int) (n : Nat) : Prop := ∀ k, n ≤ k → cz p (f k) 0
theorem cv_left0 {p : Nat} {a b : Nat → Int} (h : ∀ k, cz p (a k) 0) (k : Nat) : cz p (cv a b k) 0 := by
  have := Cg.cv (c := b) (d := b) (show Cg p a (fun _ => 0) from h) (Cg.refl b) k
  rwa [cv_zero_left] at this
/-- The top of a product. -/
theorem cv_top {p : Nat} {a b : Nat → Int} {n m : Nat} (ha : Up p a (n + 1)) (hb : Up p b (m + 1)) : cz p (cv a b (n + m)) (a n * b m) := by
  induction n generalizing a with
  | zero =>
    rw [Nat.zero_add]
    cases m with
    | zero => exact cz.refl _
    | succ m =>
      rw [cv]
      have := (cz.refl (p := p) (a 0 * b (m + 1))).add (cv_left0 (b := b) (fun k => ha (k + 1) (by omega)) m)
      rwa [Int.add_zero] at this
  | succ n ih =>
    rw [show n + 1 + m = (n + m) + 1 by omega, cv]
    have h1 := (cz.refl (p := p) (a 0)).mul (hb (n + m + 1) (by omega))
    have h2 := h1.add (ih (a := fun i => a (i + 1)) fun k hk => ha (k + 1) (by omega))
    rwa [Int.mul_zero, Int.zero_add] at h2
/-- Above the top there is nothing. -/
theorem cv_up {p : Nat} {a b : Nat → Int} {n m : Nat} (ha : Up p a (n + 1)) (hb : Up p b (m + 1)) : Up p (cv a b) (n + m + 1) := by
  intro k hk
  induction n generalizing a k with
  | zero =>
    obtain ⟨k, rfl⟩ : ∃ j, k = j + 1 := ⟨k - 1, by omega⟩
    rw [cv]
    have h1 := (cz.refl (p := p) (a 0)).mul (hb (k + 1) (by omega))
    have h2 := h1.add (cv_left0 (b := b) (fun k => ha (k + 1) (by omega)) k)
    rwa [Int.mul_zero, Int.zero_add] at h2
  | succ n ih =>
    obtain ⟨k, rfl⟩ : ∃ j, k = j + 1 := ⟨k - 1, by omega⟩
    rw [cv]
    have h1 := (cz.refl (p := p) (a 0)).mul (hb (k + 1) (by omega))
    have h2 := h1.add (ih (a := fun i => a (i + 1)) (fun k hk => ha (k + 1) (by omega)) k (by omega))
    rwa [Int.mul_zero, Int.zero_add] at h2

/-- The coefficients of a list. -/
def co (L : List Nat) : Nat → Int := fun k => (ld L k : Int)
/-- In normal form. -/
def Pn (p : Nat) (L : List Nat) : Prop := Nm L ∧ ∀ x ∈ L, x < p
theorem Pn.lt {p : Nat} {L : List Nat} (h : Pn p L) (hp : 0 < p) (k : Nat) : ld L k < p := by
  by_cases hk : k < L.length
  · rw [ld_lt hk]; exact h.2 _ (List.getElem_mem hk)
  · rw [ld_ge (by omega)]; exact hp
theorem Pn.nil {p : Nat} : Pn p [] := ⟨fun h => absurd rfl h, by simp⟩
theorem nm_top {L : List Nat} (h : Nm L) (hl : 0 < L.length) : ld L (L.length - 1) ≠ 0 := by
  have hne : L ≠ [] := by intro h0; rw [h0] at hl; simp at hl
  have := h hne
  rw [List.getLast_eq_getElem] at this
  rwa [ld_lt (by omega)]
theorem nm_of_top {L : List Nat} (h : L.length = 0 ∨ ld L (L.length - 1) ≠ 0) : Nm L := by
  intro hne
  have hl : 0 < L.length := List.length_pos_iff.2 hne
  rw [List.getLast_eq_getElem]
  have := h.resolve_left (by omega)
  rwa [ld_lt (by omega)] at this
theorem nm_len_le {L M : List Nat} (h : Nm L) (he : ∀ k, ld L k = ld M k) : L.length ≤ M.length := by
  apply Classical.byContradiction
  intro hn
  have h1 := nm_top h (by omega)
  rw [he, ld_ge (by omega)] at h1
  exact h1 rfl
theorem nm_ext {L M : List Nat} (h : Nm L) (h' : Nm M) (he : ∀ k, ld L k = ld M k) : L = M := by
  have h1 := nm_len_le h he
  have h2 := nm_len_le h' (fun k => (he k).symm)
  apply List.ext_getElem (by omega)
  intro i hi hi'
  have := he i
  rwa [ld_lt hi, ld_lt hi'] at this
theorem Pn.ext {p : Nat} {L M : List Nat} (hp : 0 < p) (h : Pn p L) (h' : Pn p M) (he : Cg p (co L) (co M)) : L = M :=
  nm_ext h.1 h'.1 fun k => cz_eq (h.lt hp k) (h'.lt hp k) (he k)
theorem co_up {p : Nat} (L : List Nat) : Up p (co L) L.length := fun k hk => by
  unfold co; rw [ld_ge hk]; exact cz.refl _
theorem Pn.top {p : Nat} {L : List Nat} (h : Pn p L) (hp : 0 < p) (hl : 0 < L.length) : ¬ cz p (co L (L.length - 1)) 0 := fun hc => by
  have h1 := cz_zero hc
  rw [Nat.mod_eq_of_lt (h.lt hp _)] at h1
  exact nm_top h.1 hl h1
/-- What is nothing from n on is no longer than n. -/
theorem Pn.short {p : Nat} {L : List Nat} (h : Pn p L) (hp : 0 < p) {n : Nat} (hu : Up p (co L) n) : L.length ≤ n := by
  apply Classical.byContradiction
  intro hn
  exact h.top hp (by omega) (hu _ (by omega))

/-- Quotient and rest. -/
def Dv (p : Nat) (a b q r : Nat → Int) (n : Nat) : Prop := Cg p a (fun k => cv q b k + r k) ∧ Up p r n
/-- A product with what has a top is nothing from its length on: then it is nothing. -/
theorem no_mul {p : Nat} (hp : Nt.Pr p) {d b : Nat → Int} {m : Nat} (hb : Up p b (m + 1)) (ht : ¬ cz p (b m) 0) (hu : Up p (cv d b) m) : ∀ n, Up p d n → Up p d 0
  | 0, h => h
  | n + 1, h => by
    refine no_mul hp hb ht hu n fun k hk => ?_
    by_cases hkn : k = n
    · subst hkn
      have h1 := (cv_top h hb).symm.trans (hu (k + m) (by omega))
      exact (cz_mul_zero hp h1).resolve_right ht
    · exact h k (by omega)
theorem Dv.unique {p : Nat} (hp : Nt.Pr p) {a b q r q' r' : Nat → Int} {m n n' : Nat} (hb : Up p b (m + 1)) (ht : ¬ cz p (b m) 0) (hq : Up p q n) (hq' : Up p q' n')
    (h : Dv p a b q r m) (h' : Dv p a b q' r' m) : Cg p q q' ∧ Cg p r r' := by
  have e : Cg p (fun k => cv (fun i => q i - q' i) b k) (fun k => r' k - r k) := fun k => by
    have h1 := ((h.1 k).symm.trans (h'.1 k)).sub (cz.refl (p := p) (cv q' b k + r k))
    show cz p (cv (fun i => q i - q' i) b k) (r' k - r k)
    rw [cv_sub_left]
    simp only at h1
    rwa [show cv q b k + r k - (cv q' b k + r k) = cv q b k - cv q' b k by omega, show cv q' b k + r' k - (cv q' b k + r k) = r' k - r k by omega] at h1
  have hu : Up p (cv (fun i => q i - q' i) b) m := fun k hk => (e k).trans (by
    have := (h'.2 k hk).sub (h.2 k hk)
    rwa [Int.sub_zero] at this)
  have hd : Up p (fun i => q i - q' i) (n + n') := fun k hk => by
    have := (hq k (by omega)).sub (hq' k (by omega))
    rwa [Int.sub_zero] at this
  have h0 := no_mul hp hb ht hu _ hd
  constructor
  · intro k
    have := (h0 k (Nat.zero_le _)).add (cz.refl (p := p) (q' k))
    rwa [Int.sub_add_cancel, Int.zero_add] at this
  · intro k
    have h1 := (e k).symm.trans (cv_left0 (b := b) (fun k => h0 k (Nat.zero_le _)) k)
    have := h1.add (cz.refl (p := p) (r k))
    rw [Int.sub_add_cancel, Int.zero_add] at this
    exact this.symm
end Pm
