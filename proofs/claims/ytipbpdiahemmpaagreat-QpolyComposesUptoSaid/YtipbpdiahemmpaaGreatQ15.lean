/- The derivative: zpoly's and the reference's. -/
import Derived.Test.YtipbpdiahemmpaaGreatQ14
import Derived.Deep.AppendLies
import Derived.Deep.RegionLaw
import Derived.Test.YtipbpdiahemmpaaGreatQ13
namespace Go.Proofs.YtipbpdiahemmpaaGreat
open Go.RowKit Go.IntWalk
attribute [local go_sem ↓] Go.wp_at_zero Go.wp_at_succ

end Go.Proofs.YtipbpdiahemmpaaGreat

/- Polynomials as coefficient functions with values in Int: products, tops, division with a rest is of one kind. Nothing of the program. -/
namespace Pz
/-- The product of two polynomials. -/
def cv (a b : Nat → Int) : Nat → Int
  | 0 => a 0 * b 0
  | k + 1 => a 0 * b (k + 1) + cv (fun i => a (i + 1)) b k
theorem cv_right (a b : Nat → Int) : ∀ k, cv a b (k + 1) = cv a (fun i => b (i + 1)) k + a (k + 1) * b 0 := by
  intro k
  induction k generalizing a with
  | zero => simp [cv]
  | succ k ih =>
    rw [cv, ih, cv]
    grind
theorem cv_comm (a b : Nat → Int) (k : Nat) : cv a b k = cv b a k := by
  induction k generalizing a with
  | zero => simp only [cv]; grind
  | succ k ih => rw [cv, cv_right b a, ih]; grind
theorem cv_congr {a a' b b' : Nat → Int} {k : Nat} (h : ∀ i, i ≤ k → a i = a' i) (h' : ∀ i, i ≤ k → b i = b' i) : cv a b k = cv a' b' k := by
  induction k generalizing a a' with
  | zero => simp [cv, h 0 (Nat.le_refl _), h' 0 (Nat.le_refl _)]
  | succ k ih => rw [cv, cv, h 0 (Nat.zero_le _), h' (k + 1) (Nat.le_refl _), ih (fun i hi => h (i + 1) (by omega)) (fun i hi => h' i (by omega))]
theorem cv_add_left (a b c : Nat → Int) (k : Nat) : cv (fun i => a i + b i) c k = cv a c k + cv b c k := by
  induction k generalizing a b with
  | zero => simp only [cv]; grind
  | succ k ih => rw [cv, cv, cv, ih]; grind
theorem cv_add_right (a b c : Nat → Int) (k : Nat) : cv a (fun i => b i + c i) k = cv a b k + cv a c k := by
  rw [cv_comm, cv_add_left, cv_comm b, cv_comm c]
theorem cv_smul_left (x : Int) (a b : Nat → Int) (k : Nat) : cv (fun i => x * a i) b k = x * cv a b k := by
  induction k generalizing a with
  | zero => simp only [cv]; grind
  | succ k ih => rw [cv, cv, ih]; grind
theorem cv_smul_right (x : Int) (a b : Nat → Int) (k : Nat) : cv a (fun i => x * b i) k = x * cv a b k := by
  rw [cv_comm, cv_smul_left, cv_comm]
theorem cv_sub_left (a b c : Nat → Int) (k : Nat) : cv (fun i => a i - b i) c k = cv a c k - cv b c k := by
  induction k generalizing a b with
  | zero => simp only [cv]; grind
  | succ k ih => rw [cv, cv, cv, ih]; grind
theorem cv_sub_right (a b c : Nat → Int) (k : Nat) : cv a (fun i => b i - c i) k = cv a b k - cv a c k := by
  rw [cv_comm, cv_sub_left, cv_comm b, cv_comm c]
theorem cv_zero_left (b : Nat → Int) (k : Nat) : cv (fun _ => 0) b k = 0 := by
  induction k with
  | zero => simp only [cv]; grind
  | succ k ih => rw [cv, ih]; grind
theorem cv_zero_right (a : Nat → Int) (k : Nat) : cv a (fun _ => 0) k = 0 := by rw [cv_comm, cv_zero_left]
theorem cv_assoc (a b c : Nat → Int) (k : Nat) : cv (cv a b) c k = cv a (cv b c) k := by
  induction k generalizing a with
  | zero => simp only [cv]; grind
  | succ k ih =>
    rw [cv, cv, show (fun i => cv a b (i + 1)) = (fun i => a 0 * b (i + 1) + cv (fun j => a (j + 1)) b i) from rfl, cv_add_left, cv_smul_left, ih, cv, cv]
    grind
/-- c x^n -/
def mono (c : Int) (n : Nat) : Nat → Int := fun i => if i = n then c else 0
theorem cv_mono (c : Int) (b : Nat → Int) (n k : Nat) : cv (mono c n) b k = if n ≤ k then c * b (k - n) else 0 := by
  induction n generalizing k with
  | zero =>
    cases k with
    | zero => simp [cv, mono]
    | succ k =>
      rw [cv, show (fun i => mono c 0 (i + 1)) = fun _ => 0 from funext fun i => by simp [mono], cv_zero_left]
      simp [mono]
      try grind
  | succ n ih =>
    cases k with
    | zero => simp [cv, mono]
    | succ k =>
      rw [cv, show (fun i => mono c (n + 1) (i + 1)) = mono c n from funext fun i => by simp [mono], ih]
      simp [mono]
      try grind
theorem cv_one (b : Nat → Int) (k : Nat) : cv (mono 1 0) b k = b k := by rw [cv_mono]; simp
/-- Nothing from n on. -/
def Up (f : Nat → Int) (n : Nat) : Prop := ∀ k, n ≤ k → f k = 0
theorem Up.mono {f : Nat → Int} {n m : Nat} (h : Up f n) (hm : n ≤ m) : Up f m := fun k hk => h k (by omega)
theorem Up.add {f g : Nat → Int} {n : Nat} (h : Up f n) (k : Up g n) : Up (fun i => f i + g i) n := fun i hi => by
  show f i + g i = 0
  rw [h i hi, k i hi]; grind
theorem Up.sub {f g : Nat → Int} {n : Nat} (h : Up f n) (k : Up g n) : Up (fun i => f i - g i) n := fun i hi => by
  show f i - g i = 0
  rw [h i hi, k i hi]; grind
theorem Up.smul {f : Nat → Int} {n : Nat} (h : Up f n) (c : Int) : Up (fun i => c * f i) n := fun i hi => by
  show c * f i = 0
  rw [h i hi]; grind
theorem cv_left0 {a b : Nat → Int} (h : ∀ k, a k = 0) (k : Nat) : cv a b k = 0 := by
  rw [cv_congr (fun i _ => h i) (fun _ _ => rfl), cv_zero_left]
/-- The top of a product. -/
theorem cv_top {a b : Nat → Int} {n m : Nat} (ha : Up a (n + 1)) (hb : Up b (m + 1)) : cv a b (n + m) = a n * b m := by
  induction n generalizing a with
  | zero =>
    rw [Nat.zero_add]
    cases m with
    | zero => rfl
    | succ m =>
      rw [cv, cv_left0 (fun k => ha (k + 1) (by omega))]
      grind
  | succ n ih =>
    rw [show n + 1 + m = (n + m) + 1 by omega, cv, hb (n + m + 1) (by omega), ih (a := fun i => a (i + 1)) fun k hk => ha (k + 1) (by omega)]
    grind
/-- Above the top there is nothing. -/
theorem cv_up {a b : Nat → Int} {n m : Nat} (ha : Up a n) (hb : Up b m) : Up (cv a b) (n + m - 1) := by
  intro k hk
  induction n generalizing a k with
  | zero => exact cv_left0 (fun i => ha i (Nat.zero_le _)) k
  | succ n ih =>
    cases k with
    | zero =>
      have : m = 0 := by omega
      subst this
      rw [cv, hb 0 (Nat.le_refl _)]
      grind
    | succ k =>
      rw [cv, hb (k + 1) (by omega), ih (a := fun i => a (i + 1)) (fun k hk => ha (k + 1) (by omega)) k (by omega)]
      grind
theorem mul_zero' {a b : Int} (h : a * b = 0) : a = 0 ∨ b = 0 := by
  exact Int.mul_eq_zero.1 h
/-- A product with what has a top is nothing from p + m on: then the other factor is nothing from p on. -/
theorem no_mul {d b : Nat → Int} {p m : Nat} (hb : Up b (m + 1)) (ht : b m ≠ 0) (hu : Up (cv d b) (p + m)) : ∀ n, Up d n → Up d p
  | 0, h => h.mono (Nat.zero_le _)
  | n + 1, h => by
    rcases Nat.lt_or_ge n p with hn | hn
    · exact h.mono (by omega)
    · refine no_mul hb ht hu n fun k hk => ?_
      by_cases hkn : k = n
      · subst hkn
        have h1 := (cv_top h hb).symm.trans (hu (k + m) (by omega))
        exact (mul_zero' h1).resolve_right ht
      · exact h k (by omega)
/-- Quotient and rest are the only ones. -/
theorem dv_unique {b q r q' r' : Nat → Int} {m n n' : Nat} (hb : Up b (m + 1)) (ht : b m ≠ 0) (hq : Up q n) (hq' : Up q' n')
    (e : ∀ k, cv q b k + r k = cv q' b k + r' k) (hr : Up r m) (hr' : Up r' m) : (∀ k, q k = q' k) ∧ ∀ k, r k = r' k := by
  have e1 : ∀ k, cv (fun i => q i - q' i) b k = r' k - r k := fun k => by
    rw [cv_sub_left]
    have := e k
    grind
  have hu : Up (cv (fun i => q i - q' i) b) m := fun k hk => by
    rw [e1, hr k hk, hr' k hk]; grind
  have hd : Up (fun i => q i - q' i) (n + n') := (hq.mono (by omega)).sub (hq'.mono (by omega))
  have h0 := no_mul (p := 0) hb ht (by rw [Nat.zero_add]; exact hu) _ hd
  have h1 : ∀ k, q k = q' k := fun k => by
    have := h0 k (Nat.zero_le _)
    simp only at this
    grind
  refine ⟨h1, fun k => ?_⟩
  have := e k
  rw [cv_congr (fun i _ => h1 i) (fun _ _ => rfl)] at this
  grind
end Pz

/- Division of polynomials over the integers: without fractions, and exactly. Nothing of the program. -/
namespace Pz
theorem cvp_cv (a b : Nat → Int) (t : Nat) : ∀ n, cvp a b n t = cv (fun i => if i < n then a i else 0) b t
  | 0 => by rw [cvp_zero, cv_left0 (fun k => by simp)]
  | n + 1 => by
    rw [cvp_succ, cvp_cv a b t n]
    have e : cv (fun i => if i < n + 1 then a i else 0) b t = cv (fun i => (if i < n then a i else 0) + mono (a n) n i) b t := cv_congr (fun i _ => by
      unfold mono
      by_cases h1 : i = n
      · subst h1; simp
      · by_cases h2 : i < n
        · rw [if_pos (by omega), if_pos h2, if_neg h1]; simp
        · rw [if_neg (by omega), if_neg h2, if_neg h1]; simp) (fun _ _ => rfl)
    rw [e, cv_add_left, cv_mono]
theorem cvp_full {a b : Nat → Int} {n : Nat} (h : Up a n) (t : Nat) : cvp a b n t = cv a b t := by
  rw [cvp_cv]
  exact cv_congr (fun i _ => by
    by_cases h1 : i < n
    · rw [if_pos h1]
    · rw [if_neg h1, h i (by omega)]) (fun _ _ => rfl)
theorem up_co (L : List Int) : Up (co L) L.length := fun _ hk => co_ge hk
theorem IsP.up {f : Nat → Int} {M : List Int} (h : IsP f M) : Up f M.length := fun k hk => by rw [← h.2]; exact co_ge hk
/-- j steps of a division by b, with the lead l. -/
def Psd (l : Int) (j : Nat) (a b q r : Nat → Int) : Prop := ∀ t, l ^ j * a t = cv q b t + r t
theorem psd_zero (l : Int) (a b : Nat → Int) : Psd l 0 a b (co []) a := fun t => by
  rw [cv_left0 (fun i => co_nil i)]
  simp
theorem shift_mono (c : Int) (k : Nat) (b : Nat → Int) (t : Nat) : cv (mono c k) b t = if t < k then 0 else b (t - k) * c := by
  rw [cv_mono]
  by_cases h : t < k
  · rw [if_neg (by omega), if_pos h]
  · rw [if_pos (by omega), if_neg h, Int.mul_comm]
theorem psd_step {l : Int} {j : Nat} {a b q r : Nat → Int} (h : Psd l j a b q r) (c : Int) (k : Nat) {q' r' : Nat → Int} (hq : ∀ t, q' t = q t * l + mono c k t) (hr : ∀ t, r' t = r t * l - (if t < k then 0 else b (t - k) * c)) : Psd l (j + 1) a b q' r' := fun t => by
  have e : cv q' b t = cv (fun i => l * q i + mono c k i) b t := cv_congr (fun i _ => by rw [hq, Int.mul_comm]) (fun _ _ => rfl)
  rw [e, cv_add_left, cv_smul_left, shift_mono, hr, Int.pow_succ]
  have := h t
  grind
theorem psd_scale {l : Int} {j : Nat} {a b q r : Nat → Int} (h : Psd l j a b q r) {q' r' : Nat → Int} (hq : ∀ t, q' t = q t * l) (hr : ∀ t, r' t = r t * l) : Psd l (j + 1) a b q' r' := fun t => by
  have e : cv q' b t = cv (fun i => l * q i) b t := cv_congr (fun i _ => by rw [hq, Int.mul_comm]) (fun _ _ => rfl)
  rw [e, cv_smul_left, hr, Int.pow_succ]
  have := h t
  grind
/-- The top is gone. -/
theorem top_gone {b r r' : Nat → Int} {n m : Nat} (hb : Up b (m + 1)) (hr : Up r (n + m + 1)) (e : ∀ t, r' t = r t * b m - (if t < n then 0 else b (t - n) * r (n + m))) : Up r' (n + m) := fun t ht => by
  rw [e, if_neg (by omega)]
  rcases Nat.eq_or_lt_of_le ht with h | h
  · subst h
    rw [show n + m - n = m by omega]
    grind
  · rw [hr t (by omega), hb (t - n) (by omega)]
    grind
theorem psd_unique {l : Int} {j m n n' : Nat} {a b q r q' r' : Nat → Int} (h : Psd l j a b q r) (h' : Psd l j a b q' r') (hb : Up b (m + 1)) (ht : b m ≠ 0) (hq : Up q n) (hq' : Up q' n') (hr : Up r m) (hr' : Up r' m) : (∀ k, q k = q' k) ∧ ∀ k, r k = r' k :=
  dv_unique hb ht hq hq' (fun k => (h k).symm.trans (h' k)) hr hr'
theorem mono_zl {c : Int} {N : Nat} (h : Zz.zl c ≤ N) (k t : Nat) : Zz.zl (mono c k t) ≤ N := by
  unfold mono
  split
  · exact h
  · rw [Zz.zl_zero]; exact Nat.zero_le _
theorem step_size {x y l : Int} {N N' : Nat} (hx : Zz.zl x ≤ N) (hy : Zz.zl y ≤ N + N') (hl : Zz.zl l ≤ N') : Zz.zl (x * l + y) ≤ N + (N' + 1) := by
  have h1 := Zz.zl_add (x * l) y
  have h2 := Zz.zl_mul x l
  omega
theorem step_size' {x y l c : Int} {N N' : Nat} {p : Prop} [Decidable p] (hx : Zz.zl x ≤ N) (hy : Zz.zl y ≤ N') (hl : Zz.zl l ≤ N') (hc : Zz.zl c ≤ N) : Zz.zl (x * l - (if p then 0 else y * c)) ≤ N + (N' + 1) := by
  have h2 := Zz.zl_mul x l
  have h3 := Zz.zl_mul y c
  split
  · rw [Int.sub_zero]; omega
  · have h1 := Zz.zl_sub (x * l) (y * c)
    omega
/-- A division that leaves nothing, so far. -/
def Exd (a b q r : Nat → Int) : Prop := ∀ t, a t = cv q b t + r t
theorem exd_zero (a b : Nat → Int) : Exd a b (co []) a := fun t => by
  rw [cv_left0 (fun i => co_nil i), Int.zero_add]
theorem exd_step {a b q r : Nat → Int} (h : Exd a b q r) (c : Int) (k : Nat) {q' r' : Nat → Int} (hq : ∀ t, q' t = q t + mono c k t) (hr : ∀ t, r' t = r t - (if t < k then 0 else b (t - k) * c)) : Exd a b q' r' := fun t => by
  have e : cv q' b t = cv (fun i => q i + mono c k i) b t := cv_congr (fun i _ => hq i) (fun _ _ => rfl)
  rw [e, cv_add_left, shift_mono, hr]
  have := h t
  grind
theorem top_gone' {b r r' : Nat → Int} {n m : Nat} {c : Int} (hb : Up b (m + 1)) (hr : Up r (n + m + 1)) (hc : b m * c = r (n + m)) (e : ∀ t, r' t = r t - (if t < n then 0 else b (t - n) * c)) : Up r' (n + m) := fun t ht => by
  rw [e, if_neg (by omega)]
  rcases Nat.eq_or_lt_of_le ht with h | h
  · subst h
    rw [show n + m - n = m by omega]
    grind
  · rw [hr t (by omega), hb (t - n) (by omega)]
    grind
/-- b divides a. -/
def Dvs (b a : Nat → Int) : Prop := ∃ q n, Up q n ∧ ∀ t, a t = cv q b t
theorem exd_rest {a b q r : Nat → Int} {n : Nat} (h : Exd a b q r) (hq : Up q n) (hd : Dvs b a) : Dvs b r := by
  obtain ⟨q0, n0, h0, e⟩ := hd
  refine ⟨fun i => q0 i - q i, n0 + n, (h0.mono (by omega)).sub (hq.mono (by omega)), fun t => ?_⟩
  rw [cv_sub_left, ← e, h t]
  grind
theorem dvs_top {b r : Nat → Int} {p m : Nat} (hb : Up b (m + 1)) (ht : b m ≠ 0) (hr : Up r (p + m + 1)) (hd : Dvs b r) : b m ∣ r (p + m) := by
  obtain ⟨q, n, hq, e⟩ := hd
  have h1 := no_mul (p := p + 1) hb ht (fun k hk => by rw [← e]; exact hr k (by omega)) n hq
  exact ⟨q p, by rw [e, cv_top h1 hb, Int.mul_comm]⟩
theorem dvs_low {b r : Nat → Int} {m : Nat} (hb : Up b (m + 1)) (ht : b m ≠ 0) (hr : Up r m) (hd : Dvs b r) (t : Nat) : r t = 0 := by
  obtain ⟨q, n, hq, e⟩ := hd
  have h1 := no_mul (p := 0) hb ht (fun k hk => by rw [← e]; exact hr k (by omega)) n hq
  rw [e, cv_left0 fun k => h1 k (Nat.zero_le _)]
theorem exd_end {a b q r : Nat → Int} (h : Exd a b q r) (hr : ∀ t, r t = 0) (t : Nat) : a t = cv q b t := by
  rw [h t, hr t, Int.add_zero]
theorem dvs_unique {a b q q' : Nat → Int} {m n n' : Nat} (hb : Up b (m + 1)) (ht : b m ≠ 0) (hq : Up q n) (hq' : Up q' n') (h : ∀ t, a t = cv q b t) (h' : ∀ t, a t = cv q' b t) (t : Nat) : q t = q' t :=
  (dv_unique (r := fun _ => 0) (r' := fun _ => 0) hb ht hq hq' (fun k => by rw [← h, ← h']) (fun _ _ => rfl) (fun _ _ => rfl)).1 t
end Pz

/- zpoly: a multiple, so many places up. -/
namespace Go.Proofs.YtipbpdiahemmpaaGreat
open Go.RowKit Go.IntWalk
attribute [local go_sem ↓] Go.wp_at_zero Go.wp_at_succ

theorem row_news {w : World} {b : Nat} {e : TypeId} {k : Nat} {A : Option Addr} {n c : Nat} {xs : List Value} (h : w.ownsRow b e k (.slice A n c) n xs) :
    xs.length = n * k ∧ (A = none → n = 0) ∧ ∀ ad, A = some ad → ∀ (j : Nat) (u : Value), xs[j]? = some u → w.cell? (ad.add j) = some u := by
  refine ⟨h.1, fun e => ?_, fun ad e j u hu => ?_⟩
  · rcases h.2 with ⟨_, h2⟩ | ⟨g, cap, cur, h1, _⟩
    · exact h2
    · injection h1 with h1
      rw [e] at h1
      cases h1
  · subst e
    have hj : j < n * k := by
      rw [← h.1]
      rcases Nat.lt_or_ge j xs.length with h1 | h1
      · exact h1
      · rw [List.getElem?_eq_none h1] at hu; cases hu
    rcases h.2 with ⟨h1, _⟩ | ⟨g, cap, cur, h1, _⟩
    · injection h1 with h1; cases h1
    · injection h1 with h1
      injection h1 with h1
      subst h1
      have e : (⟨g, 0, none⟩ : Addr).add j = ⟨g, j, none⟩ := add_base g _
      rw [e, h.cellAt j hj]
      exact hu
theorem zs_join {w w1 : World} {b k m c c3 : Nat} {A A3 : Option Addr} {Z E2 : List Ent} {LZ M2 : List Int} (hE : w.ownsRow b 28 2 (.slice A k c) k (zcs Z)) (hZl : Z.length = k) (hZ : Ents w b Z LZ) (h2 : Ents w b E2 M2) (hl : E2.length = m)
    (hown : w1.ownsRow b 28 2 (.slice A3 (k + m) c3) (k + m) (zcs Z ++ zcs E2)) (hg : w.grownBy w1 (Value.slice A k c).ownBlock) : OwZs w1 b A3 (k + m) c3 (LZ ++ M2) := by
  have key : ∀ {s : Bool} {B : Option Addr} {k m : Nat} {y : Int}, OwZ w b s B k m y → OwZ w1 b s B k m y := by
    intro s B k m y hy
    refine ⟨?_, hy.sgn⟩
    rcases hE.2 with ⟨h1, _⟩ | ⟨g, cap, cur, h1, _, h3, _⟩
    · refine hy.own.next ((Below.refl _ _).grown hg (Nat.le_refl _) fun k hk => ?_)
      rw [h1] at hk
      cases hk
    · refine own_other hy.own h3 fun i hi hne => hg.block i hi ?_
      rw [h1]
      intro e0
      cases e0
      exact hne rfl
  refine ⟨Z ++ E2, by rw [zcs_append]; exact hown, by rw [List.length_append, hZl, hl], by rw [List.length_append, List.length_append, hZ.1, h2.1], fun j e z he hz => ?_⟩
  rcases Nat.lt_or_ge j Z.length with hj | hj
  · rw [List.getElem?_append_left hj] at he
    rw [List.getElem?_append_left (by rw [← hZ.1]; exact hj)] at hz
    exact key (hZ.2 j e z he hz)
  · rw [List.getElem?_append_right hj] at he
    rw [List.getElem?_append_right (by rw [← hZ.1]; exact hj), ← hZ.1] at hz
    exact key (h2.2 _ e z he hz)
theorem zeros_row (W : World) (k : Nat) (hk : k ≤ 4398046511103) : (W.alloc (.cells (zcs (List.replicate k (false, none, 0, 0))).toArray 28)).ownsRow W.heap.size 28 2 (.slice (some ⟨W.heap.size, 0, none⟩) k k) k (zcs (List.replicate k (false, none, 0, 0))) :=
  ⟨by rw [zcs_len]; simp, .inr ⟨W.heap.size, k, _, rfl, Nat.le_refl _, ZB.made W k, Nat.le_refl _, by unfold maxLen; omega, by simp [zcs_len], by rw [List.take_of_length_le (by simp [zcs_len])]⟩⟩
theorem zeros_ents (W : World) (b k : Nat) : Ents W b (List.replicate k (false, none, 0, 0)) (List.replicate k 0) :=
  ⟨by simp, fun j e z he hz => by
    have e1 := List.eq_of_mem_replicate (List.mem_of_getElem? he)
    have e2 := List.eq_of_mem_replicate (List.mem_of_getElem? hz)
    subst e1 e2
    exact OwZ.zero _ _⟩
theorem sh_congr (k : Nat) {f g : Nat → Int} (h : ∀ i, f i = g i) (i : Nat) : sh k f i = sh k g i := by
  unfold sh
  rw [h]
/-- A list with these coefficients comes back, no longer than that. -/
def RetV (f : Nat → Int) (n0 : Nat) (w : World) (e : Ending) (w' : World) : Prop :=
  ∃ (A : Option Addr) (n c : Nat) (M : List Int), e = .returned (.slice A n c) ∧ OwZs w' w.heap.size A n c M ∧ Hid ((∀ i, Pz.co M i = f i) ∧ n ≤ n0) ∧ Below w.heap.size w w'

set_option maxRecDepth 100000 in
set_option maxHeartbeats 4000000 in
theorem zshifted_any {N N' : Nat} (k : Nat) {s : Bool} {A A' : Option Addr} {n c n' c' : Nat} {L : List Int} {z : Int} {w : World} (h : RdZs w w.heap.size N A n c L) (h' : RdZ w w.heap.size s A' n' c' z) (hn : n + k ≤ 4398046511103) (hn' : n' ≤ N') (hN : N ≤ 4398046511103) (hN' : N' ≤ 4398046511103) :
    Calls Tryz.prog 199 #[.slice A n c, .agg #[.bool s, .slice A' n' c'], .int .i64 k] w (RetV (sh k fun i => Pz.co L i * z) (k + n) w) := by
  obtain ⟨i0, hi, hz0, hz1, hz2⟩ := info_parts infoZ
  have hmk := make_zs k (by omega)
  have hkm : k ≤ 4398046511103 := by omega
  have HLEN := Lib.hid h.len
  have HS := Lib.hid (show ∀ W : World, Below w.heap.size w W → Calls Tryz.prog 198 #[.slice A n c, .agg #[.bool s, .slice A' n' c']] W (RetP (fun i => Pz.co L i * z) W) from fun W hb => zscale_any (N := N) (N' := N') (h.next hb) (h'.next hb) (by omega) hn' hN hN')
  have hZ := ZC.new w s A' n' c'
  have hB : Below w.heap.size w (w.alloc (.cells #[.bool s, .slice A' n' c'] 28)) := (Below.refl w.heap.size w).alloc (Nat.le_refl _) _
  go_enter Tryz.func199, Tryz.ntmps199
  go_upto_region 1 with fail
  generalize w.alloc (.cells #[.bool s, .slice A' n' c'] 28) = W1 at *
  have HB := Lib.hid hB
  have c0 := hZ.c0
  have c1 := hZ.c1
  have hZ2 := hZ.alloc (.cells (zcs (List.replicate k (false, none, 0, 0))).toArray 28)
  have d0 := hZ2.c0
  have d1 := hZ2.c1
  have HZ := Lib.hid hZ
  have HZR := Lib.hid (fun W : World => zeros_row W k hkm)
  have HM := Lib.hid (show ∀ m2 : Nat, m2 ≤ n → (k + m2 ≤ maxLen ∧ (k + m2) * 32 ≤ 140737488355328) from fun m2 h => by unfold maxLen; omega)
  clear hZ hZ2 hB
  go_region_law (first
    | (refine step_append_sl rfl _ _ 23 rfl W1.heap.size 28 i0 (.agg #[.bool false, .slice none 0 0]) 2 32 Tryz.underlying23 hi hz0 hz1 hz2 rfl (by decide) _ _ _ rfl (row_next (HZR.out W1.drew) hb2) A2 m2 c2 (zcs E2) rfl HN2.out.1 HN2.out.2.1 HN2.out.2.2 (zcs_one_cell _) (HM.out m2 HL2.out).1 (HM.out m2 HL2.out).2 (Nat.le_trans (by simp) hb2.size) ?_; intro A3 c3 W3 hown3 hgrow3)
    | (refine step_append_sl rfl _ _ 23 rfl W2.heap.size 28 i0 (.agg #[.bool false, .slice none 0 0]) 2 32 Tryz.underlying23 hi hz0 hz1 hz2 rfl (by decide) _ _ _ rfl (HZR.out W2) A2 m2 c2 (zcs E2) rfl HN3.out.1 HN3.out.2.1 HN3.out.2.2 (zcs_one_cell _) (HM.out m2 HL2.out).1 (HM.out m2 HL2.out).2 (by simp) ?_; intro A3 c3 W3 hown3 hgrow3)
    | (go_simp; go_at_call 198; refine (HS.out _ ?_).mono ?_; (first | exact HB.out.drew | exact (HB.out.drew).alloc HB.out.size _); rintro _ W2 ⟨A2, m2, c2, M2, rfl, ho2, hM2, hb2⟩; obtain ⟨E2, hE2, hEl2, hEn2⟩ := ho2; have HN2 := Lib.hid (row_news hE2); have HN3 := Lib.hid (row_news (row_next hE2 ((Below.refl W2.heap.size W2).alloc (Nat.le_refl _) (.cells (zcs (List.replicate k (false, none, 0, 0))).toArray 28)))); have HL2 := Lib.hid (show m2 ≤ n by rw [← hEl2, hEn2.1]; exact hM2.out.len fun i hi => by rw [Pz.co_ge (by rw [HLEN.out]; exact hi), Int.zero_mul])))
  all_goals clear c0 c1 d0 d1
  all_goals
    have hfin : ∃ b0, w.heap.size ≤ b0 ∧ OwZs W3 b0 A3 (k + m2) c3 (List.replicate k 0 ++ M2) ∧ Below w.heap.size w W3 := by
      first
        | (have hB1 := (HB.out.alloc HB.out.size (.cells (zcs (List.replicate k (false, none, 0, 0))).toArray 28)).drew
           have hB2 := hB1.trans (hb2.mono hB1.size)
           have ho3 := zs_join (row_next (HZR.out W1.drew) hb2) (by simp) (zeros_ents W2 W1.heap.size k) (hEn2.base (by simp)) hEl2 hown3 hgrow3
           exact ⟨_, HB.out.size, ho3, hB2.grown hgrow3 hB2.size (fun j e => by cases e; exact HB.out.size)⟩)
        | (have hB2 := HB.out.drew.trans (hb2.mono HB.out.size)
           have hba : Below W2.heap.size W2 (W2.alloc (.cells (zcs (List.replicate k (false, none, 0, 0))).toArray 28)) := (Below.refl _ _).alloc (Nat.le_refl _) _
           have hE2' := (hEn2.base (b' := W1.heap.size) (Nat.le_refl _)).next hba
           have ho3 := zs_join (row_base (HZR.out W2) hb2.size) (by simp) (zeros_ents _ W1.heap.size k) hE2' hEl2 (row_base hown3 hb2.size) hgrow3
           exact ⟨_, HB.out.size, ho3, (hB2.alloc hB2.size _).grown hgrow3 (hB2.alloc hB2.size _).size (fun j e => by cases e; exact hB2.size)⟩)
    obtain ⟨b0, hb0, ho3, hB3⟩ := hfin
    clear hown3 hgrow3 hb2 hE2 hEn2
    go_wp2
    go_ret
    exact ⟨_, _, _, _, rfl, ho3.base hb0, Lib.hid ⟨fun i => by rw [co_shift]; exact sh_congr k hM2.out.2 i, by have := HL2.out; omega⟩, hB3⟩
end Go.Proofs.YtipbpdiahemmpaaGreat

/- The rounds of a division of polynomials over the integers, with sizes. Nothing of the program. -/
namespace Pz
theorem norm_exists (L : List Int) : ∃ M, IsP (co L) M ∧ M.length ≤ L.length := by
  have key : ∀ k, k ≤ L.length → (∀ i, k ≤ i → co L i = 0) → ∃ M, IsP (co L) M ∧ M.length ≤ L.length := by
    intro k
    induction k with
    | zero =>
      intro _ h
      exact ⟨[], ⟨nz_nil, fun i => by rw [co_nil, h i (Nat.zero_le _)]⟩, Nat.zero_le _⟩
    | succ k ih =>
      intro hk h
      by_cases h0 : co L k = 0
      · exact ih (by omega) fun i hi => by
          rcases Nat.eq_or_lt_of_le hi with e | e
          · rw [← e]; exact h0
          · exact h i e
      · refine ⟨L.take (k + 1), ⟨nz_take hk (.inr (by simpa using h0)), fun i => co_take_all h i⟩, ?_⟩
        rw [List.length_take]
        omega
  exact key L.length (Nat.le_refl _) fun i hi => co_ge hi
theorem IsP.top {f : Nat → Int} {M : List Int} (h : IsP f M) {m : Nat} (hm : M.length = m + 1) : f m ≠ 0 := by
  have e := nz_top h.1 (by omega)
  rw [h.2, hm] at e
  simpa using e
theorem IsP.up1 {f : Nat → Int} {M : List Int} (h : IsP f M) {m : Nat} (hm : M.length = m + 1) : Up f (m + 1) := by
  rw [← hm]; exact h.up
theorem IsP.self {M : List Int} (h : Nz M) : IsP (co M) M := ⟨h, fun _ => rfl⟩
/-- How a division without fractions stands after j steps. -/
structure St (l : Int) (a b : Nat → Int) (N N' S j : Nat) (Q K : List Int) : Prop where
  nq : Nz Q
  nk : Nz K
  eq : Psd l j a b (co Q) (co K)
  upq : Up (co Q) S
  zq : ∀ i, Zz.zl (co Q i) ≤ N + j * (N' + 1)
  zk : ∀ i, Zz.zl (co K i) ≤ N + j * (N' + 1)
theorem st_zero {l : Int} {a b : Nat → Int} {N N' S : Nat} {M : List Int} (hM : IsP a M) (hz : ∀ i, Zz.zl (a i) ≤ N) : St l a b N N' S 0 [] M :=
  ⟨nz_nil, hM.1, fun t => by rw [hM.2]; exact psd_zero l a b t, fun k _ => co_nil k, fun i => by rw [co_nil, Zz.zl_zero]; exact Nat.zero_le _, fun i => by rw [hM.2]; have := hz i; omega⟩
theorem co_one (c : Int) (i k : Nat) : (if i < k then 0 else co [1] (i - k) * c) = mono c k i := by
  unfold mono
  by_cases h : i < k
  · rw [if_pos h, if_neg (by omega)]
  · rw [if_neg h]
    by_cases h2 : i = k
    · subst h2; simp [co]
    · rw [if_neg h2, co_ge (by simp; omega), Int.zero_mul]
theorem st_step {l : Int} {a b x y u v : Nat → Int} {N N' S j k m : Nat} {Q K Q' K' : List Int} (h : St l a b N N' S j Q K) (hb : Up b (m + 1)) (hbz : ∀ i, Zz.zl (b i) ≤ N') (hl : l = b m) (hK : K.length = k + m + 1) (hkS : k < S)
    (hQ' : IsP (fun i => x i + y i) Q') (hx : ∀ i, x i = co Q i * l) (hy : ∀ i, y i = if i < k then 0 else co [1] (i - k) * co K (k + m))
    (hK' : IsP (fun i => u i - v i) K') (hu : ∀ i, u i = co K i * l) (hv : ∀ i, v i = if i < k then 0 else b (i - k) * co K (k + m)) : St l a b N N' S (j + 1) Q' K' ∧ K'.length ≤ k + m := by
  have e1 : ∀ t, co Q' t = co Q t * l + mono (co K (k + m)) k t := fun t => (hQ'.2 t).trans (by show x t + y t = _; rw [hx, hy, co_one])
  have e2 : ∀ t, co K' t = co K t * l - (if t < k then 0 else b (t - k) * co K (k + m)) := fun t => (hK'.2 t).trans (by show u t - v t = _; rw [hu, hv])
  have hlz : Zz.zl l ≤ N' := by rw [hl]; exact hbz m
  have eN : N + (j + 1) * (N' + 1) = N + j * (N' + 1) + (N' + 1) := by rw [Nat.succ_mul, Nat.add_assoc]
  refine ⟨⟨hQ'.1, hK'.1, psd_step h.eq _ _ e1 e2, fun t ht => ?_, fun t => ?_, fun t => ?_⟩, ?_⟩
  · rw [e1, h.upq t ht]
    unfold mono
    rw [if_neg (by omega)]
    simp
  · rw [e1, eN]
    exact step_size (h.zq t) (mono_zl (Nat.le_trans (h.zk _) (Nat.le_add_right _ _)) k t) hlz
  · rw [e2, eN]
    exact step_size' (h.zk t) (hbz (t - k)) hlz (h.zk _)
  · refine nz_len hK'.1 (top_gone (r := co K) (b := b) hb ?_ fun t => ?_)
    · rw [← hK]; exact up_co K
    · rw [e2, hl]
theorem st_scale {l : Int} {a b x u : Nat → Int} {N N' S j : Nat} {Q K Q' K' : List Int} (h : St l a b N N' S j Q K) (hl : Zz.zl l ≤ N')
    (hQ' : IsP x Q') (hx : ∀ i, x i = co Q i * l) (hK' : IsP u K') (hu : ∀ i, u i = co K i * l) : St l a b N N' S (j + 1) Q' K' ∧ K'.length ≤ K.length := by
  have e1 : ∀ t, co Q' t = co Q t * l := fun t => by rw [hQ'.2, hx]
  have e2 : ∀ t, co K' t = co K t * l := fun t => by rw [hK'.2, hu]
  have eN : N + (j + 1) * (N' + 1) = N + j * (N' + 1) + (N' + 1) := by rw [Nat.succ_mul, Nat.add_assoc]
  refine ⟨⟨hQ'.1, hK'.1, psd_scale h.eq e1 e2, fun t ht => by rw [e1, h.upq t ht, Int.zero_mul], fun t => ?_, fun t => ?_⟩, ?_⟩
  · rw [e1, eN]
    have e3 := Zz.zl_mul (co Q t) l
    have e4 := h.zq t
    omega
  · rw [e2, eN]
    have e3 := Zz.zl_mul (co K t) l
    have e4 := h.zk t
    omega
  · exact nz_len hK'.1 fun t ht => by rw [e2, co_ge ht, Int.zero_mul]
theorem st_unique {l : Int} {a b : Nat → Int} {N N' S j m N2 N2' S2 : Nat} {Q K Q2 K2 : List Int} (h : St l a b N N' S j Q K) (h' : St l a b N2 N2' S2 j Q2 K2) (hb : Up b (m + 1)) (hm : b m ≠ 0) (hK : Up (co K) m) (hK2 : Up (co K2) m) : Q = Q2 ∧ K = K2 := by
  obtain ⟨h1, h2⟩ := psd_unique h.eq h'.eq hb hm h.upq h'.upq hK hK2
  exact ⟨nz_ext h.nq h'.nq h1, nz_ext h.nk h'.nk h2⟩
/-- How an exact division stands. -/
structure Ex (a b : Nat → Int) (N N' S j : Nat) (Q K : List Int) : Prop where
  nq : Nz Q
  nk : Nz K
  eq : Exd a b (co Q) (co K)
  upq : Up (co Q) S
  zq : ∀ i, Zz.zl (co Q i) ≤ N + j * (N' + 1)
  zk : ∀ i, Zz.zl (co K i) ≤ N + j * (N' + 1)
theorem ex_zero {a b : Nat → Int} {N N' S : Nat} {M : List Int} (hM : IsP a M) (hz : ∀ i, Zz.zl (a i) ≤ N) : Ex a b N N' S 0 [] M :=
  ⟨nz_nil, hM.1, fun t => by rw [hM.2]; exact exd_zero a b t, fun k _ => co_nil k, fun i => by rw [co_nil, Zz.zl_zero]; exact Nat.zero_le _, fun i => by rw [hM.2]; have := hz i; omega⟩
theorem ex_step {a b y v : Nat → Int} {c : Int} {N N' S j k m : Nat} {Q K Q' K' : List Int} (h : Ex a b N N' S j Q K) (hb : Up b (m + 1)) (hbz : ∀ i, Zz.zl (b i) ≤ N') (hc : b m * c = co K (k + m)) (hcz : Zz.zl c ≤ Zz.zl (co K (k + m))) (hK : K.length = k + m + 1) (hkS : k < S)
    (hQ' : IsP (fun i => co Q i + y i) Q') (hy : ∀ i, y i = if i < k then 0 else co [1] (i - k) * c)
    (hK' : IsP (fun i => co K i - v i) K') (hv : ∀ i, v i = if i < k then 0 else b (i - k) * c) : Ex a b N N' S (j + 1) Q' K' ∧ K'.length ≤ k + m := by
  have e1 : ∀ t, co Q' t = co Q t + mono c k t := fun t => (hQ'.2 t).trans (by show co Q t + y t = _; rw [hy, co_one])
  have e2 : ∀ t, co K' t = co K t - (if t < k then 0 else b (t - k) * c) := fun t => (hK'.2 t).trans (by show co K t - v t = _; rw [hv])
  have eN : N + (j + 1) * (N' + 1) = N + j * (N' + 1) + (N' + 1) := by rw [Nat.succ_mul, Nat.add_assoc]
  have hcz' : Zz.zl c ≤ N + j * (N' + 1) := Nat.le_trans hcz (h.zk _)
  refine ⟨⟨hQ'.1, hK'.1, exd_step h.eq c k e1 e2, fun t ht => ?_, fun t => ?_, fun t => ?_⟩, ?_⟩
  · rw [e1, h.upq t ht]
    unfold mono
    rw [if_neg (by omega)]
    simp
  · rw [e1, eN]
    have e3 := Zz.zl_add (co Q t) (mono c k t)
    have e4 := h.zq t
    have e5 := mono_zl hcz' k t
    omega
  · rw [e2, eN]
    have e4 := h.zk t
    split
    · rw [Int.sub_zero]; omega
    · have e3 := Zz.zl_sub (co K t) (b (t - k) * c)
      have e5 := Zz.zl_mul (b (t - k)) c
      have e6 := hbz (t - k)
      omega
  · refine nz_len hK'.1 (top_gone' (r := co K) (b := b) (c := c) hb ?_ hc e2)
    rw [← hK]; exact up_co K
end Pz

/- zpoly: division without fractions. -/
namespace Go.Proofs.YtipbpdiahemmpaaGreat
open Go.RowKit Go.IntWalk
attribute [local go_sem ↓] Go.wp_at_zero Go.wp_at_succ

/-- A list of one integer. -/
theorem zs_one {w : World} {s : Bool} {A : Option Addr} {n c N : Nat} {z : Int} (h : RdZ w w.heap.size s A n c z) (hn : n ≤ N) :
    RdZs (w.alloc (.cells #[.bool s, .slice A n c] 28)) (w.alloc (.cells #[.bool s, .slice A n c] 28)).heap.size N (some ⟨w.heap.size, 0, none⟩) 1 1 [z] := by
  refine ⟨rfl, Nat.le_refl _, by decide, fun j y hy => ?_⟩
  match j, hy with
  | 0, hy =>
    simp at hy
    subst hy
    have hZ := ZC.new w s A n c
    exact ⟨_, s, A, n, c, rfl, by simp, hZ.c0, hZ.c1, h.next ((Below.refl _ _).alloc (Nat.le_refl _) _), hn⟩
  | j + 1, hy => simp at hy
theorem rd_of' {w : World} {b N : Nat} {A : Option Addr} {n c : Nat} {M : List Int} {f : Nat → Int} (h : OwZs w b A n c M) (hM : ∀ i, Pz.co M i = f i) (hf : ∀ i, Zz.zl (f i) ≤ N) : RdZs w w.heap.size N A n c M := h.rd fun z hz => by
  obtain ⟨i, _, rfl⟩ := Pz.mem_co hz
  rw [hM]
  exact hf i
theorem rd_st {w : World} {b N : Nat} {A : Option Addr} {n c : Nat} {M : List Int} (h : OwZs w b A n c M) (hf : ∀ i, Zz.zl (Pz.co M i) ≤ N) : RdZs w w.heap.size N A n c M := rd_of' h (fun _ => rfl) hf
theorem len_scaled {w : World} {b q : Nat} {A : Option Addr} {n c : Nat} {M Q : List Int} {l : Int} (h : OwZs w b A n c M) (hM : Pz.IsP (fun i => Pz.co Q i * l) M) (hQ : Q.length ≤ q) : n ≤ q := by
  rw [← h.len]
  exact hM.len fun i hi => by rw [Pz.co_ge (by omega), Int.zero_mul]
theorem one_zl {x : Int} {N : Nat} (h : Zz.zl x ≤ N) (i : Nat) : Zz.zl (Pz.co [1] i * x) ≤ N := by
  match i with
  | 0 => simpa [Pz.co] using h
  | i + 1 => rw [Pz.co_ge (by simp), Int.zero_mul, Zz.zl_zero]; exact Nat.zero_le _
/-- Quotient and rest come back. -/
def RetPd (l : Int) (S m N : Nat) (a b : Nat → Int) (w : World) (e : Ending) (w' : World) : Prop :=
  ∃ (A : Option Addr) (n c : Nat) (Q : List Int) (A' : Option Addr) (n' c' : Nat) (R : List Int), e = .returned (.tuple #[.slice A n c, .slice A' n' c', .int .i64 0]) ∧ OwZs w' w.heap.size A n c Q ∧ OwZs w' w.heap.size A' n' c' R ∧ Hid (Pz.Nz Q ∧ Pz.Nz R ∧ Pz.Psd l S a b (Pz.co Q) (Pz.co R) ∧ Pz.Up (Pz.co R) m ∧ Pz.Up (Pz.co Q) S ∧ (∀ i, Zz.zl (Pz.co Q i) ≤ N) ∧ (∀ i, Zz.zl (Pz.co R i) ≤ N)) ∧ Below w.heap.size w w'

set_option maxHeartbeats 1000000 in
theorem zpseudo_zero {N N' : Nat} {A A' : Option Addr} {n c n' c' : Nat} {L L' : List Int} {w : World} (h : RdZs w w.heap.size N A n c L) (h' : RdZs w w.heap.size N' A' n' c' L') (hM2 : Pz.IsP (Pz.co L') []) (hn : n ≤ 1048576) (hn' : n' ≤ 1048576) (hN : N ≤ 4398046511103) (hN' : N' ≤ 4398046511103) :
    Calls Tryz.prog 98 #[.slice A n c, .slice A' n' c'] w fun e w' => e = .returned (.tuple #[.slice none 0 0, .slice none 0 0, .int .i64 5]) ∧ Below w.heap.size w w' := by
  have HM2 := Lib.hid hM2
  go_enter Tryz.func98, Tryz.ntmps98
  go_wp2_with fail
  refine (znorm_any h (by omega) (by omega)).mono ?_
  rintro _ W1 ⟨A1, m1, c1, K1, rfl, ho1, hK1, hb1⟩
  go_wp2_with fail
  refine (znorm_any (h'.next hb1) (by omega) (by omega)).mono ?_
  rintro _ W2 ⟨A2, m2, c2, K2, rfl, ho2, hK2, hb2⟩
  have e2 := hK2.out.unique HM2.out
  obtain rfl : m2 = 0 := by rw [← ho2.len, e2]; rfl
  have HB := Lib.hid (hb1.trans (hb2.mono hb1.size))
  clear hb1 hb2 ho1 ho2 e2
  go_wp2
  go_ret3
  exact ⟨rfl, HB.out⟩

set_option maxRecDepth 100000 in
set_option maxHeartbeats 8000000 in
theorem zpseudo_any {N N' : Nat} {A A' : Option Addr} {n c n' c' : Nat} {L L' M1 M2 : List Int} {w : World} (h : RdZs w w.heap.size N A n c L) (h' : RdZs w w.heap.size N' A' n' c' L') (hM1 : Pz.IsP (Pz.co L) M1) (hM2 : Pz.IsP (Pz.co L') M2) {m : Nat} (hm : M2.length = m + 1) (hn : n ≤ 1048576) (hn' : n' ≤ 1048576) (hN : N + (n + 1) * (N' + 1) ≤ 2199023255551) :
    Calls Tryz.prog 98 #[.slice A n c, .slice A' n' c'] w (RetPd (Pz.co L' m) (M1.length - m) m (N + (n + 1) * (N' + 1)) (Pz.co L) (Pz.co L') w) := by
  have HC := Lib.hid (And.intro (zl_co h) (zl_co h'))
  have HLN := Lib.hid (And.intro h.len h'.len)
  have HM1 := Lib.hid hM1
  have HM2 := Lib.hid hM2
  have HBD := Lib.hid (show ∀ j, j ≤ n + 1 → N + j * (N' + 1) ≤ N + (n + 1) * (N' + 1) from fun j hj => Nat.add_le_add_left (Nat.mul_le_mul_right _ hj) _)
  have hNN : N' ≤ 2199023255551 ∧ N ≤ 2199023255551 := by
    have := HBD.out 1 (by omega)
    omega
  obtain ⟨hN'b, hNb⟩ := hNN
  have HNN := Lib.hid hN
  clear hN hM1 hM2
  go_enter Tryz.func98, Tryz.ntmps98
  go_wp2_with fail
  refine (znorm_any h (by omega) (by omega)).mono ?_
  rintro _ W1 ⟨A1, m1, c1, K1, rfl, ho1, hK1, hb1⟩
  go_wp2_with fail
  refine (znorm_any (h'.next hb1) (by omega) (by omega)).mono ?_
  rintro _ W2 ⟨A2, m2, c2, K2, rfl, ho2, hK2, hb2⟩
  obtain rfl := hK1.out.unique HM1.out
  obtain rfl := hK2.out.unique HM2.out
  have hl1 := ho1.len
  have hl2 := ho2.len
  have hm1n : m1 ≤ n := by rw [← hl1]; exact HM1.out.len fun i hi => Pz.co_ge (by rw [HLN.out.1]; exact hi)
  have hm2n : m2 ≤ n' := by rw [← hl2]; exact HM2.out.len fun i hi => Pz.co_ge (by rw [HLN.out.2]; exact hi)
  have hm2 : m2 = m + 1 := by omega
  have HB := Lib.hid (hb1.trans (hb2.mono hb1.size))
  have ho1 := ho1.next hb2
  have hmb : ((m2 : Int) == 0) = false := by simp; omega
  have HL1 := Lib.hid hl1
  have HL2 := Lib.hid hl2
  clear hb1 hb2 hK1 hK2 hl1 hl2 hm h h'
  by_cases hlt : m1 < m2
  · have hlti : (m1 : Int) < (m2 : Int) := by omega
    have HO := Lib.hid ho1
    have HST := Lib.hid (Pz.st_zero (l := Pz.co L' m) (b := Pz.co L') (N' := N') (S := 0) HM1.out HC.out.1)
    have HS := Lib.hid (show K1.length - m = 0 ∧ K1.length ≤ m by rw [HL1.out]; omega)
    clear ho1 ho2
    go_wp2
    go_ret3
    refine ⟨none, 0, 0, [], _, _, _, K1, rfl, OwZs.nil _ _, HO.out, Lib.hid ?_, HB.out⟩
    rw [HS.out.1]
    have hs := HST.out
    exact ⟨hs.nq, hs.nk, hs.eq, fun i hi => Pz.co_ge (by have := HS.out.2; omega), hs.upq, fun i => Nat.le_trans (hs.zq i) (HBD.out 0 (by omega)), fun i => Nat.le_trans (hs.zk i) (HBD.out 0 (by omega))⟩
  · have hle : m2 ≤ m1 := by omega
    have hlei : (m2 : Int) ≤ (m1 : Int) := by omega
    have hlb : decide (m1 < m2) = false := by simp; omega
    obtain ⟨S, hS⟩ : ∃ S, S = m1 - m := ⟨_, rfl⟩
    have hSi : (m1 : Int) - (m2 : Int) + 1 = (S : Int) := by omega
    have hmi : (m2 : Int) - 1 = (m : Int) := by omega
    have hmlt : (m : Int) < (m2 : Int) := by omega
    have hr2 := rd_of (N := N') ho2 HM2.out HC.out.2
    obtain ⟨ad, s3, A3, n3, c3, l, rfl, hbk, hx0, hx1, hrl, hn3, hl⟩ := zs_at hr2 (show m < m2 by omega)
    have HLV := Lib.hid (show l = Pz.co L' m by rw [← HM2.out.2]; exact (Pz.co_get hl.out).symm)
    obtain ⟨W3, HW3⟩ : ∃ W, W = W2.alloc (.cells #[.bool s3, .slice A3 n3 c3] 28) := ⟨_, rfl⟩
    have hZ3 : ZC W3 W2.heap.size s3 A3 n3 c3 := by rw [HW3]; exact ZC.new W2 s3 A3 n3 c3
    have hb3 : Below W2.heap.size W2 W3 := by rw [HW3]; exact (Below.refl _ _).alloc (Nat.le_refl _) _
    have HW3 := Lib.hid HW3
    have ho1 := ho1.next hb3
    have HMS := Lib.hid (And.intro hm2 hS)
    clear hlt hS hm2
    go_wp2_with fail
    rw [← HW3.out]
    clear HW3 hx0 hx1
    clear HW3
    have HRX := Lib.hid (show ∀ W : World, Below W2.heap.size W2 W → RdZs W W.heap.size N' (some ad) m2 c2 K2 from fun W hb => hr2.next hb)
    have HRL := Lib.hid (show ∀ W : World, Below W2.heap.size W2 W → RdZ W W.heap.size s3 A3 n3 c3 l from fun W hb => hrl.next hb)
    have HBG := Lib.hid (show ∀ W : World, Below W2.heap.size W2 W → Below w.heap.size w W from fun W hb => HB.out.trans (hb.mono HB.out.size))
    have HST0 := Lib.hid (show Pz.St l (Pz.co L) (Pz.co L') N N' S 0 [] K1 from Pz.st_zero HM1.out HC.out.1)
    obtain ⟨g, hg⟩ : ∃ g, g = W2.heap.size := ⟨_, rfl⟩
    rw [← hg] at hZ3 hb3 HRX HRL HBG ⊢
    have HG := Lib.hid hg
    have HLE := Lib.hid hle
    clear hg hr2 hrl ho2 hbk hl hle hlei hlb
    go_loopw [0, 8, 9] (fun av qv sv wr => ∃ (j la cA : Nat) (AA : Option Addr) (K : List Int) (lq cq : Nat) (AQ : Option Addr) (Q : List Int), av = .slice AA la cA ∧ qv = .slice AQ lq cq ∧ sv = .int .i64 ((S : Int) - (j : Int)) ∧ OwZs wr w.heap.size AA la cA K ∧ OwZs wr w.heap.size AQ lq cq Q ∧ Hid (Pz.St l (Pz.co L) (Pz.co L') N N' S j Q K) ∧ la + j ≤ m1 ∧ j ≤ S ∧ lq ≤ S ∧ Below g W2 wr ∧ ZC wr g s3 A3 n3 c3) (fun av _ _ _ => slLen av)
    case atStart => exact ⟨0, m1, c1, A1, K1, 0, 0, none, [], rfl, rfl, by simp, ho1, OwZs.nil _ _, HST0, by omega, Nat.zero_le _, Nat.zero_le _, hb3, hZ3⟩
    case round =>
      clear hZ3 hb3 ho1 HST0
      obtain ⟨j, la, cA, AA, K, lq, cq, AQ, Q, rfl, rfl, rfl, hoa, hoq, hst, hlj, hjS, hlq, hBg, hZ⟩ := hrel
      obtain ⟨Nj, hNj⟩ : ∃ Nj, Nj = N + j * (N' + 1) := ⟨_, rfl⟩
      have hNjb : Nj ≤ 2199023255551 := by rw [hNj]; exact Nat.le_trans (HBD.out j (by omega)) HNN.out
      have hrq : RdZs wr wr.heap.size Nj AQ lq cq Q := rd_st hoq (by rw [hNj]; exact hst.out.zq)
      have hra : RdZs wr wr.heap.size Nj AA la cA K := rd_st hoa (by rw [hNj]; exact hst.out.zk)
      have HLA := Lib.hid hoa.len
      have HLQ := Lib.hid hoq.len
      have HNJ := Lib.hid hNj
      clear hNj
      by_cases hla : la < m2
      · have HLJ := Lib.hid (show j ≤ S ∧ la ≤ m by have := HMS.out; have := HLE.out; omega)
        have hlai : (la : Int) < (m2 : Int) := by omega
        have hlb2 : decide (m2 ≤ la) = false := by simp; omega
        clear hra hrq hla hlj hjS HLA HLQ HNJ
        go_wp2_with fail
        have HA := Lib.hid hoa
        have HQ := Lib.hid hoq
        have HZ := Lib.hid hZ
        have HB0 := Lib.hid hBg
        have hst0 := hst
        clear hlai hlb2 hoa hoq hZ hBg hst hNjb
        go_loopw [0, 8, 9] (fun av qv sv wr => ∃ (j la cA : Nat) (AA : Option Addr) (K : List Int) (lq cq : Nat) (AQ : Option Addr) (Q : List Int), av = .slice AA la cA ∧ qv = .slice AQ lq cq ∧ sv = .int .i64 ((S : Int) - (j : Int)) ∧ OwZs wr w.heap.size AA la cA K ∧ OwZs wr w.heap.size AQ lq cq Q ∧ Hid (Pz.St l (Pz.co L) (Pz.co L') N N' S j Q K) ∧ Hid (j ≤ S ∧ la ≤ m) ∧ lq ≤ S ∧ Below g W2 wr ∧ ZC wr g s3 A3 n3 c3) (fun _ _ sv _ => (intOf sv).toNat)
        case atStart => exact ⟨j, la, cA, AA, K, lq, cq, AQ, Q, rfl, rfl, rfl, HA.out, HQ.out, hst0, HLJ, hlq, HB0.out, HZ.out⟩
        case round =>
          clear HA HQ hst0 HLJ hlq HB0 HZ
          obtain ⟨j2, la2, cA2, AA2, K3, lq2, cq2, AQ2, Q2, rfl, rfl, rfl, hoa, hoq, hst, HJ, hlq, hBg, hZ⟩ := hrel
          by_cases hjS : j2 = S
          · subst hjS
            have HP := Lib.hid (show Pz.Nz Q2 ∧ Pz.Nz K3 ∧ Pz.Psd (Pz.co L' m) (K1.length - m) (Pz.co L) (Pz.co L') (Pz.co Q2) (Pz.co K3) ∧ Pz.Up (Pz.co K3) m ∧ Pz.Up (Pz.co Q2) (K1.length - m) ∧ (∀ i, Zz.zl (Pz.co Q2 i) ≤ N + (n + 1) * (N' + 1)) ∧ (∀ i, Zz.zl (Pz.co K3 i) ≤ N + (n + 1) * (N' + 1)) by
              have hs := hst.out
              have hbd := HBD.out j2 (by have := HMS.out; omega)
              rw [HL1.out, ← HMS.out.2, ← HLV.out]
              exact ⟨hs.nq, hs.nk, hs.eq, fun i hi => Pz.co_ge (by rw [hoa.len]; exact Nat.le_trans HJ.out.2 hi), hs.upq, fun i => Nat.le_trans (hs.zq i) hbd, fun i => Nat.le_trans (hs.zk i) hbd⟩)
            have HO := Lib.hid (And.intro hoq hoa)
            have HBE := Lib.hid (HBG.out _ hBg)
            clear hoq hoa hBg hZ hst
            go_wp2
            go_ret3
            exact ⟨_, _, _, Q2, _, _, _, K3, rfl, HO.out.1, HO.out.2, HP, HBE.out⟩
          · obtain ⟨d, hd⟩ : ∃ d : Nat, (S : Int) - (j2 : Int) = (d : Int) := ⟨S - j2, by have := HJ.out.1; omega⟩
            have hd0 : (0 : Int) < (d : Int) := by have := HJ.out.1; omega
            have hd0' : 0 < d := by omega
            have hdb : d ≤ 4398046511103 := by have := HMS.out; omega
            have HD2 := Lib.hid (And.intro hd hjS)
            rw [hd]
            clear hjS hd
            obtain ⟨Nj, hNj⟩ : ∃ Nj, Nj = N + j2 * (N' + 1) := ⟨_, rfl⟩
            have hNjb : Nj ≤ 2199023255551 := by rw [hNj]; exact Nat.le_trans (HBD.out j2 (by have := HMS.out; have := HJ.out; omega)) HNN.out
            have hrq : RdZs wr wr.heap.size Nj AQ2 lq2 cq2 Q2 := rd_st hoq (by rw [hNj]; exact hst.out.zq)
            have hra : RdZs wr wr.heap.size Nj AA2 la2 cA2 K3 := rd_st hoa (by rw [hNj]; exact hst.out.zk)
            have HLA := Lib.hid hoa.len
            have HLQ := Lib.hid hoq.len
            have hlab : la2 ≤ 4398046511103 := by have := HJ.out; have := HMS.out; omega
            have hlqb : lq2 ≤ 4398046511103 := by have := HMS.out; omega
            have HSQ := Lib.hid (show ∀ W : World, Below wr.heap.size wr W → Calls Tryz.prog 198 #[.slice AQ2 lq2 cq2, .agg #[.bool s3, .slice A3 n3 c3]] W (RetP (fun i => Pz.co Q2 i * l) W) from fun W hb => zscale_any (N := Nj) (N' := N') (hrq.next hb) (HRL.out W (hBg.trans (hb.mono (by have := HG.out; have := hBg.size; omega)))) hlqb hn3 (by omega) (by omega))
            have HSA := Lib.hid (show ∀ W : World, Below wr.heap.size wr W → Calls Tryz.prog 198 #[.slice AA2 la2 cA2, .agg #[.bool s3, .slice A3 n3 c3]] W (RetP (fun i => Pz.co K3 i * l) W) from fun W hb => zscale_any (N := Nj) (N' := N') (hra.next hb) (HRL.out W (hBg.trans (hb.mono (by have := HG.out; have := hBg.size; omega)))) hlab hn3 (by omega) (by omega))
            have HCE := Lib.hid (show ∀ W : World, Below wr.heap.size wr W → (W.cell? ⟨g, 0, none⟩ = some (.bool s3) ∧ W.cell? ⟨g, 1, none⟩ = some (.slice A3 n3 c3)) from fun W hb => ⟨(hZ.next hb).c0, (hZ.next hb).c1⟩)
            have HZN := Lib.hid (show ∀ W : World, Below wr.heap.size wr W → ZC W g s3 A3 n3 c3 ∧ Below g W2 W from fun W hb => ⟨hZ.next hb, hBg.trans (hb.mono (Nat.le_of_lt hZ.lt))⟩)
            have HDD := Lib.hid (Below.refl wr.heap.size wr).drew
            obtain ⟨a0, a1⟩ := HCE.out wr (Below.refl _ _)
            have HSZ := Lib.hid (HBG.out _ hBg).size
            clear hra hrq hNj hNjb hoa hoq hBg hZ
            go_upto_region 16 with fail
            go_region_held3 (fun w' => w'.cell? ⟨g, 0, none⟩ = some (.bool s3) ∧ w'.cell? ⟨g, 1, none⟩ = some (.slice A3 n3 c3)) (first | exact ⟨d0, d1⟩ | exact ⟨b0, b1⟩ | exact ⟨a0, a1⟩)
              (first
                | (have hx := HB5.out; clear hx; go_at_call 198; refine (HSA.out _ HB5.out).mono ?_; rintro _ W6 ⟨A6, n6, c6, M6, rfl, ho6, hM6, hb6⟩; have HB6 := Lib.hid (HB5.out.trans (hb6.mono HB5.out.size)); have HB56 := Lib.hid hb6; obtain ⟨d0, d1⟩ := HCE.out W6 HB6.out)
                | (go_at_call 198; refine (HSQ.out _ HDD.out).mono ?_; rintro _ W5 ⟨A5, n5, c5, M5, rfl, ho5, hM5, hb5⟩; have HB5 := Lib.hid (HDD.out.trans hb5); obtain ⟨b0, b1⟩ := HCE.out W5 HB5.out))
            have hst' := Pz.st_scale hst.out (by rw [HLV.out]; exact HC.out.2 m) hM5.out (fun _ => rfl) hM6.out (fun _ => rfl)
            have HFIN := Lib.hid (show (j2 + 1 ≤ S ∧ n6 ≤ m) ∧ n5 ≤ S ∧ ((d : Int) - 1 = (S : Int) - ((j2 + 1 : Nat) : Int)) by
              have e1 := hst'.2
              have e2 := ho6.len
              have e3 := ho5.len
              have e4 := Pz.nz_len hst'.1.nq hst'.1.upq
              have := HD2.out
              have := HJ.out
              have := HLA.out
              omega)
            have HST' := Lib.hid hst'.1
            have HO6 := Lib.hid (ho6.base (Nat.le_trans HSZ.out HB5.out.size))
            have HO5 := Lib.hid ((ho5.base HSZ.out).next HB56.out)
            clear hst' ho5 ho6 hb5 hb6 a0 a1 b0 b1 d0 d1
            go_wp2
            go_roundw
            case rel => exact ⟨j2 + 1, n6, c6, A6, M6, n5, c5, A5, M5, rfl, rfl, int_i HFIN.out.2.2, HO6.out, HO5.out, HST', Lib.hid HFIN.out.1, HFIN.out.2.1, (HZN.out _ HB6.out).2, (HZN.out _ HB6.out).1⟩
            case measure => simp only [intOf]; omega
      · obtain ⟨k, hk⟩ : ∃ k, la = k + m2 := ⟨la - m2, by omega⟩
        have hki : (la : Int) - (m2 : Int) = (k : Int) := by omega
        obtain ⟨p, hp⟩ : ∃ p, p = k + m := ⟨_, rfl⟩
        have hpi : (la : Int) - 1 = (p : Int) := by omega
        have hplt : (p : Int) < (la : Int) := by omega
        have hlai : (m2 : Int) ≤ (la : Int) := by omega
        obtain ⟨ad4, s4, A4, n4, c4, x, rfl, hbk4, hx0, hx1, hrx, hn4, hx⟩ := zs_at hra (show p < la by omega)
        have HXV := Lib.hid (show x = Pz.co K (k + m) by rw [← hp]; exact (Pz.co_get hx.out).symm)
        obtain ⟨W4, HW4⟩ : ∃ W, W = wr.alloc (.cells #[.bool s4, .slice A4 n4 c4] 28) := ⟨_, rfl⟩
        have hZ4 : ZC W4 wr.heap.size s4 A4 n4 c4 := by rw [HW4]; exact ZC.new wr s4 A4 n4 c4
        have hb4 : Below wr.heap.size wr W4 := by rw [HW4]; exact (Below.refl _ _).alloc (Nat.le_refl _) _
        have HW4 := Lib.hid HW4
        have HKP := Lib.hid (And.intro hk hp)
        obtain ⟨hy0, hy1⟩ := zs_cells (Below.refl _ _) hbk4 hx0 hx1
        clear hla hk hp
        go_upto_region 11 with fail
        rw [← HW4.out]
        clear HW4
        clear HW4
        have hZg := hZ.next hb4
        obtain ⟨gc, hgc⟩ : ∃ gc, gc = wr.heap.size := ⟨_, rfl⟩
        rw [← hgc] at hZ4 ⊢
        have HB4 := Lib.hid (hBg.trans (hb4.mono (by have := HG.out; have := hBg.size; omega)))
        have HGE := Lib.hid (show g ≤ W4.heap.size from Nat.le_of_lt hZg.lt)
        have HCE := Lib.hid (show ∀ W : World, Below W4.heap.size W4 W → (W.cell? ⟨g, 0, none⟩ = some (.bool s3) ∧ W.cell? ⟨g, 1, none⟩ = some (.slice A3 n3 c3) ∧ W.cell? ⟨gc, 0, none⟩ = some (.bool s4) ∧ W.cell? ⟨gc, 1, none⟩ = some (.slice A4 n4 c4)) from fun W hb => ⟨(hZg.next hb).c0, (hZg.next hb).c1, (hZ4.next hb).c0, (hZ4.next hb).c1⟩)
        have HBW := Lib.hid (show ∀ W : World, Below W4.heap.size W4 W → Below g W2 W from fun W hb => HB4.out.trans (hb.mono HGE.out))
        have HZGN := Lib.hid (show ∀ W : World, Below W4.heap.size W4 W → ZC W g s3 A3 n3 c3 from fun W hb => hZg.next hb)
        have HXR := Lib.hid (show ∀ W : World, Below W4.heap.size W4 W → RdZ W W.heap.size s4 A4 n4 c4 x from fun W hb => (hrx.next hb4).next hb)
        have HSQ := Lib.hid (show ∀ W : World, Below W4.heap.size W4 W → Calls Tryz.prog 198 #[.slice AQ lq cq, .agg #[.bool s3, .slice A3 n3 c3]] W (RetP (fun i => Pz.co Q i * l) W) from fun W hb => zscale_any (N := Nj) (N' := N') ((hrq.next hb4).next hb) (HRL.out W (HBW.out W hb)) (by omega) hn3 (by omega) (by omega))
        have HSA := Lib.hid (show ∀ W : World, Below W4.heap.size W4 W → Calls Tryz.prog 198 #[.slice (some ad4) la cA, .agg #[.bool s3, .slice A3 n3 c3]] W (RetP (fun i => Pz.co K i * l) W) from fun W hb => zscale_any (N := Nj) (N' := N') ((hra.next hb4).next hb) (HRL.out W (HBW.out W hb)) (by omega) hn3 (by omega) (by omega))
        have HOF := Lib.hid (fun W : World => of_any 1 (by omega) (by omega) W)
        have HSH := Lib.hid (show ∀ (W : World) (s : Bool) (A : Option Addr) (n c : Nat) (z : Int), Below W4.heap.size W4 W → RdZ W W.heap.size s A n c z → n ≤ 1 → Calls Tryz.prog 199 #[.slice (some ⟨W.heap.size, 0, none⟩) 1 1, .agg #[.bool s4, .slice A4 n4 c4], .int .i64 k] (W.alloc (.cells #[.bool s, .slice A n c] 28)) (RetV (sh k fun i => Pz.co [z] i * x) (k + 1) (W.alloc (.cells #[.bool s, .slice A n c] 28))) from fun W s A n c z hb hz h1 => zshifted_any (N := 1) (N' := Nj) k (zs_one hz h1) ((HXR.out W hb).next ((Below.refl _ _).alloc (Nat.le_refl _) _)) (by omega) hn4 (by omega) (by omega))
        have HSB := Lib.hid (show ∀ W : World, Below W4.heap.size W4 W → Calls Tryz.prog 199 #[.slice (some ad) m2 c2, .agg #[.bool s4, .slice A4 n4 c4], .int .i64 k] W (RetV (sh k fun i => Pz.co K2 i * x) (k + m2) W) from fun W hb => zshifted_any (N := N') (N' := Nj) k (HRX.out W (HBW.out W hb)) (HXR.out W hb) (by omega) hn4 (by omega) (by omega))
        have HZ5 := Lib.hid (show ∀ i, Zz.zl (Pz.co Q i * l) ≤ Nj + N' from fun i => by
          have e1 := Zz.zl_mul (Pz.co Q i) l
          have e2 := hst.out.zq i
          have e3 := HC.out.2 m
          rw [← HLV.out] at e3
          rw [← HNJ.out] at e2
          omega)
        have HZ9 := Lib.hid (show ∀ i, Zz.zl (Pz.co K i * l) ≤ Nj + N' from fun i => by
          have e1 := Zz.zl_mul (Pz.co K i) l
          have e2 := hst.out.zk i
          have e3 := HC.out.2 m
          rw [← HLV.out] at e3
          rw [← HNJ.out] at e2
          omega)
        have HXZ := Lib.hid (show Zz.zl x ≤ Nj by rw [HXV.out, HNJ.out]; exact hst.out.zk _)
        have HD := Lib.hid (Below.refl W4.heap.size W4).drew
        have HQB := Lib.hid (show lq ≤ 4398046511103 by omega)
        have HBD2 := Lib.hid (show k + 1 ≤ 4398046511103 ∧ Nj + N' ≤ 8796093022207 ∧ Nj ≤ 8796093022207 by omega)
        have HBR := Lib.hid (And.intro hlj hlq)
        obtain ⟨a0, a1, a2, a3⟩ := HCE.out W4 (Below.refl _ _)
        clear hZg hZ4 hZ hb4 hra hrq hrx hx hx0 hx1 hy0 hy1 hBg hgc hoq
        go_region_held3 (fun w' => w'.cell? ⟨g, 0, none⟩ = some (.bool s3) ∧ w'.cell? ⟨g, 1, none⟩ = some (.slice A3 n3 c3) ∧ w'.cell? ⟨gc, 0, none⟩ = some (.bool s4) ∧ w'.cell? ⟨gc, 1, none⟩ = some (.slice A4 n4 c4)) (first | exact ⟨g0, g1, g2, g3⟩ | exact ⟨f0, f1, f2, f3⟩ | exact ⟨e0, e1, e2, e3⟩ | exact ⟨d0, d1, d2, d3⟩ | exact ⟨b0, b1, b2, b3⟩ | exact ⟨a0, a1, a2, a3⟩)
          (first
            | (go_at_call 127; refine (HOF.out _).mono ?_; rintro _ W6 ⟨s6, A6, n6, c6, z6, rfl, ho6, hz6, hb6⟩; obtain rfl : z6 = 1 := hz6.out; have HN6 := Lib.hid (Nat.le_trans (Nat.le_of_eq ho6.len) (Zz.zl_small (z := 1) (by decide))); have HB56 := Lib.hid hb6; have HB6 := Lib.hid (HB5.out.trans (hb6.mono HB5.out.size)); obtain ⟨d0, d1, d2, d3⟩ := HCE.out W6 HB6.out; obtain ⟨e0, e1, e2, e3⟩ := HCE.out (W6.alloc (.cells #[.bool s6, .slice A6 n6 c6] 28)) (HB6.out.alloc HB6.out.size _))
            | (go_at_call 198; refine (HSQ.out _ HD.out).mono ?_; rintro _ W5 ⟨A5, n5, c5, M5, rfl, ho5, hM5, hb5⟩; have HB5 := Lib.hid (HD.out.trans hb5); obtain ⟨b0, b1, b2, b3⟩ := HCE.out W5 HB5.out; have HR5 := Lib.hid (rd_of ho5 hM5.out HZ5.out); have HL5 := Lib.hid (Nat.le_trans (len_scaled ho5 hM5.out (Nat.le_of_eq HLQ.out)) HQB.out))
            | (go_at_call 199; refine (HSH.out W6 _ _ _ _ _ HB6.out ho6.rd HN6.out).mono ?_; rintro _ W7 ⟨A7, n7, c7, M7, rfl, ho7, hM7, hb7⟩; have HB7 := Lib.hid ((HB6.out.alloc HB6.out.size (.cells #[.bool s6, .slice A6 n6 c6] 28)).trans (hb7.mono (HB6.out.alloc HB6.out.size _).size)); have HB57 := Lib.hid ((HB56.out.alloc HB56.out.size (.cells #[.bool s6, .slice A6 n6 c6] 28)).trans (hb7.mono (HB56.out.alloc HB56.out.size _).size)); have HR7 := Lib.hid (rd_of' ho7 hM7.out.1 (sh_zl (one_zl HXZ.out))); obtain ⟨f0, f1, f2, f3⟩ := HCE.out W7 HB7.out)
            | (go_at_call 197; refine (zadd_any (N := Nj + N') (N' := Nj) (HR5.out.next HB57.out) HR7.out HL5.out (Nat.le_trans hM7.out.2 HBD2.out.1) HBD2.out.2.1 HBD2.out.2.2).mono ?_; rintro _ W8 ⟨A8, n8, c8, M8, rfl, ho8, hM8, hb8⟩; have HB8 := Lib.hid (HB7.out.trans (hb8.mono HB7.out.size)); obtain ⟨g0, g1, g2, g3⟩ := HCE.out W8 HB8.out))
        have HD8 := Lib.hid HB8.out.drew
        have HZ10 := Lib.hid (show ∀ i, Zz.zl (Pz.co K2 i * x) ≤ N' + Nj from fun i => by
          have e1 := Zz.zl_mul (Pz.co K2 i) x
          have e2 := HC.out.2 i
          have e3 := HXZ.out
          rw [← HM2.out.2] at e2
          omega)
        have HBD3 := Lib.hid (show la ≤ 4398046511103 ∧ k + m2 ≤ 4398046511103 ∧ Nj + N' ≤ 8796093022207 ∧ N' + Nj ≤ 8796093022207 by omega)
        have HB78 := Lib.hid (Below.refl W8.heap.size W8)
        clear a0 a1 a2 a3 b0 b1 b2 b3 d0 d1 d2 d3 e0 e1 e2 e3 f0 f1 f2 f3 hb5 hb6 hb7 hb8
        go_upto_region 12 with fail
        go_region_held3 (fun w' => w'.cell? ⟨g, 0, none⟩ = some (.bool s3) ∧ w'.cell? ⟨g, 1, none⟩ = some (.slice A3 n3 c3) ∧ w'.cell? ⟨gc, 0, none⟩ = some (.bool s4) ∧ w'.cell? ⟨gc, 1, none⟩ = some (.slice A4 n4 c4)) (first | exact ⟨d0, d1, d2, d3⟩ | exact ⟨b0, b1, b2, b3⟩ | exact ⟨a0, a1, a2, a3⟩ | exact ⟨g0, g1, g2, g3⟩)
          (first
            | (go_at_call 198; refine (HSA.out _ HD8.out).mono ?_; rintro _ W9 ⟨A9, n9, c9, M9, rfl, ho9, hM9, hb9⟩; have HB9 := Lib.hid (HD8.out.trans (hb9.mono HD8.out.size)); have HB89 := Lib.hid (HB78.out.drew.trans hb9); obtain ⟨a0, a1, a2, a3⟩ := HCE.out W9 HB9.out; have HR9 := Lib.hid (rd_of ho9 hM9.out HZ9.out); have HL9 := Lib.hid (Nat.le_trans (len_scaled ho9 hM9.out (Nat.le_of_eq HLA.out)) HBD3.out.1))
            | (go_at_call 199; refine (HSB.out _ HB9.out).mono ?_; rintro _ W10 ⟨A10, n10, c10, M10, rfl, ho10, hM10, hb10⟩; have HB10 := Lib.hid (HB9.out.trans (hb10.mono HB9.out.size)); have HB910 := Lib.hid hb10; have HR10 := Lib.hid (rd_of' ho10 hM10.out.1 (sh_zl HZ10.out)); obtain ⟨b0, b1, b2, b3⟩ := HCE.out W10 HB10.out)
            | (go_at_call 200; refine (zsub_any (N := Nj + N') (N' := N' + Nj) (HR9.out.next HB910.out) HR10.out HL9.out (Nat.le_trans hM10.out.2 HBD3.out.2.1) HBD3.out.2.2.1 HBD3.out.2.2.2).mono ?_; rintro _ W11 ⟨A11, n11, c11, M11, rfl, ho11, hM11, hb11⟩; have HB11 := Lib.hid (HB10.out.trans (hb11.mono HB10.out.size)); obtain ⟨d0, d1, d2, d3⟩ := HCE.out W11 HB11.out))
        have hst' := Pz.st_step hst.out (HM2.out.up1 (HL2.out.trans HMS.out.1)) HC.out.2 HLV.out (by rw [HLA.out, HKP.out.1, HMS.out.1, Nat.add_assoc]) (show k < S by have := HKP.out; have := HMS.out; have := HBR.out.1; omega) hM8.out hM5.out.2 (fun i => (hM7.out.1 i).trans (by unfold sh; rw [HXV.out])) hM11.out hM9.out.2 (fun i => (hM10.out.1 i).trans (by show (if i < k then 0 else Pz.co K2 (i - k) * x) = _; rw [HM2.out.2, HXV.out]))
        have HFIN := Lib.hid (show n11 + (j + 1) ≤ m1 ∧ n8 ≤ S ∧ n11 < la ∧ j + 1 ≤ S by
          have e1 := hst'.2
          have e2 := ho11.len
          have e3 := ho8.len
          have e4 := Pz.nz_len hst'.1.nq hst'.1.upq
          have := HKP.out
          have := HMS.out
          have := HBR.out.1
          omega)
        have HST' := Lib.hid hst'.1
        have HS7 := (HBG.out _ (HBW.out _ HB7.out)).size
        have HS10 := (HBG.out _ (HBW.out _ HB10.out)).size
        have HO11 := Lib.hid (ho11.base HS10)
        have HO8 := Lib.hid ((ho8.base HS7).next (HB89.out.trans ((HB910.out.trans (hb11.mono HB910.out.size)).mono HB89.out.size)))
        clear hst' ho11 ho8 ho9 ho10 ho5 ho6 ho7 hb9 hb10 hb11 a0 a1 a2 a3 b0 b1 b2 b3 d0 d1 d2 d3 g0 g1 g2 g3
        go_wp2
        go_roundw
        case rel =>
          exact ⟨j + 1, n11, c11, A11, M11, n8, c8, A8, M8, rfl, rfl, by congr 1; omega, HO11.out, HO8.out, HST', HFIN.out.1, HFIN.out.2.2.2, HFIN.out.2.1, HBW.out _ HB11.out, HZGN.out _ HB11.out⟩
        case measure => simp only [slLen]; exact HFIN.out.2.2.1
end Go.Proofs.YtipbpdiahemmpaaGreat
