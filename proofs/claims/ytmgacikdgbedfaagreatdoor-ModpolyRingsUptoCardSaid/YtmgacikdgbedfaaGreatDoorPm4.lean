/- Polynomials modulo a prime: how a product and a quotient grow. Nothing of the program. -/
import Derived.Test.YtmgacikdgbedfaaGreatDoorPm2
namespace Pm
open Dg

/-- The front of a polynomial. -/
def tr (n : Nat) (a : Nat → Int) : Nat → Int := fun i => if i < n then a i else 0
/-- The product so far: i rows whole, k places of the next. -/
def pt (a b : Nat → Int) (i k j : Nat) : Int := cv (tr i a) b j + if i ≤ j ∧ j < i + k then a i * b (j - i) else 0
theorem pt_zero (a b : Nat → Int) (j : Nat) : pt a b 0 0 j = 0 := by
  unfold pt
  rw [show tr 0 a = fun _ => 0 from funext fun i => by simp [tr], cv_zero_left, if_neg (by omega)]; rfl
theorem pt_other {a b : Nat → Int} {i k j : Nat} (h : j ≠ i + k) : pt a b i (k + 1) j = pt a b i k j := by
  unfold pt
  by_cases h1 : i ≤ j ∧ j < i + k
  · rw [if_pos h1, if_pos (by omega)]
  · rw [if_neg h1, if_neg (by omega)]
theorem pt_here (a b : Nat → Int) (i k : Nat) : pt a b i (k + 1) (i + k) = pt a b i k (i + k) + a i * b k := by
  unfold pt
  rw [if_pos (by omega), if_neg (by omega), Nat.add_sub_cancel_left]; omega
theorem tr_succ (a : Nat → Int) (i : Nat) : tr (i + 1) a = fun j => tr i a j + mono (a i) i j := funext fun j => by
  unfold tr mono
  by_cases h : j = i
  · subst h; simp
  · by_cases h1 : j < i
    · rw [if_pos (by omega), if_pos h1, if_neg h]; omega
    · rw [if_neg (by omega), if_neg h1, if_neg h]; rfl
theorem pt_next {a b : Nat → Int} {i m : Nat} (hb : ∀ k, m ≤ k → b k = 0) (j : Nat) : pt a b i m j = pt a b (i + 1) 0 j := by
  unfold pt
  rw [tr_succ, cv_add_left, cv_mono, if_neg (show ¬ (i + 1 ≤ j ∧ j < i + 1 + 0) by omega), Int.add_zero]
  by_cases h : i ≤ j
  · rw [if_pos h]
    by_cases h1 : j < i + m
    · rw [if_pos ⟨h, h1⟩]
    · rw [if_neg (by omega), hb (j - i) (by omega), Int.mul_zero]
  · rw [if_neg h, if_neg (by omega)]
theorem pt_all {a b : Nat → Int} {n : Nat} (ha : ∀ k, n ≤ k → a k = 0) (j : Nat) : pt a b n 0 j = cv a b j := by
  unfold pt
  rw [if_neg (by omega), Int.add_zero]
  congr 1
  funext i
  unfold tr
  by_cases h : i < n
  · rw [if_pos h]
  · rw [if_neg h, ha i (by omega)]
theorem co_zero {L : List Nat} {k : Nat} (h : L.length ≤ k) : co L k = 0 := by unfold co; rw [ld_ge h]; rfl
/-- A product of two in normal form has its top. -/
theorem cv_pn {p : Nat} (hp : Nt.Pr p) {L M O : List Nat} (hL : Pn p L) (hM : Pn p M) (h1 : 0 < L.length) (h2 : 0 < M.length) (hl : O.length = L.length + M.length - 1) (hO : ∀ x ∈ O, x < p) (h : Cg p (co O) (cv (co L) (co M))) : Pn p O := by
  refine ⟨nm_of_top (.inr fun h0 => ?_), hO⟩
  obtain ⟨a1, a2⟩ := hL.tops hp h1
  obtain ⟨b1, b2⟩ := hM.tops hp h2
  have ht := cv_top a1 b1
  have e : O.length - 1 = L.length - 1 + (M.length - 1) := by omega
  have h3 := h (O.length - 1)
  unfold co at h3
  rw [h0] at h3
  change cz p 0 (cv (co L) (co M) (O.length - 1)) at h3
  rw [e] at h3
  rcases cz_mul_zero hp (ht.symm.trans h3.symm) with h4 | h4
  · exact a2 h4
  · exact b2 h4
theorem cv_end {p : Nat} {L M : List Nat} (h1 : 0 < L.length) (h2 : 0 < M.length) {j : Nat} (h : L.length + M.length - 1 ≤ j) : cz p (cv (co L) (co M) j) 0 :=
  cv_up (n := L.length - 1) (m := M.length - 1) ((co_up L).mono (by omega)) ((co_up M).mono (by omega)) j (by omega)
theorem cv_none {L M : List Nat} (h : L.length = 0 ∨ M.length = 0) (j : Nat) : cv (co L) (co M) j = 0 := by
  rcases h with h | h
  · rw [show co L = fun _ => 0 from funext fun i => co_zero (by omega), cv_zero_left]
  · rw [show co M = fun _ => 0 from funext fun i => co_zero (by omega), cv_zero_right]

/-- The division so far: the quotient's places from i on are there, what is left is nothing from i + m on. -/
def Ds (p : Nat) (a b q r : Nat → Int) (i m : Nat) : Prop := Cg p a (fun k => cv q b k + r k) ∧ (∀ j, j < i → cz p (q j) 0) ∧ Up p r (i + m)
/-- One digit of the quotient: v at place i; r' is r less v x^i b. -/
theorem Ds.step {p : Nat} {a b q r q' r' : Nat → Int} {i m : Nat} {v s : Int} (h : Ds p a b q r (i + 1) m) (hb : Up p b (m + 1)) (hs : cz p (s * b m) 1) (hv : cz p v (r (i + m) * s))
    (hq : Cg p q' (fun k => q k + mono v i k)) (hr : Cg p r' (fun k => r k - cv (mono v i) b k)) : Ds p a b q' r' i m := by
  obtain ⟨h1, h2, h3⟩ := h
  refine ⟨fun k => ?_, fun j hj => ?_, fun k hk => ?_⟩
  · refine (h1 k).trans ?_
    have e := (Cg.cv hq (Cg.refl b) k).add (hr k)
    rw [cv_add_left] at e
    refine cz.trans ?_ e.symm
    exact cz.of_eq (by dsimp only; omega)
  · have e := (hq j).trans ((h2 j (by omega)).add (cz.refl (p := p) (mono v i j)))
    rw [show mono v i j = 0 by unfold mono; rw [if_neg (by omega)]] at e
    exact e
  · by_cases hki : k = i + m
    · subst hki
      refine (hr (i + m)).trans ?_
      dsimp only
      rw [cv_mono, if_pos (by omega), Nat.add_sub_cancel_left]
      have e1 := (cz.refl (p := p) (r (i + m))).sub (hv.mul (cz.refl (p := p) (b m)))
      refine e1.trans ?_
      have e2 := (cz.refl (p := p) (r (i + m))).sub ((cz.refl (p := p) (r (i + m))).mul hs)
      rw [Int.mul_one, Int.sub_self] at e2
      rw [Int.mul_assoc]
      exact e2
    · refine (hr k).trans ?_
      dsimp only
      rw [cv_mono, if_pos (by omega)]
      have e := (h3 k (by omega)).sub ((cz.refl (p := p) v).mul (hb (k - i) (by omega)))
      rw [Int.mul_zero, Int.sub_zero] at e
      exact e
theorem Ds.start {p : Nat} {a b : Nat → Int} {i m : Nat} (h : Up p a (i + m)) : Ds p a b (fun _ => 0) a i m :=
  ⟨fun k => by dsimp only; rw [cv_zero_left, Int.zero_add]; exact cz.refl _, fun _ _ => cz.refl _, h⟩
theorem Ds.done {p : Nat} {a b q r : Nat → Int} {m : Nat} (h : Ds p a b q r 0 m) : Dv p a b q r m := ⟨h.1, by have := h.2.2; rwa [Nat.zero_add] at this⟩
end Pm
namespace Pm
open Dg
/-- What is taken off so far: k places. -/
def sb (r b : Nat → Int) (v : Int) (i k j : Nat) : Int := r j - if i ≤ j ∧ j < i + k then v * b (j - i) else 0
theorem sb_zero (r b : Nat → Int) (v : Int) (i j : Nat) : sb r b v i 0 j = r j := by unfold sb; rw [if_neg (by omega), Int.sub_zero]
theorem sb_other {r b : Nat → Int} {v : Int} {i k j : Nat} (h : j ≠ i + k) : sb r b v i (k + 1) j = sb r b v i k j := by
  unfold sb
  by_cases h1 : i ≤ j ∧ j < i + k
  · rw [if_pos h1, if_pos (by omega)]
  · rw [if_neg h1, if_neg (by omega)]
theorem sb_here (r b : Nat → Int) (v : Int) (i k : Nat) : sb r b v i (k + 1) (i + k) = sb r b v i k (i + k) - v * b k := by
  unfold sb
  rw [if_pos (by omega), if_neg (by omega), Nat.add_sub_cancel_left]; omega
theorem sb_all {r b : Nat → Int} {v : Int} {i m : Nat} (hb : ∀ k, m ≤ k → b k = 0) (j : Nat) : sb r b v i m j = r j - cv (mono v i) b j := by
  unfold sb
  rw [cv_mono]
  by_cases h : i ≤ j
  · rw [if_pos h]
    by_cases h1 : j < i + m
    · rw [if_pos ⟨h, h1⟩]
    · rw [if_neg (by omega), hb (j - i) (by omega), Int.mul_zero]
  · rw [if_neg h, if_neg (by omega)]
theorem Ds.cg {p : Nat} {a b q q' r : Nat → Int} {i m : Nat} (h : Ds p a b q r i m) (hq : Cg p q' q) : Ds p a b q' r i m :=
  ⟨fun k => (h.1 k).trans ((Cg.cv hq (Cg.refl b) k).symm.add (cz.refl _)), fun j hj => (hq j).trans (h.2.1 j hj), h.2.2⟩
theorem co_zeros (n k : Nat) : co (List.replicate n 0) k = 0 := by unfold co; rw [ld_replicate]; rfl
theorem co_set {Q : List Nat} {i v : Nat} (h : i < Q.length) (hz : ld Q i = 0) (k : Nat) : co (Q.set i v) k = co Q k + mono v i k := by
  unfold co mono
  by_cases hk : k = i
  · subst hk; rw [ld_set_same v h, if_pos rfl, hz]; simp
  · rw [ld_set_other v hk, if_neg hk, Int.add_zero]
end Pm
