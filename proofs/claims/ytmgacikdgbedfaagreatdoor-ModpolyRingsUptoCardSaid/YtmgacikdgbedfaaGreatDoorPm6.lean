/- Polynomials modulo 7: the document's example, x^2 + 6. Nothing of the program. -/
import Derived.Test.YtmgacikdgbedfaaGreatDoorPm5
namespace Pm
open Dg

theorem pr7' : Nt.Pr 7 := by
  refine ⟨by omega, fun d hd => ?_⟩
  have h1 : d ≤ 7 := Nat.le_of_dvd (by omega) hd
  have h2 : ∀ d, d ≤ 7 → 7 % d = 0 → d = 1 ∨ d = 7 := by decide
  exact h2 d h1 (Nat.mod_eq_zero_of_dvd hd)
theorem pn_of {p : Nat} {L : List Nat} (h : L.length = 0 ∨ ld L (L.length - 1) ≠ 0) (h2 : ∀ x ∈ L, x < p) : Pn p L := ⟨nm_of_top h, h2⟩
theorem cz_int {p : Nat} {x y : Int} (h : (x - y) % (p : Int) = 0) : cz p x y := Int.dvd_of_emod_eq_zero h
def a7 : List Nat := [6, 0, 1]
theorem a7_pn : Pn 7 a7 := pn_of (.inr (by decide)) (by decide)
theorem x7_pn : Pn 7 [0, 1] := pn_of (.inr (by decide)) (by decide)
theorem b7_pn : Pn 7 [6, 1] := pn_of (.inr (by decide)) (by decide)
theorem c7_pn : Pn 7 [1, 1] := pn_of (.inr (by decide)) (by decide)
theorem o7_pn : Pn 7 [1] := pn_of (.inr (by decide)) (by decide)
theorem d7_pn : Pn 7 [0, 2] := pn_of (.inr (by decide)) (by decide)
theorem co_x (k : Nat) : co [0, 1] k = mono 1 1 k := by
  match k with
  | 0 => rfl
  | 1 => rfl
  | k + 2 => unfold co mono; rw [ld_ge (by simp), if_neg (by omega)]; rfl
/-- x^2 is 1 by x^2 + 6. -/
theorem x_sq (n : Nat) : Mf 7 (co a7) (mono 1 (n + 2)) (mono 1 n) := by
  refine ⟨mono 1 n, Fn.mono 1 n, fun k => ?_⟩
  rw [cv_mono]
  unfold mono
  dsimp only
  by_cases h : n ≤ k
  · rw [if_pos h]
    by_cases h1 : k = n
    · subst h1; rw [if_neg (by omega), if_pos rfl, Nat.sub_self]; exact cz_int (by decide)
    · by_cases h2 : k = n + 2
      · rw [if_pos h2, if_neg h1, show k - n = 2 by omega]; exact cz_int (by decide)
      · rw [if_neg h2, if_neg h1]
        by_cases h3 : k = n + 1
        · rw [show k - n = 1 by omega]; exact cz_int (by decide)
        · rw [co_zero (show a7.length ≤ k - n by unfold a7; simp; omega)]; exact cz.refl _
  · rw [if_neg h, if_neg (by omega), if_neg (by omega)]; exact cz.refl _
theorem x_odd (n : Nat) : Mf 7 (co a7) (pw (co [0, 1]) (2 * n + 1)) (co [0, 1]) := by
  have e : co [0, 1] = mono 1 1 := funext co_x
  rw [e, show pw (mono 1 1) (2 * n + 1) = mono 1 (2 * n + 1) from funext (pw_mono _)]
  induction n with
  | zero => exact Mf.refl _ _
  | succ n ih => exact (x_sq (2 * n + 1)).trans ih
/-- A rest that is known. -/
theorem rm_x {R : List Nat} (h : Rm 7 [0, 1] a7 R) : R = [0, 1] :=
  Rm.unique pr7' a7_pn (by decide) h (Mf.rm (by decide) x7_pn (by decide) (Mf.refl _ _))
theorem pw_x {n : Nat} {R : List Nat} (h : Pn 7 R) (hs : R.length < a7.length) (e : Mf 7 (co a7) (co R) (pw (co [0, 1]) (2 * n + 1))) : R = [0, 1] :=
  Mf.unique pr7' a7_pn (by decide) h x7_pn hs (by decide) (e.trans (x_odd n))
/-- Two lists are the same where the first places are. -/
theorem known {p : Nat} (hp : 0 < p) {R M : List Nat} {f : Nat → Int} (h : Pn p R) (h' : Pn p M) (e : Cg p (co R) f) (n : Nat) (h1 : ∀ k, k < n → cz p (f k) (co M k)) (h2 : ∀ k, n ≤ k → f k = 0) (h3 : M.length ≤ n) : R = M :=
  h.ext hp h' fun k => (e k).trans (by
    rcases Nat.lt_or_ge k n with hk | hk
    · exact h1 k hk
    · rw [h2 k hk, co_zero (by omega)]; exact cz.refl _)
/-- A division that is known. -/
theorem dv_known {p : Nat} {a b q r : List Nat} (n : Nat) (h1 : ∀ k, k < n → cz p (co a k) (cv (co q) (co b) k + co r k)) (ha : a.length ≤ n) (hb : 0 < b.length) (hq : 0 < q.length) (hn : q.length + b.length - 1 ≤ n) (hr : r.length ≤ b.length - 1) (hn2 : b.length ≤ n + 1) :
    Dv p (co a) (co b) (co q) (co r) (b.length - 1) :=
  ⟨fun k => by
    rcases Nat.lt_or_ge k n with hk | hk
    · exact h1 k hk
    · dsimp only
      rw [co_zero (by omega), co_zero (show r.length ≤ k by omega), Int.add_zero]
      exact (cv_end hq hb (by omega)).symm, (co_up r).mono hr⟩
theorem dv_same {p : Nat} (hp : Nt.Pr p) {a b q r q' r' : List Nat} (hb : Pn p b) (hl : 0 < b.length) (hq : Pn p q) (hq' : Pn p q') (hr : Pn p r) (hr' : Pn p r')
    (h : Dv p (co a) (co b) (co q) (co r) (b.length - 1)) (h' : Dv p (co a) (co b) (co q') (co r') (b.length - 1)) : q = q' ∧ r = r' := by
  obtain ⟨h1, h2⟩ := hb.tops hp hl
  have := Dv.unique hp h1 h2 (co_up q) (co_up q') h h'
  exact ⟨hq.ext hp.pos hq' this.1, hr.ext hp.pos hr' this.2⟩
end Pm
