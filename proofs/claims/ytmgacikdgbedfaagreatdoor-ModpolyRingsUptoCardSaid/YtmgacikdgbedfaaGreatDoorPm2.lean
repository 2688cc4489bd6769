/- Polynomials modulo a prime: what divides, the greatest common divisor. Nothing of the program. -/
import Derived.Test.YtmgacikdgbedfaaGreatDoorPm
namespace Pm
open Dg

theorem Up.mono {p : Nat} {f : Nat → Int} {n m : Nat} (h : Up p f n) (hm : n ≤ m) : Up p f m := fun k hk => h k (by omega)
theorem Up.cg {p : Nat} {f g : Nat → Int} {n : Nat} (h : Up p f n) (e : Cg p g f) : Up p g n := fun k hk => (e k).trans (h k hk)
theorem Up.add {p : Nat} {f g : Nat → Int} {n : Nat} (h : Up p f n) (k : Up p g n) : Up p (fun i => f i + g i) n := fun i hi => by
  have := (h i hi).add (k i hi)
  rwa [Int.zero_add] at this
theorem Up.sub {p : Nat} {f g : Nat → Int} {n : Nat} (h : Up p f n) (k : Up p g n) : Up p (fun i => f i - g i) n := fun i hi => by
  have := (h i hi).sub (k i hi)
  rwa [Int.sub_zero] at this
/-- It ends somewhere. -/
def Fn (p : Nat) (f : Nat → Int) : Prop := ∃ n, Up p f n
theorem Fn.cg {p : Nat} {f g : Nat → Int} (h : Fn p f) (e : Cg p g f) : Fn p g := h.elim fun n hn => ⟨n, hn.cg e⟩
theorem Fn.add {p : Nat} {f g : Nat → Int} (h : Fn p f) (k : Fn p g) : Fn p (fun i => f i + g i) := by
  obtain ⟨n, hn⟩ := h
  obtain ⟨m, hm⟩ := k
  exact ⟨n + m, (hn.mono (by omega)).add (hm.mono (by omega))⟩
theorem Fn.sub {p : Nat} {f g : Nat → Int} (h : Fn p f) (k : Fn p g) : Fn p (fun i => f i - g i) := by
  obtain ⟨n, hn⟩ := h
  obtain ⟨m, hm⟩ := k
  exact ⟨n + m, (hn.mono (by omega)).sub (hm.mono (by omega))⟩
theorem Fn.cv {p : Nat} {f g : Nat → Int} (h : Fn p f) (k : Fn p g) : Fn p (cv f g) := by
  obtain ⟨n, hn⟩ := h
  obtain ⟨m, hm⟩ := k
  exact ⟨n + m + 1, cv_up (hn.mono (by omega)) (hm.mono (by omega))⟩
theorem Fn.co {p : Nat} (L : List Nat) : Fn p (co L) := ⟨_, co_up L⟩
theorem Fn.zero {p : Nat} : Fn p (fun _ => 0) := ⟨0, fun _ _ => cz.refl _⟩
theorem Fn.mono {p : Nat} (c : Int) (n : Nat) : Fn p (mono c n) := ⟨n + 1, fun k hk => by unfold Pm.mono; rw [if_neg (by omega)]; exact cz.refl _⟩

/-- g divides a. -/
def Di (p : Nat) (g a : Nat → Int) : Prop := ∃ q, Fn p q ∧ Cg p a (cv q g)
theorem Di.refl {p : Nat} (g : Nat → Int) : Di p g g := ⟨Pm.mono 1 0, Fn.mono 1 0, fun k => by rw [cv_one]; exact cz.refl _⟩
theorem Di.zero {p : Nat} (g : Nat → Int) : Di p g (fun _ => 0) := ⟨fun _ => 0, Fn.zero, fun k => by rw [cv_zero_left]; exact cz.refl _⟩
theorem Di.cg {p : Nat} {g a b : Nat → Int} (h : Di p g a) (e : Cg p b a) : Di p g b := h.elim fun q hq => ⟨q, hq.1, e.trans hq.2⟩
theorem Di.add {p : Nat} {g a b : Nat → Int} (h : Di p g a) (k : Di p g b) : Di p g (fun i => a i + b i) := by
  obtain ⟨q, hq, e⟩ := h
  obtain ⟨r, hr, f⟩ := k
  exact ⟨_, hq.add hr, fun i => by rw [cv_add_left]; exact (e i).add (f i)⟩
theorem Di.sub {p : Nat} {g a b : Nat → Int} (h : Di p g a) (k : Di p g b) : Di p g (fun i => a i - b i) := by
  obtain ⟨q, hq, e⟩ := h
  obtain ⟨r, hr, f⟩ := k
  exact ⟨_, hq.sub hr, fun i => by rw [cv_sub_left]; exact (e i).sub (f i)⟩
theorem Di.mul {p : Nat} {g a : Nat → Int} (h : Di p g a) {c : Nat → Int} (hc : Fn p c) : Di p g (cv c a) := by
  obtain ⟨q, hq, e⟩ := h
  exact ⟨cv c q, hc.cv hq, fun i => by rw [cv_assoc]; exact Cg.cv (Cg.refl c) e i⟩
/-- The divisor may be another number's multiple. -/
theorem Di.scale {p : Nat} {g g' a : Nat → Int} {c : Int} (h : Di p g a) (e : Cg p g (fun i => c * g' i)) : Di p g' a := by
  obtain ⟨q, hq, f⟩ := h
  refine ⟨fun i => c * q i, ?_, fun i => ?_⟩
  · obtain ⟨n, hn⟩ := hq
    exact ⟨n, fun k hk => by have := (cz.refl (p := p) c).mul (hn k hk); rwa [Int.mul_zero] at this⟩
  · rw [cv_smul_left, ← cv_smul_right]
    exact (f i).trans (Cg.cv (Cg.refl q) e i)

/-- The rest of a division. -/
def Rm (p : Nat) (a b r : List Nat) : Prop := Pn p r ∧ ∃ q, Fn p q ∧ Dv p (co a) (co b) q (co r) (b.length - 1)
theorem Pn.tops {p : Nat} {b : List Nat} (hb : Pn p b) (hp : Nt.Pr p) (hne : 0 < b.length) : Up p (co b) (b.length - 1 + 1) ∧ ¬ cz p (co b (b.length - 1)) 0 :=
  ⟨(co_up b).mono (by omega), hb.top hp.pos hne⟩
theorem Rm.unique {p : Nat} (hp : Nt.Pr p) {a b r r' : List Nat} (hb : Pn p b) (hne : 0 < b.length) (h : Rm p a b r) (h' : Rm p a b r') : r = r' := by
  obtain ⟨hr, q, ⟨n, hq⟩, hd⟩ := h
  obtain ⟨hr', q', ⟨n', hq'⟩, hd'⟩ := h'
  obtain ⟨h1, h2⟩ := hb.tops hp hne
  exact hr.ext hp.pos hr' (Dv.unique hp h1 h2 hq hq' hd hd').2
theorem Rm.short {p : Nat} (hp : Nt.Pr p) {a b r : List Nat} (hne : 0 < b.length) (h : Rm p a b r) : r.length < b.length := by
  obtain ⟨hr, q, _, hd⟩ := h
  have := hr.short hp.pos hd.2
  omega
/-- Monic. -/
def Mo (p : Nat) (a g : List Nat) : Prop := Pn p g ∧ (a = [] → g = []) ∧ (0 < a.length → ∃ c : Int, cz p (c * co a (a.length - 1)) 1 ∧ Cg p (co g) (fun i => c * co a i))
theorem Mo.unique {p : Nat} (hp : Nt.Pr p) {a g g' : List Nat} (h : Mo p a g) (h' : Mo p a g') : g = g' := by
  rcases Nat.eq_zero_or_pos a.length with h0 | h0
  · have ha := List.eq_nil_of_length_eq_zero h0
    rw [h.2.1 ha, h'.2.1 ha]
  · obtain ⟨c, hc, hg⟩ := h.2.2 h0
    obtain ⟨d, hd, hg'⟩ := h'.2.2 h0
    have e : cz p c d := by
      have h1 := (cz.refl (p := p) c).mul hd
      have h2 := (cz.refl (p := p) d).mul hc
      rw [Int.mul_one] at h1 h2
      rw [show c * (d * co a (a.length - 1)) = d * (c * co a (a.length - 1)) by grind] at h1
      exact h1.symm.trans h2
    exact h.1.ext hp.pos h'.1 fun k => ((hg k).trans (e.mul (cz.refl _))).trans (hg' k).symm
theorem Mo.len {p : Nat} (hp : Nt.Pr p) {a g : List Nat} (h : Mo p a g) : g.length = a.length := by
  rcases Nat.eq_zero_or_pos a.length with h0 | h0
  · rw [h.2.1 (List.eq_nil_of_length_eq_zero h0), h0]; rfl
  · obtain ⟨c, hc, hg⟩ := h.2.2 h0
    have h1 : g.length ≤ a.length := h.1.short hp.pos fun k hk => (hg k).trans (by
      have := (cz.refl (p := p) c).mul (co_up (p := p) a k hk)
      rwa [Int.mul_zero] at this)
    apply Classical.byContradiction
    intro hne
    have h2 : cz p (co g (a.length - 1)) 0 := co_up g _ (by omega)
    have h3 := ((hg (a.length - 1)).symm.trans h2).symm.trans hc
    have h4 := hp.1
    obtain ⟨e, he⟩ := h3
    have h5 := Int.eq_one_of_mul_eq_one_right (show (0 : Int) ≤ p by omega) (show (p : Int) * -e = 1 by rw [Int.mul_neg]; omega)
    omega

/-- What Euclid's steps give. -/
inductive Gc (p : Nat) : List Nat → List Nat → List Nat → Prop
  | done {a g : List Nat} (h : Mo p a g) : Gc p a [] g
  | step {a b r g : List Nat} (hb : 0 < b.length) (hr : Rm p a b r) (h : Gc p b r g) : Gc p a b g
theorem Gc.unique {p : Nat} (hp : Nt.Pr p) {a b g : List Nat} (h : Gc p a b g) : ∀ {g' : List Nat}, Pn p b → Gc p a b g' → g = g' := by
  induction h with
  | done h =>
    intro g' _ h'
    cases h' with
    | done h' => exact h.unique hp h'
    | step hb _ _ => simp at hb
  | step hb hr _ ih =>
    intro g' hbn h'
    cases h' with
    | done h' => simp at hb
    | step _ hr' h' =>
      have e := Rm.unique hp hbn hb hr hr'
      subst e
      exact ih hr.1 h'
end Pm
