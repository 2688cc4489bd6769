/- Polynomials modulo a prime: powers, congruence by a polynomial. Nothing of the program. -/
import Derived.Test.YtmgacikdgbedfaaGreatDoorPm4
namespace Pm
open Dg

/-- A power. -/
def pw (a : Nat → Int) : Nat → Nat → Int
  | 0 => mono 1 0
  | n + 1 => cv a (pw a n)
theorem pw_add (a : Nat → Int) (m : Nat) : ∀ n, pw a (m + n) = cv (pw a m) (pw a n)
  | 0 => by rw [Nat.add_zero, pw]; funext k; rw [cv_comm, cv_one]
  | n + 1 => by
    rw [← Nat.add_assoc, pw, pw_add a m n, pw]
    funext k
    rw [← cv_assoc, ← cv_assoc]
    exact cv_congr (fun i _ => cv_comm _ _ i) (fun _ _ => rfl)
theorem pw_one (a : Nat → Int) : pw a 1 = a := by rw [pw, pw]; funext k; rw [cv_comm, cv_one]
theorem pw_sq (a : Nat → Int) : ∀ n, pw (cv a a) n = pw a (2 * n)
  | 0 => rfl
  | n + 1 => by
    rw [pw, pw_sq a n, show 2 * (n + 1) = 1 + (1 + 2 * n) by omega, pw_add, pw_add, pw_one]
    funext k
    exact cv_assoc _ _ _ k
theorem pw_mono (n k : Nat) : pw (mono 1 1) n k = mono 1 n k := by
  induction n generalizing k with
  | zero => rfl
  | succ n ih =>
    rw [pw, cv_mono]
    by_cases h : 1 ≤ k
    · rw [if_pos h, ih]
      unfold mono
      by_cases h2 : k = n + 1
      · rw [if_pos (by omega), if_pos h2]; rfl
      · rw [if_neg (by omega), if_neg h2]; rfl
    · unfold mono; rw [if_neg h, if_neg (by omega)]
theorem Fn.pw {p : Nat} {a : Nat → Int} (h : Fn p a) : ∀ n, Fn p (pw a n)
  | 0 => Fn.mono 1 0
  | n + 1 => h.cv (Fn.pw h n)
theorem Cg.pw {p : Nat} {a b : Nat → Int} (h : Cg p a b) : ∀ n, Cg p (pw a n) (pw b n)
  | 0 => Cg.refl _
  | n + 1 => h.cv (Cg.pw h n)
/-- Congruent by m. -/
def Mf (p : Nat) (m f g : Nat → Int) : Prop := Di p m (fun k => f k - g k)
theorem Mf.of_cg {p : Nat} {m f g : Nat → Int} (h : Cg p f g) : Mf p m f g := (Di.zero m).cg fun k => by
  have := (h k).sub (cz.refl (p := p) (g k))
  rwa [Int.sub_self] at this
theorem Mf.refl {p : Nat} (m f : Nat → Int) : Mf p m f f := Mf.of_cg (Cg.refl f)
theorem Mf.trans {p : Nat} {m f g h : Nat → Int} (a : Mf p m f g) (b : Mf p m g h) : Mf p m f h := (Di.add a b).cg (Cg.of_eq fun k => by omega)
theorem Mf.symm {p : Nat} {m f g : Nat → Int} (a : Mf p m f g) : Mf p m g f := (Di.sub (Di.zero m) a).cg (Cg.of_eq fun k => by omega)
theorem Mf.add {p : Nat} {m f g f' g' : Nat → Int} (a : Mf p m f g) (b : Mf p m f' g') : Mf p m (fun k => f k + f' k) (fun k => g k + g' k) := (Di.add a b).cg (Cg.of_eq fun k => by dsimp only; omega)
theorem Mf.left {p : Nat} {m f g c : Nat → Int} (a : Mf p m f g) (hc : Fn p c) : Mf p m (cv c f) (cv c g) := (Di.mul a hc).cg (Cg.of_eq fun k => by rw [cv_sub_right])
theorem Mf.mul {p : Nat} {m f g f' g' : Nat → Int} (a : Mf p m f g) (b : Mf p m f' g') (hf : Fn p f) (hg : Fn p g') : Mf p m (cv f f') (cv g g') := by
  refine (b.left hf).trans ?_
  have := a.left hg
  refine Mf.trans (Mf.of_cg (Cg.of_eq fun k => cv_comm _ _ k)) (this.trans (Mf.of_cg (Cg.of_eq fun k => cv_comm _ _ k)))
theorem Mf.pw {p : Nat} {m f g : Nat → Int} (a : Mf p m f g) (hf : Fn p f) (hg : Fn p g) : ∀ n, Mf p m (pw f n) (pw g n)
  | 0 => Mf.refl _ _
  | n + 1 => a.mul (Mf.pw a hf hg n) hf (Fn.pw hg n)
theorem Rm.mf {p : Nat} {a b r : List Nat} (h : Rm p a b r) : Mf p (co b) (co a) (co r) := by
  obtain ⟨_, q, hq, hd⟩ := h
  refine ⟨q, hq, fun k => ?_⟩
  have := (hd.1 k).sub (cz.refl (p := p) (co r k))
  rwa [Int.add_sub_cancel] at this
/-- The rest is told by being short and congruent. -/
theorem Mf.unique {p : Nat} (hp : Nt.Pr p) {m r r' : List Nat} (hm : Pn p m) (hl : 0 < m.length) (h : Pn p r) (h' : Pn p r') (hs : r.length < m.length) (hs' : r'.length < m.length) (e : Mf p (co m) (co r) (co r')) : r = r' := by
  obtain ⟨q, ⟨n, hq⟩, hd⟩ := e
  obtain ⟨h1, h2⟩ := hm.tops hp hl
  refine h.ext hp.pos h' (Dv.unique hp (a := co r) h1 h2 (q := fun _ => 0) (n := 0) (fun _ _ => cz.refl _) hq ⟨fun k => ?_, (co_up r).mono (by omega)⟩ ⟨fun k => ?_, (co_up r').mono (by omega)⟩).2
  · dsimp only; rw [cv_zero_left, Int.zero_add]; exact cz.refl _
  · have := (hd k).add (cz.refl (p := p) (co r' k))
    rwa [Int.sub_add_cancel] at this
theorem Mf.rm {p : Nat} {a m r : List Nat} (hl : 0 < m.length) (h : Pn p r) (hs : r.length < m.length) (e : Mf p (co m) (co a) (co r)) : Rm p a m r := by
  obtain ⟨q, hq, hd⟩ := e
  refine ⟨h, q, hq, fun k => ?_, (co_up r).mono (by omega)⟩
  have := (hd k).add (cz.refl (p := p) (co r k))
  rwa [Int.sub_add_cancel] at this
/-- What the steps of a power keep. -/
def Pl (p : Nat) (m A : List Nat) (E : Nat) (out a : List Nat) (e : Nat) : Prop := Mf p (co m) (cv (co out) (pw (co a) e)) (pw (co A) E)
theorem Pl.odd {p : Nat} {m A out a out' a' : List Nat} {E e : Nat} (h : Pl p m A E out a e) (ho : e % 2 = 1) (h1 : Mf p (co m) (cv (co out) (co a)) (co out')) (h2 : Mf p (co m) (cv (co a) (co a)) (co a')) : Pl p m A E out' a' (e / 2) := by
  unfold Pl at *
  refine Mf.trans ?_ h
  have e1 := Mf.mul h1.symm (Mf.pw h2.symm (Fn.co a') ((Fn.co a).cv (Fn.co a)) (e / 2)) (Fn.co out') (Fn.pw ((Fn.co a).cv (Fn.co a)) _)
  rw [pw_sq] at e1
  refine e1.trans (Mf.of_cg (Cg.of_eq fun k => ?_))
  rw [cv_assoc]
  congr 1
  rw [show pw (co a) e = pw (co a) (1 + 2 * (e / 2)) by congr 1; omega, pw_add, pw_one]
theorem Pl.even {p : Nat} {m A out a a' : List Nat} {E e : Nat} (h : Pl p m A E out a e) (ho : e % 2 = 0) (h2 : Mf p (co m) (cv (co a) (co a)) (co a')) : Pl p m A E out a' (e / 2) := by
  unfold Pl at *
  refine Mf.trans ?_ h
  have e1 := Mf.left (Mf.pw h2.symm (Fn.co a') ((Fn.co a).cv (Fn.co a)) (e / 2)) (Fn.co out)
  rw [pw_sq] at e1
  refine e1.trans (Mf.of_cg (Cg.of_eq fun k => ?_))
  congr 1
  congr 1
  omega
theorem Pl.start {p : Nat} {m A out a : List Nat} {E : Nat} (h1 : Mf p (co m) (co [1]) (co out)) (h2 : Mf p (co m) (co A) (co a)) : Pl p m A E out a E := by
  unfold Pl
  have e1 := Mf.mul h1.symm (Mf.pw h2.symm (Fn.co a) (Fn.co A) E) (Fn.co out) (Fn.pw (Fn.co A) _)
  refine e1.trans (Mf.of_cg (Cg.of_eq fun k => ?_))
  rw [show co [1] = mono 1 0 from funext fun k => by
    cases k with
    | zero => rfl
    | succ k => unfold co mono; rw [ld_ge (by simp)]; simp, cv_one]
theorem Pl.done {p : Nat} {m A out a : List Nat} {E : Nat} (h : Pl p m A E out a 0) : Mf p (co m) (co out) (pw (co A) E) := by
  unfold Pl at h
  refine Mf.trans (Mf.of_cg (Cg.of_eq fun k => ?_)) h
  rw [pw, cv_comm, cv_one]
end Pm
