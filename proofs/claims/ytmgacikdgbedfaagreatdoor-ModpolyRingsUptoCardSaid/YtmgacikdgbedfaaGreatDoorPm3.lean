/- Polynomials modulo a prime: Bezout's numbers. Nothing of the program. -/
import Derived.Test.YtmgacikdgbedfaaGreatDoorPm2
namespace Pm
open Dg

/-- What the steps of Bezout keep. -/
structure Bz (p : Nat) (a b r x s u : List Nat) : Prop where
  lr : ∃ t, Fn p t ∧ Cg p (co r) (fun k => cv (co s) (co a) k + cv t (co b) k)
  lx : ∃ v, Fn p v ∧ Cg p (co x) (fun k => cv (co u) (co a) k + cv v (co b) k)
  dv : ∀ e, Di p e (co r) → Di p e (co x) → Di p e (co a) ∧ Di p e (co b)
  l1 : s.length + x.length ≤ b.length + 1
  l2 : u = [] ∨ u.length + r.length ≤ b.length + 1
theorem co_nil (k : Nat) : co [] k = 0 := by unfold co; rw [ld_nil]; rfl
theorem co_one (k : Nat) : co [1] k = mono 1 0 k := by
  cases k with
  | zero => rfl
  | succ k => unfold co mono; rw [ld_ge (by simp)]; simp
theorem Bz.start {p : Nat} (a b : List Nat) : Bz p a b a b [1] [] where
  lr := ⟨fun _ => 0, Fn.zero, fun k => by
    dsimp only; rw [show co [1] = mono 1 0 from funext co_one, cv_one, cv_zero_left, Int.add_zero]; exact cz.refl _⟩
  lx := ⟨mono 1 0, Fn.mono 1 0, fun k => by
    dsimp only; rw [show co [] = fun _ => 0 from funext co_nil, cv_one, cv_zero_left, Int.zero_add]; exact cz.refl _⟩
  dv := fun e h k => ⟨h, k⟩
  l1 := by simp; omega
  l2 := .inl rfl
/-- One step: q, y are quotient and rest of r by x; n is s - q u. -/
theorem Bz.step {p : Nat} {a b r x s u q y n : List Nat} (h : Bz p a b r x s u) (hd : Cg p (co r) (fun k => cv (co q) (co x) k + co y k))
    (hn : Cg p (co n) (fun k => co s k - cv (co q) (co u) k)) (hy : y.length < x.length) (hyr : y.length ≤ r.length) (hnl : n.length + x.length ≤ b.length + 1) : Bz p a b x y u n := by
  obtain ⟨t, ht, er⟩ := h.lr
  obtain ⟨v, hv, ex⟩ := h.lx
  have ey : Cg p (co y) (fun k => co r k - cv (co q) (co x) k) := fun k => by
    have := (hd k).sub (cz.refl (p := p) (cv (co q) (co x) k))
    rw [show cv (co q) (co x) k + co y k - cv (co q) (co x) k = co y k by omega] at this
    exact this.symm
  refine ⟨⟨v, hv, ex⟩, ⟨_, ht.sub ((Fn.co q).cv hv), fun k => ?_⟩, fun e hx hy => ?_, ?_, ?_⟩
  · have h1 := (er k).sub (Cg.cv (Cg.refl (co q)) ex k)
    rw [cv_add_right] at h1
    dsimp only at h1 ⊢
    refine (ey k).trans (h1.trans ?_)
    have h2 := Cg.cv hn (Cg.refl (co a)) k
    rw [cv_sub_left] at h2
    have h3 := h2.add (cz.refl (p := p) (cv (fun i => t i - cv (co q) v i) (co b) k))
    refine cz.trans ?_ h3.symm
    rw [cv_sub_left, cv_assoc, cv_assoc]
    exact cz.of_eq (by omega)
  · exact h.dv e (((hx.mul (Fn.co q)).add hy).cg hd) hx
  · rcases h.l2 with h0 | h0
    · rw [h0]; have := h.l1; simp; omega
    · omega
  · exact .inr hnl
/-- The end: what divides, and how it is made. -/
theorem Bz.done {p : Nat} {a b r s u : List Nat} (h : Bz p a b r [] s u) : (∃ t, Fn p t ∧ Cg p (co r) (fun k => cv (co s) (co a) k + cv t (co b) k)) ∧ Di p (co r) (co a) ∧ Di p (co r) (co b) :=
  ⟨h.lr, h.dv (co r) (Di.refl _) ((Di.zero _).cg (Cg.of_eq co_nil))⟩

/-- What Bezout answers. -/
def Br (p : Nat) (a b g s t : List Nat) : Prop :=
  Cg p (co g) (fun k => cv (co s) (co a) k + cv (co t) (co b) k) ∧ Di p (co g) (co a) ∧ Di p (co g) (co b)
/-- Without a rest: the quotient makes it. -/
theorem dv_exact {p : Nat} (hp : Nt.Pr p) {a b : Nat → Int} {L q r : List Nat} (hb : Pn p L) (hne : 0 < L.length) (eb : Cg p b (co L)) (hq : Dv p a b (co q) (co r) (L.length - 1)) (hr : Pn p r) (h : Di p b a) : r = [] ∧ Cg p a (cv (co q) b) := by
  obtain ⟨f, ⟨n, hf⟩, e⟩ := h
  obtain ⟨h1, h2⟩ := hb.tops hp hne
  have hu := Dv.unique hp (h1.cg eb) (fun hc => h2 ((eb _).symm.trans hc)) (co_up q) hf hq (r' := fun _ => 0) ⟨fun k => by
    have := (e k).add (cz.refl (p := p) 0)
    rwa [Int.add_zero] at this, fun _ _ => cz.refl _⟩
  have hr0 : r = [] := hr.ext hp.pos Pn.nil fun k => (hu.2 k).trans (cz.of_eq (co_nil k).symm)
  refine ⟨hr0, fun k => ?_⟩
  have := hq.1 k
  dsimp only at this
  rw [hr0, co_nil, Int.add_zero] at this
  exact this
/-- The last steps of Bezout. -/
theorem Br.mk {p : Nat} (hp : Nt.Pr p) {a b r s g part rp s2 s3 s3q m t rt : List Nat} {c : Int} (hb : Pn p b) (hbl : 0 < b.length) (hrl : 0 < r.length)
    (hz : (∃ t, Fn p t ∧ Cg p (co r) (fun k => cv (co s) (co a) k + cv t (co b) k)) ∧ Di p (co r) (co a) ∧ Di p (co r) (co b))
    (hc : cz p (c * co r (r.length - 1)) 1) (hg : Cg p (co g) (fun k => c * co r k)) (hgn : Pn p g) (hgl : g.length = r.length)
    (hpart : Dv p (co b) (co g) (co part) (co rp) (g.length - 1)) (hrp : Pn p rp) (hs2 : Cg p (co s2) (fun k => c * co s k))
    (hs3 : Dv p (co s2) (co part) (co s3q) (co s3) (part.length - 1))
    (hm : Cg p (co m) (fun k => co g k - cv (co s3) (co a) k)) (ht : Dv p (co m) (co b) (co t) (co rt) (b.length - 1)) (hrt : Pn p rt) : Br p a b g s3 t := by
  obtain ⟨⟨t0, ht0, er⟩, da, db⟩ := hz
  have hcinv : ∃ d : Int, Cg p (co r) (fun k => d * co g k) := ⟨co r (r.length - 1), fun k => by
    have h1 := (cz.refl (p := p) (co r (r.length - 1))).mul (hg k)
    refine cz.trans ?_ h1.symm
    rw [show co r (r.length - 1) * (c * co r k) = c * co r (r.length - 1) * co r k by grind]
    have h2 := hc.mul (cz.refl (p := p) (co r k))
    rw [Int.one_mul] at h2
    exact h2.symm⟩
  obtain ⟨d, hd⟩ := hcinv
  have dga := da.scale hd
  have dgb := db.scale hd
  refine ⟨?_, dga, dgb⟩
  have hgl0 : 0 < g.length := by omega
  obtain ⟨_, eb⟩ := dv_exact hp hgn hgl0 (Cg.refl _) hpart hrp dgb
  obtain ⟨a', ha', ea⟩ := dga
  -- m is a multiple of b
  have hmb : Di p (co b) (co m) := by
    obtain ⟨n0, hn0⟩ := ht0
    refine ⟨fun k => c * t0 k + cv (co s3q) a' k, (Fn.add ⟨n0, fun k hk => by have := (cz.refl (p := p) c).mul (hn0 k hk); rwa [Int.mul_zero] at this⟩ ((Fn.co s3q).cv ha')), fun k => ?_⟩
    rw [cv_add_left, cv_smul_left]
    -- g - s3 a = c r - (s2 - k part) a
    have e1 : cz p (co m k) (co g k - cv (co s3) (co a) k) := hm k
    have e2 : Cg p (co s3) (fun i => co s2 i - cv (co s3q) (co part) i) := fun i => by
      have := (hs3.1 i).sub (cz.refl (p := p) (cv (co s3q) (co part) i))
      rw [show cv (co s3q) (co part) i + co s3 i - cv (co s3q) (co part) i = co s3 i by omega] at this
      exact this.symm
    have e3 := Cg.cv e2 (Cg.refl (co a)) k
    rw [cv_sub_left, cv_assoc] at e3
    have e4 := Cg.cv hs2 (Cg.refl (co a)) k
    rw [cv_smul_left] at e4
    have e5 : Cg p (cv (co part) (co a)) (cv a' (co b)) := fun i => by
      have h1 := Cg.cv (Cg.refl (p := p) (co part)) ea i
      have h2 := Cg.cv (Cg.refl (p := p) a') eb i
      refine h1.trans (cz.trans ?_ h2.symm)
      rw [← cv_assoc, ← cv_assoc]
      rw [show cv (co part) a' = cv a' (co part) from funext fun j => cv_comm _ _ j]
      exact cz.refl _
    have e6 := Cg.cv (Cg.refl (p := p) (co s3q)) e5 k
    rw [← cv_assoc (co s3q) a'] at e6
    have e7 := (hg k).trans ((cz.refl (p := p) c).mul (er k))
    have e8 := e7.sub (e3.trans (e4.sub e6))
    refine e1.trans (e8.trans (cz.of_eq ?_))
    rw [Int.mul_add]
    omega
  obtain ⟨_, em⟩ := dv_exact hp hb hbl (Cg.refl _) ht hrt hmb
  intro k
  have := ((hm k).symm.trans (em k)).add (cz.refl (p := p) (cv (co s3) (co a) k))
  rw [Int.sub_add_cancel] at this
  refine this.trans (cz.of_eq ?_)
  dsimp only
  omega
end Pm
