/- Polynomials modulo a prime: values. Nothing of the program. -/
import Derived.Test.YtmgacikdgbedfaaDoorPm5
import Derived.Test.YtmgacikdgbedfaaDoorNt4
namespace Pm
open Dg

/-- The sum of f i x^i below n. -/
def es (f : Nat → Int) (x : Int) : Nat → Int
  | 0 => 0
  | n + 1 => f 0 + x * es (fun i => f (i + 1)) x n
/-- The value at x. -/
def ev : List Nat → Int → Int
  | [], _ => 0
  | a :: L, x => a + x * ev L x
theorem es_cg {p : Nat} {f g : Nat → Int} (h : Cg p f g) (x : Int) (n : Nat) : cz p (es f x n) (es g x n) := by
  induction n generalizing f g with
  | zero => exact cz.refl _
  | succ n ih => exact (h 0).add ((cz.refl x).mul (ih fun k => h (k + 1)))
theorem es_zero (x : Int) (n : Nat) : es (fun _ => 0) x n = 0 := by
  induction n with
  | zero => rfl
  | succ n ih => rw [es, ih]; simp
theorem es_more {p : Nat} {f : Nat → Int} {n m : Nat} (h : Up p f n) (x : Int) (hm : n ≤ m) : cz p (es f x m) (es f x n) := by
  induction n generalizing f m with
  | zero =>
    have := es_cg (p := p) (f := f) (g := fun _ => 0) (fun k => h k (Nat.zero_le _)) x m
    rw [es_zero] at this
    exact this
  | succ n ih =>
    obtain ⟨m, rfl⟩ : ∃ k, m = k + 1 := ⟨m - 1, by omega⟩
    exact (cz.refl _).add ((cz.refl x).mul (ih (fun k hk => h (k + 1) (by omega)) (by omega)))
theorem es_add (f g : Nat → Int) (x : Int) (n : Nat) : es (fun i => f i + g i) x n = es f x n + es g x n := by
  induction n generalizing f g with
  | zero => rfl
  | succ n ih => rw [es, ih (fun i => f (i + 1)) (fun i => g (i + 1)), es, es]; grind
theorem es_sub (f g : Nat → Int) (x : Int) (n : Nat) : es (fun i => f i - g i) x n = es f x n - es g x n := by
  induction n generalizing f g with
  | zero => rfl
  | succ n ih => rw [es, ih (fun i => f (i + 1)) (fun i => g (i + 1)), es, es]; grind
theorem es_smul (c : Int) (f : Nat → Int) (x : Int) (n : Nat) : es (fun i => c * f i) x n = c * es f x n := by
  induction n generalizing f with
  | zero => simp [es]
  | succ n ih => rw [es, ih (fun i => f (i + 1)), es]; grind
theorem es_co (L : List Nat) (x : Int) {n : Nat} (h : L.length ≤ n) : es (co L) x n = ev L x := by
  induction L generalizing n with
  | nil =>
    have : co [] = fun _ => 0 := funext fun k => by simp [co, ld]
    rw [this, es_zero]; rfl
  | cons a L ih =>
    obtain ⟨m, rfl⟩ : ∃ k, n = k + 1 := ⟨n - 1, by simp at h; omega⟩
    have e1 : (fun i => co (a :: L) (i + 1)) = co L := funext fun i => by simp [co, ld]
    have e2 : co (a :: L) 0 = a := by simp [co, ld]
    rw [es, e1, e2, ih (by simpa using h)]; rfl
/-- The value of what is congruent. -/
theorem ev_cg {p : Nat} {R : List Nat} {f : Nat → Int} {n : Nat} (h : Cg p (co R) f) (hf : Up p f n) (x : Int) : cz p (ev R x) (es f x n) := by
  have e := es_co R x (n := max R.length n) (by omega)
  rw [← e]
  exact (es_cg h x _).trans (es_more hf x (by omega))
theorem es_cv (L : List Nat) (g : Nat → Int) {m : Nat} (hg : ∀ k, m ≤ k → g k = 0) (x : Int) {n : Nat} (h : L.length + m ≤ n) : es (cv (co L) g) x n = ev L x * es g x n := by
  induction L generalizing n with
  | nil =>
    have : cv (co []) g = fun _ => 0 := funext fun k => by
      have e : co [] = fun _ => 0 := funext fun k => by simp [co, ld]
      rw [e, cv_zero_left]
    rw [this, es_zero]; simp [ev]
  | cons a L ih =>
    obtain ⟨q, rfl⟩ : ∃ k, n = k + 1 := ⟨n - 1, by simp at h; omega⟩
    have e1 : cv (co (a :: L)) g = fun k => (a : Int) * g k + (if k = 0 then 0 else cv (co L) g (k - 1)) := funext fun k => by
      have e2 : co (a :: L) = fun k => mono a 0 k + cv (mono 1 1) (co L) k := funext fun k => by
        rw [cv_mono]
        cases k with
        | zero => simp [co, mono, ld]
        | succ k => simp [co, mono, ld]
      rw [e2, cv_add_left, cv_mono, cv_assoc, cv_mono]
      cases k with
      | zero => simp
      | succ k => simp
    have hq : L.length + m ≤ q := by simp at h; omega
    have e3 : es g x (q + 1) = es g x q := by
      have key : ∀ (n : Nat) (g : Nat → Int), g n = 0 → es g x (n + 1) = es g x n := fun n => by
        induction n with
        | zero => intro g hg; simp [es, hg]
        | succ n ih2 => intro g hg; rw [es, ih2 (fun i => g (i + 1)) hg, es]
      exact key q g (hg q (by omega))
    have e4 : es (fun k => if k = 0 then 0 else cv (co L) g (k - 1)) x (q + 1) = x * es (cv (co L) g) x q := by
      rw [es]; simp
    rw [e1, es_add, es_smul, e4, ih hq, e3]
    show (a : Int) * es g x q + x * (ev L x * es g x q) = (a + x * ev L x) * es g x q
    grind
end Pm

/- Polynomials modulo a prime: what is known at enough places is known. Nothing of the program. -/
namespace Pm
open Dg

theorem nt_ev (x : Int) : ∀ (n : Nat) (f : Nat → Int), Nt.ev ((List.range n).map f) x = es f x n
  | 0, _ => rfl
  | n + 1, f => by
    rw [List.range_succ_eq_map, List.map_cons, List.map_map, Nt.ev, es]
    have := nt_ev x n (fun i => f (i + 1))
    rw [← this]
    rfl
/-- A function whose values are nought at more places than it has coefficients is nought. -/
theorem es_roots {p : Nat} (hp : Nt.Pr p) {f : Nat → Int} {R : List Int} (hd : R.Pairwise (fun x y => ¬ (p : Int) ∣ y - x)) : ∀ n, n ≤ R.length → (∀ x ∈ R, cz p (es f x n) 0) → ∀ k, k < n → cz p (f k) 0
  | 0, _, _, k, hk => absurd hk (by omega)
  | n + 1, hn, hr, k, hk => by
    have ht : cz p (f n) 0 := by
      apply Classical.byContradiction
      intro hc
      have hc' : ¬ (p : Int) ∣ f n := fun h => hc (by unfold cz; rwa [Int.sub_zero])
      have := Nt.roots_le hp (f n) hc' n ((List.range n).map f) R (by simp) hd (fun x hx => by
        have h1 := hr x hx
        have h2 : (List.range n).map f ++ [f n] = (List.range (n + 1)).map f := by rw [List.range_succ]; simp
        rw [h2, nt_ev]
        unfold cz at h1
        rwa [Int.sub_zero] at h1)
      omega
    by_cases e : k = n
    · rw [e]; exact ht
    · refine es_roots hp hd n (by omega) (fun x hx => ?_) k (by omega)
      have key : ∀ (n : Nat) (g : Nat → Int), cz p (g n) 0 → cz p (es g x n) (es g x (n + 1)) := fun n => by
        induction n with
        | zero =>
          intro g hg
          simp only [es, Int.mul_zero, Int.add_zero]
          exact hg.symm
        | succ n ih => intro g hg; rw [es, es]; exact (cz.refl _).add ((cz.refl x).mul (ih (fun i => g (i + 1)) hg))
      exact (key n f ht).trans (hr x hx)
/-- Two polynomials with the same values at enough places are the same. -/
theorem interp_unique {p : Nat} (hp : Nt.Pr p) {L M : List Nat} {R : List Int} (hL : Pn p L) (hM : Pn p M) (h1 : L.length ≤ R.length) (h2 : M.length ≤ R.length) (hd : R.Pairwise (fun x y => ¬ (p : Int) ∣ y - x))
    (he : ∀ x ∈ R, cz p (ev L x) (ev M x)) : L = M := by
  refine hL.ext hp.pos hM fun k => ?_
  by_cases hk : k < R.length
  · have h := es_roots hp (f := fun i => co L i - co M i) hd R.length (Nat.le_refl _) (fun x hx => by
      rw [es_sub, es_co L x h1, es_co M x h2]
      have := (he x hx).sub (cz.refl (p := p) (ev M x))
      rwa [Int.sub_self] at this) k hk
    have := h.add (cz.refl (p := p) (co M k))
    rwa [Int.sub_add_cancel, Int.zero_add] at this
  · exact (co_up L k (by omega)).trans (co_up M k (by omega)).symm
end Pm

/- Polynomials modulo a prime: Newton's steps. Nothing of the program. -/
namespace Pm
open Dg

/-- What Newton's steps keep: the nodes so far, the polynomial, the basis. -/
structure Nw (p : Nat) (ns : List (Int × Int)) (O B : List Nat) : Prop where
  lo : O.length ≤ ns.length
  lb : B.length ≤ ns.length + 1
  val : ∀ q ∈ ns, cz p (ev O q.1) q.2
  zero : ∀ q ∈ ns, cz p (ev B q.1) 0
  nz : ∀ z : Int, (∀ q ∈ ns, ¬ (p : Int) ∣ z - q.1) → ¬ (p : Int) ∣ ev B z
theorem Nw.start {p : Nat} (hp : Nt.Pr p) : Nw p [] [] [1] where
  lo := Nat.le_refl _
  lb := Nat.le_refl _
  val := fun _ h => by cases h
  zero := fun _ h => by cases h
  nz := fun z _ h => by
    have h1 : (p : Int) ∣ 1 := by simpa [ev] using h
    have := Int.le_of_dvd (by omega) h1
    have := hp.two_le
    omega
theorem Nw.step {p : Nat} (hp : Nt.Pr p) {ns : List (Int × Int)} {O B O' B' D : List Nat} {x y c : Int} (h : Nw p ns O B)
    (hc : cz p (c * ev B x) (y - ev O x)) (hO : Pn p O') (eO : Cg p (co O') (fun k => co O k + c * co B k))
    (hD : D.length = 2) (eD : ∀ z, cz p (ev D z) (z - x)) (hB : Pn p B') (eB : Cg p (co B') (cv (co B) (co D))) : Nw p (ns ++ [(x, y)]) O' B' := by
  have hOv : ∀ z, cz p (ev O' z) (ev O z + c * ev B z) := fun z => by
    have hu : Up p (fun k => co O k + c * co B k) (ns.length + 1) := fun k hk => by
      have := (co_up (p := p) O k (by have := h.lo; omega)).add ((cz.refl (p := p) c).mul (co_up (p := p) B k (by have := h.lb; omega)))
      rwa [Int.mul_zero, Int.add_zero] at this
    have h1 := ev_cg eO hu z
    rw [es_add, es_smul, es_co O z (by have := h.lo; omega), es_co B z h.lb] at h1
    exact h1
  have hBv : ∀ z, cz p (ev B' z) (ev B z * (z - x)) := fun z => by
    have hu : Up p (cv (co B) (co D)) (ns.length + 1 + 2) := fun k hk => by
      rcases Nat.eq_zero_or_pos B.length with h0 | h0
      · rw [cv_none (.inl h0)]; exact cz.refl _
      · exact cv_end h0 (by omega) (by have := h.lb; omega)
    have h1 := ev_cg eB hu z
    rw [es_cv B (co D) (m := 2) (fun k hk => co_zero (by omega)) z (by have := h.lb; omega), es_co D z (by omega)] at h1
    exact h1.trans ((cz.refl _).mul (eD z))
  refine ⟨?_, ?_, fun q hq => ?_, fun q hq => ?_, fun z hz hd => ?_⟩
  · have : O'.length ≤ ns.length + 1 := hO.short hp.pos fun k hk => (eO k).trans (by
      have := (co_up (p := p) O k (by have := h.lo; omega)).add ((cz.refl (p := p) c).mul (co_up (p := p) B k (by have := h.lb; omega)))
      rwa [Int.mul_zero, Int.add_zero] at this)
    simpa using this
  · have : B'.length ≤ ns.length + 2 := hB.short hp.pos fun k hk => (eB k).trans (by
      rcases Nat.eq_zero_or_pos B.length with h0 | h0
      · rw [cv_none (.inl h0)]; exact cz.refl _
      · exact cv_end h0 (by omega) (by have := h.lb; omega))
    simpa using this
  · rcases List.mem_append.1 hq with hq | hq
    · have := (hOv q.1).trans ((h.val q hq).add ((cz.refl c).mul (h.zero q hq)))
      rwa [Int.mul_zero, Int.add_zero] at this
    · simp at hq
      subst hq
      have := (hOv x).trans ((cz.refl (ev O x)).add hc)
      rwa [show ev O x + (y - ev O x) = y by omega] at this
  · rcases List.mem_append.1 hq with hq | hq
    · have := (hBv q.1).trans ((h.zero q hq).mul (cz.refl _))
      rwa [Int.zero_mul] at this
    · simp at hq
      subst hq
      have := hBv x
      rwa [Int.sub_self, Int.mul_zero] at this
  · have h1 := hBv z
    have h2 : (p : Int) ∣ ev B z * (z - x) := by
      have h3 : cz p (ev B' z) 0 := by unfold cz; rwa [Int.sub_zero]
      have h4 := h1.symm.trans h3
      unfold cz at h4
      rwa [Int.sub_zero] at h4
    rcases Nt.Pr.int_dvd_mul hp h2 with h3 | h3
    · exact h.nz z (fun q hq => hz q (by simp [hq])) h3
    · exact hz (x, y) (by simp) h3
end Pm

/- Polynomials modulo a prime: Horner's steps. Nothing of the program. -/
namespace Pm
open Dg

/-- Horner's steps: the top comes first. -/
def hor (x : Int) : List Nat → Int := List.foldl (fun v c => v * x + c) 0
theorem hor_nil (x : Int) : hor x [] = 0 := rfl
theorem hor_snoc (x : Int) (L : List Nat) (c : Nat) : hor x (L ++ [c]) = hor x L * x + c := by simp [hor]
theorem hor_rev (x : Int) (L : List Nat) : hor x L.reverse = ev L x := by
  induction L with
  | nil => rfl
  | cons a L ih => rw [List.reverse_cons, hor_snoc, ih]; show ev L x * x + a = a + x * ev L x; grind
/-- What an iterator from the top hands out: the place and the coefficient. -/
def bk (L : List Nat) (j : Nat) : Nat × Nat := (L.length - 1 - j, ld L (L.length - 1 - j))
theorem bk_all (L : List Nat) : ((List.range L.length).map (bk L)).map Prod.snd = L.reverse := by
  apply List.ext_getElem
  · simp
  · intro i h1 h2
    simp at h1 h2
    simp [bk]
    rw [ld_lt (by omega)]
/-- The value is told by what is congruent to it. -/
theorem ev_of_cg {p : Nat} {L M : List Nat} (h : Cg p (co L) (co M)) (x : Int) : cz p (ev L x) (ev M x) := by
  have h1 := ev_cg (n := M.length) h (co_up M) x
  rwa [es_co M x (Nat.le_refl _)] at h1
theorem ev_cz {p : Nat} (L : List Nat) {x y : Int} (h : cz p x y) : cz p (ev L x) (ev L y) := by
  induction L with
  | nil => exact cz.refl _
  | cons a L ih => exact (cz.refl _).add (h.mul ih)
end Pm
