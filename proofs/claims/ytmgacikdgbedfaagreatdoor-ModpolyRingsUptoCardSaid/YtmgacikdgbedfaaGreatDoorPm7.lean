/- Polynomials modulo 7: the document's example, its divisions. Nothing of the program. -/
import Derived.Test.YtmgacikdgbedfaaGreatDoorPm6
namespace Pm
open Dg
theorem dv7 : Dv 7 (co a7) (co [6, 1]) (co [1, 1]) (co []) ([6, 1].length - 1) :=
  dv_known 3 (fun k hk => by
    match k, hk with
    | 0, _ => exact cz_int (by decide)
    | 1, _ => exact cz_int (by decide)
    | 2, _ => exact cz_int (by decide)) (by decide) (by decide) (by decide) (by decide) (by decide) (by decide)
theorem div7 {Q R : List Nat} (hq : Pn 7 Q) (hr : Pn 7 R) (h : Dv 7 (co a7) (co [6, 1]) (co Q) (co R) ([6, 1].length - 1)) : Q = [1, 1] ∧ R = [] := dv_same pr7' b7_pn (by decide) hq c7_pn hr Pn.nil h dv7
theorem mo_self {L : List Nat} (h : Pn 7 L) (ht : ld L (L.length - 1) = 1) : Mo 7 L L :=
  ⟨h, fun h0 => h0, fun _ => ⟨1, by rw [Int.one_mul]; unfold co; rw [ht]; exact cz.refl _, fun k => by dsimp only; rw [Int.one_mul]; exact cz.refl _⟩⟩
theorem gc7 {G : List Nat} (h : Gc 7 a7 [6, 1] G) : G = [6, 1] :=
  h.unique pr7' b7_pn (.step (by decide) ⟨Pn.nil, co [1, 1], Fn.co _, dv7⟩ (.done (mo_self b7_pn (by decide))))
/-- The derivative, 2 x, and x^2 + 6 have nothing in common. -/
theorem dvd7 : Dv 7 (co a7) (co [0, 2]) (co [0, 4]) (co [6]) ([0, 2].length - 1) :=
  dv_known 3 (fun k hk => by
    match k, hk with
    | 0, _ => exact cz_int (by decide)
    | 1, _ => exact cz_int (by decide)
    | 2, _ => exact cz_int (by decide)) (by decide) (by decide) (by decide) (by decide) (by decide) (by decide)
theorem six_pn : Pn 7 [6] := pn_of (.inr (by decide)) (by decide)
theorem gcd7 {G : List Nat} (h : Gc 7 a7 [0, 2] G) : G = [1] := by
  refine h.unique pr7' d7_pn (.step (r := [6]) (by decide) ⟨six_pn, co [0, 4], Fn.co _, dvd7⟩ (.step (r := []) (by decide) ⟨Pn.nil, co [0, 5], Fn.co _, ?_⟩ (.done ⟨o7_pn, fun h => (List.cons_ne_nil _ _ h).elim, fun _ => ⟨6, cz_int (by decide), fun k => ?_⟩⟩)))
  · exact dv_known 2 (fun k hk => by
      match k, hk with
      | 0, _ => exact cz_int (by decide)
      | 1, _ => exact cz_int (by decide)) (by decide) (by decide) (by decide) (by decide) (by decide) (by decide)
  · match k with
    | 0 => exact cz_int (by decide)
    | k + 1 => rw [co_zero (by simp)]; dsimp only; rw [co_zero (by simp)]; exact cz.refl _
theorem dv_one (L : List Nat) : Dv 7 (co L) (co [1]) (co L) (co []) ([1].length - 1) :=
  ⟨fun k => by dsimp only; rw [show co [1] = mono 1 0 from funext fun j => by
      cases j with
      | zero => rfl
      | succ j => unfold co mono; rw [ld_ge (by simp)]; simp, cv_comm, cv_one, show co [] k = 0 from co_zero (Nat.zero_le _), Int.add_zero]; exact cz.refl _, (co_up []).mono (by simp)⟩
end Pm
namespace Pm
open Dg
theorem co_1 : co [1] = mono 1 0 := funext fun j => by
  cases j with
  | zero => rfl
  | succ j => unfold co mono; rw [ld_ge (by simp)]; simp
theorem dv_self (L : List Nat) : Dv 7 (co L) (co L) (co [1]) (co []) (L.length - 1) :=
  ⟨fun k => by dsimp only; rw [co_1, cv_one, show co [] k = 0 from co_zero (Nat.zero_le _), Int.add_zero]; exact cz.refl _, (co_up []).mono (by simp)⟩
theorem div_self {L Q R : List Nat} (hL : Pn 7 L) (hl : 0 < L.length) (hq : Pn 7 Q) (hr : Pn 7 R) (h : Dv 7 (co L) (co L) (co Q) (co R) (L.length - 1)) : Q = [1] ∧ R = [] := dv_same pr7' hL hl hq o7_pn hr Pn.nil h (dv_self L)
theorem div_one {L Q R : List Nat} (hL : Pn 7 L) (hq : Pn 7 Q) (hr : Pn 7 R) (h : Dv 7 (co L) (co [1]) (co Q) (co R) ([1].length - 1)) : Q = L ∧ R = [] := dv_same pr7' o7_pn (by decide) hq hL hr Pn.nil h (dv_one L)
theorem gc_nil {L G : List Nat} (hL : Pn 7 L) (ht : ld L (L.length - 1) = 1) (h : Gc 7 L [] G) : G = L := h.unique pr7' Pn.nil (.done (mo_self hL ht))
theorem none_of {R : List Nat} {f : Nat → Int} (h : Pn 7 R ∧ Cg 7 (co R) f) (hf : ∀ k, f k = 0) : R = [] := known (by omega) h.1 Pn.nil h.2 0 (fun k hk => absurd hk (by omega)) (fun k _ => hf k) (Nat.le_refl _)
/-- x^2 + 6 and 1. -/
theorem gc_one {G : List Nat} (h : Gc 7 a7 [1] G) : G = [1] :=
  h.unique pr7' o7_pn (.step (by decide) ⟨Pn.nil, co a7, Fn.co _, dv_one a7⟩ (.done (mo_self o7_pn (by decide))))
/-- The derivative of x^2 + 6. -/
theorem der7 {R : List Nat} {f : Nat → Int} (h : Pn 7 R ∧ Cg 7 (co R) f) (hf : ∀ k, f k = ((k : Int) + 1) * co a7 (k + 1)) : R = [0, 2] :=
  known (by omega) h.1 d7_pn h.2 2 (fun k hk => by
    rw [hf]
    match k, hk with
    | 0, _ => exact cz_int (by decide)
    | 1, _ => exact cz_int (by decide)) (fun k hk => by rw [hf, co_zero (show a7.length ≤ k + 1 by unfold a7; simp; omega), Int.mul_zero]) (by decide)
end Pm
