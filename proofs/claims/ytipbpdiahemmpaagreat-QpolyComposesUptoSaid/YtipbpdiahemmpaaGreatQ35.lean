/- qpoly.div along told divisions of integer polynomials. -/
import Derived.Test.YtipbpdiahemmpaaGreatQ31
import Derived.Test.YtipbpdiahemmpaaGreatQ34
namespace Go.Proofs.YtipbpdiahemmpaaGreat
open Go.RowKit Go.IntWalk
attribute [local go_sem ↓] Go.wp_at_zero Go.wp_at_succ

/-- What is asked of a told division. -/
def DivOK (a b q r : List Int) : Prop :=
  Pz.Nz a ∧ Pz.Nz b ∧ 0 < b.length ∧ b.length ≤ a.length ∧ a.length ≤ 1000 ∧ Sm b ∧ (∀ j, SzQ 1 (Pq.drest (qz b) j (qz a))) ∧ Pq.IsD (qz a) (qz b) (qz q) (qz r)
/-- Quotient and rest come back. -/
def RetDz (b : Nat) (q r : List Int) (w : World) (e : Ending) (w' : World) : Prop :=
  ∃ (A : Option Addr) (n c : Nat) (Q : List Rat) (A' : Option Addr) (n' c' : Nat) (R : List Rat), e = .returned (.tuple #[.slice A n c, .slice A' n' c']) ∧ OwQp w' b A n c Q ∧ OwQp w' b A' n' c' R ∧ Hid (Q = qz q ∧ R = qz r) ∧ Below w.heap.size w w'
theorem qz_len (Z : List Int) : (qz Z).length = Z.length := List.length_map ..
theorem qdiv_ok {b : Nat} {A A' : Option Addr} {n c n' c' : Nat} {Za Zb q r : List Int} {w : World} (h : OwQp w b A n c (qz Za)) (h' : RdQs w w.heap.size 1 A' n' c' ((qz Zb).map pr)) (hk : DivOK Za Zb q r) (hb : b ≤ w.heap.size) :
    Calls Tryz.prog 104 #[.slice A n c, .slice A' n' c'] w (RetDz b q r w) := by
  obtain ⟨hza, hzb, h0, hle, hl, hs, hS, hD⟩ := hk
  have hn : n ≤ 1000 := by rw [← h.len, qz_len]; exact hl
  refine (qdiv_run (N := 1) h h' (nz_qz hza) (nz_qz hzb) (by rw [qz_len]; exact h0) (by rw [qz_len, qz_len]; exact hle) hb hS (by omega) (by decide) (Nat.le_refl _)).mono ?_
  rintro e W ⟨A2, n2, c2, Q, A3, n3, c3, R, h1, h2, h3, h4, h5⟩
  exact ⟨A2, n2, c2, Q, A3, n3, c3, R, h1, h2, h3, Lib.hid (h4.out.unique (nz_qz hzb) hD), h5⟩
theorem drest_stop {b a : List Rat} (h : a.length < b.length) : ∀ j, Pq.drest b j a = a
  | 0 => rfl
  | j + 1 => by rw [Pq.drest, if_neg (by omega)]
theorem drest_more {P : List Rat → Prop} {b a a' : List Rat} (h : b.length ≤ a.length) (e : Pq.dstep b a = a') (h0 : P a) (h1 : ∀ j, P (Pq.drest b j a')) : ∀ j, P (Pq.drest b j a)
  | 0 => h0
  | j + 1 => by rw [Pq.drest_step h, e]; exact h1 j
theorem drest_end {P : List Rat → Prop} {b a : List Rat} (h : a.length < b.length) (h0 : P a) : ∀ j, P (Pq.drest b j a) := fun j => by rw [drest_stop h]; exact h0
theorem sq1 {Z : List Int} (h : Sm Z) : SzQ 1 (qz Z) := SzQ.of h.qs (Nat.le_refl _)
theorem isd_check {a b q r : List Int} (K : Nat) (hq : Pz.Nz q) (hr : Pz.Nz r) (h : r.length < b.length) (h1 : a.length ≤ K) (h2 : q.length + b.length ≤ K) (h3 : r.length ≤ K) (e : ∀ t, t < K → Pq.co (qz a) t = Pq.cv (Pq.co (qz q)) (Pq.co (qz b)) t + Pq.co (qz r) t) : Pq.IsD (qz a) (qz b) (qz q) (qz r) :=
  ⟨nz_qz hq, nz_qz hr, by rw [qz_len, qz_len]; exact h, fun t => by
    rcases Nat.lt_or_ge t K with ht | ht
    · exact e t ht
    · rw [Pq.co_ge (L := qz a) (by rw [qz_len]; omega), Pq.co_ge (L := qz r) (by rw [qz_len]; omega), Pq.cv_up (Pq.up_co (qz q)) (Pq.up_co (qz b)) t (by rw [qz_len, qz_len]; omega)]
      exact (Rat.add_zero 0).symm⟩
theorem dok1 : DivOK [0, 0, -1, 1] [0, 1] [0, -1, 1] [] :=
  ⟨nz_check (by decide), nz_check (by decide), by decide, by decide, by decide, by decide,
    drest_more (a' := qz [0, 0, -1]) (by decide) (by decide +kernel) (sq1 (by decide)) (drest_more (a' := qz []) (by decide) (by decide +kernel) (sq1 (by decide)) (drest_end (by decide) (sq1 (by decide)))),
    isd_check 5 (nz_check (by decide)) Pz.nz_nil (by decide) (by decide) (by decide) (by decide) (by decide +kernel)⟩
theorem dok2 : DivOK [0, -1, 1] [0, 1] [-1, 1] [] :=
  ⟨nz_check (by decide), nz_check (by decide), by decide, by decide, by decide, by decide,
    drest_more (a' := qz [0, -1]) (by decide) (by decide +kernel) (sq1 (by decide)) (drest_more (a' := qz []) (by decide) (by decide +kernel) (sq1 (by decide)) (drest_end (by decide) (sq1 (by decide)))),
    isd_check 4 (nz_check (by decide)) Pz.nz_nil (by decide) (by decide) (by decide) (by decide) (by decide +kernel)⟩
theorem dok3 : DivOK [0, 1] [0, 1] [1] [] :=
  ⟨nz_check (by decide), nz_check (by decide), by decide, by decide, by decide, by decide,
    drest_more (a' := qz []) (by decide) (by decide +kernel) (sq1 (by decide)) (drest_end (by decide) (sq1 (by decide))),
    isd_check 3 (nz_check (by decide)) Pz.nz_nil (by decide) (by decide) (by decide) (by decide) (by decide +kernel)⟩
theorem dok4 : DivOK [0, 1] [1] [0, 1] [] :=
  ⟨nz_check (by decide), nz_check (by decide), by decide, by decide, by decide, by decide,
    drest_more (a' := qz []) (by decide) (by decide +kernel) (sq1 (by decide)) (drest_end (by decide) (sq1 (by decide))),
    isd_check 3 (nz_check (by decide)) Pz.nz_nil (by decide) (by decide) (by decide) (by decide) (by decide +kernel)⟩
theorem dok5 : DivOK [1] [1] [1] [] :=
  ⟨nz_check (by decide), nz_check (by decide), by decide, by decide, by decide, by decide,
    drest_more (a' := qz []) (by decide) (by decide +kernel) (sq1 (by decide)) (drest_end (by decide) (sq1 (by decide))),
    isd_check 2 (nz_check (by decide)) Pz.nz_nil (by decide) (by decide) (by decide) (by decide) (by decide +kernel)⟩
/-- The example's rounds: what is left, its part with repeats, what is found. -/
def wT : Nat → List Int
  | 0 => [0, -1, 1]
  | 1 => [0, 1]
  | _ => [1]
def gT : Nat → List Int
  | 0 => [0, 1]
  | _ => [1]
def zT : Nat → List Int
  | 0 => [-1, 1]
  | _ => [0, 1]
theorem rounds {i : Nat} (h : i < 2) : GcdOK (wT i) (gT i) (wT (i + 1)) ∧ DivOK (wT i) (wT (i + 1)) (zT i) [] ∧ DivOK (gT i) (wT (i + 1)) (gT (i + 1)) [] ∧ 1 < (wT i).length ∧ (zT i).length = 2 ∧ (wT i).length ≤ 3 ∧ Sm (wT i) ∧ Sm (gT i) ∧ Sm (wT (i + 1)) := by
  match i, h with
  | 0, _ => exact ⟨gok4, dok2, dok3, by decide, by decide, by decide, by decide, by decide, by decide⟩
  | 1, _ => exact ⟨gok5, dok4, dok5, by decide, by decide, by decide, by decide, by decide, by decide⟩
end Go.Proofs.YtipbpdiahemmpaaGreat
