/- Lists among the arguments: opened at every index, shut behind the call; integer polynomials. -/
import Derived.Test.YtjnklbfhelbjgaaGreatQ27
import Derived.Test.YtjnklbfhelbjgaaGreatQ06
import Derived.Deep.Slices
import Derived.DataShut
import Derived.Test.YtjnklbfhelbjgaaGreatQ22
import Derived.Test.YtjnklbfhelbjgaaGreatQ13
namespace Go.Proofs.YtjnklbfhelbjgaaGreat
open Go.ChangeShapes Go.WideShapes Go.ChangeAt Go.RowKit
section
variable {H : Type} {enc : TypeId × Value → H} {W : World}
theorem cells_below {W' : World} {a : Addr} {n : Nat} {cs : List Value} (h : W.cells? 0 a n = some cs) (hB : Below W.heap.size W W') : W'.cells? 0 a n = some cs := by
 obtain ⟨h1, h2, h3⟩ := World.cells?_some h
 refine World.cells?_of_each h1 h2 fun i hi => ?_
 have e := h3 i hi
 rw [List.getElem?_eq_getElem (by omega)] at e ⊢
 exact (hB.cell (p := a.add i) (cell_in e)).trans e
theorem RdRs.wide {w : World} {B N N' : Nat} {A : Option Addr} {n c : Nat} {R : List (Bool × List Nat)} (h : RdRs w B N A n c R) (hN : N ≤ N') : RdRs w B N' A n c R :=
 ⟨h.len, h.le, h.mx, fun j r hr => by
  obtain ⟨ad, A', n', c', h1, h2, h3, h4, h5, h6⟩ := h.at_ j r hr
  exact ⟨ad, A', n', c', h1, h2, h3, h4, h5, Nat.le_trans h6 hN⟩⟩
theorem stays_slice {t e : TypeId} {a : Addr} {len cap : Nat} {D : Nat → DataW H} {Pl : Nat → List MemPlace} (ht : Tryz.prog.underlying t = some (.slice e)) (hc : 0 < Tryz.prog.cellsOf e) (hl : len ≤ cap) (hm : cap ≤ maxLen)
  (hx : ∀ i, i < cap → ∃ cs, W.cells? 0 (a.add (i * Tryz.prog.cellsOf e)) (Tryz.prog.cellsOf e) = some cs ∧ Stays enc W e cs (D i) (Pl i)) :
  Stays enc W t [.slice (some a) len cap] (.slice ((List.range len).map D) ((List.range (cap - len)).map fun j => D (len + j))) (MemPlace.row a (cap * Tryz.prog.cellsOf e) ++ (List.range cap).flatMap Pl) := by
 intro W' sp hB hsp
 have each : ∀ i, i < cap → ∃ cs n, W'.cells? 0 (a.add (i * Tryz.prog.cellsOf e)) (Tryz.prog.cellsOf e) = some cs ∧ DataW.trod enc Tryz.prog W' 0 sp true n e cs = some (D i, Pl i) := fun i hi => by
  obtain ⟨cs, h1, h2⟩ := hx i hi
  obtain ⟨n, hn⟩ := h2 W' sp hB fun p hp => hsp p (List.mem_append_right _ (List.mem_flatMap.2 ⟨i, by simpa using hi, hp⟩))
  exact ⟨cs, n, cells_below h1 hB, hn⟩
 cases hs : sp a.block with
 | true => exact Go.Deep.shut_slice_whole_cells ht (Nat.zero_le _) hl hm hs D Pl each
 | false =>
   have h0 : cap = 0 := by
    rcases Nat.eq_zero_or_pos cap with h | h
    ·exact h
    ·have hr : MemPlace.cell a.block (a.off + 0) ∈ MemPlace.row a (cap * Tryz.prog.cellsOf e) := by
      unfold MemPlace.row
      exact List.mem_map.2 ⟨0, by simpa using Nat.mul_pos h hc, rfl⟩
     have := hsp _ (List.mem_append_left _ hr)
     rw [show (MemPlace.cell a.block (a.off + 0)).block = a.block from rfl, hs] at this
     cases this
   subst h0
   obtain rfl : len = 0 := by omega
   have := Go.Deep.shut_slice_cells (enc := enc) (P := Tryz.prog) (w := W') (base := 0) (spare := sp) (held := true) (a := a) ht (Nat.zero_le _) (Nat.le_refl 0) hm hs D Pl (fun i hi => by omega)
   simpa using this
theorem bulk_elem {len : Nat} {D : Nat → DataW H} {l : List (DataW H)} {i : Nat} (hi : i < len) : Rows.uptoBulk (D i) ≤ Rows.uptoBulk (.slice ((List.range len).map D) l) := by
 have h := bulk_part (H := H) (d := D i) (l := (List.range len).map D) (List.mem_map.2 ⟨i, by simpa using hi, rfl⟩)
 simp only [Rows.uptoBulk]
 omega
theorem bulk_many {D : Nat → DataW H} {k : Nat} : ∀ (l : List Nat), (∀ i ∈ l, k ≤ Rows.uptoBulk (D i)) → k * l.length ≤ Rows.uptoBulkAll (l.map D)
 | [], _ => by simp
 | x :: l, h => by
   have h1 := bulk_many l fun i hi => h i (by simp [hi])
   have h2 := h x (by simp)
   simp only [List.map_cons, List.length_cons, Rows.uptoBulkAll, Nat.mul_succ]
   omega
theorem open_int3 {fuel : Nat} {cs : List Value} {y : DataW H × List MemPlace} (hd : DataW.trod enc Tryz.prog W 0 (fun _ => true) true fuel 25 cs = some y) :
  ∃ (s : Bool) (A : Option Addr) (n c : Nat) (M : List Nat), cs = [.bool s, .slice A n c] ∧ RdU W W.heap.size A n c M ∧ n ≤ Rows.uptoBulk y.1 ∧ 3 ≤ Rows.uptoBulk y.1 ∧ Stays enc W 25 cs y.1 y.2 := by
 obtain ⟨y0, y1, n, rfl, hl, h0, h1⟩ := trod_struct2 Tryz.underlying25 hd
 rw [cInt] at hl
 obtain ⟨c0, c1, rfl⟩ := two_cells hl
 have h0' : DataW.trod enc Tryz.prog W 0 (fun _ => true) true n 4 [c0] = some y0 := by simpa [cBool] using h0
 have h1' : DataW.trod enc Tryz.prog W 0 (fun _ => true) true n 23 [c1] = some y1 := by simpa [cNat] using h1
 obtain ⟨b, e, rfl⟩ := DataW.trod_bool Tryz.underlying4 h0'
 obtain ⟨A, m, c, L, e1, hR, hm, hS⟩ := open_nat h1'
 simp at e e1
 subst e e1
 refine ⟨b, A, m, c, _, rfl, hR, Nat.le_trans hm (bulk_agg (by simp)), ?_, fun W' sp hB hsp => ?_⟩
 ·have h2 := bulk_one y1.1
  simp only [Rows.uptoBulk, Rows.uptoBulkAll]
  omega
 obtain ⟨k, hk⟩ := hS W' sp hB (fun p hp => hsp p (by simp [hp]))
 refine ⟨k + 1 + 1, ?_⟩
 have ht := trod_struct2_mk (enc := enc) (w := W') (base := 0) (spare := sp) (held := true) (n := k + 1) (cs := [.bool b, .slice A m c]) (y0 := (.lit (.bool b), [])) (y1 := y1) Tryz.underlying25 (by simp [cInt])
  (by simp [cBool, DataW.trod, Tryz.underlying4]) (by simpa [cNat] using DataW.trod_le (Nat.le_succ k) hk)
 exact ht
theorem cells_pair {w : World} {a : Addr} {x y : Value} (h : w.cells? 0 a 2 = some [x, y]) : w.cell? a = some x ∧ w.cell? (a.add 1) = some y := by
 obtain ⟨_, _, h3⟩ := World.cells?_some h
 have h0 := h3 0 (by omega)
 have h1 := h3 1 (by omega)
 simp at h0 h1
 refine ⟨?_, h1⟩
 have e : a.add 0 = a := by unfold Addr.add; simp
 rwa [e] at h0
end
end Go.Proofs.YtjnklbfhelbjgaaGreat

/- Rational polynomials among the arguments: opened, and shut behind the call. -/
namespace Go.Proofs.YtjnklbfhelbjgaaGreat
open Go.ChangeShapes Go.WideShapes Go.ChangeAt Go.RowKit
section
variable {H : Type} {enc : TypeId × Value → H} {W : World}
theorem bulk_sum {D : Nat → DataW H} {k : Nat → Nat} : ∀ (l : List Nat), (∀ i ∈ l, k i ≤ Rows.uptoBulk (D i)) → (l.map k).sum ≤ Rows.uptoBulkAll (l.map D)
 | [], _ => by simp
 | x :: l, h => by
   have h1 := bulk_sum l fun i hi => h i (by simp [hi])
   have h2 := h x (by simp)
   simp only [List.map_cons, List.sum_cons, Rows.uptoBulkAll]
   omega
theorem open_int4 {fuel : Nat} {cs : List Value} {y : DataW H × List MemPlace} (hd : DataW.trod enc Tryz.prog W 0 (fun _ => true) true fuel 25 cs = some y) :
  ∃ (s : Bool) (A : Option Addr) (n c : Nat) (M : List Nat), cs = [.bool s, .slice A n c] ∧ RdU W W.heap.size A n c M ∧ n + 2 ≤ Rows.uptoBulk y.1 ∧ Stays enc W 25 cs y.1 y.2 := by
 obtain ⟨y0, y1, n, rfl, hl, h0, h1⟩ := trod_struct2 Tryz.underlying25 hd
 rw [cInt] at hl
 obtain ⟨c0, c1, rfl⟩ := two_cells hl
 have h0' : DataW.trod enc Tryz.prog W 0 (fun _ => true) true n 4 [c0] = some y0 := by simpa [cBool] using h0
 have h1' : DataW.trod enc Tryz.prog W 0 (fun _ => true) true n 23 [c1] = some y1 := by simpa [cNat] using h1
 obtain ⟨b, e, rfl⟩ := DataW.trod_bool Tryz.underlying4 h0'
 obtain ⟨A, m, c, L, e1, hR, hm, hS⟩ := open_nat h1'
 simp at e e1
 subst e e1
 refine ⟨b, A, m, c, _, rfl, hR, ?_, fun W' sp hB hsp => ?_⟩
 ·have h2 := bulk_one y1.1
  simp only [Rows.uptoBulk, Rows.uptoBulkAll]
  omega
 obtain ⟨k, hk⟩ := hS W' sp hB (fun p hp => hsp p (by simp [hp]))
 refine ⟨k + 1 + 1, ?_⟩
 have ht := trod_struct2_mk (enc := enc) (w := W') (base := 0) (spare := sp) (held := true) (n := k + 1) (cs := [.bool b, .slice A m c]) (y0 := (.lit (.bool b), [])) (y1 := y1) Tryz.underlying25 (by simp [cInt])
  (by simp [cBool, DataW.trod, Tryz.underlying4]) (by simpa [cNat] using DataW.trod_le (Nat.le_succ k) hk)
 exact ht
end
end Go.Proofs.YtjnklbfhelbjgaaGreat

/- A matrix among the arguments: opened, and shut behind the call. -/
namespace Go.Proofs.YtjnklbfhelbjgaaGreat
open Go.ChangeShapes Go.WideShapes Go.ChangeAt Go.RowKit
section
variable {H : Type} {enc : TypeId × Value → H} {W : World}
theorem cIs : Tryz.prog.cellsOf 65 = 1 := by kernel_rfl
theorem cIss : Tryz.prog.cellsOf 26 = 1 := by kernel_rfl
theorem cMat : Tryz.prog.cellsOf 28 = 3 := by kernel_rfl
theorem three_cells {cs : List Value} (h : cs.length = 3) : ∃ a b c, cs = [a, b, c] := by
 match cs, h with
 | [a, b, c], _ => exact ⟨a, b, c, rfl⟩
set_option maxRecDepth 100000 in
theorem open_irow {fuel : Nat} {cs : List Value} {y : DataW H × List MemPlace} (hd : DataW.trod enc Tryz.prog W 0 (fun _ => true) true fuel 65 cs = some y) :
  ∃ (A : Option Addr) (n c : Nat) (R : List (Bool × List Nat)), cs = [.slice A n c] ∧ RdRs W W.heap.size (Rows.uptoBulk y.1) A n c R ∧ (A = none → n = 0 ∧ c = 0) ∧ 3 * n ≤ Rows.uptoBulk y.1 ∧ Stays enc W 65 cs y.1 y.2 := by
 have ht := Tryz.underlying65
 rcases Go.Deep.open_slice ht hd with ⟨rfl, rfl⟩ | ⟨a, len, cap, m, n, D, Pl, rfl, hb, hl, hm, hmm, rfl, hx⟩
 ·exact ⟨none, 0, 0, [], rfl, ⟨rfl, Nat.le_refl _, Nat.zero_le _, fun j r hr => by simp at hr⟩, fun _ => ⟨rfl, rfl⟩, by omega, fun W' sp _ _ => ⟨1, by simp [DataW.trod, ht]⟩⟩
 ·simp only [if_true] at hmm
  subst hmm
  rw [cInt] at hx
  obtain ⟨f, hf⟩ := Go.Deep.choose_lt (α := Bool × Option Addr × Nat × Nat × List Nat) (p := fun i r => W.cells? 0 (a.add (i * 2)) 2 = some [.bool r.1, .slice r.2.1 r.2.2.1 r.2.2.2.1] ∧ RdU W W.heap.size r.2.1 r.2.2.1 r.2.2.2.1 r.2.2.2.2 ∧ r.2.2.1 ≤ Rows.uptoBulk (D i) ∧ 3 ≤ Rows.uptoBulk (D i) ∧ Stays enc W 25 [.bool r.1, .slice r.2.1 r.2.2.1 r.2.2.2.1] (D i) (Pl i)) (fun i hi => by
   obtain ⟨cs', h1, h2⟩ := hx i hi
   obtain ⟨s, A, k, c, M, rfl, h3, h4, h5, h6⟩ := open_int3 h2
   exact ⟨(s, A, k, c, M), h1, h3, h4, h5, h6⟩)
  refine ⟨some a, len, m, (List.range len).map fun i => ((f i).1, (f i).2.2.2.2), rfl, ⟨by simp, hl, hm, fun j r hr => ?_⟩, (fun e => by cases e), ?_, ?_⟩
  ·have hj : j < len := by
    rcases Nat.lt_or_ge j len with h3 | h3
    ·exact h3
    ·rw [List.getElem?_eq_none (by simpa using h3)] at hr; cases hr
   rw [List.getElem?_map, List.getElem?_range hj] at hr
   simp at hr
   subst hr
   obtain ⟨h1, h2, h3, _, _⟩ := hf j (by omega)
   obtain ⟨k0, k1⟩ := cells_pair h1
   have hbl := cell_in k0
   rw [block_add] at hbl
   refine ⟨a, _, _, _, rfl, hbl, k0, ?_, h2, Nat.le_trans h3 (bulk_elem hj)⟩
   rw [← k1]
   congr 1
  ·have h := bulk_many (H := H) (D := D) (k := 3) (List.range len) (fun i hi => (hf i (by have := List.mem_range.1 hi; omega)).2.2.2.1)
   simp only [Rows.uptoBulk, List.length_range] at h ⊢
   omega
  ·refine stays_slice ht (by rw [cInt]; omega) hl hm fun i hi => ?_
   rw [cInt]
   exact ⟨_, (hf i hi).1, (hf i hi).2.2.2.2⟩
set_option maxRecDepth 100000 in
theorem open_irows {fuel : Nat} {cs : List Value} {y : DataW H × List MemPlace} (hd : DataW.trod enc Tryz.prog W 0 (fun _ => true) true fuel 26 cs = some y) :
  ∃ (A : Option Addr) (n c : Nat) (RR : List RawRow), cs = [.slice A n c] ∧ RdRss W W.heap.size (Rows.uptoBulk y.1) (Rows.uptoBulk y.1) A n c RR ∧ n ≤ Rows.uptoBulk y.1 ∧ (RR.map fun R => R.length).sum ≤ Rows.uptoBulk y.1 ∧ Stays enc W 26 cs y.1 y.2 := by
 have ht := Tryz.underlying26
 rcases Go.Deep.open_slice ht hd with ⟨rfl, rfl⟩ | ⟨a, len, cap, m, n, D, Pl, rfl, hb, hl, hm, hmm, rfl, hx⟩
 ·exact ⟨none, 0, 0, [], rfl, ⟨rfl, Nat.le_refl _, Nat.zero_le _, fun j r hr => by simp at hr⟩, Nat.zero_le _, by simp, fun W' sp _ _ => ⟨1, by simp [DataW.trod, ht]⟩⟩
 ·simp only [if_true] at hmm
  subst hmm
  rw [cIs] at hx
  obtain ⟨f, hf⟩ := Go.Deep.choose_lt (α := Option Addr × Nat × Nat × RawRow) (p := fun i r => W.cells? 0 (a.add (i * 1)) 1 = some [.slice r.1 r.2.1 r.2.2.1] ∧ RdRs W W.heap.size (Rows.uptoBulk (D i)) r.1 r.2.1 r.2.2.1 r.2.2.2 ∧ 3 * r.2.1 ≤ Rows.uptoBulk (D i) ∧ 1 ≤ Rows.uptoBulk (D i) ∧ Stays enc W 65 [.slice r.1 r.2.1 r.2.2.1] (D i) (Pl i)) (fun i hi => by
   obtain ⟨cs', h1, h2⟩ := hx i hi
   obtain ⟨A, k, c, R, rfl, h3, _, h5, h6⟩ := open_irow h2
   exact ⟨(A, k, c, R), h1, h3, h5, bulk_one _, h6⟩)
  refine ⟨some a, len, m, (List.range len).map fun i => (f i).2.2.2, rfl, ⟨by simp, hl, hm, fun j r hr => ?_⟩, ?_, ?_, ?_⟩
  ·have hj : j < len := by
    rcases Nat.lt_or_ge j len with h3 | h3
    ·exact h3
    ·rw [List.getElem?_eq_none (by simpa using h3)] at hr; cases hr
   rw [List.getElem?_map, List.getElem?_range hj] at hr
   simp at hr
   subst hr
   obtain ⟨h1, h2, h3, _, _⟩ := hf j (by omega)
   have k0 : W.cell? (a.add j) = some (.slice (f j).1 (f j).2.1 (f j).2.2.1) := by
    obtain ⟨_, _, hc⟩ := World.cells?_some h1
    have h0 := hc 0 (by omega)
    simp at h0
    have e : (a.add j).add 0 = a.add j := by unfold Addr.add; simp
    rwa [e] at h0
   have hbl := cell_in k0
   rw [block_add] at hbl
   have hbe := bulk_elem (D := D) (l := []) hj
   refine ⟨a, _, _, _, rfl, hbl, k0, h2.wide ?_, ?_⟩
   ·exact Nat.le_trans (Nat.le_refl _) (bulk_elem hj)
   ·exact Nat.le_trans (by omega) (bulk_elem hj)
  ·have h := bulk_many (H := H) (D := D) (k := 1) (List.range len) (fun i hi => (hf i (by have := List.mem_range.1 hi; omega)).2.2.2.1)
   simp only [Rows.uptoBulk, List.length_range] at h ⊢
   omega
  ·have h := bulk_sum (H := H) (D := D) (k := fun i => (f i).2.1) (List.range len) (fun i hi => by have := (hf i (by have := List.mem_range.1 hi; omega)).2.2.1; omega)
   have e : (((List.range len).map fun i => (f i).2.2.2).map fun R => R.length) = (List.range len).map fun i => (f i).2.1 := by
    rw [List.map_map]
    exact List.map_congr_left fun i hi => (hf i (by have := List.mem_range.1 hi; omega)).2.1.len
   rw [e]
   simp only [Rows.uptoBulk]
   omega
  ·refine stays_slice ht (by rw [cIs]; omega) hl hm fun i hi => ?_
   rw [cIs]
   exact ⟨_, (hf i hi).1, (hf i hi).2.2.2.2⟩
set_option maxRecDepth 100000 in
theorem open_mat3 {fuel : Nat} {cs : List Value} {y : DataW H × List MemPlace} (hd : DataW.trod enc Tryz.prog W 0 (fun _ => true) true fuel 28 cs = some y) :
  ∃ (s : Bool) (A : Option Addr) (n c : Nat) (M : List Nat) (G : Option Addr) (q k : Nat) (RR : List RawRow), cs = [.bool s, .slice A n c, .slice G q k] ∧ RdU W W.heap.size A n c M ∧ RdRss W W.heap.size (Rows.uptoBulk y.1) (Rows.uptoBulk y.1) G q k RR ∧ n ≤ Rows.uptoBulk y.1 ∧ q ≤ Rows.uptoBulk y.1 ∧ (RR.map fun R => R.length).sum ≤ Rows.uptoBulk y.1 ∧ Stays enc W 28 cs y.1 y.2 := by
 obtain ⟨y0, y1, n, rfl, hl, h0, h1⟩ := trod_struct2 Tryz.underlying28 hd
 rw [cMat] at hl
 obtain ⟨c0, c1, c2, rfl⟩ := three_cells hl
 have h0' : DataW.trod enc Tryz.prog W 0 (fun _ => true) true n 25 [c0, c1] = some y0 := by simpa [cInt] using h0
 have h1' : DataW.trod enc Tryz.prog W 0 (fun _ => true) true n 26 [c2] = some y1 := by simpa [cInt, cIss] using h1
 obtain ⟨s, A, m, c, M, e, hR, hm, hS⟩ := open_int4 h0'
 obtain ⟨G, q, k, RR, e', hR', hq, hsum, hS'⟩ := open_irows h1'
 simp at e e'
 obtain ⟨rfl, rfl⟩ := e
 subst e'
 have hb1 : Rows.uptoBulk y1.1 ≤ Rows.uptoBulk (DataW.agg [y0.1, y1.1]) := bulk_agg (by simp)
 have hb0 : Rows.uptoBulk y0.1 ≤ Rows.uptoBulk (DataW.agg [y0.1, y1.1]) := bulk_agg (by simp)
 refine ⟨s, A, m, c, M, G, q, k, RR, rfl, hR, ⟨hR'.len, hR'.le, hR'.mx, fun j R hj => ?_⟩, by simp only at hm ⊢; omega, Nat.le_trans hq hb1, Nat.le_trans hsum hb1, fun W' sp hB hsp => ?_⟩
 ·obtain ⟨ad, A1, n1, c1, k1, k2, k3, k4, k5⟩ := hR'.at_ j R hj
  exact ⟨ad, A1, n1, c1, k1, k2, k3, k4.wide hb1, Nat.le_trans k5 hb1⟩
 obtain ⟨k0, hk⟩ := hS W' sp hB (fun p hp => hsp p (by simp [hp]))
 obtain ⟨k1, hk'⟩ := hS' W' sp hB (fun p hp => hsp p (by simp [hp]))
 refine ⟨max k0 k1 + 1, ?_⟩
 exact trod_struct2_mk (enc := enc) (w := W') (base := 0) (spare := sp) (held := true) (n := max k0 k1) (cs := [.bool s, .slice A m c, .slice G q k]) (y0 := y0) (y1 := y1) Tryz.underlying28 (by simp [cMat])
  (by simpa [cInt] using DataW.trod_le (Nat.le_max_left k0 k1) hk) (by simpa [cInt, cIss] using DataW.trod_le (Nat.le_max_right k0 k1) hk')
set_option maxRecDepth 100000 in
theorem open_Mat {r : Reach} {b0 : Nat} {v : Value} {d : DataW H} {ps : List MemPlace} (hval : Value.okWide Tryz.prog W r b0 28 v) (hd : DataW.Trod enc Tryz.prog W 0 (fun _ => true) true 28 v d ps) :
  ∃ (s : Bool) (A : Option Addr) (n c : Nat) (M : List Nat) (G : Option Addr) (q k : Nat) (RR : List RawRow), v = .agg #[.bool s, .slice A n c, .slice G q k] ∧ RdU W W.heap.size A n c M ∧ RdRss W W.heap.size (Rows.uptoBulk d) (Rows.uptoBulk d) G q k RR ∧ n ≤ Rows.uptoBulk d ∧ q ≤ Rows.uptoBulk d ∧ (RR.map fun R => R.length).sum ≤ Rows.uptoBulk d ∧
   ∀ (W' : World) (sp : Nat → Bool), Below W.heap.size W W' → (∀ p ∈ ps, sp p.block = true) → DataW.Trod enc Tryz.prog W' 0 sp true 28 v d ps := by
 obtain ⟨cs, rfl, hsz⟩ := okWide_struct Tryz.underlying28 hval
 obtain ⟨fuel, hf⟩ := hd
 obtain ⟨s, A, n, c, M, G, q, k, RR, e, h1, h2, h3, h4, h5, hS⟩ := open_mat3 hf
 have e2 : cs = #[.bool s, .slice A n c, .slice G q k] := by
  apply Array.toList_inj.1
  simpa [Value.cells] using e
 subst e2
 exact ⟨s, A, n, c, M, G, q, k, RR, rfl, h1, h2, h3, h4, h5, hS⟩
end
end Go.Proofs.YtjnklbfhelbjgaaGreat
