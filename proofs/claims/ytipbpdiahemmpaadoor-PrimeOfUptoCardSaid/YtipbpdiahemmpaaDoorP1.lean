/- Integers and fractions among the arguments: opened, and shut behind the call. -/
import Derived.Test.YtipbpdiahemmpaaDoorP0
import Derived.Test.YtipbpdiahemmpaaDoorQg
import Derived.Lib.SmallJoins
namespace Go.Proofs.YtipbpdiahemmpaaDoor
open Go.ChangeShapes Go.WideShapes Go.ChangeAt Go.RowKit

section
variable {H : Type} {enc : TypeId × Value → H} {W : World}
/-- Cells that read as a datum, and read so in each world that leaves all below the heap's size. -/
def Stays (enc : TypeId × Value → H) (W : World) (t : TypeId) (cs : List Value) (d : DataW H) (ps : List MemPlace) : Prop :=
  ∀ (W' : World) (sp : Nat → Bool), Below W.heap.size W W' → (∀ p ∈ ps, sp p.block = true) → ∃ n, DataW.trod enc Tryd.prog W' 0 sp true n t cs = some (d, ps)

set_option maxRecDepth 100000 in
theorem open_nat {fuel : Nat} {cs : List Value} {y : DataW H × List MemPlace} (hd : DataW.trod enc Tryd.prog W 0 (fun _ => true) true fuel 23 cs = some y) :
    ∃ (A : Option Addr) (n c : Nat) (L : List Nat), cs = [.slice A n c] ∧ RdU W W.heap.size A n c L ∧ n ≤ Rows.uptoBulk y.1 ∧ Stays enc W 23 cs y.1 y.2 := by
  have ht := Tryd.underlying23
  rcases open_ints ht Tryd.underlying28 c32 hd with ⟨rfl, rfl⟩ | ⟨a', len, cap, zs, rfl, hb, hl, hm, hz, rfl, hcell, hwf⟩
  · exact ⟨none, 0, 0, [], rfl, RdU.nil _ _ _ _ (Nat.zero_le _), Nat.zero_le _, fun W' sp _ _ => ⟨1, by simp [DataW.trod, ht]⟩⟩
  · have hz' : zs.length = cap := by simpa using hz
    refine ⟨some a', len, cap, (zs.take len).map Int.toNat, rfl, ⟨by simp; omega, hl, hm, fun j u hu => ?_⟩, ?_, fun W' sp hB hsp => ?_⟩
    · have hj : j < len := by
        rcases Nat.lt_or_ge j len with h3 | h3
        · exact h3
        · rw [List.getElem?_eq_none (by simp; omega)] at hu; cases hu
      have hjz : j < zs.length := by omega
      have he : zs.getD j 0 = zs[j] := by simp [List.getD, hjz]
      have hw := hwf _ (List.getElem_mem hjz)
      have hbd := bounds_u32 hw
      rw [List.getElem?_map, List.getElem?_take_of_lt hj, List.getElem?_eq_getElem hjz] at hu
      simp at hu
      have hc := hcell j hjz
      have hb' := cell_in hc
      rw [block_add] at hb'
      refine ⟨by omega, a', rfl, hb', ?_⟩
      rw [hc, he, ← hu]
      congr 2
      omega
    · have h3 := bulk_len (lits (H := H) .u32 (zs.take len))
      have h4 : (lits (H := H) .u32 (zs.take len)).length = len := by simp [lits]; omega
      simp only [Rows.uptoBulk]
      omega
    · refine ⟨_, shut_ints 0 ht Tryd.underlying28 c32 (Nat.zero_le _) hl hm ?_ (fun i hi => ?_) hwf⟩
      · rw [hz']
        by_cases hs : sp a'.block = true
        · rw [if_pos hs]
        · rw [if_neg hs]
          rcases Nat.eq_zero_or_pos cap with h3 | h3
          · omega
          · exact absurd (hsp (.cell a'.block (a'.off + 0)) (by unfold MemPlace.row; exact List.mem_map.2 ⟨0, by simp; omega, rfl⟩)) hs
      · have hc := hcell i hi
        have hb' := cell_in hc
        exact (hB.cell (p := a'.add i) hb').trans hc

theorem bulk_agg {l : List (DataW H)} {d : DataW H} (h : d ∈ l) : Rows.uptoBulk d ≤ Rows.uptoBulk (.agg l) := by
  have := bulk_part h
  simp only [Rows.uptoBulk]
  omega
theorem two_cells {cs : List Value} (h : cs.length = 2) : ∃ a b, cs = [a, b] := by
  match cs, h with
  | [a, b], _ => exact ⟨a, b, rfl⟩
theorem four_cells {cs : List Value} (h : cs.length = 4) : ∃ a b c d, cs = [a, b, c, d] := by
  match cs, h with
  | [a, b, c, d], _ => exact ⟨a, b, c, d, rfl⟩
theorem cInt : Tryd.prog.cellsOf 25 = 2 := by kernel_rfl
theorem cRat : Tryd.prog.cellsOf 27 = 4 := by kernel_rfl
theorem cBool : Tryd.prog.cellsOf 4 = 1 := by kernel_rfl
theorem cNat : Tryd.prog.cellsOf 23 = 1 := by kernel_rfl

theorem open_int2 {fuel : Nat} {cs : List Value} {y : DataW H × List MemPlace} (hd : DataW.trod enc Tryd.prog W 0 (fun _ => true) true fuel 25 cs = some y) :
    ∃ (s : Bool) (A : Option Addr) (n c : Nat) (z : Int), cs = [.bool s, .slice A n c] ∧ RdZ W W.heap.size s A n c z ∧ n ≤ Rows.uptoBulk y.1 ∧ Stays enc W 25 cs y.1 y.2 := by
  obtain ⟨y0, y1, n, rfl, hl, h0, h1⟩ := trod_struct2 Tryd.underlying25 hd
  rw [cInt] at hl
  obtain ⟨c0, c1, rfl⟩ := two_cells hl
  have h0' : DataW.trod enc Tryd.prog W 0 (fun _ => true) true n 4 [c0] = some y0 := by simpa [cBool] using h0
  have h1' : DataW.trod enc Tryd.prog W 0 (fun _ => true) true n 23 [c1] = some y1 := by simpa [cNat] using h1
  obtain ⟨b, e, rfl⟩ := DataW.trod_bool Tryd.underlying4 h0'
  obtain ⟨A, m, c, L, e1, hR, hm, hS⟩ := open_nat h1'
  simp at e e1
  subst e e1
  refine ⟨b, A, m, c, _, rfl, ⟨L, hR, rfl⟩, Nat.le_trans hm (bulk_agg (by simp)), fun W' sp hB hsp => ?_⟩
  obtain ⟨k, hk⟩ := hS W' sp hB (fun p hp => hsp p (by simp [hp]))
  refine ⟨k + 1 + 1, ?_⟩
  have ht := trod_struct2_mk (enc := enc) (w := W') (base := 0) (spare := sp) (held := true) (n := k + 1) (cs := [.bool b, .slice A m c]) (y0 := (.lit (.bool b), [])) (y1 := y1) Tryd.underlying25 (by simp [cInt])
    (by simp [cBool, DataW.trod, Tryd.underlying4]) (by simpa [cNat] using DataW.trod_le (Nat.le_succ k) hk)
  exact ht

theorem open_rat {fuel : Nat} {cs : List Value} {y : DataW H × List MemPlace} (hd : DataW.trod enc Tryd.prog W 0 (fun _ => true) true fuel 27 cs = some y) :
    ∃ (s : Bool) (A : Option Addr) (n c : Nat) (z : Int) (s' : Bool) (A' : Option Addr) (n' c' : Nat) (z' : Int), cs = [.bool s, .slice A n c, .bool s', .slice A' n' c'] ∧ RdZ W W.heap.size s A n c z ∧ RdZ W W.heap.size s' A' n' c' z' ∧ n ≤ Rows.uptoBulk y.1 ∧ n' ≤ Rows.uptoBulk y.1 ∧ Stays enc W 27 cs y.1 y.2 := by
  obtain ⟨y0, y1, n, rfl, hl, h0, h1⟩ := trod_struct2 Tryd.underlying27 hd
  rw [cRat] at hl
  obtain ⟨c0, c1, c2, c3, rfl⟩ := four_cells hl
  have h0' : DataW.trod enc Tryd.prog W 0 (fun _ => true) true n 25 [c0, c1] = some y0 := by simpa [cInt] using h0
  have h1' : DataW.trod enc Tryd.prog W 0 (fun _ => true) true n 25 [c2, c3] = some y1 := by simpa [cInt] using h1
  obtain ⟨s, A, m, c, z, e, hR, hm, hS⟩ := open_int2 h0'
  obtain ⟨s', A', m', c', z', e', hR', hm', hS'⟩ := open_int2 h1'
  simp at e e'
  obtain ⟨rfl, rfl⟩ := e
  obtain ⟨rfl, rfl⟩ := e'
  refine ⟨s, A, m, c, z, s', A', m', c', z', rfl, hR, hR', Nat.le_trans hm (bulk_agg (by simp)), Nat.le_trans hm' (bulk_agg (by simp)), fun W' sp hB hsp => ?_⟩
  obtain ⟨k, hk⟩ := hS W' sp hB (fun p hp => hsp p (by simp [hp]))
  obtain ⟨k', hk'⟩ := hS' W' sp hB (fun p hp => hsp p (by simp [hp]))
  refine ⟨max k k' + 1, ?_⟩
  exact trod_struct2_mk (enc := enc) (w := W') (base := 0) (spare := sp) (held := true) (n := max k k') (cs := [.bool s, .slice A m c, .bool s', .slice A' m' c']) (y0 := y0) (y1 := y1) Tryd.underlying27 (by simp [cRat])
    (by simpa [cInt] using DataW.trod_le (Nat.le_max_left k k') hk) (by simpa [cInt] using DataW.trod_le (Nat.le_max_right k k') hk')
set_option maxRecDepth 100000 in
/-- An integer among the arguments. -/
theorem open_Int {r : Reach} {b0 : Nat} {v : Value} {d : DataW H} {ps : List MemPlace} (hval : Value.okWide Tryd.prog W r b0 25 v) (hd : DataW.Trod enc Tryd.prog W 0 (fun _ => true) true 25 v d ps) :
    ∃ (s : Bool) (A : Option Addr) (n c : Nat) (z : Int), v = .agg #[.bool s, .slice A n c] ∧ RdZ W W.heap.size s A n c z ∧ n ≤ Rows.uptoBulk d ∧
      ∀ (W' : World) (sp : Nat → Bool), Below W.heap.size W W' → (∀ p ∈ ps, sp p.block = true) → DataW.Trod enc Tryd.prog W' 0 sp true 25 v d ps := by
  obtain ⟨cs, rfl, hsz⟩ := okWide_struct Tryd.underlying25 hval
  obtain ⟨fuel, hf⟩ := hd
  obtain ⟨s, A, n, c, z, e, hR, hn, hS⟩ := open_int2 hf
  have e2 : cs = #[.bool s, .slice A n c] := by
    apply Array.toList_inj.1
    simpa [Value.cells] using e
  subst e2
  exact ⟨s, A, n, c, z, rfl, hR, hn, hS⟩
set_option maxRecDepth 100000 in
/-- A fraction among the arguments. -/
theorem open_Rat {r : Reach} {b0 : Nat} {v : Value} {d : DataW H} {ps : List MemPlace} (hval : Value.okWide Tryd.prog W r b0 27 v) (hd : DataW.Trod enc Tryd.prog W 0 (fun _ => true) true 27 v d ps) :
    ∃ (s : Bool) (A : Option Addr) (n c : Nat) (z : Int) (s' : Bool) (A' : Option Addr) (n' c' : Nat) (z' : Int), v = .agg #[.bool s, .slice A n c, .bool s', .slice A' n' c'] ∧ RdZ W W.heap.size s A n c z ∧ RdZ W W.heap.size s' A' n' c' z' ∧ n ≤ Rows.uptoBulk d ∧ n' ≤ Rows.uptoBulk d ∧
      ∀ (W' : World) (sp : Nat → Bool), Below W.heap.size W W' → (∀ p ∈ ps, sp p.block = true) → DataW.Trod enc Tryd.prog W' 0 sp true 27 v d ps := by
  obtain ⟨cs, rfl, hsz⟩ := okWide_struct Tryd.underlying27 hval
  obtain ⟨fuel, hf⟩ := hd
  obtain ⟨s, A, n, c, z, s', A', n', c', z', e, hR, hR', hn, hn', hS⟩ := open_rat hf
  have e2 : cs = #[.bool s, .slice A n c, .bool s', .slice A' n' c'] := by
    apply Array.toList_inj.1
    simpa [Value.cells] using e
  subst e2
  exact ⟨s, A, n, c, z, s', A', n', c', z', rfl, hR, hR', hn, hn', hS⟩
end
end Go.Proofs.YtipbpdiahemmpaaDoor
