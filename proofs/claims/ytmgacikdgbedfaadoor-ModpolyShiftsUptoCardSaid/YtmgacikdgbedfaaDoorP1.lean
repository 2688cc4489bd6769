/- What the rows with lists share: a list is opened, and shut behind the call; the bound. -/
import Derived.Test.YtmgacikdgbedfaaDoorP0
import Derived.Test.YtmgacikdgbedfaaDoorCards
import Derived.Test.YtmgacikdgbedfaaDoorU1
import Derived.ChangeSlices
import Derived.Deep.DeepHandedRow
import Derived.Deep.DeepWitnessRowRef
namespace Go.Proofs.YtmgacikdgbedfaaDoor
open Go.ChangeShapes Go.WideShapes Go.ChangeAt Go.RowKit

theorem bulk_one {H : Type} (d : DataW H) : 1 ≤ Rows.uptoBulk d := by
  cases d with
  | lit l => cases l <;> simp [Rows.uptoBulk]
  | nil => simp [Rows.uptoBulk]
  | ptr d => simp [Rows.uptoBulk]
  | slice elems spare => simp [Rows.uptoBulk]
  | agg parts => simp [Rows.uptoBulk]
  | iface t d => simp [Rows.uptoBulk]
  | map entries => simp [Rows.uptoBulk]
  | held h => simp [Rows.uptoBulk]
theorem bulk_len {H : Type} (l : List (DataW H)) : l.length ≤ Rows.uptoBulkAll l := by
  induction l with
  | nil => simp [Rows.uptoBulkAll]
  | cons x r ih => have := bulk_one x; simp only [Rows.uptoBulkAll, List.length_cons]; omega
theorem bulk_part {H : Type} {d : DataW H} {l : List (DataW H)} (h : d ∈ l) : Rows.uptoBulk d ≤ Rows.uptoBulkAll l := by
  induction l with
  | nil => cases h
  | cons x r ih =>
    simp only [Rows.uptoBulkAll]
    cases List.mem_cons.1 h with
    | inl e => subst e; omega
    | inr e => have := ih e; omega
theorem bulk_le {H : Type} {d : DataW H} {l : List (DataW H)} (hk : Rows.uptoSmall H l = true) (h : d ∈ l) : Rows.uptoBulk d ≤ 1048576 := by
  exact Nat.le_trans (bulk_part h) (of_decide_eq_true (p := Rows.uptoBulkAll l ≤ 1048576) hk)
theorem cell_in {w : World} {a : Addr} {v : Value} (h : w.cell? a = some v) : a.block < w.heap.size := by
  apply Classical.byContradiction
  intro hlt
  have hn : w.heap[a.block]? = none := Array.getElem?_eq_none (by omega)
  simp [World.cell?, hn] at h
set_option maxRecDepth 100000 in
/-- A list of words among the arguments. -/
theorem open_words {H : Type} {enc : TypeId × Value → H} {W : World} {r : Reach} {b0 : Nat} {t : TypeId} {v : Value} {d : DataW H} {ps : List MemPlace} (ht : Tryd.prog.underlying t = some (.slice 27)) (hval : Value.okWide Tryd.prog W r b0 t v)
    (hd : DataW.Trod enc Tryd.prog W 0 (fun _ => true) true t v d ps) :
    ∃ (A : Option Addr) (n c : Nat) (L : List Nat), v = .slice A n c ∧ RdU W W.heap.size A n c L ∧ (A = none → n = 0 ∧ c = 0) ∧ n ≤ Rows.uptoBulk d ∧
      ∀ (W' : World) (sp : Nat → Bool), Below W.heap.size W W' → (∀ p ∈ ps, sp p.block = true) → DataW.Trod enc Tryd.prog W' 0 sp true t v d ps := by
  obtain ⟨a, len, cap, rfl⟩ := okWide_slice ht hval
  obtain ⟨fuel, hf⟩ := hd
  rcases open_ints ht Tryd.underlying27 c32 hf with ⟨h1, h2⟩ | ⟨a', len', cap', zs, h1, hb, hl, hm, hz, hx, hcell, hwf⟩
  · simp [Value.cells] at h1
    obtain ⟨rfl, rfl, rfl⟩ := h1
    simp only [Prod.mk.injEq] at h2
    obtain ⟨rfl, rfl⟩ := h2
    refine ⟨none, 0, 0, [], rfl, RdU.nil _ _ _ _ (Nat.zero_le _), fun _ => ⟨rfl, rfl⟩, Nat.zero_le _, fun W' sp _ _ => ?_⟩
    exact ⟨1, by simp [DataW.trod, ht, Value.cells]⟩
  · simp [Value.cells] at h1
    obtain ⟨rfl, rfl, rfl⟩ := h1
    simp only [Prod.mk.injEq] at hx
    obtain ⟨rfl, rfl⟩ := hx
    have hz' : zs.length = cap := by simpa using hz
    refine ⟨some a', len, cap, (zs.take len).map Int.toNat, rfl, ⟨by simp; omega, hl, hm, fun j u hu => ?_⟩, (fun e => by cases e), ?_, fun W' sp hB hsp => ?_⟩
    · have hj : j < len := by
        rcases Nat.lt_or_ge j len with h3 | h3
        · exact h3
        · rw [List.getElem?_eq_none (by simp; omega)] at hu; cases hu
      have hjz : j < zs.length := by omega
      have he : zs.getD j 0 = zs[j] := by simp [List.getD, hjz]
      have hw := hwf _ (List.getElem_mem hjz)
      have hbd := bounds_u32 hw
      rw [List.getElem?_map, List.getElem?_take_of_lt hj, List.getElem?_eq_getElem hjz] at hu
      simp at hu
      have hc := hcell j hjz
      have hb' := cell_in hc
      rw [block_add] at hb'
      refine ⟨by omega, a', rfl, hb', ?_⟩
      rw [hc, he, ← hu]
      congr 2
      omega
    · have h3 := bulk_len (lits (H := H) .u32 (zs.take len))
      have h4 : (lits (H := H) .u32 (zs.take len)).length = len := by simp [lits]; omega
      simp only [Rows.uptoBulk]
      omega
    · refine ⟨_, shut_ints 0 ht Tryd.underlying27 c32 (Nat.zero_le _) hl hm ?_ (fun i hi => ?_) hwf⟩
      · rw [hz']
        by_cases hs : sp a'.block = true
        · rw [if_pos hs]
        · rw [if_neg hs]
          rcases Nat.eq_zero_or_pos cap with h3 | h3
          · omega
          · exact absurd (hsp (.cell a'.block (a'.off + 0)) (by unfold MemPlace.row; exact List.mem_map.2 ⟨0, by simp; omega, rfl⟩)) hs
      · have hc := hcell i hi
        have hb' := cell_in hc
        exact (hB.cell (p := a'.add i) hb').trans hc
end Go.Proofs.YtmgacikdgbedfaaDoor
