/- What every row of this seat shares: the start, what the listed tables give, the end of a law that writes nothing that was there. -/
import Derived.Test.YtipbpdiahemmpaaDoorW8
import Derived.Test.YtipbpdiahemmpaaDoorTie
import Derived.ProofKit
import Derived.LaidMore
import Derived.OpenShut
import Derived.Stop.Joined
import Derived.Lib.LaidTab
import Derived.MakeChecks
import Derived.ChangeSame
import Derived.SevenTiedAt
import Derived.Stop.LaidErr
import Derived.Test.YtipbpdiahemmpaaDoorCards
import Derived.Test.YtipbpdiahemmpaaDoorQb
import Derived.ChangeSlices
import Derived.Deep.DeepHandedRow
import Derived.Deep.DeepWitnessRowRef
namespace Go.Proofs.YtipbpdiahemmpaaDoor
open Go.ChangeShapes Go.WideShapes Go.ChangeAt Go.RowKit

theorem own : ownKnob Tryd.prog.godebug = none := by kernel_rfl
theorem laidOut : laidOutB Tryd.prog = true := by kernel_rfl
theorem gTab : Tryd.prog.globalNamed "math/bits.deBruijn32tab" = some 1 := by kernel_rfl
theorem gBases : Tryd.prog.globalNamed "simile/prime.bases" = some 0 := by kernel_rfl
theorem tTab : (Tryd.prog.globals[1]?).map (·.type) = some 84 := by kernel_rfl
theorem tBases : (Tryd.prog.globals[0]?).map (·.type) = some 68 := by kernel_rfl
theorem c8 : Tryd.prog.cellsOf 5 = 1 := by kernel_rfl
theorem c32 : Tryd.prog.cellsOf 28 = 1 := by kernel_rfl
theorem cTab : Tryd.prog.cellsOf 84 = 32 := by kernel_rfl
theorem cBases : Tryd.prog.cellsOf 68 = 3 := by kernel_rfl
def tabZ : List Int := [0, 1, 28, 2, 29, 14, 24, 3, 30, 22, 20, 15, 25, 17, 4, 8, 31, 27, 13, 23, 21, 19, 16, 7, 26, 12, 18, 6, 11, 5, 10, 9]
def laids {H : Type} : List (String × DataW H) := [("math/bits.deBruijn32tab", Rows.laid_math_bits_deBruijn32tab), ("simile/prime.bases", Rows.laid_simile_prime_bases)]
theorem laids_eq : (laids (H := Unit)) = [("math/bits.deBruijn32tab", Lib.tabData .u8 tabZ), ("simile/prime.bases", Lib.tabData .u32 [2, 7, 61])] := rfl

/-- The door's own heap meets the condition. -/
theorem door_met (os : Os) (args : Array Value) : laidMetH Tryd.prog laids ((World.doorLaid Tryd.prog 400 os).forCall (fun _ _ => 0) ⟨#[], args, []⟩).memory :=
  laidMetH_of_parts3 (fuel := 8) (laidMet_of_run' 8 (by kernel_rfl) (by kernel_rfl)) (by kernel_rfl) (by kernel_rfl)
theorem tab_at (j : Nat) (hj : j < 32) : ((tabZ.getD j 0 : Int)) = ((Lib.deBruijn32tab.getD j 0 : Nat) : Int) := by
  have h : ∀ j, j < 32 → tabZ.getD j 0 = ((Lib.deBruijn32tab.getD j 0 : Nat) : Int) := by decide
  exact h j hj
/-- What the condition gives the walks. -/
theorem tabs_of {W : World} (h : laidMetH Tryd.prog laids W) : Tabs W := by
  rw [MakeChecks.laidMetH_plain _ _ _ (by kernel_rfl), laids_eq] at h
  have h1 := Lib.tabIs_of_head gTab tTab Tryd.underlying84 Tryd.underlying5 c8 cTab h
  have h2 := Lib.tabIs_of_head gBases tBases Tryd.underlying68 Tryd.underlying28 c32 cBases h.tail
  have hs : 2 ≤ W.heap.size := by
    have hc := h1.cell gTab 0 (by decide)
    apply Classical.byContradiction
    intro hlt
    have hn : W.heap[(1 : Nat)]? = none := Array.getElem?_eq_none (by omega)
    simp [World.cell?, hn] at hc
  refine ⟨hs, fun j hj => ?_, ?_, ?_, ?_⟩
  · rw [h1.cell gTab j hj, tab_at j hj]
  · exact h2.cell gBases 0 (by decide)
  · exact h2.cell gBases 1 (by decide)
  · exact h2.cell gBases 2 (by decide)

section
variable {H : Type} {enc : TypeId × Value → H} {P : Program}
theorem post_of_below {f : Func} {s : ChangeSpec} {apart fresh handsOn again : Bool} {W W' : World} {args : Array Value} {v : Value} {ds gs : List (DataW H)} {before pa pv : List MemPlace}
    (hW : DataW.Whole enc P f.params.toList s.vars apart W args.toList ds gs before)
    (hres : ∀ (b : Nat) (sp : Nat → Bool) (hd : Bool), DataW.TrodAll enc P W' b sp hd f.resultTypes.toList (v.resultList f.resultTypes.size) (s.fn H (ds ++ gs)).results [])
    (hargs : ∀ sp : Nat → Bool, (∀ p ∈ before, sp p.block = true) → DataW.TrodAll enc P W' 0 sp true f.params.toList args.toList (s.fn H (ds ++ gs)).args pa)
    (hvars : ∀ sp : Nat → Bool, (∀ p ∈ before, sp p.block = true) → DataW.TrodVars enc P W' sp s.vars (s.fn H (ds ++ gs)).vars pv)
    (hps : before = pa ++ pv) (hb : Below W.heap.size W W')
    (hok : ∀ (j : Nat) (t : TypeId) (r : Value), f.resultTypes[j]? = some t → (v.resultList f.resultTypes.size)[j]? = some r → Value.okWide P W' .any 0 t r) :
    s.post enc P f apart fresh handsOn again W args v W' := by
  have hlt : ∀ p ∈ before, p.block < W.heap.size := fun p hp => hW.lt p hp
  have hold : ∀ p ∈ before, (fun b => decide (b < W.heap.size)) p.block = true := fun p hp => by simpa using hlt p hp
  refine ⟨ds, gs, before, [], pa, pv, hW, hres _ _ _, hargs _ hold, hvars _ hold, World.keptBut_mono (fun p hp => ⟨hp, ?_⟩) (hb.frame (· ∈ before)), fun _ => ?_⟩
  · rw [hps, List.mem_append] at hp
    exact Or.inr hp
  · obtain ⟨_, _, _, _, _, hz, hn⟩ := hW
    refine ⟨hok, _, _, ([] ++ pa) ++ pv, ⟨[] ++ pa, pv, trodAll_append (hargs _ (fun _ _ => rfl)) (hres _ _ _), hvars _ (fun _ _ => rfl), rfl, ?_, ?_⟩, ?_⟩
    · intro b off hp
      have hin : MemPlace.cell b off ∈ before := by rw [hps]; simpa using hp
      rw [hb.frozen (hlt _ hin)]
      exact hz b off hin
    · intro ha
      have := hn ha
      rw [hps] at this
      simpa using this
    · intro p hp _
      rw [hps]
      simpa using hp
end
end Go.Proofs.YtipbpdiahemmpaaDoor

/- What the rows with lists share: a list is opened, and shut behind the call; the bound. -/
namespace Go.Proofs.YtipbpdiahemmpaaDoor
open Go.ChangeShapes Go.WideShapes Go.ChangeAt Go.RowKit

theorem bulk_one {H : Type} (d : DataW H) : 1 ≤ Rows.uptoBulk d := by
  cases d with
  | lit l => cases l <;> simp [Rows.uptoBulk]
  | nil => simp [Rows.uptoBulk]
  | ptr d => simp [Rows.uptoBulk]
  | slice elems spare => simp [Rows.uptoBulk]
  | agg parts => simp [Rows.uptoBulk]
  | iface t d => simp [Rows.uptoBulk]
  | map entries => simp [Rows.uptoBulk]
  | held h => simp [Rows.uptoBulk]
theorem bulk_len {H : Type} (l : List (DataW H)) : l.length ≤ Rows.uptoBulkAll l := by
  induction l with
  | nil => simp [Rows.uptoBulkAll]
  | cons x r ih => have := bulk_one x; simp only [Rows.uptoBulkAll, List.length_cons]; omega
theorem bulk_part {H : Type} {d : DataW H} {l : List (DataW H)} (h : d ∈ l) : Rows.uptoBulk d ≤ Rows.uptoBulkAll l := by
  induction l with
  | nil => cases h
  | cons x r ih =>
    simp only [Rows.uptoBulkAll]
    cases List.mem_cons.1 h with
    | inl e => subst e; omega
    | inr e => have := ih e; omega
theorem bulk_le {H : Type} {d : DataW H} {l : List (DataW H)} (hk : Rows.uptoSmall H l = true) (h : d ∈ l) : Rows.uptoBulk d ≤ 1048576 := by
  exact Nat.le_trans (bulk_part h) (of_decide_eq_true (p := Rows.uptoBulkAll l ≤ 1048576) hk)
theorem cell_in {w : World} {a : Addr} {v : Value} (h : w.cell? a = some v) : a.block < w.heap.size := by
  apply Classical.byContradiction
  intro hlt
  have hn : w.heap[a.block]? = none := Array.getElem?_eq_none (by omega)
  simp [World.cell?, hn] at h
set_option maxRecDepth 100000 in
/-- A list of words among the arguments. -/
theorem open_words {H : Type} {enc : TypeId × Value → H} {W : World} {r : Reach} {b0 : Nat} {t : TypeId} {v : Value} {d : DataW H} {ps : List MemPlace} (ht : Tryd.prog.underlying t = some (.slice 28)) (hval : Value.okWide Tryd.prog W r b0 t v)
    (hd : DataW.Trod enc Tryd.prog W 0 (fun _ => true) true t v d ps) :
    ∃ (A : Option Addr) (n c : Nat) (L : List Nat), v = .slice A n c ∧ RdU W W.heap.size A n c L ∧ (A = none → n = 0 ∧ c = 0) ∧ n ≤ Rows.uptoBulk d ∧
      ∀ (W' : World) (sp : Nat → Bool), Below W.heap.size W W' → (∀ p ∈ ps, sp p.block = true) → DataW.Trod enc Tryd.prog W' 0 sp true t v d ps := by
  obtain ⟨a, len, cap, rfl⟩ := okWide_slice ht hval
  obtain ⟨fuel, hf⟩ := hd
  rcases open_ints ht Tryd.underlying28 c32 hf with ⟨h1, h2⟩ | ⟨a', len', cap', zs, h1, hb, hl, hm, hz, hx, hcell, hwf⟩
  · simp [Value.cells] at h1
    obtain ⟨rfl, rfl, rfl⟩ := h1
    simp only [Prod.mk.injEq] at h2
    obtain ⟨rfl, rfl⟩ := h2
    refine ⟨none, 0, 0, [], rfl, RdU.nil _ _ _ _ (Nat.zero_le _), fun _ => ⟨rfl, rfl⟩, Nat.zero_le _, fun W' sp _ _ => ?_⟩
    exact ⟨1, by simp [DataW.trod, ht, Value.cells]⟩
  · simp [Value.cells] at h1
    obtain ⟨rfl, rfl, rfl⟩ := h1
    simp only [Prod.mk.injEq] at hx
    obtain ⟨rfl, rfl⟩ := hx
    have hz' : zs.length = cap := by simpa using hz
    refine ⟨some a', len, cap, (zs.take len).map Int.toNat, rfl, ⟨by simp; omega, hl, hm, fun j u hu => ?_⟩, (fun e => by cases e), ?_, fun W' sp hB hsp => ?_⟩
    · have hj : j < len := by
        rcases Nat.lt_or_ge j len with h3 | h3
        · exact h3
        · rw [List.getElem?_eq_none (by simp; omega)] at hu; cases hu
      have hjz : j < zs.length := by omega
      have he : zs.getD j 0 = zs[j] := by simp [List.getD, hjz]
      have hw := hwf _ (List.getElem_mem hjz)
      have hbd := bounds_u32 hw
      rw [List.getElem?_map, List.getElem?_take_of_lt hj, List.getElem?_eq_getElem hjz] at hu
      simp at hu
      have hc := hcell j hjz
      have hb' := cell_in hc
      rw [block_add] at hb'
      refine ⟨by omega, a', rfl, hb', ?_⟩
      rw [hc, he, ← hu]
      congr 2
      omega
    · have h3 := bulk_len (lits (H := H) .u32 (zs.take len))
      have h4 : (lits (H := H) .u32 (zs.take len)).length = len := by simp [lits]; omega
      simp only [Rows.uptoBulk]
      omega
    · refine ⟨_, shut_ints 0 ht Tryd.underlying28 c32 (Nat.zero_le _) hl hm ?_ (fun i hi => ?_) hwf⟩
      · rw [hz']
        by_cases hs : sp a'.block = true
        · rw [if_pos hs]
        · rw [if_neg hs]
          rcases Nat.eq_zero_or_pos cap with h3 | h3
          · omega
          · exact absurd (hsp (.cell a'.block (a'.off + 0)) (by unfold MemPlace.row; exact List.mem_map.2 ⟨0, by simp; omega, rfl⟩)) hs
      · have hc := hcell i hi
        have hb' := cell_in hc
        exact (hB.cell (p := a'.add i) hb').trans hc
end Go.Proofs.YtipbpdiahemmpaaDoor
