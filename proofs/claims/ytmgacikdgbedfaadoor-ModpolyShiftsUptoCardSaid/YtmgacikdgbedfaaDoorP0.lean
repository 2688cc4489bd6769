/- What every row of this seat shares: the start, what the listed tables give, the end of a law that writes nothing that was there. -/
import Derived.Test.YtmgacikdgbedfaaDoorW8
import Derived.Test.YtmgacikdgbedfaaDoorTie
import Derived.ProofKit
import Derived.LaidMore
import Derived.OpenShut
import Derived.Stop.Joined
import Derived.Lib.LaidTab
import Derived.MakeChecks
import Derived.ChangeSame
import Derived.SevenTiedAt
import Derived.Stop.LaidErr
namespace Go.Proofs.YtmgacikdgbedfaaDoor
open Go.ChangeShapes Go.WideShapes Go.ChangeAt Go.RowKit

theorem own : ownKnob Tryd.prog.godebug = none := by kernel_rfl
theorem laidOut : laidOutB Tryd.prog = true := by kernel_rfl
theorem gTab : Tryd.prog.globalNamed "math/bits.deBruijn32tab" = some 1 := by kernel_rfl
theorem gBases : Tryd.prog.globalNamed "simile/prime.bases" = some 0 := by kernel_rfl
theorem tTab : (Tryd.prog.globals[1]?).map (·.type) = some 121 := by kernel_rfl
theorem tBases : (Tryd.prog.globals[0]?).map (·.type) = some 101 := by kernel_rfl
theorem c8 : Tryd.prog.cellsOf 5 = 1 := by kernel_rfl
theorem c32 : Tryd.prog.cellsOf 27 = 1 := by kernel_rfl
theorem cTab : Tryd.prog.cellsOf 121 = 32 := by kernel_rfl
theorem cBases : Tryd.prog.cellsOf 101 = 3 := by kernel_rfl
def tabZ : List Int := [0, 1, 28, 2, 29, 14, 24, 3, 30, 22, 20, 15, 25, 17, 4, 8, 31, 27, 13, 23, 21, 19, 16, 7, 26, 12, 18, 6, 11, 5, 10, 9]
def laids {H : Type} : List (String × DataW H) := [("math/bits.deBruijn32tab", Rows.laid_math_bits_deBruijn32tab), ("simile/prime.bases", Rows.laid_simile_prime_bases)]
theorem laids_eq : (laids (H := Unit)) = [("math/bits.deBruijn32tab", Lib.tabData .u8 tabZ), ("simile/prime.bases", Lib.tabData .u32 [2, 7, 61])] := rfl

/-- The door's own heap meets the condition. -/
theorem door_met (os : Os) (args : Array Value) : laidMetH Tryd.prog laids ((World.doorLaid Tryd.prog 400 os).forCall (fun _ _ => 0) ⟨#[], args, []⟩).memory :=
  laidMetH_of_parts3 (fuel := 8) (laidMet_of_run' 8 (by kernel_rfl) (by kernel_rfl)) (by kernel_rfl) (by kernel_rfl)
theorem tab_at (j : Nat) (hj : j < 32) : ((tabZ.getD j 0 : Int)) = ((Lib.deBruijn32tab.getD j 0 : Nat) : Int) := by
  have h : ∀ j, j < 32 → tabZ.getD j 0 = ((Lib.deBruijn32tab.getD j 0 : Nat) : Int) := by decide
  exact h j hj
/-- What the condition gives the walks. -/
theorem tabs_of {W : World} (h : laidMetH Tryd.prog laids W) : Tabs W := by
  rw [MakeChecks.laidMetH_plain _ _ _ (by kernel_rfl), laids_eq] at h
  have h1 := Lib.tabIs_of_head gTab tTab Tryd.underlying121 Tryd.underlying5 c8 cTab h
  have h2 := Lib.tabIs_of_head gBases tBases Tryd.underlying101 Tryd.underlying27 c32 cBases h.tail
  have hs : 2 ≤ W.heap.size := by
    have hc := h1.cell gTab 0 (by decide)
    apply Classical.byContradiction
    intro hlt
    have hn : W.heap[(1 : Nat)]? = none := Array.getElem?_eq_none (by omega)
    simp [World.cell?, hn] at hc
  refine ⟨hs, fun j hj => ?_, ?_, ?_, ?_⟩
  · rw [h1.cell gTab j hj, tab_at j hj]
  · exact h2.cell gBases 0 (by decide)
  · exact h2.cell gBases 1 (by decide)
  · exact h2.cell gBases 2 (by decide)

section
variable {H : Type} {enc : TypeId × Value → H} {P : Program}
theorem post_of_below {f : Func} {s : ChangeSpec} {apart fresh handsOn again : Bool} {W W' : World} {args : Array Value} {v : Value} {ds gs : List (DataW H)} {before pa pv : List MemPlace}
    (hW : DataW.Whole enc P f.params.toList s.vars apart W args.toList ds gs before)
    (hres : ∀ (b : Nat) (sp : Nat → Bool) (hd : Bool), DataW.TrodAll enc P W' b sp hd f.resultTypes.toList (v.resultList f.resultTypes.size) (s.fn H (ds ++ gs)).results [])
    (hargs : ∀ sp : Nat → Bool, (∀ p ∈ before, sp p.block = true) → DataW.TrodAll enc P W' 0 sp true f.params.toList args.toList (s.fn H (ds ++ gs)).args pa)
    (hvars : ∀ sp : Nat → Bool, (∀ p ∈ before, sp p.block = true) → DataW.TrodVars enc P W' sp s.vars (s.fn H (ds ++ gs)).vars pv)
    (hps : before = pa ++ pv) (hb : Below W.heap.size W W')
    (hok : ∀ (j : Nat) (t : TypeId) (r : Value), f.resultTypes[j]? = some t → (v.resultList f.resultTypes.size)[j]? = some r → Value.okWide P W' .any 0 t r) :
    s.post enc P f apart fresh handsOn again W args v W' := by
  have hlt : ∀ p ∈ before, p.block < W.heap.size := fun p hp => hW.lt p hp
  have hold : ∀ p ∈ before, (fun b => decide (b < W.heap.size)) p.block = true := fun p hp => by simpa using hlt p hp
  refine ⟨ds, gs, before, [], pa, pv, hW, hres _ _ _, hargs _ hold, hvars _ hold, World.keptBut_mono (fun p hp => ⟨hp, ?_⟩) (hb.frame (· ∈ before)), fun _ => ?_⟩
  · rw [hps, List.mem_append] at hp
    exact Or.inr hp
  · obtain ⟨_, _, _, _, _, hz, hn⟩ := hW
    refine ⟨hok, _, _, ([] ++ pa) ++ pv, ⟨[] ++ pa, pv, trodAll_append (hargs _ (fun _ _ => rfl)) (hres _ _ _), hvars _ (fun _ _ => rfl), rfl, ?_, ?_⟩, ?_⟩
    · intro b off hp
      have hin : MemPlace.cell b off ∈ before := by rw [hps]; simpa using hp
      rw [hb.frozen (hlt _ hin)]
      exact hz b off hin
    · intro ha
      have := hn ha
      rw [hps] at this
      simpa using this
    · intro p hp _
      rw [hps]
      simpa using hp
end
end Go.Proofs.YtmgacikdgbedfaaDoor
