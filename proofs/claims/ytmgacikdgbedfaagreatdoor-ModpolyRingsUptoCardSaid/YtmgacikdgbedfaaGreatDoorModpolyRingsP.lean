/- What every row of this seat shares: the start, what the listed tables give, the end of a law that writes nothing that was there. -/
import Derived.Test.YtmgacikdgbedfaaGreatDoorW8
import Derived.Test.YtmgacikdgbedfaaGreatDoorTie
import Derived.ProofKit
import Derived.LaidMore
import Derived.OpenShut
import Derived.Stop.Joined
import Derived.Lib.LaidTab
import Derived.MakeChecks
import Derived.ChangeSame
import Derived.SevenTiedAt
import Derived.Stop.LaidErr
import Derived.Test.YtmgacikdgbedfaaGreatDoorCards
import Derived.Test.YtmgacikdgbedfaaGreatDoorU1
import Derived.ChangeSlices
import Derived.Deep.DeepHandedRow
import Derived.Deep.DeepWitnessRowRef
import Derived.Test.YtmgacikdgbedfaaGreatDoorRg
import Derived.Lib.SmallJoins
namespace Go.Proofs.YtmgacikdgbedfaaGreatDoor
open Go.ChangeShapes Go.WideShapes Go.ChangeAt Go.RowKit

theorem own : ownKnob Tryz.prog.godebug = none := by kernel_rfl
theorem laidOut : laidOutB Tryz.prog = true := by kernel_rfl
theorem gTab : Tryz.prog.globalNamed "math/bits.deBruijn32tab" = some 1 := by kernel_rfl
theorem gBases : Tryz.prog.globalNamed "simile/prime.bases" = some 0 := by kernel_rfl
theorem tTab : (Tryz.prog.globals[1]?).map (·.type) = some 91 := by kernel_rfl
theorem tBases : (Tryz.prog.globals[0]?).map (·.type) = some 82 := by kernel_rfl
theorem c8 : Tryz.prog.cellsOf 5 = 1 := by kernel_rfl
theorem c32 : Tryz.prog.cellsOf 24 = 1 := by kernel_rfl
theorem cTab : Tryz.prog.cellsOf 91 = 32 := by kernel_rfl
theorem cBases : Tryz.prog.cellsOf 82 = 3 := by kernel_rfl
def tabZ : List Int := [0, 1, 28, 2, 29, 14, 24, 3, 30, 22, 20, 15, 25, 17, 4, 8, 31, 27, 13, 23, 21, 19, 16, 7, 26, 12, 18, 6, 11, 5, 10, 9]
def laids {H : Type} : List (String × DataW H) := [("math/bits.deBruijn32tab", Rows.laid_math_bits_deBruijn32tab), ("simile/prime.bases", Rows.laid_simile_prime_bases)]
theorem laids_eq : (laids (H := Unit)) = [("math/bits.deBruijn32tab", Lib.tabData .u8 tabZ), ("simile/prime.bases", Lib.tabData .u32 [2, 7, 61])] := rfl

/-- The door's own heap meets the condition. -/
theorem door_met (os : Os) (args : Array Value) : laidMetH Tryz.prog laids ((World.doorLaid Tryz.prog 400 os).forCall (fun _ _ => 0) ⟨#[], args, []⟩).memory :=
  laidMetH_of_parts3 (fuel := 8) (laidMet_of_run' 8 (by kernel_rfl) (by kernel_rfl)) (by kernel_rfl) (by kernel_rfl)
theorem tab_at (j : Nat) (hj : j < 32) : ((tabZ.getD j 0 : Int)) = ((Lib.deBruijn32tab.getD j 0 : Nat) : Int) := by
  have h : ∀ j, j < 32 → tabZ.getD j 0 = ((Lib.deBruijn32tab.getD j 0 : Nat) : Int) := by decide
  exact h j hj
/-- What the condition gives the walks. -/
theorem tabs_of {W : World} (h : laidMetH Tryz.prog laids W) : Tabs W := by
  rw [MakeChecks.laidMetH_plain _ _ _ (by kernel_rfl), laids_eq] at h
  have h1 := Lib.tabIs_of_head gTab tTab Tryz.underlying91 Tryz.underlying5 c8 cTab h
  have h2 := Lib.tabIs_of_head gBases tBases Tryz.underlying82 Tryz.underlying24 c32 cBases h.tail
  have hs : 2 ≤ W.heap.size := by
    have hc := h1.cell gTab 0 (by decide)
    apply Classical.byContradiction
    intro hlt
    have hn : W.heap[(1 : Nat)]? = none := Array.getElem?_eq_none (by omega)
    simp [World.cell?, hn] at hc
  refine ⟨hs, fun j hj => ?_, ?_, ?_, ?_⟩
  · rw [h1.cell gTab j hj, tab_at j hj]
  · exact h2.cell gBases 0 (by decide)
  · exact h2.cell gBases 1 (by decide)
  · exact h2.cell gBases 2 (by decide)

section
variable {H : Type} {enc : TypeId × Value → H} {P : Program}
theorem post_of_below {f : Func} {s : ChangeSpec} {apart fresh handsOn again : Bool} {W W' : World} {args : Array Value} {v : Value} {ds gs : List (DataW H)} {before pa pv : List MemPlace}
    (hW : DataW.Whole enc P f.params.toList s.vars apart W args.toList ds gs before)
    (hres : ∀ (b : Nat) (sp : Nat → Bool) (hd : Bool), DataW.TrodAll enc P W' b sp hd f.resultTypes.toList (v.resultList f.resultTypes.size) (s.fn H (ds ++ gs)).results [])
    (hargs : ∀ sp : Nat → Bool, (∀ p ∈ before, sp p.block = true) → DataW.TrodAll enc P W' 0 sp true f.params.toList args.toList (s.fn H (ds ++ gs)).args pa)
    (hvars : ∀ sp : Nat → Bool, (∀ p ∈ before, sp p.block = true) → DataW.TrodVars enc P W' sp s.vars (s.fn H (ds ++ gs)).vars pv)
    (hps : before = pa ++ pv) (hb : Below W.heap.size W W')
    (hok : ∀ (j : Nat) (t : TypeId) (r : Value), f.resultTypes[j]? = some t → (v.resultList f.resultTypes.size)[j]? = some r → Value.okWide P W' .any 0 t r) :
    s.post enc P f apart fresh handsOn again W args v W' := by
  have hlt : ∀ p ∈ before, p.block < W.heap.size := fun p hp => hW.lt p hp
  have hold : ∀ p ∈ before, (fun b => decide (b < W.heap.size)) p.block = true := fun p hp => by simpa using hlt p hp
  refine ⟨ds, gs, before, [], pa, pv, hW, hres _ _ _, hargs _ hold, hvars _ hold, World.keptBut_mono (fun p hp => ⟨hp, ?_⟩) (hb.frame (· ∈ before)), fun _ => ?_⟩
  · rw [hps, List.mem_append] at hp
    exact Or.inr hp
  · obtain ⟨_, _, _, _, _, hz, hn⟩ := hW
    refine ⟨hok, _, _, ([] ++ pa) ++ pv, ⟨[] ++ pa, pv, trodAll_append (hargs _ (fun _ _ => rfl)) (hres _ _ _), hvars _ (fun _ _ => rfl), rfl, ?_, ?_⟩, ?_⟩
    · intro b off hp
      have hin : MemPlace.cell b off ∈ before := by rw [hps]; simpa using hp
      rw [hb.frozen (hlt _ hin)]
      exact hz b off hin
    · intro ha
      have := hn ha
      rw [hps] at this
      simpa using this
    · intro p hp _
      rw [hps]
      simpa using hp
end
end Go.Proofs.YtmgacikdgbedfaaGreatDoor

/- What the rows with lists share: a list is opened, and shut behind the call; the bound. -/
namespace Go.Proofs.YtmgacikdgbedfaaGreatDoor
open Go.ChangeShapes Go.WideShapes Go.ChangeAt Go.RowKit

theorem bulk_one {H : Type} (d : DataW H) : 1 ≤ Rows.uptoBulk d := by
  cases d with
  | lit l => cases l <;> simp [Rows.uptoBulk]
  | nil => simp [Rows.uptoBulk]
  | ptr d => simp [Rows.uptoBulk]
  | slice elems spare => simp [Rows.uptoBulk]
  | agg parts => simp [Rows.uptoBulk]
  | iface t d => simp [Rows.uptoBulk]
  | map entries => simp [Rows.uptoBulk]
  | held h => simp [Rows.uptoBulk]
theorem bulk_len {H : Type} (l : List (DataW H)) : l.length ≤ Rows.uptoBulkAll l := by
  induction l with
  | nil => simp [Rows.uptoBulkAll]
  | cons x r ih => have := bulk_one x; simp only [Rows.uptoBulkAll, List.length_cons]; omega
theorem bulk_part {H : Type} {d : DataW H} {l : List (DataW H)} (h : d ∈ l) : Rows.uptoBulk d ≤ Rows.uptoBulkAll l := by
  induction l with
  | nil => cases h
  | cons x r ih =>
    simp only [Rows.uptoBulkAll]
    cases List.mem_cons.1 h with
    | inl e => subst e; omega
    | inr e => have := ih e; omega
theorem bulk_le {H : Type} {d : DataW H} {l : List (DataW H)} (hk : Rows.uptoSmall H l = true) (h : d ∈ l) : Rows.uptoBulk d ≤ 1048576 := by
  exact Nat.le_trans (bulk_part h) (of_decide_eq_true (p := Rows.uptoBulkAll l ≤ 1048576) hk)
theorem cell_in {w : World} {a : Addr} {v : Value} (h : w.cell? a = some v) : a.block < w.heap.size := by
  apply Classical.byContradiction
  intro hlt
  have hn : w.heap[a.block]? = none := Array.getElem?_eq_none (by omega)
  simp [World.cell?, hn] at h
set_option maxRecDepth 100000 in
/-- A list of words among the arguments. -/
theorem open_words {H : Type} {enc : TypeId × Value → H} {W : World} {r : Reach} {b0 : Nat} {t : TypeId} {v : Value} {d : DataW H} {ps : List MemPlace} (ht : Tryz.prog.underlying t = some (.slice 24)) (hval : Value.okWide Tryz.prog W r b0 t v)
    (hd : DataW.Trod enc Tryz.prog W 0 (fun _ => true) true t v d ps) :
    ∃ (A : Option Addr) (n c : Nat) (L : List Nat), v = .slice A n c ∧ RdU W W.heap.size A n c L ∧ (A = none → n = 0 ∧ c = 0) ∧ n ≤ Rows.uptoBulk d ∧
      ∀ (W' : World) (sp : Nat → Bool), Below W.heap.size W W' → (∀ p ∈ ps, sp p.block = true) → DataW.Trod enc Tryz.prog W' 0 sp true t v d ps := by
  obtain ⟨a, len, cap, rfl⟩ := okWide_slice ht hval
  obtain ⟨fuel, hf⟩ := hd
  rcases open_ints ht Tryz.underlying24 c32 hf with ⟨h1, h2⟩ | ⟨a', len', cap', zs, h1, hb, hl, hm, hz, hx, hcell, hwf⟩
  · simp [Value.cells] at h1
    obtain ⟨rfl, rfl, rfl⟩ := h1
    simp only [Prod.mk.injEq] at h2
    obtain ⟨rfl, rfl⟩ := h2
    refine ⟨none, 0, 0, [], rfl, RdU.nil _ _ _ _ (Nat.zero_le _), fun _ => ⟨rfl, rfl⟩, Nat.zero_le _, fun W' sp _ _ => ?_⟩
    exact ⟨1, by simp [DataW.trod, ht, Value.cells]⟩
  · simp [Value.cells] at h1
    obtain ⟨rfl, rfl, rfl⟩ := h1
    simp only [Prod.mk.injEq] at hx
    obtain ⟨rfl, rfl⟩ := hx
    have hz' : zs.length = cap := by simpa using hz
    refine ⟨some a', len, cap, (zs.take len).map Int.toNat, rfl, ⟨by simp; omega, hl, hm, fun j u hu => ?_⟩, (fun e => by cases e), ?_, fun W' sp hB hsp => ?_⟩
    · have hj : j < len := by
        rcases Nat.lt_or_ge j len with h3 | h3
        · exact h3
        · rw [List.getElem?_eq_none (by simp; omega)] at hu; cases hu
      have hjz : j < zs.length := by omega
      have he : zs.getD j 0 = zs[j] := by simp [List.getD, hjz]
      have hw := hwf _ (List.getElem_mem hjz)
      have hbd := bounds_u32 hw
      rw [List.getElem?_map, List.getElem?_take_of_lt hj, List.getElem?_eq_getElem hjz] at hu
      simp at hu
      have hc := hcell j hjz
      have hb' := cell_in hc
      rw [block_add] at hb'
      refine ⟨by omega, a', rfl, hb', ?_⟩
      rw [hc, he, ← hu]
      congr 2
      omega
    · have h3 := bulk_len (lits (H := H) .u32 (zs.take len))
      have h4 : (lits (H := H) .u32 (zs.take len)).length = len := by simp [lits]; omega
      simp only [Rows.uptoBulk]
      omega
    · refine ⟨_, shut_ints 0 ht Tryz.underlying24 c32 (Nat.zero_le _) hl hm ?_ (fun i hi => ?_) hwf⟩
      · rw [hz']
        by_cases hs : sp a'.block = true
        · rw [if_pos hs]
        · rw [if_neg hs]
          rcases Nat.eq_zero_or_pos cap with h3 | h3
          · omega
          · exact absurd (hsp (.cell a'.block (a'.off + 0)) (by unfold MemPlace.row; exact List.mem_map.2 ⟨0, by simp; omega, rfl⟩)) hs
      · have hc := hcell i hi
        have hb' := cell_in hc
        exact (hB.cell (p := a'.add i) hb').trans hc
end Go.Proofs.YtmgacikdgbedfaaGreatDoor

/- ModpolyRings: the row of 'simile/similelaw08.ModpolyRings' in its second form: whatever the input of bulk at most 1048576, it returns true and leaves what was there; and its card. -/
namespace Go.Proofs.YtmgacikdgbedfaaGreatDoor.modpolyRings
open Go.ChangeShapes Go.WideShapes Go.ChangeAt Go.RowKit

set_option maxRecDepth 100000 in
theorem contract (H : Type) (enc : TypeId × Value → H) (W : World) (base : Nat) (args : Array Value) (ds gs : List (DataW H)) (before : List MemPlace)
    (hval : ∀ (j : Nat) t v, Tryz.f3.params[j]? = some t → args[j]? = some v → Value.okWide Tryz.prog W .any base t v)
    (hW : DataW.Whole enc Tryz.prog Tryz.f3.params.toList Rows.modpolyRingsSpec.vars false W args.toList ds gs before) (hk : Rows.uptoSmall H (ds ++ gs) = true) (hL : laidMetH Tryz.prog laids W) :
    Calls Tryz.prog 3 args W fun e W' => ∃ v, e = .returned v ∧ Rows.modpolyRingsSpec.post enc Tryz.prog Tryz.f3 false true false false W args v W' := by
  have hW' := hW
  obtain ⟨p, q, hA0, hV, rfl, hfz, hnd⟩ := hW
  have hA : DataW.TrodAll enc Tryz.prog W 0 (fun _ => true) true Tryz.f3.params.toList args.toList ds p := hA0
  rw [Tryz.params3] at hA hval
  obtain ⟨v0, vs0, d0, ds0, p0, q0, hargs, rfl, rfl, h0, r0⟩ := trodAll_cons hA
  obtain ⟨v1, vs1, d1, ds1, p1, q1, rfl, rfl, rfl, h1, r1⟩ := trodAll_cons r0
  obtain ⟨v2, vs2, d2, ds2, p2, q2, rfl, rfl, rfl, h2, r2⟩ := trodAll_cons r1
  obtain ⟨rfl, rfl, rfl⟩ := trodAll_nil r2
  obtain rfl : args = #[v0, v1, v2] := by cases args; simp_all
  obtain ⟨rfl, rfl⟩ := trodVars_none hV
  obtain ⟨A0, n0, c0, L0, rfl, R0, N0, B0, S0⟩ := open_words Tryz.underlying23 (hval 0 23 v0 rfl rfl) h0
  have K0 : n0 ≤ 1048576 := Nat.le_trans B0 (bulk_le hk (by simp))
  obtain ⟨A1, n1, c1, L1, rfl, R1, N1, B1, S1⟩ := open_words Tryz.underlying23 (hval 1 23 v1 rfl rfl) h1
  have K1 : n1 ≤ 1048576 := Nat.le_trans B1 (bulk_le hk (by simp))
  obtain ⟨a2, rfl, rfl, rfl, w2⟩ := open_int Tryz.underlying24 (hval 2 24 v2 rfl rfl) h2
  clear hA0
  have b2 := bounds_u32 w2
  obtain ⟨n2, rfl⟩ : ∃ n : Nat, a2 = n := ⟨a2.toNat, by omega⟩
  refine (walk_ModpolyRings R0 N0 K0 R1 N1 K1 n2 (by omega) (tabs_of hL)).mono fun e W' ⟨he, hb⟩ => ?_
  subst he
  exact ⟨_, rfl, post_of_below (pv := []) hW' (fun _ _ _ => (trodAll_cons_mk (shut_bool Tryz.underlying4 _) trodAll_mk0)) (fun sp hsp => (trodAll_cons_mk (S0 W' sp hb (fun p hp => hsp p (by simp [hp]))) (trodAll_cons_mk (S1 W' sp hb (fun p hp => hsp p (by simp [hp]))) (trodAll_cons_mk (shut_int Tryz.underlying24 w2) trodAll_mk0)))) (fun _ _ => rfl) (by simp) hb (ok_one (by kernel_rfl) rfl (okWide_bool_mk Tryz.underlying4 _))⟩

theorem reads (os : Os) {H : Type} (enc : TypeId × Value → H) : ∃ places, DataW.whole enc Tryz.prog ((World.doorLaid Tryz.prog 400 os).forCall (fun _ _ => 0) ⟨#[], #[Value.slice none 0 0, .slice none 0 0, .int .u32 0], []⟩).memory Tryz.f3.params.toList Rows.modpolyRingsSpec.vars false #[Value.slice none 0 0, .slice none 0 0, .int .u32 0].toList 8 = some ([.nil, .nil, .lit (.int .u32 0)], [], places) :=
  ⟨[], by kernel_rfl⟩
set_option maxRecDepth 100000 in
theorem lifted (os : Os) (started : os.Started) (H : Type) (enc : TypeId × Value → H) (F : Stop.Interp) :
    ReturnsInHanded {} Tryz.checked os 3 .any ((Rows.OpenSpec.upto Rows.modpolyRingsSpec).preRow enc Tryz.prog Tryz.f3 Rows.modpolyRingsUptoRow.domain false Rows.modpolyRingsUptoRow.laid) (((Rows.OpenSpec.upto Rows.modpolyRingsSpec).at F).post enc Tryz.prog Tryz.f3 false true false false) := by
  obtain ⟨places, hx⟩ := reads os enc
  refine returnsInHanded_of_row (C := Tryz.checked) (s := Rows.OpenSpec.upto Rows.modpolyRingsSpec) own started (by kernel_rfl) Tryz.func3
    (witness_row_atRef (enc := enc) (C := Tryz.checked) false (World.doorLaid Tryz.prog 400 os) #[Value.slice none 0 0, .slice none 0 0, .int .u32 0] rfl (by kernel_rfl) (by kernel_rfl) (by kernel_rfl)
      (OpenSpec.preRow_of_cond 8 hx (by kernel_rfl) (fun k hk => by cases hk; kernel_rfl) (by kernel_rfl) (door_met os _))) ?_
  intro W base args ds gs before hval hW _ hcond _ hL _ _
  exact contract H enc W base args ds gs before hval hW (hcond _ rfl) hL

theorem over : Rows.ModpolyRingsUptoSaid :=
  OpenClaim.holds_of_cond 3 Tryz.f3 rfl rfl rfl rfl rfl rfl rfl ⟨rfl, rfl, rfl, rfl, rfl⟩ rfl rfl rfl rfl rfl (by kernel_rfl) Tryz.func3 (by kernel_rfl)
    (of_decide_eq_true (by kernel_rfl)) (by unfold Func.isWrapper; first | (rw [if_pos (by decide +kernel)]; kernel_rfl) | (rw [if_neg (by decide +kernel)]; exact ⟨rfl, rfl⟩))
    (fun os started H enc _ F => by rw [OpenClaim.pre_eq_preRow]; exact lifted os started H enc F)

/-- The statement: the tied card of the second form. -/
theorem card_holds : Rows.ModpolyRingsUptoCardSaid :=
  Claim7.holds_tied_plain_at .later [] _ _ _ _
    over (fun _ h => by cases h) (by kernel_rfl) (fun _ h => by cases h) modpolyRingsUpto_row_tie rfl ⟨rfl, rfl⟩ (by kernel_rfl) rfl
    (fun f fn hf hfn => by
      obtain rfl : f = 3 := Option.some.inj ((show Tryz.prog.funcNamed "simile/similelaw08.ModpolyRings" = some 3 by kernel_rfl).symm.trans hf) |>.symm
      obtain rfl : fn = Tryz.f3 := (Option.some.inj (Tryz.func3.symm.trans hfn)).symm
      exact ⟨by kernel_rfl, fun j t ht => by
        rw [Tryz.params3] at ht
        have hm : t ∈ [23, 23, 24] := by simpa using Array.mem_of_getElem? ht
        have hall : ([23, 23, 24].all fun u => !Tryz.prog.wantsStandIn u) = true := by kernel_rfl
        exact (show Tryz.prog.wantsStandIn t = false by simpa using List.all_eq_true.1 hall t hm)⟩)
    (by kernel_rfl)
#print axioms card_holds
end Go.Proofs.YtmgacikdgbedfaaGreatDoor.modpolyRings
