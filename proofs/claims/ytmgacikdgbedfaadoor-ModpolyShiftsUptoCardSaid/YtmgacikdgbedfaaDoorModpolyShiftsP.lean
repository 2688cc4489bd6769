/- ModpolyShifts: the row of 'simile/similelaw08.ModpolyShifts' in its second form: whatever the input of bulk at most 1048576, it returns true and leaves what was there; and its card. -/
import Derived.Test.YtmgacikdgbedfaaDoorS1
import Derived.Test.YtmgacikdgbedfaaDoorP1
import Derived.SevenTiedAt
import Derived.Lib.SmallJoins
namespace Go.Proofs.YtmgacikdgbedfaaDoor.modpolyShifts
open Go.ChangeShapes Go.WideShapes Go.ChangeAt Go.RowKit

set_option maxRecDepth 100000 in
theorem contract (H : Type) (enc : TypeId × Value → H) (W : World) (base : Nat) (args : Array Value) (ds gs : List (DataW H)) (before : List MemPlace)
    (hval : ∀ (j : Nat) t v, Tryd.f5.params[j]? = some t → args[j]? = some v → Value.okWide Tryd.prog W .any base t v)
    (hW : DataW.Whole enc Tryd.prog Tryd.f5.params.toList Rows.modpolyShiftsSpec.vars false W args.toList ds gs before) (hk : Rows.uptoSmall H (ds ++ gs) = true) (hL : laidMetH Tryd.prog laids W) :
    Calls Tryd.prog 5 args W fun e W' => ∃ v, e = .returned v ∧ Rows.modpolyShiftsSpec.post enc Tryd.prog Tryd.f5 false true false false W args v W' := by
  have hW' := hW
  obtain ⟨p, q, hA0, hV, rfl, hfz, hnd⟩ := hW
  have hA : DataW.TrodAll enc Tryd.prog W 0 (fun _ => true) true Tryd.f5.params.toList args.toList ds p := hA0
  rw [Tryd.params5] at hA hval
  obtain ⟨v0, vs0, d0, ds0, p0, q0, hargs, rfl, rfl, h0, r0⟩ := trodAll_cons hA
  obtain ⟨v1, vs1, d1, ds1, p1, q1, rfl, rfl, rfl, h1, r1⟩ := trodAll_cons r0
  obtain ⟨rfl, rfl, rfl⟩ := trodAll_nil r1
  obtain rfl : args = #[v0, v1] := by cases args; simp_all
  obtain ⟨rfl, rfl⟩ := trodVars_none hV
  obtain ⟨A0, n0, c0, L0, rfl, R0, N0, B0, S0⟩ := open_words Tryd.underlying26 (hval 0 26 v0 rfl rfl) h0
  have K0 : n0 ≤ 1048576 := Nat.le_trans B0 (bulk_le hk (by simp))
  obtain ⟨k1_0, k1_1, k1_2, y1_0, y1_1, y1_2, m1, rfl, rfl, rfl, g1_0, g1_1, g1_2⟩ := Joins.open_agg3 Tryd.underlying37 (by kernel_rfl) (show Tryd.prog.cellsOf 37 = 3 by kernel_rfl) (hval 1 37 v1 rfl rfl) h1
  obtain ⟨a1_0, e1_0, hy1_0, w1_0⟩ := DataW.trod_int Tryd.underlying27 g1_0
  simp at e1_0
  subst e1_0 hy1_0
  obtain ⟨a1_1, e1_1, hy1_1, w1_1⟩ := DataW.trod_int Tryd.underlying3 g1_1
  simp at e1_1
  subst e1_1 hy1_1
  obtain ⟨a1_2, e1_2, hy1_2, w1_2⟩ := DataW.trod_int Tryd.underlying27 g1_2
  simp at e1_2
  subst e1_2 hy1_2
  clear hA0
  have b1_0 := bounds_u32 w1_0
  obtain ⟨n1_0, rfl⟩ : ∃ n : Nat, a1_0 = n := ⟨a1_0.toNat, by omega⟩
  have b1_1 := bounds_i64 w1_1
  have b1_2 := bounds_u32 w1_2
  obtain ⟨n1_2, rfl⟩ : ∃ n : Nat, a1_2 = n := ⟨a1_2.toNat, by omega⟩
  refine (walk_ModpolyShifts R0 N0 K0 n1_0 (by omega) a1_1 b1_1.1 b1_1.2 n1_2 (by omega) (tabs_of hL)).mono fun e W' ⟨he, hb⟩ => ?_
  subst he
  exact ⟨_, rfl, post_of_below (pv := []) hW' (fun _ _ _ => (trodAll_cons_mk (shut_bool Tryd.underlying4 _) trodAll_mk0)) (fun sp hsp => (trodAll_cons_mk (S0 W' sp hb (fun p hp => hsp p (by simp [hp]))) (trodAll_cons_mk (Joins.shut_agg3 (y0 := (.lit (.int .u32 n1_0), [])) (y1 := (.lit (.int .i64 a1_1), [])) (y2 := (.lit (.int .u32 n1_2), [])) Tryd.underlying37 (by kernel_rfl) (show Tryd.prog.cellsOf 37 = 3 by kernel_rfl) ⟨1, by simp [DataW.trod, Tryd.underlying27, w1_0]⟩ ⟨1, by simp [DataW.trod, Tryd.underlying3, w1_1]⟩ ⟨1, by simp [DataW.trod, Tryd.underlying27, w1_2]⟩) trodAll_mk0))) (fun _ _ => rfl) (by simp) hb (ok_one (by kernel_rfl) rfl (okWide_bool_mk Tryd.underlying4 _))⟩

theorem reads (os : Os) {H : Type} (enc : TypeId × Value → H) : ∃ places, DataW.whole enc Tryd.prog ((World.doorLaid Tryd.prog 400 os).forCall (fun _ _ => 0) ⟨#[], #[Value.slice none 0 0, .agg #[.int .u32 0, .int .i64 0, .int .u32 0]], []⟩).memory Tryd.f5.params.toList Rows.modpolyShiftsSpec.vars false #[Value.slice none 0 0, .agg #[.int .u32 0, .int .i64 0, .int .u32 0]].toList 8 = some ([.nil, .agg [.lit (.int .u32 0), .lit (.int .i64 0), .lit (.int .u32 0)]], [], places) :=
  ⟨[], by kernel_rfl⟩
set_option maxRecDepth 100000 in
theorem lifted (os : Os) (started : os.Started) (H : Type) (enc : TypeId × Value → H) (F : Stop.Interp) :
    ReturnsInHanded {} Tryd.checked os 5 .any ((Rows.OpenSpec.upto Rows.modpolyShiftsSpec).preRow enc Tryd.prog Tryd.f5 Rows.modpolyShiftsUptoRow.domain false Rows.modpolyShiftsUptoRow.laid) (((Rows.OpenSpec.upto Rows.modpolyShiftsSpec).at F).post enc Tryd.prog Tryd.f5 false true false false) := by
  obtain ⟨places, hx⟩ := reads os enc
  refine returnsInHanded_of_row (C := Tryd.checked) (s := Rows.OpenSpec.upto Rows.modpolyShiftsSpec) own started (by kernel_rfl) Tryd.func5
    (witness_row_atRef (enc := enc) (C := Tryd.checked) false (World.doorLaid Tryd.prog 400 os) #[Value.slice none 0 0, .agg #[.int .u32 0, .int .i64 0, .int .u32 0]] rfl (by kernel_rfl) (by kernel_rfl) (by kernel_rfl)
      (OpenSpec.preRow_of_cond 8 hx (by kernel_rfl) (fun k hk => by cases hk; kernel_rfl) (by kernel_rfl) (door_met os _))) ?_
  intro W base args ds gs before hval hW _ hcond _ hL _ _
  exact contract H enc W base args ds gs before hval hW (hcond _ rfl) hL

theorem over : Rows.ModpolyShiftsUptoSaid :=
  OpenClaim.holds_of_cond 5 Tryd.f5 rfl rfl rfl rfl rfl rfl rfl ⟨rfl, rfl, rfl, rfl, rfl⟩ rfl rfl rfl rfl rfl (by kernel_rfl) Tryd.func5 (by kernel_rfl)
    (of_decide_eq_true (by kernel_rfl)) (by unfold Func.isWrapper; first | (rw [if_pos (by decide +kernel)]; kernel_rfl) | (rw [if_neg (by decide +kernel)]; exact ⟨rfl, rfl⟩))
    (fun os started H enc _ F => by rw [OpenClaim.pre_eq_preRow]; exact lifted os started H enc F)

/-- The statement: the tied card of the second form. -/
theorem card_holds : Rows.ModpolyShiftsUptoCardSaid :=
  Claim7.holds_tied_plain_at .later [] _ _ _ _
    over (fun _ h => by cases h) (by kernel_rfl) (fun _ h => by cases h) modpolyShiftsUpto_row_tie rfl ⟨rfl, rfl⟩ (by kernel_rfl) rfl
    (fun f fn hf hfn => by
      obtain rfl : f = 5 := Option.some.inj ((show Tryd.prog.funcNamed "simile/similelaw08.ModpolyShifts" = some 5 by kernel_rfl).symm.trans hf) |>.symm
      obtain rfl : fn = Tryd.f5 := (Option.some.inj (Tryd.func5.symm.trans hfn)).symm
      exact ⟨by kernel_rfl, fun j t ht => by
        rw [Tryd.params5] at ht
        have hm : t ∈ [26, 37] := by simpa using Array.mem_of_getElem? ht
        have hall : ([26, 37].all fun u => !Tryd.prog.wantsStandIn u) = true := by kernel_rfl
        exact (show Tryd.prog.wantsStandIn t = false by simpa using List.all_eq_true.1 hall t hm)⟩)
    (by kernel_rfl)
#print axioms card_holds
end Go.Proofs.YtmgacikdgbedfaaDoor.modpolyShifts
