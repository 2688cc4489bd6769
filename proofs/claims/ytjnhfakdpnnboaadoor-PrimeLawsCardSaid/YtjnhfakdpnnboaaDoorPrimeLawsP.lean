/- PrimeLaws: the row of 'simile/similelaw04.PrimeLaws': whatever the input, it returns true and leaves what was there; and its card. The row lists two tables (math/bits.deBruijn32tab, simile/prime.bases) with what the program's text lays in them. -/
import Derived.Test.YtjnhfakdpnnboaaDoorL5
import Derived.Test.YtjnhfakdpnnboaaDoorP0
import Derived.Test.YtjnhfakdpnnboaaDoorCards
import Derived.SevenTiedAt
import Derived.Lib.SmallJoins
namespace Go.Proofs.YtjnhfakdpnnboaaDoor.primeLaws
open Go.ChangeShapes Go.WideShapes Go.ChangeAt Go.RowKit

set_option maxRecDepth 100000 in
theorem lifted (os : Os) (started : os.Started) (H : Type) (enc : TypeId × Value → H) :
    ReturnsInHanded {} Tryd.checked os 8 .any (fun w args => (Rows.primeLawsSpec.pre enc Tryd.prog Tryd.f8 [] false w args ∧ laidMetH Tryd.prog laids w) ∧ sizedMet enc Tryd.prog Tryd.f8 (OpenSpec.ofChange Rows.primeLawsSpec) false w args)
      (Rows.primeLawsSpec.post enc Tryd.prog Tryd.f8 false true false false) := by
  refine returnsInHanded_of_change_and (C := Tryd.checked) (X := fun w _ => laidMetH Tryd.prog laids w) (fun _ _ _ hh h => h.of_heap hh) own started (by kernel_rfl) Tryd.func8
    (ChangeSpec.witness_shaped (enc := enc) (C := Tryd.checked) (os := os) (X := fun w _ => laidMetH Tryd.prog laids w) false (World.doorLaid Tryd.prog 400 os) #[.agg #[.int .u32 0, .int .u32 0, .int .u32 0, .int .u32 0]] 8 rfl (World.shaped_of_RefB (by kernel_rfl) (by kernel_rfl)) (by kernel_rfl) (by kernel_rfl) (by kernel_rfl) (door_met os _)) ?_
  intro W base args ds gs before hval0 hW _ _ hL _
  have hval : ∀ (j : Nat) t v, Tryd.f8.params[j]? = some t → args[j]? = some v → Value.okWide Tryd.prog W .any base t v := hval0
  have hW' := hW
  obtain ⟨p, q, hA0, hV, rfl, hfz, hnd⟩ := hW
  have hA : DataW.TrodAll enc Tryd.prog W 0 (fun _ => true) true Tryd.f8.params.toList args.toList ds p := hA0
  rw [Tryd.params8] at hA hval
  obtain ⟨v0, vs0, d0, ds0, p0, q0, hargs, rfl, rfl, h0, r0⟩ := trodAll_cons hA
  obtain ⟨rfl, rfl, rfl⟩ := trodAll_nil r0
  obtain rfl : args = #[v0] := by cases args; simp_all
  obtain ⟨rfl, rfl⟩ := trodVars_none hV
  obtain ⟨k0_0, k0_1, k0_2, k0_3, y0_0, y0_1, y0_2, y0_3, m0, rfl, rfl, rfl, g0_0, g0_1, g0_2, g0_3⟩ := Joins.open_agg4 Tryd.underlying42 (by kernel_rfl) (show Tryd.prog.cellsOf 42 = 4 by kernel_rfl) (hval 0 42 v0 rfl rfl) h0
  obtain ⟨a0_0, e0_0, hy0_0, w0_0⟩ := DataW.trod_int Tryd.underlying25 g0_0
  simp at e0_0
  subst e0_0 hy0_0
  obtain ⟨a0_1, e0_1, hy0_1, w0_1⟩ := DataW.trod_int Tryd.underlying25 g0_1
  simp at e0_1
  subst e0_1 hy0_1
  obtain ⟨a0_2, e0_2, hy0_2, w0_2⟩ := DataW.trod_int Tryd.underlying25 g0_2
  simp at e0_2
  subst e0_2 hy0_2
  obtain ⟨a0_3, e0_3, hy0_3, w0_3⟩ := DataW.trod_int Tryd.underlying25 g0_3
  simp at e0_3
  subst e0_3 hy0_3
  clear hA0 hval0
  simp only [List.append_nil] at hW'
  have b0_0 := bounds_u32 w0_0
  obtain ⟨n0_0, rfl⟩ : ∃ n : Nat, a0_0 = n := ⟨a0_0.toNat, by omega⟩
  have b0_1 := bounds_u32 w0_1
  obtain ⟨n0_1, rfl⟩ : ∃ n : Nat, a0_1 = n := ⟨a0_1.toNat, by omega⟩
  have b0_2 := bounds_u32 w0_2
  obtain ⟨n0_2, rfl⟩ : ∃ n : Nat, a0_2 = n := ⟨a0_2.toNat, by omega⟩
  have b0_3 := bounds_u32 w0_3
  obtain ⟨n0_3, rfl⟩ : ∃ n : Nat, a0_3 = n := ⟨a0_3.toNat, by omega⟩
  refine (walk_PrimeLaws n0_0 (by omega) n0_1 (by omega) n0_2 (by omega) n0_3 (by omega) W (tabs_of hL)).mono fun e W' ⟨he, hb⟩ => ?_
  subst he
  exact ⟨_, rfl, post_of_below (pa := []) (pv := []) hW' (fun _ _ _ => (trodAll_cons_mk (shut_bool Tryd.underlying4 _) trodAll_mk0)) (fun sp _ => (trodAll_cons_mk (Joins.shut_agg4 (y0 := (.lit (.int .u32 n0_0), [])) (y1 := (.lit (.int .u32 n0_1), [])) (y2 := (.lit (.int .u32 n0_2), [])) (y3 := (.lit (.int .u32 n0_3), [])) Tryd.underlying42 (by kernel_rfl) (show Tryd.prog.cellsOf 42 = 4 by kernel_rfl) ⟨1, by simp [DataW.trod, Tryd.underlying25, w0_0]⟩ ⟨1, by simp [DataW.trod, Tryd.underlying25, w0_1]⟩ ⟨1, by simp [DataW.trod, Tryd.underlying25, w0_2]⟩ ⟨1, by simp [DataW.trod, Tryd.underlying25, w0_3]⟩) trodAll_mk0)) (fun _ _ => rfl) rfl hb (ok_one (by kernel_rfl) rfl (okWide_bool_mk Tryd.underlying4 _))⟩

theorem over : Rows.PrimeLawsSaid :=
  OpenClaim.holds_of_wide 8 Tryd.f8 rfl rfl rfl rfl rfl rfl rfl ⟨rfl, rfl, rfl, rfl, rfl⟩ rfl rfl rfl rfl rfl (by kernel_rfl) Tryd.func8 (by kernel_rfl)
    (of_decide_eq_true (by kernel_rfl)) (by unfold Func.isWrapper; first | (rw [if_pos (by decide +kernel)]; kernel_rfl) | (rw [if_neg (by decide +kernel)]; exact ⟨rfl, rfl⟩))
    (fun os started H enc _ => lifted os started H enc)

/-- The statement: the tied card. -/
theorem card_holds : Rows.PrimeLawsCardSaid :=
  Claim7.holds_tied_plain_at .later [] [.data, .data] true (true, "f5a91718574089a62be26f1366806c60279152330695bf4e5edce03126bc6ca5") false
    over (fun _ h => by cases h) (by kernel_rfl) (fun _ h => by cases h) primeLaws_row_tie rfl ⟨rfl, rfl⟩ (by kernel_rfl) rfl
    (fun f fn hf hfn => by
      obtain rfl : f = 8 := Option.some.inj ((show Tryd.prog.funcNamed "simile/similelaw04.PrimeLaws" = some 8 by kernel_rfl).symm.trans hf) |>.symm
      obtain rfl : fn = Tryd.f8 := (Option.some.inj (Tryd.func8.symm.trans hfn)).symm
      exact ⟨by kernel_rfl, fun j t ht => by
        rw [Tryd.params8] at ht
        have hm : t ∈ [42] := by simpa using Array.mem_of_getElem? ht
        have hall : ([42].all fun u => !Tryd.prog.wantsStandIn u) = true := by kernel_rfl
        exact (show Tryd.prog.wantsStandIn t = false by simpa using List.all_eq_true.1 hall t hm)⟩)
    (by kernel_rfl)
#print axioms card_holds
end Go.Proofs.YtjnhfakdpnnboaaDoor.primeLaws
