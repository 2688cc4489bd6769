/- PrimeLists: the row of 'simile/similelaw04.PrimeLists': whatever the input, it returns true and leaves what was there; and its card. The row lists two tables (math/bits.deBruijn32tab, simile/prime.bases) with what the program's text lays in them. -/
import Derived.Test.YtjnhfakdpnnboaaDoorL8
import Derived.Test.YtjnhfakdpnnboaaDoorP0
import Derived.Test.YtjnhfakdpnnboaaDoorCards
import Derived.SevenTiedAt
import Derived.Lib.SmallJoins
namespace Go.Proofs.YtjnhfakdpnnboaaDoor.primeLists
open Go.ChangeShapes Go.WideShapes Go.ChangeAt Go.RowKit

set_option maxRecDepth 100000 in
theorem lifted (os : Os) (started : os.Started) (H : Type) (enc : TypeId × Value → H) :
    ReturnsInHanded {} Tryd.checked os 10 .any (fun w args => (Rows.primeListsSpec.pre enc Tryd.prog Tryd.f10 [] false w args ∧ laidMetH Tryd.prog laids w) ∧ sizedMet enc Tryd.prog Tryd.f10 (OpenSpec.ofChange Rows.primeListsSpec) false w args)
      (Rows.primeListsSpec.post enc Tryd.prog Tryd.f10 false true false false) := by
  refine returnsInHanded_of_change_and (C := Tryd.checked) (X := fun w _ => laidMetH Tryd.prog laids w) (fun _ _ _ hh h => h.of_heap hh) own started (by kernel_rfl) Tryd.func10
    (ChangeSpec.witness_shaped (enc := enc) (C := Tryd.checked) (os := os) (X := fun w _ => laidMetH Tryd.prog laids w) false (World.doorLaid Tryd.prog 400 os) #[.int .u32 0, .int .i64 0, .agg #[.bool false, .int .u32 0, .int .u32 0]] 8 rfl (World.shaped_of_RefB (by kernel_rfl) (by kernel_rfl)) (by kernel_rfl) (by kernel_rfl) (by kernel_rfl) (door_met os _)) ?_
  intro W base args ds gs before hval0 hW _ _ hL _
  have hval : ∀ (j : Nat) t v, Tryd.f10.params[j]? = some t → args[j]? = some v → Value.okWide Tryd.prog W .any base t v := hval0
  have hW' := hW
  obtain ⟨p, q, hA0, hV, rfl, hfz, hnd⟩ := hW
  have hA : DataW.TrodAll enc Tryd.prog W 0 (fun _ => true) true Tryd.f10.params.toList args.toList ds p := hA0
  rw [Tryd.params10] at hA hval
  obtain ⟨v0, vs0, d0, ds0, p0, q0, hargs, rfl, rfl, h0, r0⟩ := trodAll_cons hA
  obtain ⟨v1, vs1, d1, ds1, p1, q1, rfl, rfl, rfl, h1, r1⟩ := trodAll_cons r0
  obtain ⟨v2, vs2, d2, ds2, p2, q2, rfl, rfl, rfl, h2, r2⟩ := trodAll_cons r1
  obtain ⟨rfl, rfl, rfl⟩ := trodAll_nil r2
  obtain rfl : args = #[v0, v1, v2] := by cases args; simp_all
  obtain ⟨rfl, rfl⟩ := trodVars_none hV
  obtain ⟨a0, rfl, rfl, rfl, w0⟩ := open_int Tryd.underlying25 (hval 0 25 v0 rfl rfl) h0
  obtain ⟨a1, rfl, rfl, rfl, w1⟩ := open_int Tryd.underlying3 (hval 1 3 v1 rfl rfl) h1
  obtain ⟨k2_0, k2_1, k2_2, y2_0, y2_1, y2_2, m2, rfl, rfl, rfl, g2_0, g2_1, g2_2⟩ := Joins.open_agg3 Tryd.underlying48 (by kernel_rfl) (show Tryd.prog.cellsOf 48 = 3 by kernel_rfl) (hval 2 48 v2 rfl rfl) h2
  obtain ⟨a2_0, e2_0, hy2_0⟩ := DataW.trod_bool Tryd.underlying4 g2_0
  simp at e2_0
  subst e2_0 hy2_0
  obtain ⟨a2_1, e2_1, hy2_1, w2_1⟩ := DataW.trod_int Tryd.underlying25 g2_1
  simp at e2_1
  subst e2_1 hy2_1
  obtain ⟨a2_2, e2_2, hy2_2, w2_2⟩ := DataW.trod_int Tryd.underlying25 g2_2
  simp at e2_2
  subst e2_2 hy2_2
  clear hA0 hval0
  simp only [List.append_nil] at hW'
  have b0 := bounds_u32 w0
  obtain ⟨n0, rfl⟩ : ∃ n : Nat, a0 = n := ⟨a0.toNat, by omega⟩
  have b1 := bounds_i64 w1
  have b2_1 := bounds_u32 w2_1
  obtain ⟨n2_1, rfl⟩ : ∃ n : Nat, a2_1 = n := ⟨a2_1.toNat, by omega⟩
  have b2_2 := bounds_u32 w2_2
  obtain ⟨n2_2, rfl⟩ : ∃ n : Nat, a2_2 = n := ⟨a2_2.toNat, by omega⟩
  refine (walk_PrimeLists n0 (by omega) a1 (by omega) (by omega) a2_0 n2_1 (by omega) n2_2 (by omega) W (tabs_of hL)).mono fun e W' ⟨he, hb⟩ => ?_
  subst he
  exact ⟨_, rfl, post_of_below (pa := []) (pv := []) hW' (fun _ _ _ => (trodAll_cons_mk (shut_bool Tryd.underlying4 _) trodAll_mk0)) (fun sp _ => (trodAll_cons_mk (shut_int Tryd.underlying25 w0) (trodAll_cons_mk (shut_int Tryd.underlying3 w1) (trodAll_cons_mk (Joins.shut_agg3 (y0 := (.lit (.bool a2_0), [])) (y1 := (.lit (.int .u32 n2_1), [])) (y2 := (.lit (.int .u32 n2_2), [])) Tryd.underlying48 (by kernel_rfl) (show Tryd.prog.cellsOf 48 = 3 by kernel_rfl) ⟨1, by simp [DataW.trod, Tryd.underlying4]⟩ ⟨1, by simp [DataW.trod, Tryd.underlying25, w2_1]⟩ ⟨1, by simp [DataW.trod, Tryd.underlying25, w2_2]⟩) trodAll_mk0)))) (fun _ _ => rfl) rfl hb (ok_one (by kernel_rfl) rfl (okWide_bool_mk Tryd.underlying4 _))⟩

theorem over : Rows.PrimeListsSaid :=
  OpenClaim.holds_of_wide 10 Tryd.f10 rfl rfl rfl rfl rfl rfl rfl ⟨rfl, rfl, rfl, rfl, rfl⟩ rfl rfl rfl rfl rfl (by kernel_rfl) Tryd.func10 (by kernel_rfl)
    (of_decide_eq_true (by kernel_rfl)) (by unfold Func.isWrapper; first | (rw [if_pos (by decide +kernel)]; kernel_rfl) | (rw [if_neg (by decide +kernel)]; exact ⟨rfl, rfl⟩))
    (fun os started H enc _ => lifted os started H enc)

/-- The statement: the tied card. -/
theorem card_holds : Rows.PrimeListsCardSaid :=
  Claim7.holds_tied_plain_at .later [] [.data, .data] true (true, "f5a91718574089a62be26f1366806c60279152330695bf4e5edce03126bc6ca5") false
    over (fun _ h => by cases h) (by kernel_rfl) (fun _ h => by cases h) primeLists_row_tie rfl ⟨rfl, rfl⟩ (by kernel_rfl) rfl
    (fun f fn hf hfn => by
      obtain rfl : f = 10 := Option.some.inj ((show Tryd.prog.funcNamed "simile/similelaw04.PrimeLists" = some 10 by kernel_rfl).symm.trans hf) |>.symm
      obtain rfl : fn = Tryd.f10 := (Option.some.inj (Tryd.func10.symm.trans hfn)).symm
      exact ⟨by kernel_rfl, fun j t ht => by
        rw [Tryd.params10] at ht
        have hm : t ∈ [25, 3, 48] := by simpa using Array.mem_of_getElem? ht
        have hall : ([25, 3, 48].all fun u => !Tryd.prog.wantsStandIn u) = true := by kernel_rfl
        exact (show Tryd.prog.wantsStandIn t = false by simpa using List.all_eq_true.1 hall t hm)⟩)
    (by kernel_rfl)
#print axioms card_holds
end Go.Proofs.YtjnhfakdpnnboaaDoor.primeLists
