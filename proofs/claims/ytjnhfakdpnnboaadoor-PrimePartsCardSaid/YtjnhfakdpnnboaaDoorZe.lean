/- Totients, by the program and by the reference. -/
import Derived.Test.YtjnhfakdpnnboaaDoorZd
namespace Nt
theorem drop_step {L : List (Nat × Nat)} {i p k : Nat} (h : L[i]? = some (p, k)) : fprod (L.drop i) = p ^ k * fprod (L.drop (i + 1)) := by
  rw [List.drop_eq_getElem?_toList_append, h]; rfl
theorem tot_step {L : List (Nat × Nat)} {i p k m : Nat} (h : L[i]? = some (p, k)) (hk : 1 ≤ k) (hp : 0 < p) (hm : m = totF (L.take i) * fprod (L.drop i)) : m / p * (p - 1) = totF (L.take (i + 1)) * fprod (L.drop (i + 1)) := by
  obtain ⟨j, rfl⟩ : ∃ j, k = j + 1 := ⟨k - 1, by omega⟩
  have e : m = p * (totF (L.take i) * p ^ j * fprod (L.drop (i + 1))) := by
    rw [hm, drop_step h, Nat.pow_succ]; ac_rfl
  rw [e, Nat.mul_div_cancel_left _ hp, totF_take h]
  simp only [Nat.add_sub_cancel]
  ac_rfl
theorem tot_le {L : List (Nat × Nat)} {i m n : Nat} (h : IsFac n L) (hm : m = totF (L.take i) * fprod (L.drop i)) : m ≤ n := by
  rw [hm, ← h.prod, ← fprod_split L i]
  exact Nat.mul_le_mul_right _ (totF_le fun x hx => h.pr x (List.mem_of_mem_take hx))
end Nt
namespace Go.Proofs.YtjnhfakdpnnboaaDoor
open Go.RowKit Go.IntWalk

set_option maxRecDepth 100000 in
set_option maxHeartbeats 2000000 in
theorem tot_any (n : Nat) {ni : Int} (hni : ni = n) (hn : n < 4294967296) (h0 : 0 < n) (w : World) :
    Calls Tryd.prog 46 #[.int .u32 ni] w (RetRB .u32 (fun v => v = Nt.phi n) w) := by
  subst hni
  have HFC := Lib.hid (fun w0 : World => factors_any n rfl hn h0 w0)
  go_enter Tryd.func46, Tryd.ntmps46
  go_wp2_with fail
  refine (HFC.out _).mono ?_
  rintro _ w2 ⟨v, L, rfl, hL, hown, hB⟩
  obtain ⟨ad, cap, rfl, hA⟩ := fac_slice hown
  have hlen : L.length < 32 := len32 hL.out.len hn
  clear hown HFC
  go_wp2_with fail
  go_loopg [3, 10] L.length (fun gk mv iv wr => ∃ (m i : Nat), i + gk = L.length ∧ mv = .int .u32 m ∧ iv = .int .i64 i ∧ Hid (m = Nt.totF (L.take i) * Nt.fprod (L.drop i)) ∧ m ≤ n ∧ Below w2.heap.size w2 wr)
  case atStart => exact ⟨n, 0, by omega, rfl, rfl, Lib.hid (by simp [Nt.totF, hL.out.prod]), Nat.le_refl _, Below.refl _ _⟩
  case round =>
    obtain ⟨m, i, hig, rfl, rfl, hM, hmn, hB1⟩ := hrel
    by_cases hil : i < L.length
    · obtain ⟨W, rfl⟩ : ∃ W : World, W = wr := ⟨_, rfl⟩
      obtain ⟨g, rfl⟩ : ∃ g, gk = g + 1 := ⟨gk - 1, by omega⟩
      obtain ⟨⟨f, k⟩, hx⟩ : ∃ x, L[i]? = some x := ⟨_, List.getElem?_eq_getElem hil⟩
      obtain ⟨gb, rfl, hgl, hc0, hc1⟩ := (hA.below hB1).at_ i _ hx
      have hfp := hL.out.pr _ (List.mem_of_getElem? hx)
      have hf2 := hfp.1.1
      have hfl := (hL.out.exp _ (List.mem_of_getElem? hx)).2
      simp only at hf2 hfl hc0 hc1
      obtain ⟨f1, hf1⟩ : ∃ x, x = f - 1 := ⟨_, rfl⟩
      obtain ⟨q, hq⟩ : ∃ x, x = m / f := ⟨_, rfl⟩
      obtain ⟨m', hm'⟩ : ∃ x, x = q * f1 := ⟨_, rfl⟩
      have HM := Lib.hid (show m' = Nt.totF (L.take (i + 1)) * Nt.fprod (L.drop (i + 1)) by rw [hm', hq, hf1]; exact Nt.tot_step hx hfp.2 (by omega) hM.out)
      have hmn' := Nt.tot_le hL.out HM.out
      have e1 : (m : Int) / f = (q : Int) := by rw [hq]; simp
      have e2 : IntKind.u32.wrap ((f : Int) - 1) = (f1 : Int) := by rw [IntKind.wrap_u32]; omega
      have e3 : IntKind.u32.wrap ((q : Int) * f1) = (m' : Int) := by rw [show (q : Int) * f1 = (m' : Int) by rw [hm']; simp, IntKind.wrap_u32]; omega
      have hqm : q ≤ m := by rw [hq]; exact Nat.div_le_self _ _
      have HV := Lib.hid (show (q : Int) % 4294967296 * f1 % 4294967296 = (m' : Int) by
        rw [Int.emod_eq_of_lt (a := (q : Int)) (by omega) (by omega), show (q : Int) * f1 = (m' : Int) by rw [hm']; simp]; omega)
      have hnew : (W.alloc (.cells #[.int .u32 f, .int .i64 k] 63)).cell? ⟨W.heap.size, 0, none⟩ = some (.int .u32 f) := by go_simp
      have HBA := Lib.hid (hB1.alloc hB1.size (.cells #[.int .u32 f, .int .i64 k] 63))
      clear hx hfp hf1 hq hm'
      go_wp2_with fail
      go_quiet (fail)
      go_wp2
      go_roundg g
      case measure => omega
      case rel => exact ⟨m', i + 1, by omega, by first | rfl | rw [HV.out], by go_num, HM, hmn', below_drewN HBA.out _⟩
    · obtain rfl : i = L.length := by omega
      have HE := Lib.hid (show m = Nt.phi n by rw [hM.out, Nt.phi_of hL.out]; simp [Nt.fprod])
      have HB3 := Lib.hid (hB.trans (hB1.mono hB.size))
      go_wp2
      go_ret
      exact ⟨m, rfl, HE, HB3.out⟩

set_option maxRecDepth 100000 in
set_option maxHeartbeats 2000000 in
theorem rtot_any (n : Nat) {ni : Int} (hni : ni = n) (hn : n < 4294967296) (h0 : 0 < n) (w : World) :
    Calls Tryd.prog 47 #[.int .u32 ni] w (RetRB .u32 (fun v => v = Nt.phi n) w) := by
  subst hni
  have HFC := Lib.hid (fun w0 : World => refFactors_any n rfl hn h0 w0)
  go_enter Tryd.func47, Tryd.ntmps47
  go_wp2_with fail
  refine (HFC.out _).mono ?_
  rintro _ w2 ⟨v, L, rfl, hL, hown, hB⟩
  obtain ⟨ad, cap, rfl, hA⟩ := fac_slice hown
  have hlen : L.length < 32 := len32 hL.out.len hn
  clear hown HFC
  go_wp2_with fail
  go_loopg [3, 10] L.length (fun gk mv iv wr => ∃ (m i : Nat), i + gk = L.length ∧ mv = .int .u32 m ∧ iv = .int .i64 i ∧ Hid (m = Nt.totF (L.take i) * Nt.fprod (L.drop i)) ∧ m ≤ n ∧ Below w2.heap.size w2 wr)
  case atStart => exact ⟨n, 0, by omega, rfl, rfl, Lib.hid (by simp [Nt.totF, hL.out.prod]), Nat.le_refl _, Below.refl _ _⟩
  case round =>
    obtain ⟨m, i, hig, rfl, rfl, hM, hmn, hB1⟩ := hrel
    by_cases hil : i < L.length
    · obtain ⟨W, rfl⟩ : ∃ W : World, W = wr := ⟨_, rfl⟩
      obtain ⟨g, rfl⟩ : ∃ g, gk = g + 1 := ⟨gk - 1, by omega⟩
      obtain ⟨⟨f, k⟩, hx⟩ : ∃ x, L[i]? = some x := ⟨_, List.getElem?_eq_getElem hil⟩
      obtain ⟨gb, rfl, hgl, hc0, hc1⟩ := (hA.below hB1).at_ i _ hx
      have hfp := hL.out.pr _ (List.mem_of_getElem? hx)
      have hf2 := hfp.1.1
      have hfl := (hL.out.exp _ (List.mem_of_getElem? hx)).2
      simp only at hf2 hfl hc0 hc1
      obtain ⟨f1, hf1⟩ : ∃ x, x = f - 1 := ⟨_, rfl⟩
      obtain ⟨q, hq⟩ : ∃ x, x = m / f := ⟨_, rfl⟩
      obtain ⟨m', hm'⟩ : ∃ x, x = q * f1 := ⟨_, rfl⟩
      have HM := Lib.hid (show m' = Nt.totF (L.take (i + 1)) * Nt.fprod (L.drop (i + 1)) by rw [hm', hq, hf1]; exact Nt.tot_step hx hfp.2 (by omega) hM.out)
      have hmn' := Nt.tot_le hL.out HM.out
      have e1 : (m : Int) / f = (q : Int) := by rw [hq]; simp
      have e2 : IntKind.u32.wrap ((f : Int) - 1) = (f1 : Int) := by rw [IntKind.wrap_u32]; omega
      have e3 : IntKind.u32.wrap ((q : Int) * f1) = (m' : Int) := by rw [show (q : Int) * f1 = (m' : Int) by rw [hm']; simp, IntKind.wrap_u32]; omega
      have hqm : q ≤ m := by rw [hq]; exact Nat.div_le_self _ _
      have HV := Lib.hid (show (q : Int) % 4294967296 * f1 % 4294967296 = (m' : Int) by
        rw [Int.emod_eq_of_lt (a := (q : Int)) (by omega) (by omega), show (q : Int) * f1 = (m' : Int) by rw [hm']; simp]; omega)
      have hnew : (W.alloc (.cells #[.int .u32 f, .int .i64 k] 63)).cell? ⟨W.heap.size, 0, none⟩ = some (.int .u32 f) := by go_simp
      have HBA := Lib.hid (hB1.alloc hB1.size (.cells #[.int .u32 f, .int .i64 k] 63))
      clear hx hfp hf1 hq hm'
      go_wp2_with fail
      go_quiet (fail)
      go_wp2
      go_roundg g
      case measure => omega
      case rel => exact ⟨m', i + 1, by omega, by first | rfl | rw [HV.out], by go_num, HM, hmn', below_drewN HBA.out _⟩
    · obtain rfl : i = L.length := by omega
      have HE := Lib.hid (show m = Nt.phi n by rw [hM.out, Nt.phi_of hL.out]; simp [Nt.fprod])
      have HB3 := Lib.hid (hB.trans (hB1.mono hB.size))
      go_wp2
      go_ret
      exact ⟨m, rfl, HE, HB3.out⟩
end Go.Proofs.YtjnhfakdpnnboaaDoor
