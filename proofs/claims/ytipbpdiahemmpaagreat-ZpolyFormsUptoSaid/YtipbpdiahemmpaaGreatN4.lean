/- nat: the sum. -/
import Derived.Test.YtipbpdiahemmpaaGreatN3
import Derived.RangeFuncStops
import Derived.RangeFuncCalls
import Derived.Maps.AppendAt
namespace Go.Proofs.YtipbpdiahemmpaaGreat
open Go.RowKit Go.IntWalk

theorem ret_ii {k k' : IntKind} {a b c d : Int} (h : a = c) (h' : b = d) : Ending.returned (.tuple #[.int k a, .int k' b]) = .returned (.tuple #[.int k c, .int k' d]) := by rw [h, h']
/-- One limb of a sum. -/
def RAdd (x y q s q' : Nat) : Prop := s + 4294967296 * q' = x + y + q
set_option maxHeartbeats 400000 in
theorem add32_any (x y q : Nat) (hx : x < 4294967296) (hy : y < 4294967296) (hq : q ≤ 1) (w : World) :
    Calls Tryz.prog 280 #[.int .u32 x, .int .u32 y, .int .u32 q] w fun e w' => ∃ s q' : Nat, e = .returned (.tuple #[.int .u32 s, .int .u32 q']) ∧ s < 4294967296 ∧ q' ≤ 1 ∧ Hid (RAdd x y q s q') ∧ w = w' := by
  go_enter Tryz.func280, Tryz.ntmps280
  go_wp2
  go_ret2
  exact ⟨(x + y + q) % 4294967296, (x + y + q) / 4294967296, ret_ii (by omega) (by omega), Nat.mod_lt _ (by omega), by omega, Lib.hid (by unfold RAdd; omega), rfl⟩
set_option maxHeartbeats 400000 in
theorem addStep_any (Bc : Nat) (W : World) (x y q : Nat) (hx : x < 4294967296) (hy : y < 4294967296) (hq : q ≤ 1) (hc : W.cell? ⟨Bc, 0, none⟩ = some (.int .u32 q)) (hf : W.frozen? ⟨Bc, 0, none⟩ = false) :
    Calls Tryz.prog 279 #[.int .u32 x, .int .u32 y, .pointer (some ⟨Bc, 0, none⟩)] W fun e W' => ∃ s q' : Nat, e = .returned (.int .u32 s) ∧ s < 4294967296 ∧ q' ≤ 1 ∧ Hid (RAdd x y q s q') ∧ W' = W.setCell ⟨Bc, 0, none⟩ (.int .u32 q') := by
  go_enter Tryz.func279, Tryz.ntmps279
  go_wp2_with fail
  refine (add32_any x y q hx hy hq _).mono ?_
  rintro _ _ ⟨s, q', rfl, hs, hq', hR, rfl⟩
  go_wp2
  go_ret
  exact ⟨s, q', rfl, hs, hq', hR, rfl⟩

theorem chain_add {a b o : Nat → Nat} : ∀ {i c : Nat}, Chain RAdd a b o i c → Dg.vf o i + c * 4294967296 ^ i = Dg.vf a i + Dg.vf b i
  | 0, c, h => by have : c = 0 := h; subst this; rfl
  | i + 1, c, ⟨c', h1, h2⟩ => by
    have ih := chain_add h1
    have h2' : o i + 4294967296 * c = a i + b i + c' := h2
    rw [Dg.vf_succ, Dg.vf_succ, Dg.vf_succ, Nat.pow_succ]
    have h3 : (o i + 4294967296 * c) * 4294967296 ^ i = (a i + b i + c') * 4294967296 ^ i := by rw [h2']
    grind

set_option maxRecDepth 100000 in
set_option maxHeartbeats 2000000 in
theorem nAdd_any {A A' : Option Addr} {n c n' c' : Nat} {L L' : List Nat} {w : World} (h : RdU w w.heap.size A n c L) (h' : RdU w w.heap.size A' n' c' L') (hn : n ≤ 8796093022207) (hn' : n' ≤ 8796093022207) :
    Calls Tryz.prog 255 #[.slice A n c, .slice A' n' c'] w (RetN (Dg.val L + Dg.val L') w) := by
  have hlen := h.len
  have hlen' := h'.len
  have HLEN := Lib.hid hlen
  have HLEN' := Lib.hid hlen'
  clear hlen hlen'
  have hB0 := (Below.refl w.heap.size w).alloc (Nat.le_refl _) (.cells #[.int .u32 0] 35)
  have hcc : (w.alloc (.cells #[.int .u32 0] 35)).cell? ⟨w.heap.size, 0, none⟩ = some (.int .u32 0) := by go_simp
  have hcf : (w.alloc (.cells #[.int .u32 0] 35)).frozen? ⟨w.heap.size, 0, none⟩ = false := by go_simp
  have HCC := Lib.hid hcc
  have HCF := Lib.hid hcf
  clear hcc hcf
  have hR := h.below hB0
  have hR' := h'.below hB0
  have hsz : w.heap.size < (w.alloc (.cells #[.int .u32 0] 35)).heap.size := by simp
  go_enter Tryz.func255, Tryz.ntmps255
  go_wp2_with fail
  generalize w.alloc (.cells #[.int .u32 0] 35) = W1 at hB0 HCC HCF hR hR' hsz ⊢
  refine (trim_any (B := w.heap.size) hR (by omega)).mono ?_
  rintro _ _ ⟨k, rfl, hk, rfl⟩
  go_wp2_with fail
  refine (trim_any (B := w.heap.size) hR' (by omega)).mono ?_
  rintro _ _ ⟨k', rfl, hk', rfl⟩
  have hkn : k ≤ n := by have := hk.out.1; rw [HLEN.out] at this; exact this
  have hkn' : k' ≤ n' := by have := hk'.out.1; rw [HLEN'.out] at this; exact this
  have hT := hR.take hkn
  have hT' := hR'.take hkn'
  rw [hk.out.2] at hT
  rw [hk'.out.2] at hT'
  go_wp2_with fail
  refine (each_any (R := RAdd) (Bc := w.heap.size) (B := w.heap.size) (enters_of Tryz.func279 (by kernel_rfl) rfl) (addStep_any w.heap.size) hT hT' (by omega) (by omega) (Nat.le_refl _) hsz HCC.out HCF.out).mono ?_
  rintro _ W2 ⟨O, q, rfl, hU, hO, hcb, hb2⟩
  have hB2 := hB0.trans hb2
  obtain ⟨m, hm⟩ : ∃ m, m = max k k' := ⟨_, rfl⟩
  rw [← hm] at hO ⊢
  have HM := Lib.hid hm
  have hmb : m ≤ 8796093022207 := by omega
  clear hm
  have hfz := hU.frozen m
  have hcl := hU.cell (Dg.get_of_ld (L := O) (i := m) (by rw [hO.out.1]; omega))
  have hgl := hU.lt
  have hU3 := (hU.set m q).alloc (.cells #[.int .u32 q] 35)
  have hB3 := (hB2.setCell (p := ⟨W1.heap.size, m, none⟩) (Nat.le_of_lt hsz) (.int .u32 q)).alloc (by simp [World.setCell]; exact hB2.size) (.cells #[.int .u32 q] 35)
  have hWd := hO.out.2.1.set m (show q < 4294967296 by have := hO.out.2.2.1; omega)
  have hval : Dg.val (O.set m q) = Dg.val L + Dg.val L' := by
    have e1 := Dg.vf_eq_val (L := O.set m q) (n := m + 1) (by rw [List.length_set, hO.out.1]; omega)
    rw [Dg.vf_succ, Dg.ld_set_same q (by rw [hO.out.1]; omega), Dg.vf_set q (Nat.le_refl m), chain_add hO.out.2.2.2] at e1
    rw [← e1, Dg.vf_eq_val (by rw [← hk.out.2, List.length_take]; have := HM.out; omega), Dg.vf_eq_val (by rw [← hk'.out.2, List.length_take]; have := HM.out; omega), Dg.val_dg, Dg.val_dg]
  have HV := Lib.hid hval
  clear hval
  have hO3 := hU3.rd hWd (B := ((W2.setCell ⟨W1.heap.size, m, none⟩ (.int .u32 q)).alloc (.cells #[.int .u32 q] 35)).heap.size) (by simp [World.setCell]; omega) (k := m + 1) (by rw [List.length_set, hO.out.1]; omega) (by rw [List.length_set, hO.out.1]; unfold maxLen; omega)
  rw [List.length_set, hO.out.1, List.take_of_length_le (by rw [List.length_set, hO.out.1]; exact Nat.le_refl _)] at hO3
  go_wp2_with fail
  refine (own_any hO3 (by omega)).mono ?_
  rintro _ W4 ⟨A4, m4, c4, x4, rfl, ho4, hx4, hb4⟩
  go_wp2
  go_ret
  exact ⟨_, _, _, _, rfl, ho4.base hB3.size, Lib.hid (hx4.out.trans HV.out), hB3.trans (hb4.mono hB3.size)⟩
end Go.Proofs.YtipbpdiahemmpaaGreat
