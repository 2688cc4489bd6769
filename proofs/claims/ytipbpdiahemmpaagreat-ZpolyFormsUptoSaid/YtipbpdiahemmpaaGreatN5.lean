/- nat: the difference. -/
import Derived.Test.YtipbpdiahemmpaaGreatN4
import Derived.Test.YtipbpdiahemmpaaGreatBw
import Derived.Laws.BitsAllLaws
import Derived.Laws.BitsLemmas
namespace Go.Proofs.YtipbpdiahemmpaaGreat
open Go.RowKit Go.IntWalk

/-- One limb of a difference. -/
def RSub (x y q s q' : Nat) : Prop := s + y + q = x + 4294967296 * q'
theorem u32_max : IntKind.u32.max = ((4294967295 : Nat) : Int) := by decide
theorem sub_bits (x y d : Nat) (hx : x < 4294967296) (hy : y < 4294967296) (hd : d < 4294967296) :
    bits .or .u32 (bits .and .u32 (bits .xor .u32 IntKind.u32.max x) y) (bits .and .u32 (bits .xor .u32 IntKind.u32.max (bits .xor .u32 x y)) d) =
      ((((4294967295 ^^^ x) &&& y) ||| ((4294967295 ^^^ (x ^^^ y)) &&& d) : Nat) : Int) := by
  have h1 := Bw.xor_lt (show 4294967295 < 4294967296 by omega) hx
  have h2 := Bw.xor_lt hx hy
  have h3 := Bw.xor_lt (show 4294967295 < 4294967296 by omega) h2
  rw [u32_max, u32_xor_nat _ _ (by omega) hx, u32_and_nat _ _ h1 hy, u32_xor_nat _ _ hx hy, u32_xor_nat _ _ (by omega) h2, u32_and_nat _ _ h3 hd, u32_or_nat _ _ (Bw.and_lt hy) (Bw.and_lt hd)]
set_option maxHeartbeats 400000 in
theorem sub32_any (x y q : Nat) (hx : x < 4294967296) (hy : y < 4294967296) (hq : q ≤ 1) (w : World) :
    Calls Tryz.prog 303 #[.int .u32 x, .int .u32 y, .int .u32 q] w fun e w' => ∃ s q' : Nat, e = .returned (.tuple #[.int .u32 s, .int .u32 q']) ∧ s < 4294967296 ∧ q' ≤ 1 ∧ Hid (RSub x y q s q') ∧ w = w' := by
  go_enter Tryz.func303, Tryz.ntmps303
  go_wp2
  go_ret2
  obtain ⟨d, hd⟩ : ∃ d : Nat, d = (x + 8589934592 - y - q) % 4294967296 := ⟨_, rfl⟩
  have hdl : d < 4294967296 := by omega
  have hdi : ((x : Int) - y - q) % 4294967296 = (d : Int) := by omega
  have hb := Bw.borrow x y q d hx hy hq hdl (by
    by_cases h : y + q ≤ x
    · exact ⟨0, by omega, by omega⟩
    · exact ⟨1, by omega, by omega⟩)
  have hbits := sub_bits x y d hx hy hdl
  generalize (((4294967295 ^^^ x) &&& y) ||| ((4294967295 ^^^ (x ^^^ y)) &&& d)) = N at hb hbits
  refine ⟨d, N / 2147483648, ?_, hdl, hb.2, Lib.hid hb.1, rfl⟩
  refine ret_ii hdi ?_
  rw [hdi, hbits]
  rfl
set_option maxHeartbeats 400000 in
theorem subStep_any (Bc : Nat) (W : World) (x y q : Nat) (hx : x < 4294967296) (hy : y < 4294967296) (hq : q ≤ 1) (hc : W.cell? ⟨Bc, 0, none⟩ = some (.int .u32 q)) (hf : W.frozen? ⟨Bc, 0, none⟩ = false) :
    Calls Tryz.prog 302 #[.int .u32 x, .int .u32 y, .pointer (some ⟨Bc, 0, none⟩)] W fun e W' => ∃ s q' : Nat, e = .returned (.int .u32 s) ∧ s < 4294967296 ∧ q' ≤ 1 ∧ Hid (RSub x y q s q') ∧ W' = W.setCell ⟨Bc, 0, none⟩ (.int .u32 q') := by
  go_enter Tryz.func302, Tryz.ntmps302
  go_wp2_with fail
  refine (sub32_any x y q hx hy hq _).mono ?_
  rintro _ _ ⟨s, q', rfl, hs, hq', hR, rfl⟩
  go_wp2
  go_ret
  exact ⟨s, q', rfl, hs, hq', hR, rfl⟩

theorem chain_sub {a b o : Nat → Nat} : ∀ {i c : Nat}, Chain RSub a b o i c → Dg.vf o i + Dg.vf b i = Dg.vf a i + c * 4294967296 ^ i
  | 0, c, h => by have : c = 0 := h; subst this; rfl
  | i + 1, c, ⟨c', h1, h2⟩ => by
    have ih := chain_sub h1
    have h2' : o i + b i + c' = a i + 4294967296 * c := h2
    rw [Dg.vf_succ, Dg.vf_succ, Dg.vf_succ, Nat.pow_succ]
    have h3 : (o i + b i + c') * 4294967296 ^ i = (a i + 4294967296 * c) * 4294967296 ^ i := by rw [h2']
    grind

set_option maxRecDepth 100000 in
set_option maxHeartbeats 2000000 in
theorem less_any {A A' : Option Addr} {n c n' c' : Nat} {L L' : List Nat} {w : World} (h : RdU w w.heap.size A n c L) (h' : RdU w w.heap.size A' n' c' L') (hn : n ≤ 8796093022207) (hn' : n' ≤ 8796093022207) (hle : Dg.val L' ≤ Dg.val L) :
    Calls Tryz.prog 295 #[.slice A n c, .slice A' n' c'] w (RetN (Dg.val L - Dg.val L') w) := by
  have HLEN := Lib.hid h.len
  have HLEN' := Lib.hid h'.len
  have hB0 := (Below.refl w.heap.size w).alloc (Nat.le_refl _) (.cells #[.int .u32 0] 35)
  have hcc : (w.alloc (.cells #[.int .u32 0] 35)).cell? ⟨w.heap.size, 0, none⟩ = some (.int .u32 0) := by go_simp
  have hcf : (w.alloc (.cells #[.int .u32 0] 35)).frozen? ⟨w.heap.size, 0, none⟩ = false := by go_simp
  have HCC := Lib.hid hcc
  have HCF := Lib.hid hcf
  clear hcc hcf
  have hR := h.below hB0
  have hR' := h'.below hB0
  have hsz : w.heap.size < (w.alloc (.cells #[.int .u32 0] 35)).heap.size := by simp
  go_enter Tryz.func295, Tryz.ntmps295
  go_wp2_with fail
  generalize w.alloc (.cells #[.int .u32 0] 35) = W1 at hB0 HCC HCF hR hR' hsz ⊢
  refine (trim_any (B := w.heap.size) hR (by omega)).mono ?_
  rintro _ _ ⟨k, rfl, hk, rfl⟩
  go_wp2_with fail
  refine (trim_any (B := w.heap.size) hR' (by omega)).mono ?_
  rintro _ _ ⟨k', rfl, hk', rfl⟩
  have hkn : k ≤ n := by have := hk.out.1; rw [HLEN.out] at this; exact this
  have hkn' : k' ≤ n' := by have := hk'.out.1; rw [HLEN'.out] at this; exact this
  have hT := hR.take hkn
  have hT' := hR'.take hkn'
  rw [hk.out.2] at hT
  rw [hk'.out.2] at hT'
  go_wp2_with fail
  refine (each_any (R := RSub) (Bc := w.heap.size) (B := w.heap.size) (enters_of Tryz.func302 (by kernel_rfl) rfl) (subStep_any w.heap.size) hT hT' (by omega) (by omega) (Nat.le_refl _) hsz HCC.out HCF.out).mono ?_
  rintro _ W2 ⟨O, q, rfl, hU, hO, hcb, hb2⟩
  have hB2 := hB0.trans hb2
  obtain ⟨m, hm⟩ : ∃ m, m = max k k' := ⟨_, rfl⟩
  rw [← hm] at hO ⊢
  have HM := Lib.hid hm
  have hmb : m ≤ 8796093022207 := by omega
  clear hm
  have hgl := hU.lt
  have hval : Dg.val (O.take m) = Dg.val L - Dg.val L' := by
    have e0 := chain_sub hO.out.2.2.2
    have e1 := Dg.vf_eq_val (L := O.take m) (n := m) (by simp; omega)
    have e2 : Dg.vf (Dg.ld (O.take m)) m = Dg.vf (Dg.ld O) m := Dg.vf_congr fun j hj => by
      rw [Dg.ld_lt (by rw [List.length_take, hO.out.1]; omega), Dg.ld_lt (by rw [hO.out.1]; omega), List.getElem_take]
    rw [Dg.vf_eq_val (L := Dg.dg (Dg.val L)) (by rw [← hk.out.2, List.length_take]; have := HM.out; omega), Dg.vf_eq_val (L := Dg.dg (Dg.val L')) (by rw [← hk'.out.2, List.length_take]; have := HM.out; omega), Dg.val_dg, Dg.val_dg] at e0
    have h5 : Dg.vf (Dg.ld O) m < 4294967296 ^ m := Dg.vf_lt (Dg.ld_word hO.out.2.1) m
    rw [← e1, e2]
    have hq0 : q = 0 ∨ q = 1 := by have := hO.out.2.2.1; omega
    rcases hq0 with rfl | rfl
    · omega
    · omega
  have HV := Lib.hid hval
  clear hval
  have hO3 := hU.rd hO.out.2.1 hgl (k := m) (by rw [hO.out.1]; omega) (by rw [hO.out.1]; unfold maxLen; omega)
  rw [hO.out.1] at hO3
  go_wp2_with fail
  refine (own_any hO3 (by omega)).mono ?_
  rintro _ W4 ⟨A4, m4, c4, x4, rfl, ho4, hx4, hb4⟩
  go_wp2
  go_ret
  exact ⟨_, _, _, _, rfl, ho4.base hB2.size, Lib.hid (hx4.out.trans HV.out), hB2.trans (hb4.mono hB2.size)⟩

set_option maxHeartbeats 400000 in
theorem nSub_any {A A' : Option Addr} {n c n' c' : Nat} {L L' : List Nat} {w : World} (h : RdU w w.heap.size A n c L) (h' : RdU w w.heap.size A' n' c' L') (hn : n ≤ 8796093022207) (hn' : n' ≤ 8796093022207) (hle : Dg.val L' ≤ Dg.val L) :
    Calls Tryz.prog 281 #[.slice A n c, .slice A' n' c'] w fun e w' => ∃ (A : Option Addr) (m c x : Nat), e = .returned (.tuple #[.slice A m c, .int .i64 0]) ∧ OwU w' w.heap.size A m c (Dg.dg x) ∧ Hid (x = Dg.val L - Dg.val L') ∧ Below w.heap.size w w' := by
  go_enter Tryz.func281, Tryz.ntmps281
  go_wp2_with fail
  refine (cmp_any h h' (by omega) (by omega)).mono ?_
  rintro _ _ ⟨z, rfl, hz, j, rfl⟩
  have hz0 : ¬ z < 0 := by
    rw [hz.out]
    unfold Dg.cmp
    split
    · omega
    · split <;> omega
  have hBj : Below w.heap.size w (w.drewN j) := ⟨rfl, rfl, rfl, Nat.le_refl _, fun _ _ => rfl⟩
  go_wp2_with fail
  refine (less_any (h.drewN j) (h'.drewN j) hn hn' hle).mono ?_
  rintro _ W4 ⟨A4, m4, c4, x4, rfl, ho4, hx4, hb4⟩
  go_wp2
  go_ret2
  exact ⟨_, _, _, _, rfl, ho4, hx4, hBj.trans hb4⟩
end Go.Proofs.YtipbpdiahemmpaaGreat
