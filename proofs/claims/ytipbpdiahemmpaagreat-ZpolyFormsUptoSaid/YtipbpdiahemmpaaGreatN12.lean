/- The reference's natural numbers, third part: the difference, times a word, the half. -/
import Derived.Test.YtipbpdiahemmpaaGreatN11
import Derived.Test.YtipbpdiahemmpaaGreatN8
import Derived.Test.YtipbpdiahemmpaaGreatKn
namespace Go.Proofs.YtipbpdiahemmpaaGreat
open Go.RowKit Go.IntWalk

/-- One step of the difference. -/
theorem rsub_step {O a b : List Nat} {k q q' d : Nat} (hk : k < O.length) (hI : Dg.vf (Dg.ld O) k + Dg.vf (Dg.ld b) k = Dg.vf (Dg.ld a) k + q * 4294967296 ^ k) (hs : d + Dg.ld b k + q = Dg.ld a k + 4294967296 * q') :
    Dg.vf (Dg.ld (O.set k d)) (k + 1) + Dg.vf (Dg.ld b) (k + 1) = Dg.vf (Dg.ld a) (k + 1) + q' * 4294967296 ^ (k + 1) := by
  rw [Dg.vf_succ, Dg.vf_succ, Dg.vf_succ, Dg.ld_set_same _ hk, Dg.vf_set _ (Nat.le_refl k), Nat.pow_succ]
  have h3 : (d + Dg.ld b k + q) * 4294967296 ^ k = (Dg.ld a k + 4294967296 * q') * 4294967296 ^ k := by rw [hs]
  generalize 4294967296 ^ k = B at *
  grind
/-- One step of a product by a word. -/
theorem rsmall_step {O a : List Nat} {k q z s : Nat} (hk : k < O.length) (hI : Dg.vf (Dg.ld O) k + q * 4294967296 ^ k = Dg.vf (Dg.ld a) k * z) (hs : s = Dg.ld a k * z + q) :
    Dg.vf (Dg.ld (O.set k (s % 4294967296))) (k + 1) + s / 4294967296 * 4294967296 ^ (k + 1) = Dg.vf (Dg.ld a) (k + 1) * z := by
  rw [Dg.vf_succ, Dg.vf_succ, Dg.ld_set_same _ hk, Dg.vf_set _ (Nat.le_refl k), Nat.pow_succ]
  have h := Nat.div_add_mod s 4294967296
  have h3 : (4294967296 * (s / 4294967296) + s % 4294967296) * 4294967296 ^ k = (Dg.ld a k * z + q) * 4294967296 ^ k := by rw [h, hs]
  generalize s / 4294967296 = x at *
  generalize s % 4294967296 = y at *
  generalize 4294967296 ^ k = B at *
  grind

set_option maxRecDepth 100000 in
set_option maxHeartbeats 2000000 in
theorem refNSub_any {A A' : Option Addr} {n c n' c' : Nat} {L L' : List Nat} {w : World} (h : RdU w w.heap.size A n c L) (h' : RdU w w.heap.size A' n' c' L') (hn : n ≤ 8796093022207) (hle : Dg.val L' ≤ Dg.val L) :
    Calls Tryz.prog 259 #[.slice A n c, .slice A' n' c'] w (RetN (Dg.val L - Dg.val L') w) := by
  have HLEN := Lib.hid h.len
  have hmk := make_nat n (by omega)
  have hB0 := (Below.refl w.heap.size w).alloc (Nat.le_refl _) (.cells (madeCells #[.int .u32 0] (n)) 35)
  have hU0 := UB.made w (n)
  go_enter Tryz.func259, Tryz.ntmps259
  go_wp2_with fail
  generalize w.alloc (.cells (madeCells #[.int .u32 0] (n)) 35) = W1 at hB0 hU0 ⊢
  clear hmk
  obtain ⟨g, hg⟩ : ∃ g, g = w.heap.size := ⟨_, rfl⟩
  rw [← hg] at hU0 ⊢
  have HG := Lib.hid hg
  clear hg
  go_wp2_with fail
  go_loopw [6, 14] (fun qv iv wr => ∃ (k q : Nat) (O : List Nat), iv = .int .i64 k ∧ qv = .int .u64 q ∧ k ≤ n ∧ q ≤ 1 ∧ UB wr g O ∧ Hid (O.length = n ∧ Dg.Wd O ∧ Dg.vf (Dg.ld O) k + Dg.vf (Dg.ld L') k = Dg.vf (Dg.ld L) k + q * 4294967296 ^ k) ∧ Below w.heap.size w wr) (fun _ iv _ => n - (intOf iv).toNat)
  case atStart => exact ⟨0, 0, _, rfl, rfl, Nat.zero_le _, by omega, hU0, Lib.hid ⟨by simp, Dg.Wd.zeros _, by simp [Dg.vf]⟩, hB0⟩
  case round =>
    clear hU0 hB0
    obtain ⟨k, q, O, rfl, rfl, hk, hq, hU, hO, hB⟩ := hrel
    by_cases hkm : k < n
    · have hcell := hU.cell (Dg.get_of_ld (L := O) (i := k) (by rw [hO.out.1]; exact hkm))
      generalize Dg.ld O k = o0 at hcell
      have hfz := hU.frozen k
      go_wp2_with fail
      refine (limb_any (h.below hB) k rfl (by omega)).mono ?_
      rintro _ _ ⟨x, rfl, hx, rfl⟩
      go_wp2_with fail
      refine (limb_any (h'.below hB) k rfl (by omega)).mono ?_
      rintro _ _ ⟨y, rfl, hy, rfl⟩
      have hxl : x < 4294967296 := by rw [hx.out]; exact Dg.ld_word h.wd k
      have hyl : y < 4294967296 := by rw [hy.out]; exact Dg.ld_word h'.wd k
      obtain ⟨s, hs⟩ : ∃ s, s = 4294967296 + x - y - q := ⟨_, rfl⟩
      have HST := Lib.hid (rsub_step (O := O) (by rw [hO.out.1]; exact hkm) hO.out.2.2 (d := s % 4294967296) (q' := 1 - s / 4294967296) (by rw [← hx.out, ← hy.out]; omega))
      have hU1 : UB (wr.setCell ⟨g, k, none⟩ (.int .u32 ((4294967296 + (x : Int) - y - q) % 4294967296))) g (O.set k (s % 4294967296)) := by
        rw [show (4294967296 + (x : Int) - y - q) % 4294967296 = ((s % 4294967296 : Nat) : Int) by omega]; exact hU.set k _
      have hB1 := hB.setCell (p := ⟨g, k, none⟩) (by show w.heap.size ≤ g; have := HG.out; omega) (.int .u32 ((4294967296 + (x : Int) - y - q) % 4294967296))
      have HS := Lib.hid hs
      clear hs
      go_wp2
      go_roundw
      case rel => exact ⟨k + 1, 1 - s / 4294967296, _, by go_num, int_i (by have := HS.out; omega), by omega, by omega, hU1, Lib.hid ⟨by rw [List.length_set]; exact hO.out.1, hO.out.2.1.set k (Nat.mod_lt _ (by omega)), HST.out⟩, hB1⟩
      case measure => simp [intOf]; omega
    · obtain rfl : k = n := by omega
      have hq0 : Dg.val O = Dg.val L - Dg.val L' := by
        have e := hO.out.2.2
        have h1 : Dg.val L < 4294967296 ^ k := by have := Dg.val_lt h.wd; rwa [HLEN.out] at this
        have h2 : Dg.vf (Dg.ld L') k = Dg.val L' := by
          have e1 := Dg.vf_eq_val (L := L') (n := k + L'.length) (by omega)
          rw [← e1]
          exact (Dg.vf_cut (by omega) (fun x a b => Dg.zero_above (f := Dg.ld L') (M := k + L'.length) (by rw [e1]; omega) a b)).symm
        rw [h2, Dg.vf_eq_val (by rw [hO.out.1]; exact Nat.le_refl _), Dg.vf_eq_val (L := L) (by rw [HLEN.out]; exact Nat.le_refl _)] at e
        have h3 := Dg.val_lt hO.out.2.1
        rw [hO.out.1] at h3
        generalize 4294967296 ^ k = B at *
        have hq2 : q = 0 ∨ q = 1 := by omega
        rcases hq2 with rfl | rfl <;> omega
      have HV := Lib.hid hq0
      clear hq0
      have hO3 := hU.rd hO.out.2.1 hU.lt (k := k) (by rw [hO.out.1]; exact Nat.le_refl _) (by rw [hO.out.1]; unfold maxLen; omega)
      rw [hO.out.1, List.take_of_length_le (by rw [hO.out.1]; exact Nat.le_refl _)] at hO3
      go_wp2_with fail
      refine (refNorm_any hO3 (by omega)).mono ?_
      rintro _ W4 ⟨A4, m4, c4, x4, rfl, ho4, hx4, hb4⟩
      go_wp2
      go_ret
      exact ⟨_, _, _, _, rfl, ho4.base hB.size, Lib.hid (hx4.out.trans HV.out), hB.trans (hb4.mono hB.size)⟩

set_option maxRecDepth 100000 in
set_option maxHeartbeats 2000000 in
theorem refSmall_any (z : Nat) {A : Option Addr} {n c : Nat} {L : List Nat} {w : World} (h : RdU w w.heap.size A n c L) (hn : n ≤ 8796093022207) (hz : z < 4294967296) :
    Calls Tryz.prog 273 #[.slice A n c, .int .u32 z] w (RetN (Dg.val L * z) w) := by
  have HLEN := Lib.hid h.len
  have hmk := make_one n (by omega)
  have hB0 := (Below.refl w.heap.size w).alloc (Nat.le_refl _) (.cells (madeCells #[.int .u32 0] (n + 1)) 35)
  have hU0 := UB.made w (n + 1)
  go_enter Tryz.func273, Tryz.ntmps273
  go_wp2_with fail
  generalize w.alloc (.cells (madeCells #[.int .u32 0] (n + 1)) 35) = W1 at hB0 hU0 ⊢
  clear hmk
  obtain ⟨g, hg⟩ : ∃ g, g = w.heap.size := ⟨_, rfl⟩
  rw [← hg] at hU0 ⊢
  have HG := Lib.hid hg
  clear hg
  go_wp2_with fail
  go_loopw [6, 15] (fun qv iv wr => ∃ (k q : Nat) (O : List Nat), iv = .int .i64 k ∧ qv = .int .u64 q ∧ k ≤ n + 1 ∧ q < 4294967296 ∧ UB wr g O ∧ Hid (O.length = n + 1 ∧ Dg.Wd O ∧ Dg.vf (Dg.ld O) k + q * 4294967296 ^ k = Dg.vf (Dg.ld L) k * z) ∧ Below w.heap.size w wr) (fun _ iv _ => n + 1 - (intOf iv).toNat)
  case atStart => exact ⟨0, 0, _, rfl, rfl, Nat.zero_le _, by omega, hU0, Lib.hid ⟨by simp, Dg.Wd.zeros _, by simp [Dg.vf]⟩, hB0⟩
  case round =>
    clear hU0 hB0
    obtain ⟨k, q, O, rfl, rfl, hk, hq, hU, hO, hB⟩ := hrel
    by_cases hkm : k < n + 1
    · have hcell := hU.cell (Dg.get_of_ld (L := O) (i := k) (by rw [hO.out.1]; exact hkm))
      generalize Dg.ld O k = o0 at hcell
      have hfz := hU.frozen k
      go_wp2_with fail
      refine (limb_any (h.below hB) k rfl (by omega)).mono ?_
      rintro _ _ ⟨x, rfl, hx, rfl⟩
      have hxl : x < 4294967296 := by rw [hx.out]; exact Dg.ld_word h.wd k
      have hxz := Nat.mul_le_mul (show x ≤ 4294967295 by omega) (show z ≤ 4294967295 by omega)
      obtain ⟨pv, hpv⟩ : ∃ pv, pv = x * z := ⟨_, rfl⟩
      obtain ⟨s, hs⟩ : ∃ s, s = pv + q := ⟨_, rfl⟩
      rw [← hpv] at hxz
      have hmul : IntKind.u64.wrap ((x : Int) * z) = (pv : Int) := by
        rw [hpv, show (x : Int) * z = ((x * z : Nat) : Int) from (Int.natCast_mul x z).symm, ← hpv, u64_in _ (by omega)]
      have hadd : IntKind.u64.wrap ((pv : Int) + q) = (s : Int) := by rw [hs, u64_in _ (by omega)]; simp
      have HST := Lib.hid (rsmall_step (O := O) (z := z) (by rw [hO.out.1]; exact hkm) hO.out.2.2 (s := s) (by rw [hs, hpv, hx.out]))
      have hcl : s / 4294967296 < 4294967296 := by omega
      have hdm : (s : Int) % 4294967296 = ((s % 4294967296 : Nat) : Int) := by omega
      have hdd : (s : Int) / 4294967296 = ((s / 4294967296 : Nat) : Int) := by omega
      have hU1 : UB (wr.setCell ⟨g, k, none⟩ (.int .u32 ((s : Int) % 4294967296))) g (O.set k (s % 4294967296)) := by
        rw [hdm]; exact hU.set k _
      have hB1 := hB.setCell (p := ⟨g, k, none⟩) (by show w.heap.size ≤ g; have := HG.out; omega) (.int .u32 ((s : Int) % 4294967296))
      have HDD := Lib.hid hdd
      have HCL := Lib.hid hcl
      clear hs hpv hxz hdm hdd hcl
      go_wp2
      go_roundw
      case rel => exact ⟨k + 1, s / 4294967296, _, by go_num, int_i (by rw [HDD.out, u64_in _ (by have := HCL.out; omega)]), by omega, HCL.out, hU1, Lib.hid ⟨by rw [List.length_set]; exact hO.out.1, hO.out.2.1.set k (Nat.mod_lt _ (by omega)), HST.out⟩, hB1⟩
      case measure => simp [intOf]; omega
    · obtain rfl : k = n + 1 := by omega
      have hq0 : Dg.val O = Dg.val L * z := by
        have e := hO.out.2.2
        have h1 : Dg.val L < 4294967296 ^ n := by have := Dg.val_lt h.wd; rwa [HLEN.out] at this
        rw [Dg.vf_eq_val (by rw [hO.out.1]; exact Nat.le_refl _), Dg.vf_eq_val (L := L) (by rw [HLEN.out]; omega)] at e
        have h2 : Dg.val L * z < 4294967296 ^ (n + 1) := by
          rw [Nat.pow_succ]
          exact Nat.mul_lt_mul_of_lt_of_le h1 (Nat.le_of_lt hz) (by omega)
        generalize 4294967296 ^ (n + 1) = B at *
        have hq2 : q = 0 := by
          rcases Nat.eq_zero_or_pos q with h3 | h3
          · exact h3
          · have := Nat.mul_le_mul_right B h3
            omega
        rw [hq2] at e
        omega
      have HV := Lib.hid hq0
      clear hq0
      have hO3 := hU.rd hO.out.2.1 hU.lt (k := n + 1) (by rw [hO.out.1]; exact Nat.le_refl _) (by rw [hO.out.1]; unfold maxLen; omega)
      rw [hO.out.1, List.take_of_length_le (by rw [hO.out.1]; exact Nat.le_refl _)] at hO3
      go_wp2_with fail
      refine (refNorm_any hO3 (by omega)).mono ?_
      rintro _ W4 ⟨A4, m4, c4, x4, rfl, ho4, hx4, hb4⟩
      go_wp2
      go_ret
      exact ⟨_, _, _, _, rfl, ho4.base hB.size, Lib.hid (hx4.out.trans HV.out), hB.trans (hb4.mono hB.size)⟩
end Go.Proofs.YtipbpdiahemmpaaGreat
