/- The reference's natural numbers, fifth part: the half. -/
import Derived.Test.YtipbpdiahemmpaaGreatN13
namespace Go.Proofs.YtipbpdiahemmpaaGreat
open Go.RowKit Go.IntWalk

theorem half_dig (x y : Nat) (hx : x < 4294967296) : (x + 4294967296 * y) / 2 ^ 1 % 4294967296 = x / 2 + y % 2 * 2147483648 := by
  simp only [Nat.pow_one]
  omega
set_option maxRecDepth 100000 in
set_option maxHeartbeats 2000000 in
theorem half_any {A : Option Addr} {n c : Nat} {L : List Nat} {w : World} (h : RdU w w.heap.size A n c L) (hn : n ≤ 8796093022207) :
    Calls Tryz.prog 275 #[.slice A n c] w (RetN (Dg.val L / 2) w) := by
  have HLEN := Lib.hid h.len
  have hmk := make_nat n (by omega)
  have hB0 := (Below.refl w.heap.size w).alloc (Nat.le_refl _) (.cells (madeCells #[.int .u32 0] n) 35)
  have hU0 := UB.made w n
  go_enter Tryz.func275, Tryz.ntmps275
  go_wp2_with fail
  generalize w.alloc (.cells (madeCells #[.int .u32 0] n) 35) = W1 at hB0 hU0 ⊢
  clear hmk
  obtain ⟨g, hg⟩ : ∃ g, g = w.heap.size := ⟨_, rfl⟩
  rw [← hg] at hU0 ⊢
  have HG := Lib.hid hg
  clear hg
  go_wp2_with fail
  go_loopw [10] (fun iv wr => ∃ (k : Nat) (O : List Nat), iv = .int .i64 k ∧ k ≤ n ∧ UB wr g O ∧ Hid (O.length = n ∧ Dg.Wd O ∧ ∀ z, z < k → Dg.ld O z = Dg.val L / 2 ^ 1 / 4294967296 ^ z % 4294967296) ∧ Below w.heap.size w wr) (fun iv _ => n - (intOf iv).toNat)
  case atStart => exact ⟨0, _, rfl, Nat.zero_le _, hU0, Lib.hid ⟨by simp, Dg.Wd.zeros _, fun z hz => by omega⟩, hB0⟩
  case round =>
    clear hU0 hB0
    obtain ⟨k, O, rfl, hk, hU, hO, hB⟩ := hrel
    by_cases hkm : k < n
    · have hcell := hU.cell (Dg.get_of_ld (L := O) (i := k) (by rw [hO.out.1]; exact hkm))
      generalize Dg.ld O k = o0 at hcell
      have hfz := hU.frozen k
      go_wp2_with fail
      refine (limb_any (h.below hB) k rfl (by omega)).mono ?_
      rintro _ _ ⟨x, rfl, hx, rfl⟩
      go_wp2_with fail
      refine (limb_any (h.below hB) (k + 1) (by omega) (by omega)).mono ?_
      rintro _ _ ⟨y, rfl, hy, rfl⟩
      have hxl : x < 4294967296 := by rw [hx.out]; exact Dg.ld_word h.wd k
      have hyl : y < 4294967296 := by rw [hy.out]; exact Dg.ld_word h.wd _
      have hrd := Dg.right_dig h.wd (i := k) (s := 1) (by rw [HLEN.out]; exact hkm) (pow_dvd32 (by omega))
      rw [← hx.out, ← hy.out, half_dig x y hxl] at hrd
      obtain ⟨d, hd⟩ : ∃ d, d = x / 2 + y % 2 * 2147483648 := ⟨_, rfl⟩
      rw [← hd] at hrd
      have hdl : d < 4294967296 := by omega
      have hdI : (x : Int) / 2 + (y : Int) % 2 * 2147483648 = (d : Int) := by omega
      have hU1 : UB (wr.setCell ⟨g, k, none⟩ (.int .u32 ((x : Int) / 2 + (y : Int) % 2 * 2147483648))) g (O.set k d) := by
        rw [hdI]; exact hU.set k _
      have hB1 := hB.setCell (p := ⟨g, k, none⟩) (by show w.heap.size ≤ g; have := HG.out; omega) (.int .u32 ((x : Int) / 2 + (y : Int) % 2 * 2147483648))
      have HRD := Lib.hid hrd
      clear hd hrd hdI
      go_wp2
      go_roundw
      case rel => exact ⟨k + 1, _, by go_num, by omega, hU1, Lib.hid ⟨by rw [List.length_set]; exact hO.out.1, hO.out.2.1.set k hdl, fun z hz => by
        rcases Nat.lt_or_ge z k with h1 | h1
        · rw [Dg.ld_set_other d (by omega)]; exact hO.out.2.2 z h1
        · obtain rfl : z = k := by omega
          rw [Dg.ld_set_same d (by rw [hO.out.1]; omega)]; exact HRD.out⟩, hB1⟩
      case measure => simp [intOf]; omega
    · obtain rfl : k = n := by omega
      have HV := Lib.hid (Dg.right_val h.wd (s := 1) HLEN.out hO.out.1 hO.out.2.2)
      have hO3 := hU.rd hO.out.2.1 hU.lt (k := k) (by rw [hO.out.1]; exact Nat.le_refl _) (by rw [hO.out.1]; unfold maxLen; omega)
      rw [hO.out.1, List.take_of_length_le (by rw [hO.out.1]; exact Nat.le_refl _)] at hO3
      go_wp2_with fail
      refine (refNorm_any hO3 (by omega)).mono ?_
      rintro _ W4 ⟨A4, m4, c4, x4, rfl, ho4, hx4, hb4⟩
      go_wp2
      go_ret
      exact ⟨_, _, _, _, rfl, ho4.base hB.size, Lib.hid (hx4.out.trans (by rw [HV.out, Nat.pow_one])), hB.trans (hb4.mono hB.size)⟩
end Go.Proofs.YtipbpdiahemmpaaGreat
