/- The reference's natural numbers, second part: the sum, the difference, times a word. -/
import Derived.Test.YtipbpdiahemmpaaGreatN10
import Derived.Test.YtipbpdiahemmpaaGreatN3
import Derived.Deep.CutRange
namespace Go.Proofs.YtipbpdiahemmpaaGreat
open Go.RowKit Go.IntWalk

theorem make_one (n : Nat) (hn : n ≤ 17592186044415) (w : World) :
    (Instr.makeSlice 26 (.int .i64 ((n : Int) + 1)) (.int .i64 ((n : Int) + 1))).run Tryz.prog w = .ok (.slice (some ⟨w.heap.size, 0, none⟩) (n + 1) (n + 1)) (w.alloc (.cells (madeCells #[.int .u32 0] (n + 1)) 35)) := make_nat (n + 1) (by omega) w

/-- One step of the sum. -/
theorem radd_step {O a b : List Nat} {k q s : Nat} (hk : k < O.length) (hI : Dg.vf (Dg.ld O) k + q * 4294967296 ^ k = Dg.vf (Dg.ld a) k + Dg.vf (Dg.ld b) k) (hs : s = Dg.ld a k + Dg.ld b k + q) :
    Dg.vf (Dg.ld (O.set k (s % 4294967296))) (k + 1) + s / 4294967296 * 4294967296 ^ (k + 1) = Dg.vf (Dg.ld a) (k + 1) + Dg.vf (Dg.ld b) (k + 1) := by
  rw [Dg.vf_succ, Dg.vf_succ, Dg.vf_succ, Dg.ld_set_same _ hk, Dg.vf_set _ (Nat.le_refl k), Nat.pow_succ]
  have h := Nat.div_add_mod s 4294967296
  have h3 : (4294967296 * (s / 4294967296) + s % 4294967296) * 4294967296 ^ k = (Dg.ld a k + Dg.ld b k + q) * 4294967296 ^ k := by rw [h, hs]
  generalize s / 4294967296 = x at *
  generalize s % 4294967296 = y at *
  generalize 4294967296 ^ k = B at *
  grind

set_option maxRecDepth 100000 in
set_option maxHeartbeats 2000000 in
theorem refAdd1_any {A A' : Option Addr} {n c n' c' : Nat} {L L' : List Nat} {w : World} (h : RdU w w.heap.size A n c L) (h' : RdU w w.heap.size A' n' c' L') (hn : n ≤ 8796093022207) (hn' : n' ≤ 8796093022207) :
    Calls Tryz.prog 257 #[.slice A n c, .slice A' n' c'] w (RetN (Dg.val L + Dg.val L') w) := by
  have HLEN := Lib.hid h.len
  have HLEN' := Lib.hid h'.len
  obtain ⟨m, hm⟩ : ∃ m, m = max n n' := ⟨_, rfl⟩
  have hmk := make_one m (by omega)
  have hB0 := (Below.refl w.heap.size w).alloc (Nat.le_refl _) (.cells (madeCells #[.int .u32 0] (m + 1)) 35)
  have hU0 := UB.made w (m + 1)
  have hmb : m ≤ 8796093022207 := by omega
  have HM := Lib.hid hm
  go_enter Tryz.func257, Tryz.ntmps257
  go_upto_if 15 with fail
  go_cut [5] from 7 (fun v wx => v = .int .i64 m ∧ wx = w)
  case first =>
    by_cases hlt : n < n'
    · have e : m = n' := by omega
      clear hm
      subst e
      go_wp2
      go_meet
      exact ⟨rfl, rfl⟩
    · have e : m = n := by omega
      clear hm
      subst e
      go_wp2
      go_meet
      exact ⟨rfl, rfl⟩
  case rest =>
    obtain ⟨rfl, rfl⟩ := hcut
    clear hm
    go_wp2_with fail
    generalize wc.alloc (.cells (madeCells #[.int .u32 0] (m + 1)) 35) = W1 at hB0 hU0 ⊢
    clear hmk
    obtain ⟨g, hg⟩ : ∃ g, g = wc.heap.size := ⟨_, rfl⟩
    rw [← hg] at hU0 ⊢
    have HG := Lib.hid hg
    clear hg
    go_wp2_with fail
    go_loopw [7, 23] (fun qv iv wr => ∃ (k q : Nat) (O : List Nat), iv = .int .i64 k ∧ qv = .int .u64 q ∧ k ≤ m + 1 ∧ q ≤ 1 ∧ UB wr g O ∧ Hid (O.length = m + 1 ∧ Dg.Wd O ∧ Dg.vf (Dg.ld O) k + q * 4294967296 ^ k = Dg.vf (Dg.ld L) k + Dg.vf (Dg.ld L') k) ∧ Below wc.heap.size wc wr) (fun _ iv _ => m + 1 - (intOf iv).toNat)
    case atStart => exact ⟨0, 0, _, rfl, rfl, Nat.zero_le _, by omega, hU0, Lib.hid ⟨by simp, Dg.Wd.zeros _, by simp [Dg.vf]⟩, hB0⟩
    case round =>
      clear hU0 hB0
      obtain ⟨k, q, O, rfl, rfl, hk, hq, hU, hO, hB⟩ := hrel
      by_cases hkm : k < m + 1
      · have hcell := hU.cell (Dg.get_of_ld (L := O) (i := k) (by rw [hO.out.1]; exact hkm))
        generalize Dg.ld O k = o0 at hcell
        have hfz := hU.frozen k
        go_wp2_with fail
        refine (limb_any (h.below hB) k rfl (by omega)).mono ?_
        rintro _ _ ⟨x, rfl, hx, rfl⟩
        go_wp2_with fail
        refine (limb_any (h'.below hB) k rfl (by omega)).mono ?_
        rintro _ _ ⟨y, rfl, hy, rfl⟩
        have hxl : x < 4294967296 := by rw [hx.out]; exact Dg.ld_word h.wd k
        have hyl : y < 4294967296 := by rw [hy.out]; exact Dg.ld_word h'.wd k
        obtain ⟨s, hs⟩ : ∃ s, s = x + y + q := ⟨_, rfl⟩
        have hst := radd_step (O := O) (by rw [hO.out.1]; exact hkm) hO.out.2.2 (s := s) (by rw [hs, hx.out, hy.out])
        have HST := Lib.hid hst
        have hU1 : UB (wr.setCell ⟨g, k, none⟩ (.int .u32 (((x : Int) + y + q) % 4294967296))) g (O.set k (s % 4294967296)) := by
          rw [show ((x : Int) + y + q) % 4294967296 = ((s % 4294967296 : Nat) : Int) by omega]; exact hU.set k _
        have hB1 := hB.setCell (p := ⟨g, k, none⟩) (by show wc.heap.size ≤ g; have := HG.out; omega) (.int .u32 (((x : Int) + y + q) % 4294967296))
        have HS := Lib.hid hs
        clear hs hst
        go_wp2
        go_roundw
        case rel => exact ⟨k + 1, s / 4294967296, _, by go_num, int_i (by have := HS.out; omega), by omega, by have := HS.out; omega, hU1, Lib.hid ⟨by rw [List.length_set]; exact hO.out.1, hO.out.2.1.set k (Nat.mod_lt _ (by omega)), HST.out⟩, hB1⟩
        case measure => simp [intOf]; omega
      · obtain rfl : k = m + 1 := by omega
        have hq0 : Dg.val O = Dg.val L + Dg.val L' := by
          have e := hO.out.2.2
          rw [Dg.vf_eq_val (by rw [hO.out.1]; exact Nat.le_refl _), Dg.vf_eq_val (L := L) (by rw [HLEN.out]; have := HM.out; omega), Dg.vf_eq_val (L := L') (by rw [HLEN'.out]; have := HM.out; omega)] at e
          have h1 : Dg.val L < 4294967296 ^ m := Nat.lt_of_lt_of_le (Dg.val_lt h.wd) (Nat.pow_le_pow_right (by omega) (by rw [HLEN.out]; have := HM.out; omega))
          have h2 : Dg.val L' < 4294967296 ^ m := Nat.lt_of_lt_of_le (Dg.val_lt h'.wd) (Nat.pow_le_pow_right (by omega) (by rw [HLEN'.out]; have := HM.out; omega))
          rw [Nat.pow_succ] at e
          generalize 4294967296 ^ m = B at *
          have hq2 : q = 0 ∨ q = 1 := by omega
          rcases hq2 with rfl | rfl <;> omega
        have HV := Lib.hid hq0
        clear hq0
        have hO3 := hU.rd hO.out.2.1 hU.lt (k := m + 1) (by rw [hO.out.1]; exact Nat.le_refl _) (by rw [hO.out.1]; unfold maxLen; omega)
        rw [hO.out.1, List.take_of_length_le (by rw [hO.out.1]; exact Nat.le_refl _)] at hO3
        go_wp2_with fail
        refine (refNorm_any hO3 (by omega)).mono ?_
        rintro _ W4 ⟨A4, m4, c4, x4, rfl, ho4, hx4, hb4⟩
        go_wp2
        go_ret
        exact ⟨_, _, _, _, rfl, ho4.base hB.size, Lib.hid (hx4.out.trans HV.out), hB.trans (hb4.mono hB.size)⟩
end Go.Proofs.YtipbpdiahemmpaaGreat
