/- nat: shifted back. -/
import Derived.Test.YtipbpdiahemmpaaGreatN7
namespace Go.Proofs.YtipbpdiahemmpaaGreat
open Go.RowKit Go.IntWalk

theorem or_hi (x y : Nat) (hx : x < 4294967296) (hy : y < 4294967296) : bits .or .u64 (x : Int) ((y : Int) * 4294967296) = ((x + 4294967296 * y : Nat) : Int) := by
  have e : (y : Int) * 4294967296 = ((y * 4294967296 : Nat) : Int) := by simp
  rw [e, u64_or_nat _ _ (by omega) (by omega), Nat.or_comm, nat_join 32 _ _ (by rw [show (2 : Nat) ^ 32 = 4294967296 from rfl]; omega) (by rw [show (2 : Nat) ^ 32 = 4294967296 from rfl]; exact hx)]
  congr 1
  omega

set_option maxHeartbeats 4000000 in
theorem right_any (s : Nat) {A : Option Addr} {n c : Nat} {L : List Nat} {w : World} (h : RdU w w.heap.size A n c L) (hn : n ≤ 8796093022207) (hs : s < 32) :
    Calls Tryz.prog 301 #[.slice A n c, .int .i64 s] w fun e w' => ∃ (A : Option Addr) (m c x : Nat), e = .returned (.tuple #[.slice A m c, .int .i64 0]) ∧ OwU w' w.heap.size A m c (Dg.dg x) ∧ Hid (x = Dg.val L / 2 ^ s) ∧ Below w.heap.size w w' := by
  have HLEN := Lib.hid h.len
  have hsr : ((s : Int)).tdiv 32 = 0 := by rw [Int.tdiv_eq_ediv_of_nonneg (by omega)]; omega
  have hsm : ((s : Int)).tmod 32 = s := by rw [Int.tmod_eq_emod_of_nonneg (by omega)]; omega
  go_enter Tryz.func301, Tryz.ntmps301
  go_wp2_with fail
  refine (trim_any h (by omega)).mono ?_
  rintro _ _ ⟨k, rfl, hk, rfl⟩
  have hkn : k ≤ n := by have := hk.out.1; rw [HLEN.out] at this; exact this
  have hT := h.take hkn
  rw [hk.out.2] at hT
  rcases Nat.eq_zero_or_pos k with h0 | h0
  · subst h0
    have hz := Dg.dg_nil.1 (hk.out.2.symm.trans (List.take_zero))
    have HZ := Lib.hid hz
    clear hz
    go_wp2
    go_ret2
    exact ⟨none, 0, 0, 0, rfl, by rw [Dg.dg_zero]; exact OwU.nil w _, Lib.hid (by rw [HZ.out]; simp), Below.refl _ _⟩
  · have hmk := make_nat k (by omega)
    have hB0 := (Below.refl w.heap.size w).alloc (Nat.le_refl _) (.cells (madeCells #[.int .u32 0] k) 35)
    have hU0 := UB.made w k
    have hck := hT.le
    have hc0 : ¬ c = 0 := by omega
    have hkl := hT.len
    obtain ⟨_, ad, rfl, hbx, _⟩ := hT.at_ 0 (Dg.ld (Dg.dg (Dg.val L)) 0) (Dg.get_of_ld (by omega))
    have HKL := Lib.hid hkl
    clear hkl
    go_wp2_with fail
    generalize w.alloc (.cells (madeCells #[.int .u32 0] k) 35) = W1 at hB0 hU0 ⊢
    clear hmk
    obtain ⟨g, hg⟩ : ∃ g, g = w.heap.size := ⟨_, rfl⟩
    rw [← hg] at hU0 ⊢
    have HG := Lib.hid hg
    clear hg
    go_wp2_with fail
    go_loopw [28] (fun i wr => ∃ (j : Nat) (O : List Nat), i = .int .i64 j ∧ j ≤ k ∧ UB wr g O ∧ Hid (O.length = k ∧ Dg.Wd O ∧ ∀ z, z < j → Dg.ld O z = Dg.val L / 2 ^ s / 4294967296 ^ z % 4294967296) ∧ Below w.heap.size w wr) (fun i _ => k - (intOf i).toNat)
    case atStart => exact ⟨0, _, rfl, Nat.zero_le _, hU0, Lib.hid ⟨by simp, Dg.Wd.zeros _, fun z hz => by omega⟩, hB0⟩
    case round =>
      clear hU0 hB0
      obtain ⟨j, O, rfl, hj, hU, hO, hB⟩ := hrel
      by_cases hjk : j < k
      · obtain ⟨hx, _, e1, _, hcx⟩ := hT.at_ j (Dg.ld (Dg.dg (Dg.val L)) j) (Dg.get_of_ld (by rw [HKL.out]; exact hjk))
        injection e1 with e1
        subst e1
        have hcx := (hB.cell (p := ad.add j) (by rw [add_blk]; exact hbx)).trans hcx
        have hrd : (Dg.ld (Dg.dg (Dg.val L)) j + 4294967296 * Dg.ld (Dg.dg (Dg.val L)) (j + 1)) / 2 ^ s % 4294967296 = Dg.val L / 2 ^ s / 4294967296 ^ j % 4294967296 := by
          have := Dg.right_dig (Dg.dg_wd (Dg.val L)) (i := j) (s := s) (by rw [HKL.out]; exact hjk) (pow_dvd32 hs)
          rwa [Dg.val_dg] at this
        have hcell := hU.cell (Dg.get_of_ld (L := O) (i := j) (by rw [hO.out.1]; omega))
        generalize Dg.ld O j = o0 at hcell
        have hfz := hU.frozen j
        by_cases hj1 : j + 1 < k
        · obtain ⟨hy, _, e1, _, hcy⟩ := hT.at_ (j + 1) (Dg.ld (Dg.dg (Dg.val L)) (j + 1)) (Dg.get_of_ld (by rw [HKL.out]; exact hj1))
          injection e1 with e1
          subst e1
          have hcy := (hB.cell (p := ad.add (j + 1)) (by rw [add_blk]; exact hbx)).trans hcy
          generalize Dg.ld (Dg.dg (Dg.val L)) (j + 1) = y at hy hcy hrd
          simp [Addr.add] at hcy
          generalize Dg.ld (Dg.dg (Dg.val L)) j = x at hx hcx hrd
          have HRD := Lib.hid hrd
          have hor : bits .or .u64 (x : Int) ((y : Int) * 4294967296) = (x : Int) + 4294967296 * y := by rw [or_hi x y hx hy]; simp
          clear hrd
          obtain ⟨dg, hdg⟩ : ∃ dg, dg = (x + 4294967296 * y) / 2 ^ s % 4294967296 := ⟨_, rfl⟩
          have HDG := Lib.hid hdg
          have hdl : dg < 4294967296 := by rw [hdg]; exact Nat.mod_lt _ (by omega)
          have hV : (((x : Int) + 4294967296 * y) / 2 ^ s % 4294967296) = (dg : Int) := by rw [hdg]; simp
          have hU1 : UB (wr.setCell ⟨g, j, none⟩ (.int .u32 (((x : Int) + 4294967296 * y) / 2 ^ s % 4294967296))) g (O.set j dg) := by rw [hV]; exact hU.set j dg
          have hB1 := hB.setCell (p := ⟨g, j, none⟩) (by show w.heap.size ≤ g; have := HG.out; omega) (.int .u32 (((x : Int) + 4294967296 * y) / 2 ^ s % 4294967296))
          clear hdg hV
          go_wp2
          go_roundw
          case rel => exact ⟨j + 1, _, by go_num, hjk, hU1, Lib.hid ⟨by rw [List.length_set]; exact hO.out.1, hO.out.2.1.set j hdl, fun z hz => by
            rcases Nat.lt_or_ge z j with h1 | h1
            · rw [Dg.ld_set_other dg (by omega)]; exact hO.out.2.2 z h1
            · obtain rfl : z = j := by omega
              rw [Dg.ld_set_same dg (by rw [hO.out.1]; omega), HDG.out, HRD.out]⟩, hB1⟩
          case measure => simp [intOf]; omega
        · have hy0 : Dg.ld (Dg.dg (Dg.val L)) (j + 1) = 0 := Dg.ld_ge (by rw [HKL.out]; omega)
          rw [hy0] at hrd
          generalize Dg.ld (Dg.dg (Dg.val L)) j = x at hx hcx hrd
          have HRD := Lib.hid hrd
          clear hrd hy0
          obtain ⟨dg, hdg⟩ : ∃ dg, dg = (x + 4294967296 * 0) / 2 ^ s % 4294967296 := ⟨_, rfl⟩
          have HDG := Lib.hid hdg
          have hdl : dg < 4294967296 := by rw [hdg]; exact Nat.mod_lt _ (by omega)
          have hV : ((x : Int) / 2 ^ s % 4294967296) = (dg : Int) := by rw [hdg]; simp
          have hU1 : UB (wr.setCell ⟨g, j, none⟩ (.int .u32 ((x : Int) / 2 ^ s % 4294967296))) g (O.set j dg) := by rw [hV]; exact hU.set j dg
          have hB1 := hB.setCell (p := ⟨g, j, none⟩) (by show w.heap.size ≤ g; have := HG.out; omega) (.int .u32 ((x : Int) / 2 ^ s % 4294967296))
          clear hdg hV
          go_wp2
          go_roundw
          case rel => exact ⟨j + 1, _, by go_num, hjk, hU1, Lib.hid ⟨by rw [List.length_set]; exact hO.out.1, hO.out.2.1.set j hdl, fun z hz => by
            rcases Nat.lt_or_ge z j with h1 | h1
            · rw [Dg.ld_set_other dg (by omega)]; exact hO.out.2.2 z h1
            · obtain rfl : z = j := by omega
              rw [Dg.ld_set_same dg (by rw [hO.out.1]; omega), HDG.out, HRD.out]⟩, hB1⟩
          case measure => simp [intOf]; omega
      · obtain rfl : j = k := by omega
        have hO3 := hU.rd hO.out.2.1 hU.lt (k := j) (by rw [hO.out.1]; exact Nat.le_refl _) (by rw [hO.out.1]; unfold maxLen; omega)
        rw [hO.out.1, List.take_of_length_le (by rw [hO.out.1]; exact Nat.le_refl _)] at hO3
        have HV := Lib.hid (Dg.right_val (Dg.dg_wd (Dg.val L)) (s := s) HKL.out hO.out.1 (by rw [Dg.val_dg]; exact hO.out.2.2))
        go_wp2_with fail
        refine (own_any hO3 (by omega)).mono ?_
        rintro _ W4 ⟨A4, m4, c4, x4, rfl, ho4, hx4, hb4⟩
        go_wp2
        go_ret2
        exact ⟨_, _, _, _, rfl, ho4.base hB.size, Lib.hid (by rw [hx4.out, HV.out, Dg.val_dg]), hB.trans (hb4.mono hB.size)⟩
end Go.Proofs.YtipbpdiahemmpaaGreat
