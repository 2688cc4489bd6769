/- nat: shifted. -/
import Derived.Test.YtipbpdiahemmpaaGreatN6
namespace Go.Proofs.YtipbpdiahemmpaaGreat
open Go.RowKit Go.IntWalk

theorem make_left (k : Nat) (hn : k ≤ 17592186044410) (w : World) :
    (Instr.makeSlice 26 (.int .i64 0) (.int .i64 ((k : Int) + 3))).run Tryz.prog w = .ok (.slice (some ⟨w.heap.size, 0, none⟩) 0 (k + 3)) (w.alloc (.cells (madeCells #[.int .u32 0] (k + 3)) 35)) := by
  obtain ⟨i, hi, hzz⟩ := Option.map_eq_some_iff.1 infoW
  simp only [Prod.mk.injEq] at hzz
  obtain ⟨hz, hs, hb⟩ := hzz
  have hr := run_make (P := Tryz.prog) w 26 35 i _ Tryz.underlying26 hi hz .i64 .i64 0 (k + 3) (by omega) (by omega) (by rw [hb]; omega) (by omega)
  have e3 : ((k : Int) + 3).toNat = k + 3 := by omega
  simpa [hs, Value.cells, e3] using hr

theorem pow_le31 {s : Nat} (hs : s < 32) : 2 ^ s ≤ 2147483648 := Nat.pow_le_pow_right (by omega) (show s ≤ 31 by omega)
theorem pow_dvd32 {s : Nat} (hs : s < 32) : 2 ^ s ∣ 4294967296 := ⟨2 ^ (32 - s), by rw [← Nat.pow_add, show s + (32 - s) = 32 by omega]⟩
theorem left_mul {x s : Nat} (hx : x < 4294967296) (hs : s < 32) : x * 2 ^ s ≤ 9223372034707292160 := by
  have := Nat.mul_le_mul (show x ≤ 4294967295 by omega) (pow_le31 hs)
  omega
theorem left_low {x s q : Nat} (hs : s < 32) (hq : q < 2 ^ s) : x * 2 ^ s % 4294967296 + q < 4294967296 ∧ x * 2 ^ s % 4294967296 ||| q = x * 2 ^ s % 4294967296 + q := by
  have hd : 2 ^ s ∣ x * 2 ^ s % 4294967296 := (Nat.dvd_mod_iff (pow_dvd32 hs)).2 (Nat.dvd_mul_left _ _)
  obtain ⟨e, he⟩ := hd
  obtain ⟨f, hf⟩ := pow_dvd32 hs
  have hlt : x * 2 ^ s % 4294967296 < 4294967296 := Nat.mod_lt _ (by omega)
  constructor
  · rw [he]
    rw [he, hf] at hlt
    have hef : e + 1 ≤ f := Nat.lt_of_mul_lt_mul_left hlt
    have := Nat.mul_le_mul_left (2 ^ s) hef
    rw [← hf, Nat.mul_add] at this
    omega
  · refine nat_join s _ _ ?_ hq
    rw [he]
    exact Nat.mul_mod_right _ _
theorem left_dig {x s q : Nat} (hs : s < 32) (hq : q < 2 ^ s) : bits .or .u32 ((x : Int) * 2 ^ s % 4294967296) (q : Int) = ((x * 2 ^ s % 4294967296 + q : Nat) : Int) := by
  have e : (x : Int) * 2 ^ s % 4294967296 = ((x * 2 ^ s % 4294967296 : Nat) : Int) := by simp
  have h31 := pow_le31 hs
  rw [e, u32_or_nat _ _ (Nat.mod_lt _ (by omega)) (by omega), (left_low hs hq).2]
theorem left_car {x s : Nat} (hx : x < 4294967296) (hs : s < 32) : IntKind.u64.wrap ((x : Int) * 2 ^ s) / 4294967296 % 4294967296 = ((x * 2 ^ s / 4294967296 : Nat) : Int) ∧ x * 2 ^ s / 4294967296 < 2 ^ s := by
  have h1 := left_mul hx hs
  have e : (x : Int) * 2 ^ s = ((x * 2 ^ s : Nat) : Int) := by simp
  constructor
  · rw [e, u64_in _ (by omega)]; omega
  · rw [Nat.div_lt_iff_lt_mul (by omega), Nat.mul_comm]
    exact Nat.mul_lt_mul_of_pos_left hx (Nat.two_pow_pos s)

set_option maxHeartbeats 2000000 in
theorem left_any (s : Nat) {A : Option Addr} {n c : Nat} {L : List Nat} {w : World} (h : RdU w w.heap.size A n c L) (hn : n ≤ 8796093022207) (hs : s < 32) :
    Calls Tryz.prog 300 #[.slice A n c, .int .i64 s] w fun e w' => ∃ (m k : Nat) (O : List Nat), e = .returned (.slice (some ⟨w.heap.size, 0, none⟩) m (k + 3)) ∧ UB w' w.heap.size O ∧
      Hid (k = (Dg.dg (Dg.val L)).length ∧ O.length = k + 3 ∧ Dg.Wd O ∧ (m = k ∨ m = k + 1 ∧ 4294967296 ^ k ≤ Dg.val L * 2 ^ s) ∧ Dg.val (O.take m) = Dg.val L * 2 ^ s) ∧ Below w.heap.size w w' := by
  have HLEN := Lib.hid h.len
  have hsr : ((s : Int)).tdiv 32 = 0 := by rw [Int.tdiv_eq_ediv_of_nonneg (by omega)]; omega
  have hsm : ((s : Int)).tmod 32 = s := by rw [Int.tmod_eq_emod_of_nonneg (by omega)]; omega
  go_enter Tryz.func300, Tryz.ntmps300
  go_wp2_with fail
  refine (trim_any h (by omega)).mono ?_
  rintro _ _ ⟨k, rfl, hk, rfl⟩
  have hkn : k ≤ n := by have := hk.out.1; rw [HLEN.out] at this; exact this
  have hT := h.take hkn
  rw [hk.out.2] at hT
  have hmk := make_left k (by omega)
  have hB0 := (Below.refl w.heap.size w).alloc (Nat.le_refl _) (.cells (madeCells #[.int .u32 0] (k + 3)) 35)
  have hU0 := UB.made w (k + 3)
  go_wp2_with fail
  generalize w.alloc (.cells (madeCells #[.int .u32 0] (k + 3)) 35) = W1 at hB0 hU0 ⊢
  clear hmk
  obtain ⟨g, hg⟩ : ∃ g, g = w.heap.size := ⟨_, rfl⟩
  rw [← hg] at hU0 ⊢
  have HG := Lib.hid hg
  clear hg
  go_wp2_with fail
  go_loopw [5, 6, 22] (fun out cy i wr => ∃ (j q : Nat) (O : List Nat), i = .int .i64 j ∧ cy = .int .u32 q ∧ out = .slice (some ⟨g, 0, none⟩) j (k + 3) ∧ j ≤ k ∧ q < 2 ^ s ∧ UB wr g O ∧
    Hid (O.length = k + 3 ∧ Dg.Wd O ∧ Dg.vf (Dg.ld O) j + q * 4294967296 ^ j = Dg.vf (Dg.ld (Dg.dg (Dg.val L))) j * 2 ^ s) ∧ Below w.heap.size w wr) (fun _ _ i _ => k - (intOf i).toNat)
  case atStart =>
    exact ⟨0, 0, _, rfl, rfl, rfl, Nat.zero_le _, Nat.two_pow_pos s, hU0, Lib.hid ⟨by simp, Dg.Wd.zeros _, by simp [Dg.vf]⟩, hB0⟩
  case round =>
    clear hU0 hB0
    obtain ⟨j, q, O, rfl, rfl, rfl, hj, hq, hU, hO, hB⟩ := hrel
    by_cases hjk : j < k
    · obtain ⟨hx, ad, rfl, hbx, hcx⟩ := hT.at_ j (Dg.ld (Dg.dg (Dg.val L)) j) (Dg.get_of_ld (by rw [hT.len]; exact hjk))
      have hcx := (hB.cell (p := ad.add j) (by rw [add_blk]; exact hbx)).trans hcx
      obtain ⟨x, ex⟩ : ∃ x, x = Dg.ld (Dg.dg (Dg.val L)) j := ⟨_, rfl⟩
      rw [← ex] at hx hcx
      have EX := Lib.hid ex
      clear ex
      have hcell := hU.cell (Dg.get_of_ld (L := O) (i := j) (by rw [hO.out.1]; omega))
      generalize Dg.ld O j = o0 at hcell
      have hfz := hU.frozen j
      have hgl := hU.lt
      have hdig := left_dig (x := x) hs hq
      have hcar := left_car hx hs
      have hlow := left_low (x := x) hs hq
      obtain ⟨dg, hdg⟩ : ∃ dg, dg = x * 2 ^ s % 4294967296 + q := ⟨_, rfl⟩
      obtain ⟨cy, hcy⟩ : ∃ cy, cy = x * 2 ^ s / 4294967296 := ⟨_, rfl⟩
      have hU1 : UB ((wr.setCell ⟨g, j, none⟩ (.int .u32 (bits BinOp.or .u32 ((x : Int) * 2 ^ s % 4294967296) q))).alloc (.cells #[.int .u32 (bits BinOp.or .u32 ((x : Int) * 2 ^ s % 4294967296) q)] 35)) g (O.set j dg) := by
        rw [hdig, ← hdg]; exact (hU.set j dg).alloc _
      have hB1 := (hB.setCell (p := ⟨g, j, none⟩) (by show w.heap.size ≤ g; have := HG.out; omega) (.int .u32 (bits BinOp.or .u32 ((x : Int) * 2 ^ s % 4294967296) q))).alloc (by simp [World.setCell]; exact hB.size) (.cells #[.int .u32 (bits BinOp.or .u32 ((x : Int) * 2 ^ s % 4294967296) q)] 35)
      have HD := Lib.hid hdg
      have HC := Lib.hid (show IntKind.u64.wrap ((x : Int) * 2 ^ s) / 4294967296 % 4294967296 = (cy : Int) by rw [hcy]; exact hcar.1)
      have HCY := Lib.hid hcy
      have hdl : dg < 4294967296 := by rw [hdg]; exact hlow.1
      have hcl : cy < 2 ^ s := by rw [hcy]; exact hcar.2
      have HI : Hid (Dg.vf (Dg.ld (O.set j dg)) (j + 1) + cy * 4294967296 ^ (j + 1) = Dg.vf (Dg.ld (Dg.dg (Dg.val L))) (j + 1) * 2 ^ s) := Lib.hid (by
        have e := hO.out.2.2
        have hdm := Nat.div_add_mod (x * 2 ^ s) 4294967296
        rw [Dg.vf_succ, Dg.vf_succ, Dg.ld_set_same dg (by rw [hO.out.1]; omega), Dg.vf_set dg (Nat.le_refl j), ← EX.out, hdg, hcy, Nat.pow_succ]
        rw [Nat.add_mul (Dg.vf (Dg.ld (Dg.dg (Dg.val L))) j), ← e]
        have h3 : (4294967296 * (x * 2 ^ s / 4294967296) + x * 2 ^ s % 4294967296) * 4294967296 ^ j = x * 2 ^ s * 4294967296 ^ j := by rw [hdm]
        generalize x * 2 ^ s / 4294967296 = u at *
        generalize x * 2 ^ s % 4294967296 = v at *
        generalize 4294967296 ^ j = B at *
        grind)
      clear hdig hcar hdg hcy hlow
      go_wp2
      go_roundw
      case rel => exact ⟨j + 1, cy, _, by go_num, int_i HC.out, rfl, hjk, hcl, hU1, Lib.hid ⟨by rw [List.length_set]; exact hO.out.1, hO.out.2.1.set j hdl, HI.out⟩, hB1⟩
      case measure => simp [intOf]; omega
    · obtain rfl : j = k := by omega
      have hkl : (Dg.dg (Dg.val L)).length = j := hT.len
      have hvv : Dg.vf (Dg.ld (Dg.dg (Dg.val L))) j = Dg.val L := by rw [Dg.vf_eq_val (by rw [hkl]; exact Nat.le_refl _), Dg.val_dg]
      have HI := Lib.hid (show Dg.vf (Dg.ld O) j + q * 4294967296 ^ j = Dg.val L * 2 ^ s by rw [← hvv]; exact hO.out.2.2)
      have HKL := Lib.hid hkl
      clear hkl hvv
      have h31 := pow_le31 hs
      have htake : ∀ (P : List Nat) (m : Nat), m ≤ P.length → Dg.val (P.take m) = Dg.vf (Dg.ld P) m := fun P m hm => by
        rw [← Dg.vf_eq_val (L := P.take m) (n := m) (by simp; omega)]
        exact Dg.vf_congr fun i hi => by rw [Dg.ld_lt (by rw [List.length_take]; omega), Dg.ld_lt (by omega), List.getElem_take]
      have HTK := Lib.hid htake
      clear htake
      by_cases hq0 : q = 0
      · subst hq0
        go_wp2
        go_ret
        refine ⟨j, j, O, by rw [← HG.out]; rfl, by rw [← HG.out]; exact hU, Lib.hid ⟨HKL.out.symm, hO.out.1, hO.out.2.1, .inl rfl, ?_⟩, hB⟩
        rw [HTK.out O j (by rw [hO.out.1]; omega), ← HI.out]
        simp
      · have hqn : ((q : Int) != 0) = true := by simp; omega
        have hq1 : 1 ≤ q := by omega
        clear hq0
        have hcell := hU.cell (Dg.get_of_ld (L := O) (i := j) (by rw [hO.out.1]; omega))
        generalize Dg.ld O j = o0 at hcell
        have hfz := hU.frozen j
        have hgl := hU.lt
        have hU1 := (hU.set j q).alloc (.cells #[.int .u32 q] 35)
        have hB1 := (hB.setCell (p := ⟨g, j, none⟩) (by show w.heap.size ≤ g; have := HG.out; omega) (.int .u32 q)).alloc (by simp [World.setCell]; exact hB.size) (.cells #[.int .u32 q] 35)
        go_wp2
        go_ret
        refine ⟨j + 1, j, O.set j q, by rw [← HG.out]; rfl, by rw [← HG.out]; exact hU1, Lib.hid ⟨HKL.out.symm, by rw [List.length_set]; exact hO.out.1, hO.out.2.1.set j (by omega), .inr ⟨rfl, ?_⟩, ?_⟩, hB1⟩
        · rw [← HI.out]
          have := Nat.mul_le_mul_right (4294967296 ^ j) hq1
          omega
        · rw [HTK.out _ (j + 1) (by rw [List.length_set, hO.out.1]; omega), Dg.vf_succ, Dg.ld_set_same q (by rw [hO.out.1]; omega), Dg.vf_set q (Nat.le_refl j), HI.out]
end Go.Proofs.YtipbpdiahemmpaaGreat
