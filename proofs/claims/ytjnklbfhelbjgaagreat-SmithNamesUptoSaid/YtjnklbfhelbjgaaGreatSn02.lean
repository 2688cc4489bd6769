/- nat: division by one limb. -/
import Derived.Test.YtjnklbfhelbjgaaGreatSn01
import Derived.Test.YtjnklbfhelbjgaaGreatSn00
namespace Go.Proofs.YtjnklbfhelbjgaaGreat
open Go.RowKit Go.IntWalk
theorem or_join (r a : Nat) (hr : r < 4294967296) (ha : a < 4294967296) : bits .or .u64 ((r : Int) * 4294967296) (a : Int) = (r : Int) * 4294967296 + a := by
 have e : (r : Int) * 4294967296 = ((r * 4294967296 : Nat) : Int) := by simp
 rw [e, u64_or_nat _ _ (by omega) (by omega), nat_join 32 _ _ (by rw [show (2 : Nat) ^ 32 = 4294967296 from rfl]; omega) (by rw [show (2 : Nat) ^ 32 = 4294967296 from rfl]; exact ha)]
 simp
set_option maxHeartbeats 2000000 in
theorem short_any (b : Nat) {A : Option Addr} {n c : Nat} {L : List Nat} {w : World} (h : RdU w w.heap.size A n c L) (hn : n ≤ 8796093022207) (hb0 : 0 < b) (hb : b < 4294967296) :
  Calls Tryz.prog 242 #[.slice A n c, .int .u32 b] w fun e w' => ∃ (A : Option Addr) (m c x r : Nat), e = .returned (.tuple #[.slice A m c, .int .u32 r]) ∧ OwU w' w.heap.size A m c (Dg.dg x) ∧ Hid (x = Dg.val L / b ∧ r = Dg.val L % b) ∧ Below w.heap.size w w' := by
 have HLEN := Lib.hid h.len
 have hmk := make_nat n (by omega)
 have hB0 := (Below.refl w.heap.size w).alloc (Nat.le_refl _) (.cells (madeCells #[.int .u32 0] n) 171)
 have hU0 := UB.made w n
 go_enter Tryz.func242, Tryz.ntmps242
 go_wp2_with fail
 generalize w.alloc (.cells (madeCells #[.int .u32 0] n) 171) = W1 at hB0 hU0 ⊢
 clear hmk
 obtain ⟨g, hg⟩ : ∃ g, g = w.heap.size := ⟨_, rfl⟩
 rw [← hg] at hU0 ⊢
 have HG := Lib.hid hg
 clear hg
 go_wp2_with fail
 go_loopw [7, 8] (fun rest i wr => ∃ (j r : Nat) (O : List Nat), i = .int .i64 ((j : Int) - 1) ∧ rest = .int .u64 r ∧ j ≤ n ∧ r < b ∧ UB wr g O ∧ Hid (O.length = n ∧ Dg.Wd O ∧ Dg.val (O.drop j) * b + r = Dg.val (L.drop j)) ∧ Below w.heap.size w wr) (fun _ i _ => (intOf i + 1).toNat)
 case atStart =>
  refine ⟨n, 0, _, rfl, rfl, Nat.le_refl _, hb0, hU0, Lib.hid ⟨by simp, Dg.Wd.zeros _, ?_⟩, hB0⟩
  rw [List.drop_eq_nil_of_le (by simp), List.drop_eq_nil_of_le (by rw [HLEN.out]; exact Nat.le_refl _)]
  simp [Dg.val]
 case round =>
  clear hU0 hB0
  obtain ⟨j, r, O, rfl, rfl, hj, hr, hU, hO, hB⟩ := hrel
  rcases Nat.eq_zero_or_pos j with h0 | h0
  ·subst h0
   have hO3 := hU.rd hO.out.2.1 hU.lt (k := n) (by rw [hO.out.1]; exact Nat.le_refl _) (by rw [hO.out.1]; unfold maxLen; omega)
   rw [hO.out.1, List.take_of_length_le (by rw [hO.out.1]; exact Nat.le_refl _)] at hO3
   go_wp2_with fail
   refine (own_any hO3 (by omega)).mono ?_
   rintro _ W4 ⟨A4, m4, c4, x4, rfl, ho4, hx4, hb4⟩
   have hrl : (r : Int) < 4294967296 := by omega
   go_wp2
   go_ret2
   refine ⟨_, _, _, x4, r, ?_, ho4.base hB.size, Lib.hid ?_, hB.trans (hb4.mono hB.size)⟩
   ·rfl
   ·have e := hO.out.2.2
    simp only [List.drop_zero] at e
    rw [hx4.out, ← e]
    constructor
    ·rw [Nat.mul_comm, Nat.mul_add_div hb0, Nat.div_eq_of_lt hr]; rfl
    ·rw [Nat.mul_comm, Nat.mul_add_mod, Nat.mod_eq_of_lt hr]
  ·obtain ⟨t, rfl⟩ : ∃ t, j = t + 1 := ⟨j - 1, by omega⟩
   obtain ⟨hx, ad, rfl, hbx, hcx⟩ := h.at_ t _ (Dg.get_of_ld (by rw [HLEN.out]; omega))
   have hcx := (hB.cell (p := ad.add t) (by rw [add_blk]; exact hbx)).trans hcx
   obtain ⟨x, ex⟩ : ∃ x, x = Dg.ld L t := ⟨_, rfl⟩
   rw [← ex] at hx hcx
   have EX := Lib.hid ex
   clear ex
   have hor := or_join r x (by omega) hx
   obtain ⟨q, hq⟩ : ∃ q, q = (r * 4294967296 + x) / b := ⟨_, rfl⟩
   obtain ⟨r', hr'⟩ : ∃ r', r' = (r * 4294967296 + x) % b := ⟨_, rfl⟩
   have hql : q < 4294967296 := by rw [hq]; exact Dg.short_lt hr hx
   have hrl : r' < b := by rw [hr']; exact Nat.mod_lt _ hb0
   have hqi : ((r : Int) * 4294967296 + x) / b = (q : Int) := by rw [hq]; simp
   have hri : ((r : Int) * 4294967296 + x) % b = (r' : Int) := by rw [hr']; simp
   have HQ := Lib.hid hq
   have HR := Lib.hid hr'
   have hcell := hU.cell (Dg.get_of_ld (L := O) (i := t) (by rw [hO.out.1]; omega))
   generalize Dg.ld O t = o0 at hcell
   have hfz := hU.frozen t
   have hU1 : UB (wr.setCell ⟨g, t, none⟩ (.int .u32 (((r : Int) * 4294967296 + x) / b % 4294967296))) g (O.set t q) := by rw [hqi, show (q : Int) % 4294967296 = q by omega]; exact hU.set t q
   have hB1 := hB.setCell (p := ⟨g, t, none⟩) (by show w.heap.size ≤ g; have := HG.out; omega) (.int .u32 (((r : Int) * 4294967296 + x) / b % 4294967296))
   have HRI := Lib.hid hri
   have HI := Lib.hid (Dg.short_step (b := b) (r := r) (q := q) (show t < L.length by rw [HLEN.out]; omega) (show t < O.length by rw [hO.out.1]; omega) hO.out.2.2 (by rw [← EX.out]; exact hq))
   clear hq hr' hqi hri
   go_wp2
   go_roundw
   case rel => exact ⟨t, r', _, rfl, int_i HRI.out, by omega, hrl, hU1, Lib.hid ⟨by rw [List.length_set]; exact hO.out.1, hO.out.2.1.set t hql, by rw [HR.out, EX.out]; exact HI.out⟩, hB1⟩
   case measure => simp [intOf]
end Go.Proofs.YtjnklbfhelbjgaaGreat

/- nat: shifted. -/
namespace Go.Proofs.YtjnklbfhelbjgaaGreat
open Go.RowKit Go.IntWalk
theorem make_left (k : Nat) (hn : k ≤ 17592186044410) (w : World) :
  (Instr.makeSlice 23 (.int .i64 0) (.int .i64 ((k : Int) + 3))).run Tryz.prog w = .ok (.slice (some ⟨w.heap.size, 0, none⟩) 0 (k + 3)) (w.alloc (.cells (madeCells #[.int .u32 0] (k + 3)) 171)) := by
 obtain ⟨i, hi, hzz⟩ := Option.map_eq_some_iff.1 infoW
 simp only [Prod.mk.injEq] at hzz
 obtain ⟨hz, hs, hb⟩ := hzz
 have hr := run_make (P := Tryz.prog) w 23 171 i _ Tryz.underlying23 hi hz .i64 .i64 0 (k + 3) (by omega) (by omega) (by rw [hb]; omega) (by omega)
 have e3 : ((k : Int) + 3).toNat = k + 3 := by omega
 simpa [hs, Value.cells, e3] using hr
theorem pow_le31 {s : Nat} (hs : s < 32) : 2 ^ s ≤ 2147483648 := Nat.pow_le_pow_right (by omega) (show s ≤ 31 by omega)
theorem pow_dvd32 {s : Nat} (hs : s < 32) : 2 ^ s ∣ 4294967296 := ⟨2 ^ (32 - s), by rw [← Nat.pow_add, show s + (32 - s) = 32 by omega]⟩
theorem left_mul {x s : Nat} (hx : x < 4294967296) (hs : s < 32) : x * 2 ^ s ≤ 9223372034707292160 := by
 have := Nat.mul_le_mul (show x ≤ 4294967295 by omega) (pow_le31 hs)
 omega
theorem left_low {x s q : Nat} (hs : s < 32) (hq : q < 2 ^ s) : x * 2 ^ s % 4294967296 + q < 4294967296 ∧ x * 2 ^ s % 4294967296 ||| q = x * 2 ^ s % 4294967296 + q := by
 have hd : 2 ^ s ∣ x * 2 ^ s % 4294967296 := (Nat.dvd_mod_iff (pow_dvd32 hs)).2 (Nat.dvd_mul_left _ _)
 obtain ⟨e, he⟩ := hd
 obtain ⟨f, hf⟩ := pow_dvd32 hs
 have hlt : x * 2 ^ s % 4294967296 < 4294967296 := Nat.mod_lt _ (by omega)
 constructor
 ·rw [he]
  rw [he, hf] at hlt
  have hef : e + 1 ≤ f := Nat.lt_of_mul_lt_mul_left hlt
  have := Nat.mul_le_mul_left (2 ^ s) hef
  rw [← hf, Nat.mul_add] at this
  omega
 ·refine nat_join s _ _ ?_ hq
  rw [he]
  exact Nat.mul_mod_right _ _
theorem left_dig {x s q : Nat} (hs : s < 32) (hq : q < 2 ^ s) : bits .or .u32 ((x : Int) * 2 ^ s % 4294967296) (q : Int) = ((x * 2 ^ s % 4294967296 + q : Nat) : Int) := by
 have e : (x : Int) * 2 ^ s % 4294967296 = ((x * 2 ^ s % 4294967296 : Nat) : Int) := by simp
 have h31 := pow_le31 hs
 rw [e, u32_or_nat _ _ (Nat.mod_lt _ (by omega)) (by omega), (left_low hs hq).2]
theorem left_car {x s : Nat} (hx : x < 4294967296) (hs : s < 32) : IntKind.u64.wrap ((x : Int) * 2 ^ s) / 4294967296 % 4294967296 = ((x * 2 ^ s / 4294967296 : Nat) : Int) ∧ x * 2 ^ s / 4294967296 < 2 ^ s := by
 have h1 := left_mul hx hs
 have e : (x : Int) * 2 ^ s = ((x * 2 ^ s : Nat) : Int) := by simp
 constructor
 ·rw [e, u64_in _ (by omega)]; omega
 ·rw [Nat.div_lt_iff_lt_mul (by omega), Nat.mul_comm]
  exact Nat.mul_lt_mul_of_pos_left hx (Nat.two_pow_pos s)
set_option maxHeartbeats 2000000 in
theorem left_any (s : Nat) {A : Option Addr} {n c : Nat} {L : List Nat} {w : World} (h : RdU w w.heap.size A n c L) (hn : n ≤ 8796093022207) (hs : s < 32) :
  Calls Tryz.prog 253 #[.slice A n c, .int .i64 s] w fun e w' => ∃ (m k : Nat) (O : List Nat), e = .returned (.slice (some ⟨w.heap.size, 0, none⟩) m (k + 3)) ∧ UB w' w.heap.size O ∧
   Hid (k = (Dg.dg (Dg.val L)).length ∧ O.length = k + 3 ∧ Dg.Wd O ∧ (m = k ∨ m = k + 1 ∧ 4294967296 ^ k ≤ Dg.val L * 2 ^ s) ∧ Dg.val (O.take m) = Dg.val L * 2 ^ s) ∧ Below w.heap.size w w' := by
 have HLEN := Lib.hid h.len
 have hsr : ((s : Int)).tdiv 32 = 0 := by rw [Int.tdiv_eq_ediv_of_nonneg (by omega)]; omega
 have hsm : ((s : Int)).tmod 32 = s := by rw [Int.tmod_eq_emod_of_nonneg (by omega)]; omega
 go_enter Tryz.func253, Tryz.ntmps253
 go_wp2_with fail
 refine (trim_any h (by omega)).mono ?_
 rintro _ _ ⟨k, rfl, hk, rfl⟩
 have hkn : k ≤ n := by have := hk.out.1; rw [HLEN.out] at this; exact this
 have hT := h.take hkn
 rw [hk.out.2] at hT
 have hmk := make_left k (by omega)
 have hB0 := (Below.refl w.heap.size w).alloc (Nat.le_refl _) (.cells (madeCells #[.int .u32 0] (k + 3)) 171)
 have hU0 := UB.made w (k + 3)
 go_wp2_with fail
 generalize w.alloc (.cells (madeCells #[.int .u32 0] (k + 3)) 171) = W1 at hB0 hU0 ⊢
 clear hmk
 obtain ⟨g, hg⟩ : ∃ g, g = w.heap.size := ⟨_, rfl⟩
 rw [← hg] at hU0 ⊢
 have HG := Lib.hid hg
 clear hg
 go_wp2_with fail
 go_loopw [5, 6, 22] (fun out cy i wr => ∃ (j q : Nat) (O : List Nat), i = .int .i64 j ∧ cy = .int .u32 q ∧ out = .slice (some ⟨g, 0, none⟩) j (k + 3) ∧ j ≤ k ∧ q < 2 ^ s ∧ UB wr g O ∧
  Hid (O.length = k + 3 ∧ Dg.Wd O ∧ Dg.vf (Dg.ld O) j + q * 4294967296 ^ j = Dg.vf (Dg.ld (Dg.dg (Dg.val L))) j * 2 ^ s) ∧ Below w.heap.size w wr) (fun _ _ i _ => k - (intOf i).toNat)
 case atStart =>
  exact ⟨0, 0, _, rfl, rfl, rfl, Nat.zero_le _, Nat.two_pow_pos s, hU0, Lib.hid ⟨by simp, Dg.Wd.zeros _, by simp [Dg.vf]⟩, hB0⟩
 case round =>
  clear hU0 hB0
  obtain ⟨j, q, O, rfl, rfl, rfl, hj, hq, hU, hO, hB⟩ := hrel
  by_cases hjk : j < k
  ·obtain ⟨hx, ad, rfl, hbx, hcx⟩ := hT.at_ j (Dg.ld (Dg.dg (Dg.val L)) j) (Dg.get_of_ld (by rw [hT.len]; exact hjk))
   have hcx := (hB.cell (p := ad.add j) (by rw [add_blk]; exact hbx)).trans hcx
   obtain ⟨x, ex⟩ : ∃ x, x = Dg.ld (Dg.dg (Dg.val L)) j := ⟨_, rfl⟩
   rw [← ex] at hx hcx
   have EX := Lib.hid ex
   clear ex
   have hcell := hU.cell (Dg.get_of_ld (L := O) (i := j) (by rw [hO.out.1]; omega))
   generalize Dg.ld O j = o0 at hcell
   have hfz := hU.frozen j
   have hgl := hU.lt
   have hdig := left_dig (x := x) hs hq
   have hcar := left_car hx hs
   have hlow := left_low (x := x) hs hq
   obtain ⟨dg, hdg⟩ : ∃ dg, dg = x * 2 ^ s % 4294967296 + q := ⟨_, rfl⟩
   obtain ⟨cy, hcy⟩ : ∃ cy, cy = x * 2 ^ s / 4294967296 := ⟨_, rfl⟩
   have hU1 : UB ((wr.setCell ⟨g, j, none⟩ (.int .u32 (bits BinOp.or .u32 ((x : Int) * 2 ^ s % 4294967296) q))).alloc (.cells #[.int .u32 (bits BinOp.or .u32 ((x : Int) * 2 ^ s % 4294967296) q)] 171)) g (O.set j dg) := by
    rw [hdig, ← hdg]; exact (hU.set j dg).alloc _
   have hB1 := (hB.setCell (p := ⟨g, j, none⟩) (by show w.heap.size ≤ g; have := HG.out; omega) (.int .u32 (bits BinOp.or .u32 ((x : Int) * 2 ^ s % 4294967296) q))).alloc (by simp [World.setCell]; exact hB.size) (.cells #[.int .u32 (bits BinOp.or .u32 ((x : Int) * 2 ^ s % 4294967296) q)] 171)
   have HD := Lib.hid hdg
   have HC := Lib.hid (show IntKind.u64.wrap ((x : Int) * 2 ^ s) / 4294967296 % 4294967296 = (cy : Int) by rw [hcy]; exact hcar.1)
   have HCY := Lib.hid hcy
   have hdl : dg < 4294967296 := by rw [hdg]; exact hlow.1
   have hcl : cy < 2 ^ s := by rw [hcy]; exact hcar.2
   have HI : Hid (Dg.vf (Dg.ld (O.set j dg)) (j + 1) + cy * 4294967296 ^ (j + 1) = Dg.vf (Dg.ld (Dg.dg (Dg.val L))) (j + 1) * 2 ^ s) := Lib.hid (by
    have e := hO.out.2.2
    have hdm := Nat.div_add_mod (x * 2 ^ s) 4294967296
    rw [Dg.vf_succ, Dg.vf_succ, Dg.ld_set_same dg (by rw [hO.out.1]; omega), Dg.vf_set dg (Nat.le_refl j), ← EX.out, hdg, hcy, Nat.pow_succ]
    rw [Nat.add_mul (Dg.vf (Dg.ld (Dg.dg (Dg.val L))) j), ← e]
    have h3 : (4294967296 * (x * 2 ^ s / 4294967296) + x * 2 ^ s % 4294967296) * 4294967296 ^ j = x * 2 ^ s * 4294967296 ^ j := by rw [hdm]
    generalize x * 2 ^ s / 4294967296 = u at *
    generalize x * 2 ^ s % 4294967296 = v at *
    generalize 4294967296 ^ j = B at *
    grind)
   clear hdig hcar hdg hcy hlow
   go_wp2
   go_roundw
   case rel => exact ⟨j + 1, cy, _, by go_num, int_i HC.out, rfl, hjk, hcl, hU1, Lib.hid ⟨by rw [List.length_set]; exact hO.out.1, hO.out.2.1.set j hdl, HI.out⟩, hB1⟩
   case measure => simp [intOf]; omega
  ·obtain rfl : j = k := by omega
   have hkl : (Dg.dg (Dg.val L)).length = j := hT.len
   have hvv : Dg.vf (Dg.ld (Dg.dg (Dg.val L))) j = Dg.val L := by rw [Dg.vf_eq_val (by rw [hkl]; exact Nat.le_refl _), Dg.val_dg]
   have HI := Lib.hid (show Dg.vf (Dg.ld O) j + q * 4294967296 ^ j = Dg.val L * 2 ^ s by rw [← hvv]; exact hO.out.2.2)
   have HKL := Lib.hid hkl
   clear hkl hvv
   have h31 := pow_le31 hs
   have htake : ∀ (P : List Nat) (m : Nat), m ≤ P.length → Dg.val (P.take m) = Dg.vf (Dg.ld P) m := fun P m hm => by
    rw [← Dg.vf_eq_val (L := P.take m) (n := m) (by simp; omega)]
    exact Dg.vf_congr fun i hi => by rw [Dg.ld_lt (by rw [List.length_take]; omega), Dg.ld_lt (by omega), List.getElem_take]
   have HTK := Lib.hid htake
   clear htake
   by_cases hq0 : q = 0
   ·subst hq0
    go_wp2
    go_ret
    refine ⟨j, j, O, by rw [← HG.out]; rfl, by rw [← HG.out]; exact hU, Lib.hid ⟨HKL.out.symm, hO.out.1, hO.out.2.1, .inl rfl, ?_⟩, hB⟩
    rw [HTK.out O j (by rw [hO.out.1]; omega), ← HI.out]
    simp
   ·have hqn : ((q : Int) != 0) = true := by simp; omega
    have hq1 : 1 ≤ q := by omega
    clear hq0
    have hcell := hU.cell (Dg.get_of_ld (L := O) (i := j) (by rw [hO.out.1]; omega))
    generalize Dg.ld O j = o0 at hcell
    have hfz := hU.frozen j
    have hgl := hU.lt
    have hU1 := (hU.set j q).alloc (.cells #[.int .u32 q] 171)
    have hB1 := (hB.setCell (p := ⟨g, j, none⟩) (by show w.heap.size ≤ g; have := HG.out; omega) (.int .u32 q)).alloc (by simp [World.setCell]; exact hB.size) (.cells #[.int .u32 q] 171)
    go_wp2
    go_ret
    refine ⟨j + 1, j, O.set j q, by rw [← HG.out]; rfl, by rw [← HG.out]; exact hU1, Lib.hid ⟨HKL.out.symm, by rw [List.length_set]; exact hO.out.1, hO.out.2.1.set j (by omega), .inr ⟨rfl, ?_⟩, ?_⟩, hB1⟩
    ·rw [← HI.out]
     have := Nat.mul_le_mul_right (4294967296 ^ j) hq1
     omega
    ·rw [HTK.out _ (j + 1) (by rw [List.length_set, hO.out.1]; omega), Dg.vf_succ, Dg.ld_set_same q (by rw [hO.out.1]; omega), Dg.vf_set q (Nat.le_refl j), HI.out]
end Go.Proofs.YtjnklbfhelbjgaaGreat

/- nat: shifted back. -/
namespace Go.Proofs.YtjnklbfhelbjgaaGreat
open Go.RowKit Go.IntWalk
theorem or_hi (x y : Nat) (hx : x < 4294967296) (hy : y < 4294967296) : bits .or .u64 (x : Int) ((y : Int) * 4294967296) = ((x + 4294967296 * y : Nat) : Int) := by
 have e : (y : Int) * 4294967296 = ((y * 4294967296 : Nat) : Int) := by simp
 rw [e, u64_or_nat _ _ (by omega) (by omega), Nat.or_comm, nat_join 32 _ _ (by rw [show (2 : Nat) ^ 32 = 4294967296 from rfl]; omega) (by rw [show (2 : Nat) ^ 32 = 4294967296 from rfl]; exact hx)]
 congr 1
 omega
set_option maxHeartbeats 4000000 in
theorem right_any (s : Nat) {A : Option Addr} {n c : Nat} {L : List Nat} {w : World} (h : RdU w w.heap.size A n c L) (hn : n ≤ 8796093022207) (hs : s < 32) :
  Calls Tryz.prog 254 #[.slice A n c, .int .i64 s] w fun e w' => ∃ (A : Option Addr) (m c x : Nat), e = .returned (.tuple #[.slice A m c, .int .i64 0]) ∧ OwU w' w.heap.size A m c (Dg.dg x) ∧ Hid (x = Dg.val L / 2 ^ s) ∧ Below w.heap.size w w' := by
 have HLEN := Lib.hid h.len
 have hsr : ((s : Int)).tdiv 32 = 0 := by rw [Int.tdiv_eq_ediv_of_nonneg (by omega)]; omega
 have hsm : ((s : Int)).tmod 32 = s := by rw [Int.tmod_eq_emod_of_nonneg (by omega)]; omega
 go_enter Tryz.func254, Tryz.ntmps254
 go_wp2_with fail
 refine (trim_any h (by omega)).mono ?_
 rintro _ _ ⟨k, rfl, hk, rfl⟩
 have hkn : k ≤ n := by have := hk.out.1; rw [HLEN.out] at this; exact this
 have hT := h.take hkn
 rw [hk.out.2] at hT
 rcases Nat.eq_zero_or_pos k with h0 | h0
 ·subst h0
  have hz := Dg.dg_nil.1 (hk.out.2.symm.trans (List.take_zero))
  have HZ := Lib.hid hz
  clear hz
  go_wp2
  go_ret2
  exact ⟨none, 0, 0, 0, rfl, by rw [Dg.dg_zero]; exact OwU.nil w _, Lib.hid (by rw [HZ.out]; simp), Below.refl _ _⟩
 ·have hmk := make_nat k (by omega)
  have hB0 := (Below.refl w.heap.size w).alloc (Nat.le_refl _) (.cells (madeCells #[.int .u32 0] k) 171)
  have hU0 := UB.made w k
  have hck := hT.le
  have hc0 : ¬ c = 0 := by omega
  have hkl := hT.len
  obtain ⟨_, ad, rfl, hbx, _⟩ := hT.at_ 0 (Dg.ld (Dg.dg (Dg.val L)) 0) (Dg.get_of_ld (by omega))
  have HKL := Lib.hid hkl
  clear hkl
  go_wp2_with fail
  generalize w.alloc (.cells (madeCells #[.int .u32 0] k) 171) = W1 at hB0 hU0 ⊢
  clear hmk
  obtain ⟨g, hg⟩ : ∃ g, g = w.heap.size := ⟨_, rfl⟩
  rw [← hg] at hU0 ⊢
  have HG := Lib.hid hg
  clear hg
  go_wp2_with fail
  go_loopw [28] (fun i wr => ∃ (j : Nat) (O : List Nat), i = .int .i64 j ∧ j ≤ k ∧ UB wr g O ∧ Hid (O.length = k ∧ Dg.Wd O ∧ ∀ z, z < j → Dg.ld O z = Dg.val L / 2 ^ s / 4294967296 ^ z % 4294967296) ∧ Below w.heap.size w wr) (fun i _ => k - (intOf i).toNat)
  case atStart => exact ⟨0, _, rfl, Nat.zero_le _, hU0, Lib.hid ⟨by simp, Dg.Wd.zeros _, fun z hz => by omega⟩, hB0⟩
  case round =>
   clear hU0 hB0
   obtain ⟨j, O, rfl, hj, hU, hO, hB⟩ := hrel
   by_cases hjk : j < k
   ·obtain ⟨hx, _, e1, _, hcx⟩ := hT.at_ j (Dg.ld (Dg.dg (Dg.val L)) j) (Dg.get_of_ld (by rw [HKL.out]; exact hjk))
    injection e1 with e1
    subst e1
    have hcx := (hB.cell (p := ad.add j) (by rw [add_blk]; exact hbx)).trans hcx
    have hrd : (Dg.ld (Dg.dg (Dg.val L)) j + 4294967296 * Dg.ld (Dg.dg (Dg.val L)) (j + 1)) / 2 ^ s % 4294967296 = Dg.val L / 2 ^ s / 4294967296 ^ j % 4294967296 := by
     have := Dg.right_dig (Dg.dg_wd (Dg.val L)) (i := j) (s := s) (by rw [HKL.out]; exact hjk) (pow_dvd32 hs)
     rwa [Dg.val_dg] at this
    have hcell := hU.cell (Dg.get_of_ld (L := O) (i := j) (by rw [hO.out.1]; omega))
    generalize Dg.ld O j = o0 at hcell
    have hfz := hU.frozen j
    by_cases hj1 : j + 1 < k
    ·obtain ⟨hy, _, e1, _, hcy⟩ := hT.at_ (j + 1) (Dg.ld (Dg.dg (Dg.val L)) (j + 1)) (Dg.get_of_ld (by rw [HKL.out]; exact hj1))
     injection e1 with e1
     subst e1
     have hcy := (hB.cell (p := ad.add (j + 1)) (by rw [add_blk]; exact hbx)).trans hcy
     generalize Dg.ld (Dg.dg (Dg.val L)) (j + 1) = y at hy hcy hrd
     simp [Addr.add] at hcy
     generalize Dg.ld (Dg.dg (Dg.val L)) j = x at hx hcx hrd
     have HRD := Lib.hid hrd
     have hor : bits .or .u64 (x : Int) ((y : Int) * 4294967296) = (x : Int) + 4294967296 * y := by rw [or_hi x y hx hy]; simp
     clear hrd
     obtain ⟨dg, hdg⟩ : ∃ dg, dg = (x + 4294967296 * y) / 2 ^ s % 4294967296 := ⟨_, rfl⟩
     have HDG := Lib.hid hdg
     have hdl : dg < 4294967296 := by rw [hdg]; exact Nat.mod_lt _ (by omega)
     have hV : (((x : Int) + 4294967296 * y) / 2 ^ s % 4294967296) = (dg : Int) := by rw [hdg]; simp
     have hU1 : UB (wr.setCell ⟨g, j, none⟩ (.int .u32 (((x : Int) + 4294967296 * y) / 2 ^ s % 4294967296))) g (O.set j dg) := by rw [hV]; exact hU.set j dg
     have hB1 := hB.setCell (p := ⟨g, j, none⟩) (by show w.heap.size ≤ g; have := HG.out; omega) (.int .u32 (((x : Int) + 4294967296 * y) / 2 ^ s % 4294967296))
     clear hdg hV
     go_wp2
     go_roundw
     case rel => exact ⟨j + 1, _, by go_num, hjk, hU1, Lib.hid ⟨by rw [List.length_set]; exact hO.out.1, hO.out.2.1.set j hdl, fun z hz => by
      rcases Nat.lt_or_ge z j with h1 | h1
      ·rw [Dg.ld_set_other dg (by omega)]; exact hO.out.2.2 z h1
      ·obtain rfl : z = j := by omega
       rw [Dg.ld_set_same dg (by rw [hO.out.1]; omega), HDG.out, HRD.out]⟩, hB1⟩
     case measure => simp [intOf]; omega
    ·have hy0 : Dg.ld (Dg.dg (Dg.val L)) (j + 1) = 0 := Dg.ld_ge (by rw [HKL.out]; omega)
     rw [hy0] at hrd
     generalize Dg.ld (Dg.dg (Dg.val L)) j = x at hx hcx hrd
     have HRD := Lib.hid hrd
     clear hrd hy0
     obtain ⟨dg, hdg⟩ : ∃ dg, dg = (x + 4294967296 * 0) / 2 ^ s % 4294967296 := ⟨_, rfl⟩
     have HDG := Lib.hid hdg
     have hdl : dg < 4294967296 := by rw [hdg]; exact Nat.mod_lt _ (by omega)
     have hV : ((x : Int) / 2 ^ s % 4294967296) = (dg : Int) := by rw [hdg]; simp
     have hU1 : UB (wr.setCell ⟨g, j, none⟩ (.int .u32 ((x : Int) / 2 ^ s % 4294967296))) g (O.set j dg) := by rw [hV]; exact hU.set j dg
     have hB1 := hB.setCell (p := ⟨g, j, none⟩) (by show w.heap.size ≤ g; have := HG.out; omega) (.int .u32 ((x : Int) / 2 ^ s % 4294967296))
     clear hdg hV
     go_wp2
     go_roundw
     case rel => exact ⟨j + 1, _, by go_num, hjk, hU1, Lib.hid ⟨by rw [List.length_set]; exact hO.out.1, hO.out.2.1.set j hdl, fun z hz => by
      rcases Nat.lt_or_ge z j with h1 | h1
      ·rw [Dg.ld_set_other dg (by omega)]; exact hO.out.2.2 z h1
      ·obtain rfl : z = j := by omega
       rw [Dg.ld_set_same dg (by rw [hO.out.1]; omega), HDG.out, HRD.out]⟩, hB1⟩
     case measure => simp [intOf]; omega
   ·obtain rfl : j = k := by omega
    have hO3 := hU.rd hO.out.2.1 hU.lt (k := j) (by rw [hO.out.1]; exact Nat.le_refl _) (by rw [hO.out.1]; unfold maxLen; omega)
    rw [hO.out.1, List.take_of_length_le (by rw [hO.out.1]; exact Nat.le_refl _)] at hO3
    have HV := Lib.hid (Dg.right_val (Dg.dg_wd (Dg.val L)) (s := s) HKL.out hO.out.1 (by rw [Dg.val_dg]; exact hO.out.2.2))
    go_wp2_with fail
    refine (own_any hO3 (by omega)).mono ?_
    rintro _ W4 ⟨A4, m4, c4, x4, rfl, ho4, hx4, hb4⟩
    go_wp2
    go_ret2
    exact ⟨_, _, _, _, rfl, ho4.base hB.size, Lib.hid (by rw [hx4.out, HV.out, Dg.val_dg]), hB.trans (hb4.mono hB.size)⟩
end Go.Proofs.YtjnklbfhelbjgaaGreat


/- Knuth's division: the guess of a digit, and what it is off by. Nothing of the program. -/
namespace Kn
structure At (D T top next t u2 P low lowT : Nat) : Prop where
 hD : D = (top * 4294967296 + next) * P + low
 hT : T = (t * 4294967296 + u2) * P + lowT
 low : low < P
 lowT : lowT < P
 top1 : 2147483648 ≤ top
 top2 : top < 4294967296
 next : next < 4294967296
 u2 : u2 < 4294967296
 lt : T < D * 4294967296
variable {D T top next t u2 P low lowT : Nat}
theorem At.big (h : At D T top next t u2 P low lowT) {q : Nat} (hq : t * 4294967296 + u2 < q * (top * 4294967296 + next)) : T < q * D := by
 have h1 := Nat.mul_le_mul_right P (Nat.succ_le_of_lt hq)
 have h2 : q * (top * 4294967296 + next) * P ≤ q * D := by
  rw [Nat.mul_assoc]
  exact Nat.mul_le_mul_left q (by rw [h.hD]; omega)
 have h3 := h.hT
 have h4 := h.lowT
 rw [Nat.succ_mul] at h1
 omega
theorem At.tlt (h : At D T top next t u2 P low lowT) : t < (top + 1) * 4294967296 := by
 have hP : 0 < P := by have := h.low; omega
 apply Classical.byContradiction
 intro hn
 have h1 : D < (top + 1) * 4294967296 * P := by
  have h2 : (top * 4294967296 + next + 1) * P ≤ (top + 1) * 4294967296 * P := Nat.mul_le_mul_right P (by have := h.next; omega)
  rw [Nat.add_mul _ 1, Nat.one_mul] at h2
  have h3 := h.hD
  have h4 := h.low
  omega
 have h2 : (top + 1) * 4294967296 * 4294967296 * P ≤ T := by
  have h3 : (top + 1) * 4294967296 * 4294967296 * P ≤ (t * 4294967296 + u2) * P := Nat.mul_le_mul_right P (by omega)
  have h4 := h.hT
  omega
 have h3 := h.lt
 have h4 : (top + 1) * 4294967296 * 4294967296 * P = (top + 1) * 4294967296 * P * 4294967296 := by grind
 omega
theorem At.close (h : At D T top next t u2 P low lowT) {q : Nat} (hq : q < 4294967296) (hv : q * (top * 4294967296 + next) ≤ t * 4294967296 + u2) : q * D < T + D := by
 have hP : 0 < P := by have := h.low; omega
 have h1 : q * D = q * (top * 4294967296 + next) * P + q * low := by rw [h.hD]; grind
 have h2 := Nat.mul_le_mul_right P hv
 have h3 : q * low ≤ 4294967295 * P := Nat.mul_le_mul (by omega) (Nat.le_of_lt h.low)
 have h4 : 4294967296 * P ≤ (top * 4294967296 + next) * P := Nat.mul_le_mul_right P (by have := h.top1; omega)
 have h5 := h.hT
 have h6 := h.hD
 omega
theorem At.brk (h : At D T top next t u2 P low lowT) {q r : Nat} (he : q * top + r = t) (hr : 4294967296 ≤ r) : q < 4294967296 ∧ q * (top * 4294967296 + next) ≤ t * 4294967296 + u2 := by
 have h1 := h.tlt
 have h2 : q * top < top * 4294967296 := by rw [Nat.add_mul] at h1; omega
 have hq : q < 4294967296 := by
  apply Classical.byContradiction
  intro hn
  have := Nat.mul_le_mul_right top (show 4294967296 ≤ q by omega)
  rw [Nat.mul_comm 4294967296] at this
  omega
 refine ⟨hq, ?_⟩
 have h3 : q * next ≤ 4294967295 * 4294967295 := Nat.mul_le_mul (by omega) (by have := h.next; omega)
 have h4 : q * (top * 4294967296 + next) = q * top * 4294967296 + q * next := by grind
 rw [h4, ← he, Nat.add_mul]
 omega
theorem At.fin (_ : At D T top next t u2 P low lowT) {q r : Nat} (he : q * top + r = t) (hv : q * next ≤ r * 4294967296 + u2) : q * (top * 4294967296 + next) ≤ t * 4294967296 + u2 := by
 have h4 : q * (top * 4294967296 + next) = q * top * 4294967296 + q * next := by grind
 rw [h4, ← he, Nat.add_mul]
 omega
set_option maxRecDepth 100000 in
theorem At.less (h : At D T top next t u2 P low lowT) {q r : Nat} (he : q * top + r = t) (hv : 4294967296 ≤ q ∨ r * 4294967296 + u2 < q * next) : T / D ≤ q - 1 ∧ 1 ≤ q := by
 have hD0 : 0 < D := by
  rcases Nat.eq_zero_or_pos D with h0 | h0
  ·have := h.lt; rw [h0] at this; omega
  ·exact h0
 have hlt : T / D < q := by
  rcases hv with hv | hv
  ·have h1 : T / D < 4294967296 := by
    rw [Nat.div_lt_iff_lt_mul hD0, Nat.mul_comm]
    exact h.lt
   have h5 : ¬ q ≤ T / D := fun h6 => absurd (Nat.le_trans hv h6) (Nat.not_le_of_gt h1)
   exact Nat.lt_of_not_le h5
  ·rw [Nat.div_lt_iff_lt_mul hD0]
   refine h.big ?_
   have h4 : q * (top * 4294967296 + next) = q * top * 4294967296 + q * next := by grind
   rw [h4, ← he, Nat.add_mul, Nat.add_assoc]
   exact Nat.add_lt_add_left hv _
 exact ⟨Nat.le_sub_one_of_lt hlt, Nat.lt_of_le_of_lt (Nat.zero_le _) hlt⟩
theorem At.guess (h : At D T top next t u2 P low lowT) {q : Nat} (hQ : T / D ≤ q) (hq : q < 4294967296) (hv : q * (top * 4294967296 + next) ≤ t * 4294967296 + u2) : q = T / D ∨ q = T / D + 1 := by
 have h1 := h.close hq hv
 have hD0 : 0 < D := by
  rcases Nat.eq_zero_or_pos D with h0 | h0
  ·have := h.lt; rw [h0] at this; omega
  ·exact h0
 have h2 : q - 1 ≤ T / D := by
  rw [Nat.le_div_iff_mul_le hD0, Nat.sub_mul]
  omega
 omega
end Kn
namespace Dg
theorem vf_split (f : Nat → Nat) (j : Nat) : ∀ c, vf f (j + c) = vf f j + 4294967296 ^ j * vf (fun x => f (j + x)) c
 | 0 => by simp [vf]
 | c + 1 => by
   rw [← Nat.add_assoc, vf_succ, vf_split f j c, vf_succ, Nat.pow_add, Nat.mul_add]
   grind
theorem vf_set_in {U : List Nat} {k : Nat} (s : Nat) (hl : k < U.length) : ∀ {n : Nat}, k < n → vf (ld (U.set k s)) n + ld U k * 4294967296 ^ k = vf (ld U) n + s * 4294967296 ^ k
 | 0, h => by omega
 | n + 1, h => by
   rw [vf_succ, vf_succ]
   by_cases hk : k = n
   ·subst hk
    rw [vf_set s (Nat.le_refl k), ld_set_same s hl]
    omega
   ·have ih := vf_set_in s hl (n := n) (by omega)
    rw [ld_set_other s (by omega)]
    omega
theorem term_le (f : Nat → Nat) {x : Nat} : ∀ {M : Nat}, x < M → f x * 4294967296 ^ x ≤ vf f M
 | 0, h => by omega
 | M + 1, h => by
   rw [vf_succ]
   by_cases hx : x = M
   ·subst hx; omega
   ·have := term_le f (x := x) (M := M) (by omega); omega
theorem zero_above {f : Nat → Nat} {M k x : Nat} (h : vf f M < 4294967296 ^ k) (hk : k ≤ x) (hx : x < M) : f x = 0 := by
 have h1 := term_le f hx
 have h2 : 4294967296 ^ k ≤ 4294967296 ^ x := Nat.pow_le_pow_right (by omega) hk
 apply Classical.byContradiction
 intro hn
 have h3 := Nat.mul_le_mul_right (4294967296 ^ x) (show 1 ≤ f x by omega)
 omega
theorem vf_cut {f : Nat → Nat} {k : Nat} : ∀ {M : Nat}, k ≤ M → (∀ x, k ≤ x → x < M → f x = 0) → vf f M = vf f k
 | 0, h, _ => by rw [show k = 0 by omega]
 | M + 1, h, hz => by
   by_cases hk : k = M + 1
   ·rw [hk]
   ·rw [vf_succ, hz M (by omega) (by omega), vf_cut (k := k) (M := M) (by omega) (fun x a b => hz x a (by omega))]; simp
end Dg
namespace Kn
open Dg
theorem at_digit {V U : List Nat} {p j M : Nat} (hV : Wd V) (hU : Wd U) (hM : j + p + 3 ≤ M) (htop : 2147483648 ≤ ld V (p + 1))
  (hlt : vf (ld U) M < vf (ld V) (p + 2) * 4294967296 ^ (j + 1)) :
  At (vf (ld V) (p + 2)) (vf (ld U) M / 4294967296 ^ j) (ld V (p + 1)) (ld V p) (ld U (j + p + 2) * 4294967296 + ld U (j + p + 1)) (ld U (j + p)) (4294967296 ^ p) (vf (ld V) p) (vf (fun x => ld U (j + x)) p) ∧
   vf (ld U) M / 4294967296 ^ j = vf (fun x => ld U (j + x)) (p + 3) ∧ vf (ld U) M = vf (ld U) (j + p + 3) := by
 have hD : vf (ld V) (p + 2) < 4294967296 ^ (p + 2) := vf_lt (ld_word hV) _
 have hb : vf (ld U) M < 4294967296 ^ (j + p + 3) := by
  refine Nat.lt_of_lt_of_le hlt ?_
  have := Nat.mul_le_mul_right (4294967296 ^ (j + 1)) (Nat.le_of_lt hD)
  rw [← Nat.pow_add] at this
  rwa [show j + p + 3 = p + 2 + (j + 1) by omega]
 have hc : vf (ld U) M = vf (ld U) (j + p + 3) := vf_cut hM (fun x a b => zero_above hb a b)
 have hT : vf (ld U) M / 4294967296 ^ j = vf (fun x => ld U (j + x)) (p + 3) := by
  rw [hc, show j + p + 3 = j + (p + 3) by omega, vf_split, Nat.add_mul_div_left _ _ (Nat.pow_pos (by omega)), Nat.div_eq_of_lt (vf_lt (ld_word hU) j), Nat.zero_add]
 refine ⟨⟨?_, ?_, vf_lt (ld_word hV) p, vf_lt (fun x => ld_word hU (j + x)) p, htop, ld_word hV _, ld_word hV _, ld_word hU _, ?_⟩, hT, hc⟩
 ·rw [vf_succ, vf_succ, Nat.pow_succ]; grind
 ·rw [hT, vf_succ, vf_succ, vf_succ, Nat.pow_succ, Nat.pow_succ]
  simp only [Nat.add_assoc]
  grind
 ·rw [Nat.div_lt_iff_lt_mul (Nat.pow_pos (by omega)), Nat.mul_assoc, ← Nat.pow_succ', Nat.add_comm]
  rwa [Nat.add_comm] at hlt
end Kn
namespace Kn
open Dg
theorem top_lt {L : List Nat} {p : Nat} (hw : Wd L) (hl : L.length = p + 2) : val L < (ld L (p + 1) + 1) * 4294967296 ^ (p + 1) ∧ ld L (p + 1) * 4294967296 ^ (p + 1) ≤ val L := by
 have e := vf_eq_val (L := L) (n := p + 2) (by omega)
 rw [vf_succ] at e
 have h1 := vf_lt (ld_word hw) (p + 1)
 rw [Nat.add_mul, Nat.one_mul]
 constructor <;> omega
theorem norm_v {L O : List Nat} {p s k tp : Nat} (hw : Wd L) (hl : L.length = p + 2) (htp : tp = ld L (p + 1)) (hk : k ≤ 31) (hs : s = 31 - k) (h1 : 2 ^ k ≤ tp) (h2 : tp < 2 ^ (k + 1)) :
  val L * 2 ^ s < 4294967296 ^ (p + 2) ∧ (Wd O → O.length = p + 2 → val O = val L * 2 ^ s → 2147483648 ≤ ld O (p + 1)) := by
 obtain ⟨t1, t2⟩ := top_lt hw hl
 rw [← htp] at t1 t2
 have e31 : 2 ^ k * 2 ^ s = 2147483648 := by rw [← Nat.pow_add, show k + s = 31 by omega]
 have e32 : 2 ^ (k + 1) * 2 ^ s = 4294967296 := by rw [← Nat.pow_add, show k + 1 + s = 32 by omega]
 constructor
 ·have h3 : (tp + 1) * 2 ^ s ≤ 4294967296 := by rw [← e32]; exact Nat.mul_le_mul_right _ h2
  have h4 : val L * 2 ^ s < (tp + 1) * 4294967296 ^ (p + 1) * 2 ^ s := Nat.mul_lt_mul_of_pos_right t1 (Nat.two_pow_pos s)
  have h5 : (tp + 1) * 4294967296 ^ (p + 1) * 2 ^ s = (tp + 1) * 2 ^ s * 4294967296 ^ (p + 1) := by grind
  have h6 : (tp + 1) * 2 ^ s * 4294967296 ^ (p + 1) ≤ 4294967296 * 4294967296 ^ (p + 1) := Nat.mul_le_mul_right _ h3
  rw [show p + 2 = (p + 1) + 1 from rfl, Nat.pow_succ _ (p + 1), Nat.mul_comm _ 4294967296]
  omega
 ·intro hO hOl hv
  have h3 := (top_lt hO hOl).1
  have h4 : 2147483648 * 4294967296 ^ (p + 1) ≤ val O := by
   rw [hv, ← e31]
   have h5 := Nat.mul_le_mul_right (2 ^ s) t2
   have h6 : 2 ^ k * 2 ^ s * 4294967296 ^ (p + 1) ≤ tp * 4294967296 ^ (p + 1) * 2 ^ s := by
    have := Nat.mul_le_mul_right (2 ^ s * 4294967296 ^ (p + 1)) h1
    grind
   omega
  have h5 := Nat.lt_of_le_of_lt h4 h3
  have h6 := Nat.lt_of_mul_lt_mul_right h5
  omega
end Kn
namespace Kn
open Dg
theorem norm_u {L L' O1 O2 : List Nat} {p e s m2 : Nat} (hw : Wd L) (hl : L.length = p + 2 + e) (hO1 : O1.length = p + 5) (hv1 : val (O1.take (p + 2)) = val L' * 2 ^ s) (htop : 2147483648 ≤ ld O1 (p + 1)) (hs : s < 32)
  (hO2 : O2.length = p + 2 + e + 3) (hm1 : p + 2 + e ≤ m2) (hm2 : m2 ≤ p + 2 + e + 1) (hv2 : val (O2.take m2) = val L * 2 ^ s) :
  vf (ld O1) (p + 2) = val L' * 2 ^ s ∧ vf (ld ((O2.set m2 0).set (m2 + 1) 0)) (p + 2 + e + 1) = val L * 2 ^ s ∧ val L * 2 ^ s < vf (ld O1) (p + 2) * 4294967296 ^ (e + 1) := by
 have hD : vf (ld O1) (p + 2) = val L' * 2 ^ s := by
  rw [← hv1, ← vf_eq_val (L := O1.take (p + 2)) (n := p + 2) (by simp; omega)]
  exact vf_congr fun j hj => by rw [ld_lt (by omega), ld_lt (by rw [List.length_take]; omega), List.getElem_take]
 refine ⟨hD, ?_, ?_⟩
 ·rw [← hv2, ← vf_eq_val (L := O2.take m2) (n := p + 2 + e + 1) (by simp; omega)]
  refine vf_congr fun j hj => ?_
  rw [ld_set_other 0 (by omega)]
  by_cases h : j = m2
  ·subst h
   rw [ld_set_same 0 (by omega), ld_ge (by rw [List.length_take]; omega)]
  ·rw [ld_set_other 0 h, ld_lt (by omega), ld_lt (by rw [List.length_take]; omega), List.getElem_take]
 ·have h1 : 2147483648 * 4294967296 ^ (p + 1) ≤ vf (ld O1) (p + 2) := by
   rw [vf_succ]
   have := Nat.mul_le_mul_right (4294967296 ^ (p + 1)) htop
   omega
  have h2 := val_lt hw
  rw [hl] at h2
  have h3 : 2 ^ s ≤ 2147483648 := Nat.pow_le_pow_right (by omega) (show s ≤ 31 by omega)
  have h4 : val L * 2 ^ s < 4294967296 ^ (p + 2 + e) * 2147483648 := Nat.lt_of_lt_of_le (Nat.mul_lt_mul_of_pos_right h2 (Nat.two_pow_pos s)) (Nat.mul_le_mul_left _ h3)
  have h5 := Nat.mul_le_mul_right (4294967296 ^ (e + 1)) h1
  have h6 : 2147483648 * 4294967296 ^ (p + 1) * 4294967296 ^ (e + 1) = 4294967296 ^ (p + 2 + e) * 2147483648 := by
   rw [show p + 2 + e = (p + 1) + (e + 1) by omega, Nat.pow_add]; grind
  omega
end Kn
namespace Kn
theorem At.start {D T top next t u2 P low lowT : Nat} (h : At D T top next t u2 P low lowT) : T / D ≤ t / top := by
 have hD0 : 0 < D := by
  rcases Nat.eq_zero_or_pos D with h0 | h0
  ·have := h.lt; rw [h0] at this; omega
  ·exact h0
 have h1 : T / D < t / top + 1 := by
  rw [Nat.div_lt_iff_lt_mul hD0]
  refine h.big ?_
  have ht : 0 < top := by have := h.top1; omega
  have h2 : t + 1 ≤ (t / top + 1) * top := by
   have h3 := Nat.div_add_mod t top
   have h4 := Nat.mod_lt t ht
   rw [Nat.add_mul, Nat.one_mul, Nat.mul_comm (t / top)]
   omega
  have h5 := Nat.mul_le_mul_right 4294967296 h2
  have h6 : (t / top + 1) * (top * 4294967296 + next) = (t / top + 1) * top * 4294967296 + (t / top + 1) * next := by grind
  have h7 := h.u2
  rw [h6]
  rw [Nat.add_mul t 1] at h5
  omega
 omega
end Kn
namespace Kn
open Dg
theorem msub {X X' Y W q v cy br u pl cy' dl br' i j : Nat} (hI : X + q * W * 4294967296 ^ j = Y + (cy + br) * 4294967296 ^ (i + j)) (hX : X' + u * 4294967296 ^ (i + j) = X + dl * 4294967296 ^ (i + j))
  (hp : q * v + cy = pl + 4294967296 * cy') (hd : dl + pl + br = u + 4294967296 * br') :
  X' + q * (W + v * 4294967296 ^ i) * 4294967296 ^ j = Y + (cy' + br') * 4294967296 ^ (i + 1 + j) := by
 have e1 : 4294967296 ^ (i + 1 + j) = 4294967296 ^ (i + j) * 4294967296 := by rw [← Nat.pow_succ]; congr 1; omega
 have e2 : 4294967296 ^ (i + j) = 4294967296 ^ i * 4294967296 ^ j := Nat.pow_add _ _ _
 have e3 : (q * v + cy) * 4294967296 ^ (i + j) = (pl + 4294967296 * cy') * 4294967296 ^ (i + j) := by rw [hp]
 have e4 : (dl + pl + br) * 4294967296 ^ (i + j) = (u + 4294967296 * br') * 4294967296 ^ (i + j) := by rw [hd]
 have e5 : q * (W + v * 4294967296 ^ i) * 4294967296 ^ j = q * W * 4294967296 ^ j + q * v * 4294967296 ^ (i + j) := by rw [e2]; grind
 rw [e5, e1]
 generalize 4294967296 ^ (i + j) = P at *
 generalize q * W * 4294967296 ^ j = Z at *
 grind
theorem msub_nums (q v cy br u : Nat) (hq : q < 4294967296) (hv : v < 4294967296) (hcy : cy < 4294967296) (hbr : br ≤ 1) (hu : u < 4294967296) :
  ∃ pv pr pl cy' w1 dd dl br' : Nat, pv = q * v ∧ pv ≤ 18446744065119617025 ∧ pr = pv + cy ∧ pr < 18446744073709551616 ∧ pl = pr % 4294967296 ∧ cy' = pr / 4294967296 ∧ cy' < 4294967296 ∧
   (w1 : Int) = ((u : Int) - pl) % 18446744073709551616 ∧ (dd : Int) = ((w1 : Int) - br) % 18446744073709551616 ∧ dl = dd % 4294967296 ∧ br' = dd / 9223372036854775808 ∧ br' ≤ 1 ∧ dl < 4294967296 ∧ q * v + cy = pl + 4294967296 * cy' ∧ dl + pl + br = u + 4294967296 * br' := by
 have h1 := Nat.mul_le_mul (show q ≤ 4294967295 by omega) (show v ≤ 4294967295 by omega)
 refine ⟨q * v, q * v + cy, (q * v + cy) % 4294967296, (q * v + cy) / 4294967296, (((u : Int) - ((q * v + cy) % 4294967296 : Nat)) % 18446744073709551616).toNat, (((((u : Int) - ((q * v + cy) % 4294967296 : Nat)) % 18446744073709551616).toNat - br : Int) % 18446744073709551616).toNat, _, _, rfl, h1, rfl, ?_, rfl, rfl, ?_, ?_, ?_, rfl, rfl, ?_⟩
 all_goals generalize q * v = m at *
 ·omega
 ·omega
 ·omega
 ·omega
 ·refine ⟨?_, ?_, ?_, ?_⟩ <;> omega
end Kn
