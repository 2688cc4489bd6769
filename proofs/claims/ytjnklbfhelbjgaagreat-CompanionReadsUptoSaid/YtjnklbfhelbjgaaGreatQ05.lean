/- The reference's integers, first part: in normal form, of a number, sign, sizes, product, greatest common divisor. -/
import Derived.Test.YtjnklbfhelbjgaaGreatQ04
import Derived.Test.YtjnklbfhelbjgaaGreatQ03
import Derived.Deep.RegionWith
import Derived.Deep.CutBlock
import Derived.Deep.CutRange
import Derived.Deep.RegionHeld3
namespace Go.Proofs.YtjnklbfhelbjgaaGreat
open Go.RowKit Go.IntWalk
attribute [local go_sem ↓] Go.wp_at_zero Go.wp_at_succ
set_option maxHeartbeats 1000000 in
theorem rINorm_any {s : Bool} {A : Option Addr} {n c : Nat} {z : Int} {w : World} (h : RdZ w w.heap.size s A n c z) (hn : n ≤ 17592186044416) :
  Calls Tryz.prog 154 #[.agg #[.bool s, .slice A n c]] w (RetI z w) := by
 obtain ⟨hZ, hR, hB⟩ := boxed1 w s A n c
 have h1 := h.next hB
 obtain ⟨M, h, hz⟩ := h1.raw
 have HSZ := Lib.hid (Nat.lt_trans (Nat.lt_succ_self _) hR.lt)
 go_enter Tryz.func154, Tryz.ntmps154
 go_wp2_with fail
 generalize (w.alloc (.cells #[.bool s, .slice A n c] 25)).alloc (.cells #[.bool false, .slice none 0 0] 25) = W1 at *
 have hz0 := hZ.c0
 have hz1 := hZ.c1
 refine (refNorm_any h (by omega)).mono ?_
 rintro _ W2 ⟨A2, m2, c2, x2, rfl, ho2, hx2, hb2⟩
 have hZ2 := hZ.next hb2
 have hR2 := hR.next hb2
 have hB2 := hB.trans (hb2.mono hB.size)
 have hd0 := hZ2.c0
 have hd1 := hZ2.c1
 have hc0 := hR2.c0
 have hc1 := hR2.c1
 have hf0 := hR2.fz 0
 have hf1 := hR2.fz 1
 have HB := Lib.hid hR.lt
 have HO := Lib.hid (OwZ.mk' (t := s) ho2)
 clear hb2 hZ hR h1 h hz0 hz1 ho2
 cases s
 ·go_wp2
  have hp := put_int hR2 hB2 (Nat.le_succ _) (show OwZ W2 W1.heap.size false A2 m2 c2 (Zz.sg false x2) from HO.out) HB.out
  generalize (W2.setCell ⟨w.heap.size + 1, 0, none⟩ (.bool false)).setCell ⟨w.heap.size + 1, 1, none⟩ (.slice A2 m2 c2) = W9 at hp ⊢
  obtain ⟨hZ9, ho9, hB9⟩ := hp
  exact bodyPost_ret (by simp [results, Tryz.results154, go_sem, hZ9.c0, hZ9.c1]) rfl ⟨_, _, _, _, _, rfl, ho9.base (Nat.le_of_lt HSZ.out), Lib.hid (by rw [hx2.out, hz.out]), hB9⟩
 ·go_wp2
  have hp := put_int hR2 hB2 (Nat.le_succ _) (show OwZ W2 W1.heap.size (decide (0 < m2)) A2 m2 c2 (Zz.sg true x2) from HO.out) HB.out
  generalize (W2.setCell ⟨w.heap.size + 1, 0, none⟩ (.bool (decide (0 < m2)))).setCell ⟨w.heap.size + 1, 1, none⟩ (.slice A2 m2 c2) = W9 at hp ⊢
  obtain ⟨hZ9, ho9, hB9⟩ := hp
  exact bodyPost_ret (by simp [results, Tryz.results154, go_sem, hZ9.c0, hZ9.c1]) rfl ⟨_, _, _, _, _, rfl, ho9.base (Nat.le_of_lt HSZ.out), Lib.hid (by rw [hx2.out, hz.out]), hB9⟩
theorem OwZ.nonneg {w : World} {b : Nat} {A : Option Addr} {n c x : Nat} (h : OwU w b A n c (Dg.dg x)) : OwZ w b false A n c (x : Int) := ⟨by simpa using h, by simp⟩
set_option maxHeartbeats 1000000 in
theorem rIOf_any (z : Int) (h1 : -9223372036854775808 ≤ z) (h2 : z < 9223372036854775808) (w : World) :
  Calls Tryz.prog 101 #[.int .i64 z] w (RetI z w) := by
 have hB := (Below.refl w.heap.size w).alloc (Nat.le_refl _) (.cells #[.bool false, .slice none 0 0] 25)
 have hZ := ZC.new w false none 0 0
 go_enter Tryz.func101, Tryz.ntmps101
 by_cases hz : z < 0
 ·go_wp2_with fail
  generalize w.alloc (.cells #[.bool false, .slice none 0 0] 25) = W1 at *
  refine (refOf_any z.natAbs (by omega) (by omega) W1).mono ?_
  rintro _ W2 ⟨A2, m2, c2, x2, rfl, ho2, hx2, hb2⟩
  have hZ3 := (hZ.next hb2)
  have hB3 := hB.trans (hb2.mono hB.size)
  have HO : Hid (OwZ W2 W1.heap.size true A2 m2 c2 z) := Lib.hid ⟨by rw [hx2.out] at ho2; exact ho2, (decide_eq_true hz).symm⟩
  have hc0 := hZ3.c0
  have hc1 := hZ3.c1
  have hf0 := hZ3.fz 0
  have hf1 := hZ3.fz 1
  have HB := Lib.hid (show w.heap.size < W1.heap.size from hZ.lt)
  clear hb2 ho2
  go_wp2
  have hp := put_int hZ3 hB3 (Nat.le_refl _) HO.out HB.out
  generalize (W2.setCell ⟨w.heap.size, 0, none⟩ (.bool true)).setCell ⟨w.heap.size, 1, none⟩ (.slice A2 m2 c2) = W9 at hp ⊢
  obtain ⟨hZ9, ho9, hB9⟩ := hp
  exact bodyPost_ret (by simp [results, Tryz.results101, go_sem, hZ9.c0, hZ9.c1]) rfl ⟨_, _, _, _, _, rfl, ho9.base (Nat.le_of_lt HB.out), Lib.hid rfl, hB9⟩
 ·have hz0 : 0 ≤ z := by omega
  clear hz
  go_wp2_with fail
  generalize w.alloc (.cells #[.bool false, .slice none 0 0] 25) = W1 at *
  refine (refOf_any z.natAbs (by omega) (by omega) W1).mono ?_
  rintro _ W2 ⟨A2, m2, c2, x2, rfl, ho2, hx2, hb2⟩
  have hZ3 := (hZ.next hb2)
  have hB3 := hB.trans (hb2.mono hB.size)
  have HO : Hid (OwZ W2 W1.heap.size false A2 m2 c2 z) := Lib.hid ⟨by rw [hx2.out] at ho2; exact ho2, (decide_eq_false (by omega)).symm⟩
  have hc0 := hZ3.c0
  have hc1 := hZ3.c1
  have hf0 := hZ3.fz 0
  have hf1 := hZ3.fz 1
  have HB := Lib.hid (show w.heap.size < W1.heap.size from hZ.lt)
  clear hb2 ho2
  go_wp2
  have hp := put_int hZ3 hB3 (Nat.le_refl _) HO.out HB.out
  generalize (W2.setCell ⟨w.heap.size, 0, none⟩ (.bool false)).setCell ⟨w.heap.size, 1, none⟩ (.slice A2 m2 c2) = W9 at hp ⊢
  obtain ⟨hZ9, ho9, hB9⟩ := hp
  exact bodyPost_ret (by simp [results, Tryz.results101, go_sem, hZ9.c0, hZ9.c1]) rfl ⟨_, _, _, _, _, rfl, ho9.base (Nat.le_of_lt HB.out), Lib.hid rfl, hB9⟩
set_option maxHeartbeats 1000000 in
theorem rISign_any {s : Bool} {A : Option Addr} {n c : Nat} {z : Int} {w : World} (h : RdZ w w.heap.size s A n c z) (hn : n ≤ 17592186044416) :
  Calls Tryz.prog 69 #[.agg #[.bool s, .slice A n c]] w (RetK z.sign w) := by
 obtain ⟨M, h, hz⟩ := h.raw
 have hB := (Below.refl w.heap.size w).alloc (Nat.le_refl _) (.cells #[.bool s, .slice A n c] 25)
 have hZ := ZC.new w s A n c
 have h1 := h.next hB
 go_enter Tryz.func69, Tryz.ntmps69
 go_wp2_with fail
 refine (refZero_any h1 hn).mono ?_
 rintro _ _ ⟨b, rfl, hk, rfl⟩
 have HS := Lib.hid (show z.sign = if b = true then 0 else if s then -1 else 1 by
  rw [hz.out, sign_sg]
  by_cases e : b = true
  ·rw [if_pos e, if_pos (hk.out.1 e)]
  ·rw [if_neg e, if_neg fun e2 => e (hk.out.2 e2)])
 clear hk hz h1 h
 generalize w.alloc (.cells #[.bool s, .slice A n c] 25) = W1 at *
 have hc0 := hZ.c0
 have hc1 := hZ.c1
 cases b
 ·cases s
  ·go_wp2
   go_ret
   exact ⟨_, rfl, Lib.hid (by rw [HS.out]; rfl), hB⟩
  ·go_wp2
   go_ret
   exact ⟨_, rfl, Lib.hid (by rw [HS.out]; rfl), hB⟩
 ·go_wp2
  go_ret
  exact ⟨_, rfl, Lib.hid (by rw [HS.out]; rfl), hB⟩
theorem RdZ.neg {w : World} {B : Nat} {s : Bool} {A : Option Addr} {n c : Nat} {z : Int} (h : RdZ w B s A n c z) : RdZ w B (!s) A n c (-z) := by
 obtain ⟨M, h, rfl⟩ := h
 exact ⟨M, h, (Zz.sg_not _ _).symm⟩
set_option maxHeartbeats 1000000 in
theorem rINeg_any {s : Bool} {A : Option Addr} {n c : Nat} {z : Int} {w : World} (h : RdZ w w.heap.size s A n c z) (hn : n ≤ 17592186044416) :
  Calls Tryz.prog 99 #[.agg #[.bool s, .slice A n c]] w (RetI (-z) w) := by
 obtain ⟨hZ, hR, hB⟩ := boxed1 w s A n c
 have h1 := h.next hB
 have HSZ := Lib.hid (Nat.lt_trans (Nat.lt_succ_self _) hR.lt)
 go_enter Tryz.func99, Tryz.ntmps99
 go_wp2_with fail
 generalize (w.alloc (.cells #[.bool s, .slice A n c] 25)).alloc (.cells #[.bool false, .slice none 0 0] 25) = W1 at *
 refine (rINorm_any h1.neg hn).mono ?_
 rintro _ W2 ⟨s2, A2, m2, c2, z2, rfl, ho2, hz2, hb2⟩
 have hR2 := hR.next hb2
 have hB2 := hB.trans (hb2.mono hB.size)
 have hc0 := hR2.c0
 have hc1 := hR2.c1
 have hf0 := hR2.fz 0
 have hf1 := hR2.fz 1
 have HB := Lib.hid hR.lt
 clear hb2 hZ hR h1 h
 go_wp2
 have hp := put_int hR2 hB2 (Nat.le_succ _) ho2 HB.out
 generalize (W2.setCell ⟨w.heap.size + 1, 0, none⟩ (.bool s2)).setCell ⟨w.heap.size + 1, 1, none⟩ (.slice A2 m2 c2) = W9 at hp ⊢
 obtain ⟨hZ9, ho9, hB9⟩ := hp
 exact bodyPost_ret (by simp [results, Tryz.results99, go_sem, hZ9.c0, hZ9.c1]) rfl ⟨_, _, _, _, _, rfl, ho9.base (Nat.le_of_lt HSZ.out), hz2, hB9⟩
set_option maxHeartbeats 1000000 in
theorem rIAbs_any {s : Bool} {A : Option Addr} {n c : Nat} {z : Int} {w : World} (h : RdZ w w.heap.size s A n c z) (hn : n ≤ 17592186044416) :
  Calls Tryz.prog 216 #[.agg #[.bool s, .slice A n c]] w (RetI z.natAbs w) := by
 obtain ⟨hZ, hR, hB⟩ := boxed1 w s A n c
 have h1 := h.next hB
 obtain ⟨M, h, hz⟩ := h1.raw
 have HSZ := Lib.hid (Nat.lt_trans (Nat.lt_succ_self _) hR.lt)
 go_enter Tryz.func216, Tryz.ntmps216
 go_wp2_with fail
 generalize (w.alloc (.cells #[.bool s, .slice A n c] 25)).alloc (.cells #[.bool false, .slice none 0 0] 25) = W1 at *
 have hz0 := hZ.c0
 have hz1 := hZ.c1
 refine (refNorm_any h (by omega)).mono ?_
 rintro _ W2 ⟨A2, m2, c2, x2, rfl, ho2, hx2, hb2⟩
 have hR2 := hR.next hb2
 have hB2 := hB.trans (hb2.mono hB.size)
 have hc0 := hR2.c0
 have hc1 := hR2.c1
 have hf0 := hR2.fz 0
 have hf1 := hR2.fz 1
 have HB := Lib.hid hR.lt
 clear hb2 hZ hR h1 h hz0 hz1
 go_wp2
 have hp := put_int hR2 hB2 (Nat.le_succ _) (OwZ.nonneg ho2) HB.out
 generalize (W2.setCell ⟨w.heap.size + 1, 0, none⟩ (.bool false)).setCell ⟨w.heap.size + 1, 1, none⟩ (.slice A2 m2 c2) = W9 at hp ⊢
 obtain ⟨hZ9, ho9, hB9⟩ := hp
 exact bodyPost_ret (by simp [results, Tryz.results216, go_sem, hZ9.c0, hZ9.c1]) rfl ⟨_, _, _, _, _, rfl, ho9.base (Nat.le_of_lt HSZ.out), Lib.hid (by rw [hx2.out, hz.out, Zz.abs_sg]), hB9⟩
set_option maxHeartbeats 1000000 in
theorem rIGcd_any {s s' : Bool} {A A' : Option Addr} {n c n' c' : Nat} {z z' : Int} {w : World} (h : RdZ w w.heap.size s A n c z) (h' : RdZ w w.heap.size s' A' n' c' z') (hn : n ≤ 2199023255551) (hn' : n' ≤ 2199023255551) :
  Calls Tryz.prog 152 #[.agg #[.bool s, .slice A n c], .agg #[.bool s', .slice A' n' c']] w (RetI (Int.gcd z z') w) := by
 obtain ⟨hZ, hY, hR, hB⟩ := boxed2 w s A n c s' A' n' c'
 obtain ⟨M, h1, hz⟩ := (h.next hB).raw
 obtain ⟨M', h1', hz'⟩ := (h'.next hB).raw
 have HSZ := Lib.hid (show w.heap.size < _ from Nat.lt_trans (Nat.lt_succ_self _) (Nat.lt_trans (Nat.lt_succ_self _) hR.lt))
 go_enter Tryz.func152, Tryz.ntmps152
 go_wp2_with fail
 generalize ((w.alloc (.cells #[.bool s, .slice A n c] 25)).alloc (.cells #[.bool s', .slice A' n' c'] 25)).alloc (.cells #[.bool false, .slice none 0 0] 25) = W1 at *
 have hc1 := hZ.c1
 have hd1 := hY.c1
 refine (refGcd_any h1 h1' hn hn').mono ?_
 rintro _ W2 ⟨A2, m2, c2, x2, rfl, ho2, hx2, hb2⟩
 clear hc1 hd1
 have hR2 := hR.next hb2
 have hB2 := hB.trans (hb2.mono hB.size)
 have HS1 := Lib.hid hR.lt
 have hc0 := hR2.c0
 have hc1 := hR2.c1
 have hf0 := hR2.fz 0
 have hf1 := hR2.fz 1
 clear hb2 hZ hY
 go_wp2
 have hp := put_int hR2 hB2 (by omega) (OwZ.nonneg ho2) HS1.out
 generalize (W2.setCell ⟨w.heap.size + 1 + 1, 0, none⟩ (.bool false)).setCell ⟨w.heap.size + 1 + 1, 1, none⟩ (.slice A2 m2 c2) = W9 at hp ⊢
 obtain ⟨hZ9, ho9, hB9⟩ := hp
 exact bodyPost_ret (by simp [results, Tryz.results152, go_sem, hZ9.c0, hZ9.c1]) rfl ⟨_, _, _, _, _, rfl, ho9.base (Nat.le_of_lt HSZ.out), Lib.hid (by rw [hx2.out, hz.out, hz'.out]; unfold Int.gcd; rw [Zz.abs_sg, Zz.abs_sg]), hB9⟩
set_option maxRecDepth 100000 in
set_option maxHeartbeats 2000000 in
theorem rIMul_any {s s' : Bool} {A A' : Option Addr} {n c n' c' : Nat} {z z' : Int} {w : World} (h : RdZ w w.heap.size s A n c z) (h' : RdZ w w.heap.size s' A' n' c' z') (hn : n ≤ 4398046511103) (hn' : n' ≤ 4398046511103) :
  Calls Tryz.prog 176 #[.agg #[.bool s, .slice A n c], .agg #[.bool s', .slice A' n' c']] w (RetI (z * z') w) := by
 obtain ⟨hZ, hY, hR, hB⟩ := boxed2 w s A n c s' A' n' c'
 obtain ⟨M, h1, hz⟩ := (h.next hB).raw
 obtain ⟨M', h1', hz'⟩ := (h'.next hB).raw
 have HSZ := Lib.hid (show w.heap.size < _ from Nat.lt_trans (Nat.lt_succ_self _) (Nat.lt_trans (Nat.lt_succ_self _) hR.lt))
 go_enter Tryz.func176, Tryz.ntmps176
 go_wp2_with fail
 generalize ((w.alloc (.cells #[.bool s, .slice A n c] 25)).alloc (.cells #[.bool s', .slice A' n' c'] 25)).alloc (.cells #[.bool false, .slice none 0 0] 25) = W1 at *
 have HBD := Lib.hid (Below.refl W1.heap.size W1).drew
 have HMU := Lib.hid (refNMul_any (h1.next HBD.out) (h1'.next HBD.out) hn hn')
 have HLN := Lib.hid (show ∀ (W : World) (b : Nat) (A : Option Addr) (m c x : Nat), OwU W b A m c (Dg.dg x) → Hid (x = Dg.val M * Dg.val M') → m ≤ 17592186044416 from fun W b A m c x ho hx => by
  have e := prod_len h1.wd h1'.wd
  rw [h1.len, h1'.len] at e
  have e2 := ho.len
  rw [hx.out] at e2
  omega)
 have hc0 := hZ.c0
 have hc1 := hZ.c1
 have hd0 := hY.c0
 have hd1 := hY.c1
 have HZ := Lib.hid hZ
 have HY := Lib.hid hY
 have HR := Lib.hid hR
 have hq1 : ¬ (w.heap.size + 1 + 1 = w.heap.size) := by omega
 have hq2 : ¬ (w.heap.size = w.heap.size + 1 + 1) := by omega
 go_region_held3 (fun w' => w'.cell? ⟨w.heap.size, 0, none⟩ = some (.bool s) ∧ w'.cell? ⟨w.heap.size, 1, none⟩ = some (.slice A n c) ∧ w'.cell? ⟨w.heap.size + 1, 0, none⟩ = some (.bool s') ∧ w'.cell? ⟨w.heap.size + 1, 1, none⟩ = some (.slice A' n' c')) (go_keep)
  (first
   | (go_at_call 215; refine HMU.out.mono ?_; rintro _ W2 ⟨A2, m2, c2, x2, rfl, ho2, hx2, hb2⟩; have HB2 := Lib.hid (HBD.out.trans hb2); have hd0 := (HZ.out.next HB2.out).c0; have hd1 := (HZ.out.next HB2.out).c1; have hd2 := (HY.out.next HB2.out).c0; have hd3 := (HY.out.next HB2.out).c1)
   | (go_at_call 154; refine (rINorm_any (z := Zz.sg (s != s') (Dg.val (Dg.dg x2))) ⟨_, ho2.rd, rfl⟩ (HLN.out _ _ _ _ _ _ ho2 hx2)).mono ?_; rintro _ W4 ⟨s4, A4, m4, c4, z4, rfl, ho4, hz4, hb4⟩; have HB4 := Lib.hid (HB2.out.trans (hb4.mono HB2.out.size)); have hf0 := (HZ.out.next HB4.out).c0; have hf1 := (HZ.out.next HB4.out).c1; have hf2 := (HY.out.next HB4.out).c0; have hf3 := (HY.out.next HB4.out).c1; have hg0 := (HR.out.next HB4.out).c0; have hg1 := (HR.out.next HB4.out).c1; have hh0 := (HR.out.next HB4.out).fz 0; have hh1 := (HR.out.next HB4.out).fz 1))
 have HS1 := Lib.hid hR.lt
 have HFA := Lib.hid (show z4 = z * z' by rw [hz4.out, Dg.val_dg, hx2.out, hz.out, hz'.out, Zz.sg_mul])
 clear hf0 hf1 hf2 hf3 hg0 hg1 hh0 hh1 hc0 hc1 hd0 hd1 hd2 hd3 hb2 hb4 hq1 hq2
 have hR4 := hR.next HB4.out
 have hB4 := hB.trans (HB4.out.mono hB.size)
 have hp := put_int hR4 hB4 (by omega) ho4 (Nat.lt_of_lt_of_le HS1.out HB2.out.size)
 generalize (W4.setCell ⟨w.heap.size + 1 + 1, 0, none⟩ (.bool s4)).setCell ⟨w.heap.size + 1 + 1, 1, none⟩ (.slice A4 m4 c4) = W9 at hp ⊢
 obtain ⟨hZ9, ho9, hB9⟩ := hp
 go_wp2
 exact bodyPost_ret (by simp [results, Tryz.results176, go_sem, hZ9.c0, hZ9.c1]) rfl ⟨_, _, _, _, _, rfl, ho9.base (Nat.le_trans (Nat.le_of_lt HSZ.out) HB2.out.size), HFA, hB9⟩
end Go.Proofs.YtjnklbfhelbjgaaGreat

/- zint: division rounded to nought, Euclid's division, exact division. -/
namespace Go.Proofs.YtjnklbfhelbjgaaGreat
open Go.RowKit Go.IntWalk
attribute [local go_sem ↓] Go.wp_at_zero Go.wp_at_succ
theorem boxed22 (w : World) (s : Bool) (A : Option Addr) (n c : Nat) (s' : Bool) (A' : Option Addr) (n' c' : Nat) :
  ∃ W, W = (((w.alloc (.cells #[.bool s, .slice A n c] 25)).alloc (.cells #[.bool s', .slice A' n' c'] 25)).alloc (.cells #[.bool false, .slice none 0 0] 25)).alloc (.cells #[.bool false, .slice none 0 0] 25) ∧
  ZC W w.heap.size s A n c ∧ ZC W (w.heap.size + 1) s' A' n' c' ∧ ZC W (w.heap.size + 1 + 1) false none 0 0 ∧ ZC W (w.heap.size + 1 + 1 + 1) false none 0 0 ∧ Below w.heap.size w W := by
 obtain ⟨h1, h2, h3, h4⟩ := boxed2 w s A n c s' A' n' c'
 refine ⟨_, rfl, h1.alloc _, h2.alloc _, h3.alloc _, ?_, h4.alloc h4.size _⟩
 simpa using ZC.new (((w.alloc (.cells #[.bool s, .slice A n c] 25)).alloc (.cells #[.bool s', .slice A' n' c'] 25)).alloc (.cells #[.bool false, .slice none 0 0] 25)) false none 0 0
theorem put_two {v w W : World} {g g' b b' : Nat} {s s' t t' : Bool} {A A' A1 A2 : Option Addr} {n c n' c' k m k' m' : Nat} {z z' : Int} (h : ZC w g s A n c) (h' : ZC w g' s' A' n' c') (hne : g ≠ g') (hB : Below v.heap.size v w) (hg : v.heap.size ≤ g) (hg' : v.heap.size ≤ g')
  (ho : OwZ w b t A1 k m z) (ho' : OwZ w b' t' A2 k' m' z') (hb : g < b ∧ g' < b) (hb' : g < b' ∧ g' < b') (hW : W = (((w.setCell ⟨g, 0, none⟩ (.bool t)).setCell ⟨g, 1, none⟩ (.slice A1 k m)).setCell ⟨g', 0, none⟩ (.bool t')).setCell ⟨g', 1, none⟩ (.slice A2 k' m')) :
  ZC W g t A1 k m ∧ ZC W g' t' A2 k' m' ∧ OwZ W b t A1 k m z ∧ OwZ W b' t' A2 k' m' z' ∧ Below v.heap.size v W := by
 obtain ⟨h1, h2, h3⟩ := put_int h hB hg ho hb.1
 obtain ⟨h4, h5, h6⟩ := put_int ((h'.far (p := ⟨g, 0, none⟩) (Ne.symm hne) _).far (p := ⟨g, 1, none⟩) (Ne.symm hne) _) h3 hg' ((ho'.far (p := ⟨g, 0, none⟩) hb'.1 _).far (p := ⟨g, 1, none⟩) hb'.1 _) hb'.2
 subst hW
 exact ⟨(h1.far (p := ⟨g', 0, none⟩) hne _).far (p := ⟨g', 1, none⟩) hne _, h4, (h2.far (p := ⟨g', 0, none⟩) hb.2 _).far (p := ⟨g', 1, none⟩) hb.2 _, h5, h6⟩
set_option maxRecDepth 100000 in
set_option maxHeartbeats 2000000 in
theorem trunc_any {s s' : Bool} {A A' : Option Addr} {n c n' c' : Nat} {z z' : Int} {w : World} (h : RdZ w w.heap.size s A n c z) (h' : RdZ w w.heap.size s' A' n' c' z') (hn : n ≤ 1000000000000) (hn' : n' ≤ 1000000000000) (h0 : z' ≠ 0) :
  Calls Tryz.prog 192 #[.agg #[.bool s, .slice A n c], .agg #[.bool s', .slice A' n' c']] w (RetII (z.tdiv z') (z.tmod z') w) := by
 obtain ⟨M, h, hz⟩ := h.raw
 obtain ⟨M', h', hz'⟩ := h'.raw
 have HP := Lib.hid (show 0 < Dg.val M' by
  rcases Nat.eq_zero_or_pos (Dg.val M') with e | e
  ·exact absurd (by rw [hz'.out, e, Zz.sg_zero]) h0
  ·exact e)
 clear h0
 obtain ⟨W1, HW1, hZ, hY, hR, hS, hB⟩ := boxed22 w s A n c s' A' n' c'
 have HW1 := Lib.hid HW1
 have HSZ := Lib.hid (show w.heap.size < W1.heap.size from hZ.lt)
 go_enter Tryz.func192, Tryz.ntmps192
 go_wp2_with fail
 rw [← HW1.out]
 clear HW1
 have hc0 := hZ.c0
 have hc1 := hZ.c1
 have hd0 := hY.c0
 have hd1 := hY.c1
 refine (nDiv_any (h.next hB) (h'.next hB) hn hn' HP.out).mono ?_
 rintro _ W2 ⟨A2, A3, m2, c2, m3, c3, x2, x3, rfl, ho2, ho3, hx2, hb2⟩
 have hZ2 := hZ.next hb2
 have hY2 := hY.next hb2
 have hR2 := hR.next hb2
 have hS2 := hS.next hb2
 have hB2 := hB.trans (hb2.mono hB.size)
 have HS1 := Lib.hid (And.intro hR.lt hS.lt)
 have HS2 := Lib.hid hb2.size
 clear hc0 hc1 hd0 hd1 hZ hY hR hS hb2 hB
 go_wp2_with fail
 have hc0 := hZ2.c0
 have hd0 := hY2.c0
 have HBD := Lib.hid (Below.refl W2.heap.size W2).drew
 have HZ := Lib.hid hZ2
 have HY := Lib.hid hY2
 have HR := Lib.hid hR2
 have HS := Lib.hid hS2
 have HO2 := Lib.hid ho2
 have HO3 := Lib.hid ho3
 clear hZ2 hY2 hR2 hS2 ho2 ho3
 have hq1 : ¬ (w.heap.size + 1 + 1 = w.heap.size) := by omega
 have hq2 : ¬ (w.heap.size = w.heap.size + 1 + 1) := by omega
 have hq3 : ¬ (w.heap.size + 1 + 1 + 1 = w.heap.size) := by omega
 have hq4 : ¬ (w.heap.size = w.heap.size + 1 + 1 + 1) := by omega
 go_region_held3 (fun w' => w'.cell? ⟨w.heap.size, 0, none⟩ = some (.bool s) ∧ w'.cell? ⟨w.heap.size + 1, 0, none⟩ = some (.bool s')) (go_keep)
  (first
   | (go_at_call 141; have hx := HB4.out; clear hx; refine (make1_any s (HO3.out.next HB4.out)).mono ?_; rintro _ W5 ⟨s5, rfl, ho5, hb5⟩; have HB5 := Lib.hid (HB4.out.trans (hb5.mono HB4.out.size)); have he0 := (HZ.out.next HB5.out).c0; have he1 := (HY.out.next HB5.out).c0; have hg0 := (HR.out.next HB5.out).c0; have hg1 := (HR.out.next HB5.out).c1; have hh0 := (HR.out.next HB5.out).fz 0; have hh1 := (HR.out.next HB5.out).fz 1; have hi0 := (HS.out.next HB5.out).c0; have hi1 := (HS.out.next HB5.out).c1; have hj0 := (HS.out.next HB5.out).fz 0; have hj1 := (HS.out.next HB5.out).fz 1)
   | (go_at_call 141; refine (make1_any (s != s') (HO2.out.next HBD.out)).mono ?_; rintro _ W4 ⟨s4, rfl, ho4, hb4⟩; have HB4 := Lib.hid (HBD.out.trans hb4); have hd0 := (HZ.out.next HB4.out).c0; have hd1 := (HY.out.next HB4.out).c0))
 have HP2 := Lib.hid fun W (hW : W = (((W5.setCell ⟨w.heap.size + 1 + 1, 0, none⟩ (.bool s4)).setCell ⟨w.heap.size + 1 + 1, 1, none⟩ (.slice A2 m2 c2)).setCell ⟨w.heap.size + 1 + 1 + 1, 0, none⟩ (.bool s5)).setCell ⟨w.heap.size + 1 + 1 + 1, 1, none⟩ (.slice A3 m3 c3)) =>
  put_two (HR.out.next HB5.out) (HS.out.next HB5.out) (by omega) (hB2.trans (HB5.out.mono hB2.size)) (by omega) (by omega) (ho4.next hb5) ho5 HS1.out HS1.out hW
 clear he0 he1 hg0 hg1 hh0 hh1 hi0 hi1 hj0 hj1 hb4 hb5 ho4 ho5 hq1 hq2 hq3 hq4
 obtain ⟨W6, HW6⟩ : ∃ W, W = (((W5.setCell ⟨w.heap.size + 1 + 1, 0, none⟩ (.bool s4)).setCell ⟨w.heap.size + 1 + 1, 1, none⟩ (.slice A2 m2 c2)).setCell ⟨w.heap.size + 1 + 1 + 1, 0, none⟩ (.bool s5)).setCell ⟨w.heap.size + 1 + 1 + 1, 1, none⟩ (.slice A3 m3 c3) := ⟨_, rfl⟩
 obtain ⟨hZ6, hY6, ho6, ho7, hB6⟩ := HP2.out W6 HW6
 rw [← HW6]
 clear HW6 HP2
 go_wp2
 exact bodyPost_ret (by simp [results, Tryz.results192, go_sem, hZ6.c0, hZ6.c1, hY6.c0, hY6.c1]) rfl ⟨_, _, _, _, _, _, _, _, _, _, rfl, ho6.base (Nat.le_of_lt HSZ.out), ho7.base (Nat.le_of_lt HSZ.out), Lib.hid (by rw [hx2.out.1, hx2.out.2, hz.out, hz'.out, Zz.sg_div, Zz.sg_mod]; exact ⟨rfl, rfl⟩), hB6⟩
set_option maxHeartbeats 1000000 in
theorem igcd_any {s s' : Bool} {A A' : Option Addr} {n c n' c' : Nat} {z z' : Int} {w : World} (h : RdZ w w.heap.size s A n c z) (h' : RdZ w w.heap.size s' A' n' c' z') (hn : n ≤ 1000000000000) (hn' : n' ≤ 1000000000000) :
  Calls Tryz.prog 191 #[.agg #[.bool s, .slice A n c], .agg #[.bool s', .slice A' n' c']] w (RetI (Int.gcd z z') w) := by
 obtain ⟨hZ, hY, hR, hB⟩ := boxed2 w s A n c s' A' n' c'
 obtain ⟨M, h1, hz⟩ := (h.next hB).raw
 obtain ⟨M', h1', hz'⟩ := (h'.next hB).raw
 have HSZ := Lib.hid (show w.heap.size < _ from Nat.lt_trans (Nat.lt_succ_self _) (Nat.lt_trans (Nat.lt_succ_self _) hR.lt))
 go_enter Tryz.func191, Tryz.ntmps191
 go_wp2_with fail
 generalize ((w.alloc (.cells #[.bool s, .slice A n c] 25)).alloc (.cells #[.bool s', .slice A' n' c'] 25)).alloc (.cells #[.bool false, .slice none 0 0] 25) = W1 at *
 have hc1 := hZ.c1
 have hd1 := hY.c1
 refine (nGcd_any h1 h1' hn hn').mono ?_
 rintro _ W2 ⟨A2, m2, c2, x2, rfl, ho2, hx2, hb2⟩
 clear hc1 hd1
 go_wp2_with fail
 refine (make1_any false ho2).mono ?_
 rintro _ W4 ⟨s4, rfl, ho4, hb4⟩
 have hR4 := (hR.next hb2).next hb4
 have hB4 := hB.trans ((hb2.trans (hb4.mono hb2.size)).mono hB.size)
 have HS1 := Lib.hid hR.lt
 have hc0 := hR4.c0
 have hc1 := hR4.c1
 have hf0 := hR4.fz 0
 have hf1 := hR4.fz 1
 clear hb4 hb2 hZ hY ho2
 go_wp2
 have hp := put_int hR4 hB4 (by omega) ho4 HS1.out
 generalize (W4.setCell ⟨w.heap.size + 1 + 1, 0, none⟩ (.bool s4)).setCell ⟨w.heap.size + 1 + 1, 1, none⟩ (.slice A2 m2 c2) = W5 at hp ⊢
 obtain ⟨hZ5, ho5, hB5⟩ := hp
 exact bodyPost_ret (by simp [results, Tryz.results191, go_sem, hZ5.c0, hZ5.c1]) rfl ⟨_, _, _, _, _, rfl, ho5.base (Nat.le_of_lt HSZ.out), Lib.hid (by rw [hx2.out, Zz.sg_false, hz.out, hz'.out]; unfold Int.gcd; rw [Zz.abs_sg, Zz.abs_sg]), hB5⟩
set_option maxRecDepth 100000 in
set_option maxHeartbeats 2000000 in
theorem exact_any {s s' : Bool} {A A' : Option Addr} {n c n' c' : Nat} {z z' : Int} {w : World} (h : RdZ w w.heap.size s A n c z) (h' : RdZ w w.heap.size s' A' n' c' z') (hn : n ≤ 1000000000000) (hn' : n' ≤ 1000000000000) (h0 : z' ≠ 0) :
  Calls Tryz.prog 138 #[.agg #[.bool s, .slice A n c], .agg #[.bool s', .slice A' n' c']] w fun e w' => ∃ (s : Bool) (A : Option Addr) (n c : Nat) (y k : Int), e = .returned (.tuple #[.agg #[.bool s, .slice A n c], .int .i64 k]) ∧ OwZ w' w.heap.size s A n c y ∧ Hid ((z.tmod z' = 0 ∧ y = z.tdiv z' ∧ k = 0) ∨ (z.tmod z' ≠ 0 ∧ y = 0 ∧ k = 30)) ∧ Below w.heap.size w w' := by
 obtain ⟨hZ, hY, hR, hB⟩ := boxed2 w s A n c s' A' n' c'
 have h1 := h.next hB
 have h1' := h'.next hB
 have HLN := Lib.hid h1'.len
 have HSZ := Lib.hid (show w.heap.size < _ from Nat.lt_trans (Nat.lt_succ_self _) (Nat.lt_trans (Nat.lt_succ_self _) hR.lt))
 go_enter Tryz.func138, Tryz.ntmps138
 go_wp2_with fail
 generalize ((w.alloc (.cells #[.bool s, .slice A n c] 25)).alloc (.cells #[.bool s', .slice A' n' c'] 25)).alloc (.cells #[.bool false, .slice none 0 0] 25) = W1 at *
 have hc0 := hZ.c0
 have hc1 := hZ.c1
 have hd0 := hY.c0
 have hd1 := hY.c1
 refine (trunc_any h1 h1' hn hn' h0).mono ?_
 rintro _ W2 ⟨s2, A2, m2, c2, z2, s3, A3, m3, c3, z3, rfl, ho2, ho3, hz2, hb2⟩
 obtain ⟨W3, HW3⟩ : ∃ W, W = (W2.alloc (.cells #[.bool s2, .slice A2 m2 c2] 25)).alloc (.cells #[.bool s3, .slice A3 m3 c3] 25) := ⟨_, rfl⟩
 have hQ : ZC W3 W2.heap.size s2 A2 m2 c2 := by rw [HW3]; exact (ZC.new W2 s2 A2 m2 c2).alloc _
 have hS : ZC W3 (W2.heap.size + 1) s3 A3 m3 c3 := by rw [HW3]; simpa using ZC.new (W2.alloc (.cells #[.bool s2, .slice A2 m2 c2] 25)) s3 A3 m3 c3
 have hb3 : Below W2.heap.size W2 W3 := by rw [HW3]; exact ((Below.refl W2.heap.size W2).alloc (Nat.le_refl _) _).alloc (by simp) _
 have HW3 := Lib.hid HW3
 clear hc0 hc1 hd0 hd1
 go_wp2_with fail
 rw [← HW3.out]
 clear HW3
 have hs0 := hS.c0
 have hs1 := hS.c1
 have HM3 := Lib.hid (show m3 ≤ 1000000000000 from by rw [ho3.len, hz2.out.2]; exact Nat.le_trans (Zz.zl_tmod_lt _ h0) (Nat.le_trans HLN.out hn'))
 refine (sign_any (ho3.next hb3).rd (by have := HM3.out; omega)).mono ?_
 rintro _ W4 ⟨k, rfl, hk, hb4⟩
 have HB24 := Lib.hid (hb3.trans (hb4.mono hb3.size))
 have HO2 := Lib.hid ((ho2.next HB24.out))
 have hQ4 := hQ.next hb4
 have hR4 := (hR.next hb2).next HB24.out
 have hB4 := hB.trans ((hb2.trans (HB24.out.mono hb2.size)).mono hB.size)
 have hf0 := hR4.fz 0
 have hf1 := hR4.fz 1
 have hr0 := hR4.c0
 have hr1 := hR4.c1
 have hq0 := hQ4.c0
 have hq1 := hQ4.c1
 have HS1 := Lib.hid hR.lt
 have HK := Lib.hid (show k = 0 ↔ z.tmod z' = 0 by rw [hk.out, hz2.out.2]; exact Int.sign_eq_zero_iff_zero)
 clear hs0 hs1 hS hQ hR hZ hY hb2 hb3 hb4 ho2 ho3
 by_cases hk0 : k = 0
 ·have HT := Lib.hid (HK.out.1 hk0)
  subst hk0
  go_wp2
  have hp := put_int hR4 hB4 (by omega) HO2.out HS1.out
  generalize (W4.setCell ⟨w.heap.size + 1 + 1, 0, none⟩ (.bool s2)).setCell ⟨w.heap.size + 1 + 1, 1, none⟩ (.slice A2 m2 c2) = W5 at hp ⊢
  obtain ⟨hZ5, ho5, hB5⟩ := hp
  exact bodyPost_ret (by simp [results, Tryz.results138, go_sem, hZ5.c0, hZ5.c1]) rfl ⟨_, _, _, _, _, _, rfl, ho5.base (Nat.le_of_lt HSZ.out), Lib.hid (.inl ⟨HT.out, hz2.out.1, rfl⟩), hB5⟩
 ·have HT := Lib.hid (mt HK.out.2 hk0)
  have hkb : (k != 0) = true := by simpa using hk0
  clear hk0
  go_wp2
  have hp := put_int hR4 hB4 (by omega) (OwZ.zero W4 W1.heap.size) HS1.out
  generalize (W4.setCell ⟨w.heap.size + 1 + 1, 0, none⟩ (.bool false)).setCell ⟨w.heap.size + 1 + 1, 1, none⟩ (.slice none 0 0) = W5 at hp ⊢
  obtain ⟨hZ5, ho5, hB5⟩ := hp
  exact bodyPost_ret (by simp [results, Tryz.results138, go_sem, hZ5.c0, hZ5.c1]) rfl ⟨_, _, _, _, _, _, rfl, ho5.base (Nat.le_of_lt HSZ.out), Lib.hid (.inr ⟨HT.out, rfl, rfl⟩), hB5⟩
end Go.Proofs.YtjnklbfhelbjgaaGreat

/- The reference's integers, second part: the sum, the difference. -/
namespace Go.Proofs.YtjnklbfhelbjgaaGreat
open Go.RowKit Go.IntWalk
attribute [local go_sem ↓] Go.wp_at_zero Go.wp_at_succ
def Two (w : World) (b g g' : Nat) (z z' : Int) (wr : World) : Prop :=
 ∃ (s1 s2 : Bool) (A1 A2 : Option Addr) (m1 c1 m2 c2 : Nat) (y1 y2 : Int), ZC wr g s1 A1 m1 c1 ∧ ZC wr g' s2 A2 m2 c2 ∧ OwZ wr b s1 A1 m1 c1 y1 ∧ OwZ wr b s2 A2 m2 c2 y2 ∧ Hid (y1 = z ∧ y2 = z') ∧ Below w.heap.size w wr
theorem two_put {v w W : World} {g g' b b1 b2 : Nat} {s s' t t' : Bool} {A A' A1 A2 : Option Addr} {n c n' c' k m k' m' : Nat} {z z' y y' : Int} (h : ZC w g s A n c) (h' : ZC w g' s' A' n' c') (hne : g ≠ g') (hB : Below v.heap.size v w) (hg : v.heap.size ≤ g) (hg' : v.heap.size ≤ g')
  (ho : OwZ w b1 t A1 k m y) (ho' : OwZ w b2 t' A2 k' m' y') (hb : g < b ∧ g' < b) (hb1 : b ≤ b1) (hb2 : b ≤ b2) (hy : y = z) (hy' : y' = z')
  (hW : W = (((w.setCell ⟨g, 0, none⟩ (.bool t)).setCell ⟨g, 1, none⟩ (.slice A1 k m)).setCell ⟨g', 0, none⟩ (.bool t')).setCell ⟨g', 1, none⟩ (.slice A2 k' m') ∨
   W = (((w.setCell ⟨g', 0, none⟩ (.bool t')).setCell ⟨g', 1, none⟩ (.slice A2 k' m')).setCell ⟨g, 0, none⟩ (.bool t)).setCell ⟨g, 1, none⟩ (.slice A1 k m)) : Two v b g g' z z' W := by
 have ho := ho.base hb1
 have ho' := ho'.base hb2
 rcases hW with hW | hW
 ·obtain ⟨h1, h2, h3, h4, h5⟩ := put_two h h' hne hB hg hg' ho ho' hb hb hW
  exact ⟨t, t', A1, A2, k, m, k', m', y, y', h1, h2, h3, h4, Lib.hid ⟨hy, hy'⟩, h5⟩
 ·obtain ⟨h1, h2, h3, h4, h5⟩ := put_two h' h (Ne.symm hne) hB hg' hg ho' ho ⟨hb.2, hb.1⟩ ⟨hb.2, hb.1⟩ hW
  exact ⟨t, t', A1, A2, k, m, k', m', y, y', h2, h1, h4, h3, Lib.hid ⟨hy, hy'⟩, h5⟩
theorem add_short {w : World} {b b' m c m' c' x y : Nat} {A A' : Option Addr} (h : OwU w b A m c (Dg.dg x)) (h' : OwU w b' A' m' c' (Dg.dg y)) : x + y < 4294967296 ^ (max m m' + 1) := by
 have e1 := Dg.dg_len_lt.1 (Nat.le_of_eq h.len)
 have e2 := Dg.dg_len_lt.1 (Nat.le_of_eq h'.len)
 have h3 : 4294967296 ^ m ≤ 4294967296 ^ max m m' := Nat.pow_le_pow_right (by omega) (by omega)
 have h4 : 4294967296 ^ m' ≤ 4294967296 ^ max m m' := Nat.pow_le_pow_right (by omega) (by omega)
 rw [Nat.pow_succ]
 omega
set_option maxRecDepth 100000 in
set_option maxHeartbeats 4000000 in
theorem rIAdd_any {s s' : Bool} {A A' : Option Addr} {n c n' c' : Nat} {z z' : Int} {w : World} (h : RdZ w w.heap.size s A n c z) (h' : RdZ w w.heap.size s' A' n' c' z') (hn : n ≤ 8796093022207) (hn' : n' ≤ 8796093022207) :
  Calls Tryz.prog 175 #[.agg #[.bool s, .slice A n c], .agg #[.bool s', .slice A' n' c']] w (RetI (z + z') w) := by
 obtain ⟨hZ, hY, hR, hB⟩ := boxed2 w s A n c s' A' n' c'
 have h1 := h.next hB
 have h1' := h'.next hB
 have HL1 := Lib.hid h1.len
 have HL2 := Lib.hid h1'.len
 have HSZ := Lib.hid (show w.heap.size < _ from Nat.lt_trans (Nat.lt_succ_self _) (Nat.lt_trans (Nat.lt_succ_self _) hR.lt))
 go_enter Tryz.func175, Tryz.ntmps175
 go_upto_region 1 with fail
 generalize ((w.alloc (.cells #[.bool s, .slice A n c] 25)).alloc (.cells #[.bool s', .slice A' n' c'] 25)).alloc (.cells #[.bool false, .slice none 0 0] 25) = W1 at *
 have HS1 := Lib.hid hR.lt
 go_cut [] from 5 to 8 (fun wr => Two w W1.heap.size w.heap.size (w.heap.size + 1) z z' wr ∧ ZC wr (w.heap.size + 1 + 1) false none 0 0)
 case first =>
  have HBD := Lib.hid (Below.refl W1.heap.size W1).drew
  have hc0 := hZ.c0
  have hc1 := hZ.c1
  have hd0 := hY.c0
  have hd1 := hY.c1
  have HZ := Lib.hid hZ
  have HY := Lib.hid hY
  have HR := Lib.hid hR
  go_region_with (first
   | (go_at_call 154; have hx := HB2.out; clear hx; refine (rINorm_any (h1'.next HB2.out) (by omega)).mono ?_; rintro _ W3 ⟨s3, A3, m3, c3, z3, rfl, ho3, hz3, hb3⟩; have HB3 := Lib.hid (HB2.out.trans (hb3.mono HB2.out.size)); have ha0 := (HZ.out.next HB3.out).c0; have ha1 := (HZ.out.next HB3.out).c1; have ha2 := (HY.out.next HB3.out).c0; have ha3 := (HY.out.next HB3.out).c1; have hf0 := (HZ.out.next HB3.out).fz 0; have hf1 := (HZ.out.next HB3.out).fz 1; have hf2 := (HY.out.next HB3.out).fz 0; have hf3 := (HY.out.next HB3.out).fz 1)
   | (go_at_call 154; refine (rINorm_any (h1.next HBD.out) (by omega)).mono ?_; rintro _ W2 ⟨s2, A2, m2, c2, z2, rfl, ho2, hz2, hb2⟩; have HB2 := Lib.hid (HBD.out.trans hb2); have he2 := (HY.out.next HB2.out).c0; have he3 := (HY.out.next HB2.out).c1))
  all_goals
   have HP := Lib.hid fun W => two_put (W := W) (z := z) (z' := z') (HZ.out.next HB3.out) (HY.out.next HB3.out) (by omega) (hB.trans (HB3.out.mono hB.size)) (Nat.le_refl _) (Nat.le_succ _) (ho2.next hb3) ho3 (b := W1.heap.size) ⟨HZ.out.lt, HY.out.lt⟩ HBD.out.size HB2.out.size hz2.out hz3.out
   have HRN := Lib.hid (HR.out.next HB3.out)
   clear ha0 ha1 ha2 ha3 hf0 hf1 hf2 hf3 he2 he3 hc0 hc1 hd0 hd1
   go_wp2
   go_meet
   refine ⟨?_, ?_⟩
   ·first
    | exact HP.out _ (.inl rfl)
    | exact HP.out _ (.inr rfl)
   ·exact (((HRN.out.far (by simp <;> omega) _).far (by simp <;> omega) _).far (by simp <;> omega) _).far (by simp <;> omega) _
 case rest =>
  obtain ⟨⟨s1, s2, A1, A2, m1, c1, m2, c2, y1, y2, hZ, hY, ho1, ho2, hy, hB⟩, hR⟩ := hcut
  have HO1 := Lib.hid ho1
  have HO2 := Lib.hid ho2
  have HM := Lib.hid (show m1 ≤ 8796093022207 ∧ m2 ≤ 8796093022207 from ⟨by rw [ho1.len, hy.out.1]; have := HL1.out; omega, by rw [ho2.len, hy.out.2]; have := HL2.out; omega⟩)
  have HV := Lib.hid (show Zz.sg s1 y1.natAbs = z ∧ Zz.sg s2 y2.natAbs = z' from ⟨by rw [ho1.sgn, Zz.sg_abs, hy.out.1], by rw [ho2.sgn, Zz.sg_abs, hy.out.2]⟩)
  clear ho1 ho2 h h' h1 h1'
  have hc0 := hZ.c0
  have hc1 := hZ.c1
  have hd0 := hY.c0
  have hd1 := hY.c1
  by_cases hss : s2 = s1
  ·subst hss
   have hc0 := hZ.c0
   have hc1 := hZ.c1
   have hd1 := hY.c1
   have HBD := Lib.hid (Below.refl wc.heap.size wc).drew
   have HOP := Lib.hid (refAdd1_any (HO1.out.own.rd.next HBD.out) (HO2.out.own.rd.next HBD.out) HM.out.1 HM.out.2)
   have HZ := Lib.hid hZ
   have HY := Lib.hid hY
   have HR := Lib.hid hR
   have hq1 : ¬ (w.heap.size + 1 + 1 = w.heap.size) := by omega
   have hq2 : ¬ (w.heap.size = w.heap.size + 1 + 1) := by omega
   go_wp2_with fail
   go_region_held3 (fun w' => w'.cell? ⟨w.heap.size, 0, none⟩ = some (.bool s2) ∧ w'.cell? ⟨w.heap.size, 1, none⟩ = some (.slice A1 m1 c1) ∧ w'.cell? ⟨w.heap.size + 1, 1, none⟩ = some (.slice A2 m2 c2)) (go_keep)
    (first
     | (go_at_call 212; refine HOP.out.mono ?_; rintro _ V2 ⟨A5, m5, c5, x5, rfl, ho5, hx5, hb5⟩; have HB5 := Lib.hid (HBD.out.trans hb5); have he0 := (HZ.out.next HB5.out).c0; have he1 := (HZ.out.next HB5.out).c1; have he2 := (HY.out.next HB5.out).c1)
     | (go_at_call 154; refine (rINorm_any (z := Zz.sg s2 (Dg.val (Dg.dg x5))) ⟨_, ho5.rd, rfl⟩ (by refine Nat.le_trans (ho5.short (k := max m1 m2 + 1) (by rw [hx5.out, Dg.val_dg, Dg.val_dg]; exact add_short HO1.out.own HO2.out.own)) (by have := HM.out; omega))).mono ?_; rintro _ V3 ⟨s6, A6, m6, c6, z6, rfl, ho6, hz6, hb6⟩; have HB6 := Lib.hid (HB5.out.trans (hb6.mono HB5.out.size)); have hf0 := (HZ.out.next HB6.out).c0; have hf1 := (HZ.out.next HB6.out).c1; have hf2 := (HY.out.next HB6.out).c1; have hg0 := (HR.out.next HB6.out).c0; have hg1 := (HR.out.next HB6.out).c1; have hh0 := (HR.out.next HB6.out).fz 0; have hh1 := (HR.out.next HB6.out).fz 1))
   have HFA := Lib.hid (show z6 = z + z' by rw [hz6.out, Dg.val_dg, hx5.out, Dg.val_dg, Dg.val_dg, ← Zz.sg_add, HV.out.1, HV.out.2])
   have hR6 := HR.out.next HB6.out
   have hB6 := hB.trans (HB6.out.mono hB.size)
   have HS6 := Lib.hid (show w.heap.size + 1 + 1 < V2.heap.size from Nat.lt_of_lt_of_le HR.out.lt HB5.out.size)
   clear hf0 hf1 hf2 hg0 hg1 hh0 hh1 hc0 hc1 hd1 he0 he1 he2 hb5 hb6 hq1 hq2
   have hp := put_int hR6 hB6 (by omega) ho6 HS6.out
   generalize (V3.setCell ⟨w.heap.size + 1 + 1, 0, none⟩ (.bool s6)).setCell ⟨w.heap.size + 1 + 1, 1, none⟩ (.slice A6 m6 c6) = V9 at hp ⊢
   obtain ⟨hZ9, ho9, hB9⟩ := hp
   go_wp2
   exact bodyPost_ret (by simp [results, Tryz.results175, go_sem, hZ9.c0, hZ9.c1]) rfl ⟨_, _, _, _, _, rfl, ho9.base (by have := HS6.out; omega), HFA, hB9⟩
  ·have hbe : (s1 == s2) = false := by simpa using fun e => hss e.symm
   have HSS := Lib.hid hss
   clear hss
   go_wp2_with fail
   refine (refCmp_any HO1.out.own.rd HO2.out.own.rd HM.out.1 HM.out.2).mono ?_
   rintro _ _ ⟨zc, rfl, hzc, rfl⟩
   rw [Dg.val_dg, Dg.val_dg] at hzc
   by_cases hlt : y1.natAbs < y2.natAbs
   ·have hzc0 : zc < 0 := by rw [hzc.out]; exact cmp_neg.2 hlt
    have HLT := Lib.hid hlt
    clear hlt hzc
    have hf0 := hZ.fz 0
    have hf1 := hZ.fz 1
    have hf2 := hY.fz 0
    have hf3 := hY.fz 1
    go_upto_region 6 with fail
    obtain ⟨W2, HW2⟩ : ∃ W, W = (((wc.setCell ⟨w.heap.size, 0, none⟩ (.bool s2)).setCell ⟨w.heap.size, 1, none⟩ (.slice A2 m2 c2)).setCell ⟨w.heap.size + 1, 0, none⟩ (.bool s1)).setCell ⟨w.heap.size + 1, 1, none⟩ (.slice A1 m1 c1) := ⟨_, rfl⟩
    obtain ⟨hZ2, hY2, hO2, hO1, hB2⟩ := put_two hZ hY (by omega) hB (Nat.le_refl _) (Nat.le_succ _) HO2.out HO1.out (by have := HS1.out; omega) (by have := HS1.out; omega) HW2
    have hR2 : ZC W2 (w.heap.size + 1 + 1) false none 0 0 := by rw [HW2]; exact (((hR.far (by simp <;> omega) _).far (by simp <;> omega) _).far (by simp <;> omega) _).far (by simp <;> omega) _
    rw [← HW2]
    have HO21 := Lib.hid hO1
    have HO22 := Lib.hid hO2
    clear HW2 hf0 hf1 hf2 hf3 hc0 hc1 hd0 hd1 hO1 hO2 hZ hY hR hB
    have hc0 := hZ2.c0
    have hc1 := hZ2.c1
    have hd1 := hY2.c1
    have HBD := Lib.hid (Below.refl W2.heap.size W2).drew
    have HOP := Lib.hid (refNSub_any (HO22.out.own.rd.next HBD.out) (HO21.out.own.rd.next HBD.out) HM.out.2 (by rw [Dg.val_dg, Dg.val_dg]; exact Nat.le_of_lt HLT.out))
    have HZ := Lib.hid hZ2
    have HY := Lib.hid hY2
    have HR := Lib.hid hR2
    have hq1 : ¬ (w.heap.size + 1 + 1 = w.heap.size) := by omega
    have hq2 : ¬ (w.heap.size = w.heap.size + 1 + 1) := by omega
    go_region_held3 (fun w' => w'.cell? ⟨w.heap.size, 0, none⟩ = some (.bool s2) ∧ w'.cell? ⟨w.heap.size, 1, none⟩ = some (.slice A2 m2 c2) ∧ w'.cell? ⟨w.heap.size + 1, 1, none⟩ = some (.slice A1 m1 c1)) (go_keep)
     (first
      | (go_at_call 214; refine HOP.out.mono ?_; rintro _ V2 ⟨A5, m5, c5, x5, rfl, ho5, hx5, hb5⟩; have HB5 := Lib.hid (HBD.out.trans hb5); have he0 := (HZ.out.next HB5.out).c0; have he1 := (HZ.out.next HB5.out).c1; have he2 := (HY.out.next HB5.out).c1)
      | (go_at_call 154; refine (rINorm_any (z := Zz.sg s2 (Dg.val (Dg.dg x5))) ⟨_, ho5.rd, rfl⟩ (by refine Nat.le_trans (ho5.short (k := m2) (by rw [hx5.out, Dg.val_dg, Dg.val_dg]; exact Nat.lt_of_le_of_lt (Nat.sub_le _ _) (Dg.dg_len_lt.1 (Nat.le_of_eq HO22.out.own.len)))) (by have := HM.out; omega))).mono ?_; rintro _ V3 ⟨s6, A6, m6, c6, z6, rfl, ho6, hz6, hb6⟩; have HB6 := Lib.hid (HB5.out.trans (hb6.mono HB5.out.size)); have hf0 := (HZ.out.next HB6.out).c0; have hf1 := (HZ.out.next HB6.out).c1; have hf2 := (HY.out.next HB6.out).c1; have hg0 := (HR.out.next HB6.out).c0; have hg1 := (HR.out.next HB6.out).c1; have hh0 := (HR.out.next HB6.out).fz 0; have hh1 := (HR.out.next HB6.out).fz 1))
    have HFA := Lib.hid (show z6 = z + z' by rw [hz6.out, Dg.val_dg, hx5.out, Dg.val_dg, Dg.val_dg, ← Zz.sg_sub (fun e => HSS.out e.symm) (Nat.le_of_lt HLT.out), HV.out.1, HV.out.2, Int.add_comm])
    have hR6 := HR.out.next HB6.out
    have hB6 := hB2.trans (HB6.out.mono hB2.size)
    have HS6 := Lib.hid (show w.heap.size + 1 + 1 < V2.heap.size from Nat.lt_of_lt_of_le HR.out.lt HB5.out.size)
    clear hf0 hf1 hf2 hg0 hg1 hh0 hh1 hc0 hc1 hd1 he0 he1 he2 hb5 hb6 hq1 hq2
    have hp := put_int hR6 hB6 (by omega) ho6 HS6.out
    generalize (V3.setCell ⟨w.heap.size + 1 + 1, 0, none⟩ (.bool s6)).setCell ⟨w.heap.size + 1 + 1, 1, none⟩ (.slice A6 m6 c6) = V9 at hp ⊢
    obtain ⟨hZ9, ho9, hB9⟩ := hp
    go_wp2
    exact bodyPost_ret (by simp [results, Tryz.results175, go_sem, hZ9.c0, hZ9.c1]) rfl ⟨_, _, _, _, _, rfl, ho9.base (by have := HS6.out; omega), HFA, hB9⟩
   ·have hzc0 : 0 ≤ zc := by rw [hzc.out]; have := mt cmp_neg.1 hlt; omega
    have HLT := Lib.hid (Nat.le_of_not_lt hlt)
    clear hlt hzc
    go_upto_region 6 with fail
    clear hc0 hc1 hd0 hd1
    have hc0 := hZ.c0
    have hc1 := hZ.c1
    have hd1 := hY.c1
    have HBD := Lib.hid (Below.refl wc.heap.size wc).drew
    have HOP := Lib.hid (refNSub_any (HO1.out.own.rd.next HBD.out) (HO2.out.own.rd.next HBD.out) HM.out.1 (by rw [Dg.val_dg, Dg.val_dg]; exact HLT.out))
    have HZ := Lib.hid hZ
    have HY := Lib.hid hY
    have HR := Lib.hid hR
    have hq1 : ¬ (w.heap.size + 1 + 1 = w.heap.size) := by omega
    have hq2 : ¬ (w.heap.size = w.heap.size + 1 + 1) := by omega
    go_region_held3 (fun w' => w'.cell? ⟨w.heap.size, 0, none⟩ = some (.bool s1) ∧ w'.cell? ⟨w.heap.size, 1, none⟩ = some (.slice A1 m1 c1) ∧ w'.cell? ⟨w.heap.size + 1, 1, none⟩ = some (.slice A2 m2 c2)) (go_keep)
     (first
      | (go_at_call 214; refine HOP.out.mono ?_; rintro _ V2 ⟨A5, m5, c5, x5, rfl, ho5, hx5, hb5⟩; have HB5 := Lib.hid (HBD.out.trans hb5); have he0 := (HZ.out.next HB5.out).c0; have he1 := (HZ.out.next HB5.out).c1; have he2 := (HY.out.next HB5.out).c1)
      | (go_at_call 154; refine (rINorm_any (z := Zz.sg s1 (Dg.val (Dg.dg x5))) ⟨_, ho5.rd, rfl⟩ (by refine Nat.le_trans (ho5.short (k := m1) (by rw [hx5.out, Dg.val_dg, Dg.val_dg]; exact Nat.lt_of_le_of_lt (Nat.sub_le _ _) (Dg.dg_len_lt.1 (Nat.le_of_eq HO1.out.own.len)))) (by have := HM.out; omega))).mono ?_; rintro _ V3 ⟨s6, A6, m6, c6, z6, rfl, ho6, hz6, hb6⟩; have HB6 := Lib.hid (HB5.out.trans (hb6.mono HB5.out.size)); have hf0 := (HZ.out.next HB6.out).c0; have hf1 := (HZ.out.next HB6.out).c1; have hf2 := (HY.out.next HB6.out).c1; have hg0 := (HR.out.next HB6.out).c0; have hg1 := (HR.out.next HB6.out).c1; have hh0 := (HR.out.next HB6.out).fz 0; have hh1 := (HR.out.next HB6.out).fz 1))
    have HFA := Lib.hid (show z6 = z + z' by rw [hz6.out, Dg.val_dg, hx5.out, Dg.val_dg, Dg.val_dg, ← Zz.sg_sub HSS.out HLT.out, HV.out.1, HV.out.2])
    have hR6 := HR.out.next HB6.out
    have hB6 := hB.trans (HB6.out.mono hB.size)
    have HS6 := Lib.hid (show w.heap.size + 1 + 1 < V2.heap.size from Nat.lt_of_lt_of_le HR.out.lt HB5.out.size)
    clear hf0 hf1 hf2 hg0 hg1 hh0 hh1 hc0 hc1 hd1 he0 he1 he2 hb5 hb6 hq1 hq2
    have hp := put_int hR6 hB6 (by omega) ho6 HS6.out
    generalize (V3.setCell ⟨w.heap.size + 1 + 1, 0, none⟩ (.bool s6)).setCell ⟨w.heap.size + 1 + 1, 1, none⟩ (.slice A6 m6 c6) = V9 at hp ⊢
    obtain ⟨hZ9, ho9, hB9⟩ := hp
    go_wp2
    exact bodyPost_ret (by simp [results, Tryz.results175, go_sem, hZ9.c0, hZ9.c1]) rfl ⟨_, _, _, _, _, rfl, ho9.base (by have := HS6.out; omega), HFA, hB9⟩
set_option maxRecDepth 100000 in
set_option maxHeartbeats 2000000 in
theorem rISub_any {s s' : Bool} {A A' : Option Addr} {n c n' c' : Nat} {z z' : Int} {w : World} (h : RdZ w w.heap.size s A n c z) (h' : RdZ w w.heap.size s' A' n' c' z') (hn : n ≤ 8796093022207) (hn' : n' ≤ 8796093022207) :
  Calls Tryz.prog 229 #[.agg #[.bool s, .slice A n c], .agg #[.bool s', .slice A' n' c']] w (RetI (z - z') w) := by
 obtain ⟨hZ, hY, hR, hB⟩ := boxed2 w s A n c s' A' n' c'
 have h1 := h.next hB
 have h1' := h'.next hB
 have HSZ := Lib.hid (show w.heap.size < _ from Nat.lt_trans (Nat.lt_succ_self _) (Nat.lt_trans (Nat.lt_succ_self _) hR.lt))
 go_enter Tryz.func229, Tryz.ntmps229
 go_wp2_with fail
 generalize ((w.alloc (.cells #[.bool s, .slice A n c] 25)).alloc (.cells #[.bool s', .slice A' n' c'] 25)).alloc (.cells #[.bool false, .slice none 0 0] 25) = W1 at *
 have HBD := Lib.hid (Below.refl W1.heap.size W1).drew
 have HNE := Lib.hid (rINeg_any (h1'.next HBD.out) (by omega))
 have HLN := Lib.hid (show Zz.zl z' ≤ n' from h1'.len)
 have hc0 := hZ.c0
 have hc1 := hZ.c1
 have hd0 := hY.c0
 have hd1 := hY.c1
 have HZ := Lib.hid hZ
 have HY := Lib.hid hY
 have HR := Lib.hid hR
 have hq1 : ¬ (w.heap.size + 1 + 1 = w.heap.size) := by omega
 have hq2 : ¬ (w.heap.size = w.heap.size + 1 + 1) := by omega
 go_region_held3 (fun w' => w'.cell? ⟨w.heap.size, 0, none⟩ = some (.bool s) ∧ w'.cell? ⟨w.heap.size, 1, none⟩ = some (.slice A n c) ∧ w'.cell? ⟨w.heap.size + 1, 0, none⟩ = some (.bool s') ∧ w'.cell? ⟨w.heap.size + 1, 1, none⟩ = some (.slice A' n' c')) (go_keep)
  (first
   | (go_at_call 99; refine HNE.out.mono ?_; rintro _ W2 ⟨s2, A2, m2, c2, z2, rfl, ho2, hz2, hb2⟩; have HB2 := Lib.hid (HBD.out.trans hb2); have hd0 := (HZ.out.next HB2.out).c0; have hd1 := (HZ.out.next HB2.out).c1; have hd2 := (HY.out.next HB2.out).c0; have hd3 := (HY.out.next HB2.out).c1)
   | (go_at_call 175; refine (rIAdd_any (h1.next HB2.out) ho2.rd hn (by rw [ho2.len, hz2.out, Zz.zl_neg]; exact Nat.le_trans HLN.out hn')).mono ?_; rintro _ W4 ⟨s4, A4, m4, c4, z4, rfl, ho4, hz4, hb4⟩; have HB4 := Lib.hid (HB2.out.trans (hb4.mono HB2.out.size)); have hf0 := (HZ.out.next HB4.out).c0; have hf1 := (HZ.out.next HB4.out).c1; have hf2 := (HY.out.next HB4.out).c0; have hf3 := (HY.out.next HB4.out).c1; have hg0 := (HR.out.next HB4.out).c0; have hg1 := (HR.out.next HB4.out).c1; have hh0 := (HR.out.next HB4.out).fz 0; have hh1 := (HR.out.next HB4.out).fz 1))
 have HS1 := Lib.hid hR.lt
 have hp := put_int (hR.next HB4.out) (hB.trans (HB4.out.mono hB.size)) (by omega) ho4 (Nat.lt_of_lt_of_le HS1.out HB2.out.size)
 generalize (W4.setCell ⟨w.heap.size + 1 + 1, 0, none⟩ (.bool s4)).setCell ⟨w.heap.size + 1 + 1, 1, none⟩ (.slice A4 m4 c4) = W5 at hp ⊢
 obtain ⟨hZ5, ho5, hB5⟩ := hp
 clear hf0 hf1 hf2 hf3 hg0 hg1 hh0 hh1 hc0 hc1 hd0 hd1 hd2 hd3 hb2 hb4
 go_wp2
 exact bodyPost_ret (by simp [results, Tryz.results229, go_sem, hZ5.c0, hZ5.c1]) rfl ⟨_, _, _, _, _, rfl, ho5.base (Nat.le_trans (Nat.le_of_lt HSZ.out) HB2.out.size), Lib.hid (by rw [hz4.out, hz2.out, Int.sub_eq_add_neg]), hB5⟩
end Go.Proofs.YtjnklbfhelbjgaaGreat

/- Integers compared. -/
namespace Go.Proofs.YtjnklbfhelbjgaaGreat
open Go.RowKit Go.IntWalk
attribute [local go_sem ↓] Go.wp_at_zero Go.wp_at_succ
theorem cmp_sub (x y : Nat) : Dg.cmp x y = ((x : Int) - y).sign := by
 rcases Nat.lt_trichotomy x y with h | h | h
 ·rw [Dg.cmp_lt h, Int.sign_eq_neg_one_of_neg (by omega)]
 ·rw [Dg.cmp_eq h, h, Int.sub_self]; rfl
 ·rw [Dg.cmp_gt h, Int.sign_eq_one_of_pos (by omega)]
theorem sign_three (z : Int) : (0 < z ∧ z.sign = 1) ∨ (z = 0 ∧ z.sign = 0) ∨ (z < 0 ∧ z.sign = -1) := by
 rcases Int.lt_trichotomy z 0 with h | h | h
 ·exact .inr (.inr ⟨h, Int.sign_eq_neg_one_of_neg h⟩)
 ·exact .inr (.inl ⟨h, by rw [h]; rfl⟩)
 ·exact .inl ⟨h, Int.sign_eq_one_of_pos h⟩
theorem sign_lt {z z' : Int} (h : z.sign < z'.sign) : (z - z').sign = -1 := by
 have h1 := sign_three z
 have h2 := sign_three z'
 exact Int.sign_eq_neg_one_of_neg (by omega)
theorem sign_gt {z z' : Int} (h : z'.sign < z.sign) : (z - z').sign = 1 := by
 have h1 := sign_three z
 have h2 := sign_three z'
 exact Int.sign_eq_one_of_pos (by omega)
theorem sign_negs {z z' : Int} (h : z.sign = z'.sign) (h0 : z.sign < 0) : (z - z').sign = Dg.cmp z'.natAbs z.natAbs := by
 have h1 := sign_three z
 have h2 := sign_three z'
 rw [cmp_sub]
 congr 1
 omega
theorem sign_poss {z z' : Int} (h : z.sign = z'.sign) (h0 : ¬ z.sign < 0) : (z - z').sign = Dg.cmp z.natAbs z'.natAbs := by
 have h1 := sign_three z
 have h2 := sign_three z'
 rw [cmp_sub]
 congr 1
 omega
theorem two_boxes (w : World) (s : Bool) (A : Option Addr) (n c : Nat) (s' : Bool) (A' : Option Addr) (n' c' : Nat) :
  ZC ((w.alloc (.cells #[.bool s, .slice A n c] 25)).alloc (.cells #[.bool s', .slice A' n' c'] 25)) w.heap.size s A n c ∧ ZC ((w.alloc (.cells #[.bool s, .slice A n c] 25)).alloc (.cells #[.bool s', .slice A' n' c'] 25)) (w.heap.size + 1) s' A' n' c' ∧ Below w.heap.size w ((w.alloc (.cells #[.bool s, .slice A n c] 25)).alloc (.cells #[.bool s', .slice A' n' c'] 25)) :=
 ⟨(ZC.new w s A n c).alloc _, by simpa using ZC.new (w.alloc (.cells #[.bool s, .slice A n c] 25)) s' A' n' c', ((Below.refl w.heap.size w).alloc (Nat.le_refl _) _).alloc (by simp) _⟩
set_option maxRecDepth 100000 in
set_option maxHeartbeats 4000000 in
theorem zcmp_any {s s' : Bool} {A A' : Option Addr} {n c n' c' : Nat} {z z' : Int} {w : World} (h : RdZ w w.heap.size s A n c z) (h' : RdZ w w.heap.size s' A' n' c' z') (hn : n ≤ 17592186044416) (hn' : n' ≤ 17592186044416) :
  Calls Tryz.prog 144 #[.agg #[.bool s, .slice A n c], .agg #[.bool s', .slice A' n' c']] w (RetK (z - z').sign w) := by
 obtain ⟨hZ, hY, hB⟩ := two_boxes w s A n c s' A' n' c'
 go_enter Tryz.func144, Tryz.ntmps144
 go_wp2_with fail
 generalize (w.alloc (.cells #[.bool s, .slice A n c] 25)).alloc (.cells #[.bool s', .slice A' n' c'] 25) = W1 at *
 have HR := Lib.hid (show ∀ W : World, Below W1.heap.size W1 W → RdZ W W.heap.size s A n c z ∧ RdZ W W.heap.size s' A' n' c' z' from fun W hb => ⟨(h.next hB).next hb, (h'.next hB).next hb⟩)
 have HD := Lib.hid (Below.refl W1.heap.size W1).drew
 have HZ := Lib.hid (And.intro hZ hY)
 have HCE := Lib.hid (show ∀ W : World, Below W1.heap.size W1 W → W.cell? ⟨w.heap.size, 0, none⟩ = some (.bool s) ∧ W.cell? ⟨w.heap.size, 1, none⟩ = some (.slice A n c) ∧ W.cell? ⟨w.heap.size + 1, 0, none⟩ = some (.bool s') ∧ W.cell? ⟨w.heap.size + 1, 1, none⟩ = some (.slice A' n' c') from fun W hb => ⟨(HZ.out.1.next hb).c0, (HZ.out.1.next hb).c1, (HZ.out.2.next hb).c0, (HZ.out.2.next hb).c1⟩)
 have HB := Lib.hid hB
 obtain ⟨a0, a1, a2, a3⟩ := HCE.out W1 (Below.refl _ _)
 clear hZ hY hB h h'
 go_region_held3 (fun w' => w'.cell? ⟨w.heap.size, 0, none⟩ = some (.bool s) ∧ w'.cell? ⟨w.heap.size, 1, none⟩ = some (.slice A n c) ∧ w'.cell? ⟨w.heap.size + 1, 0, none⟩ = some (.bool s') ∧ w'.cell? ⟨w.heap.size + 1, 1, none⟩ = some (.slice A' n' c')) (first | exact HCE.out _ HB3.out | exact HCE.out _ HB2.out | exact HCE.out _ HD.out)
  (first
   | (have hx := HB2.out; clear hx; go_at_call 36; refine (sign_any (HR.out _ HB2.out).2 hn').mono ?_; rintro _ W3 ⟨k3, rfl, hk3, hb3⟩; have HB3 := Lib.hid (HB2.out.trans (hb3.mono HB2.out.size)))
   | (go_at_call 36; refine (sign_any (HR.out _ HD.out).1 hn).mono ?_; rintro _ W2 ⟨k2, rfl, hk2, hb2⟩; have HB2 := Lib.hid (HD.out.trans hb2)))
 have HF := Lib.hid (HB.out.trans (HB3.out.mono HB.out.size))
 obtain ⟨b0, b1, b2, b3⟩ := HCE.out W3 HB3.out
 clear a0 a1 a2 a3 hb2 hb3
 rcases Int.lt_trichotomy k2 k3 with hlt | heq | hgt
 ·have hne : (k2 != k3) = true := by simp; omega
  have HE := Lib.hid (show (z - z').sign = -1 from sign_lt (by rw [← hk2.out, ← hk3.out]; exact hlt))
  go_wp2
  go_ret
  exact ⟨_, rfl, Lib.hid HE.out.symm, HF.out⟩
 ·have HEQ := Lib.hid (show z.sign = z'.sign by rw [← hk2.out, ← hk3.out]; exact heq)
  subst heq
  clear hk3
  obtain ⟨M, hr, hz⟩ := (HR.out _ HB3.out).1.raw
  obtain ⟨M', hr', hz'⟩ := (HR.out _ HB3.out).2.raw
  by_cases hneg : k2 < 0
  ·have HE := Lib.hid (show (z - z').sign = Dg.cmp (Dg.val M') (Dg.val M) by
    rw [sign_negs HEQ.out (by rw [← hk2.out]; exact hneg), hz.out, hz'.out, Zz.abs_sg, Zz.abs_sg])
   go_wp2_with fail
   refine (cmp_any hr' hr hn' hn).mono ?_
   rintro _ _ ⟨zc, rfl, hzc, d, rfl⟩
   have HF2 := Lib.hid (HF.out.trans ((drewN_below W3 d).mono HF.out.size))
   go_wp2
   go_ret
   exact ⟨_, rfl, Lib.hid (by rw [hzc.out, HE.out]), HF2.out⟩
  ·have HE := Lib.hid (show (z - z').sign = Dg.cmp (Dg.val M) (Dg.val M') by
    rw [sign_poss HEQ.out (by rw [← hk2.out]; exact hneg), hz.out, hz'.out, Zz.abs_sg, Zz.abs_sg])
   have hneg' : 0 ≤ k2 := by omega
   clear hneg
   go_wp2_with fail
   refine (cmp_any hr hr' hn hn').mono ?_
   rintro _ _ ⟨zc, rfl, hzc, d, rfl⟩
   have HF2 := Lib.hid (HF.out.trans ((drewN_below W3 d).mono HF.out.size))
   go_wp2
   go_ret
   exact ⟨_, rfl, Lib.hid (by rw [hzc.out, HE.out]), HF2.out⟩
 ·have hne : (k2 != k3) = true := by simp; omega
  have hge : k3 ≤ k2 := by omega
  have HE := Lib.hid (show (z - z').sign = 1 from sign_gt (by rw [← hk2.out, ← hk3.out]; exact hgt))
  go_wp2
  go_ret
  exact ⟨_, rfl, Lib.hid HE.out.symm, HF.out⟩
end Go.Proofs.YtjnklbfhelbjgaaGreat
