/- The reference's integers, first part: in normal form, of a number, sign, sizes, product, greatest common divisor. -/
import Derived.Test.YtipbpdiahemmpaaGreatQ06
import Derived.Test.YtipbpdiahemmpaaGreatQ07
namespace Go.Proofs.YtipbpdiahemmpaaGreat
open Go.RowKit Go.IntWalk
attribute [local go_sem ↓] Go.wp_at_zero Go.wp_at_succ

set_option maxHeartbeats 1000000 in
theorem rINorm_any {s : Bool} {A : Option Addr} {n c : Nat} {z : Int} {w : World} (h : RdZ w w.heap.size s A n c z) (hn : n ≤ 17592186044416) :
    Calls Tryz.prog 85 #[.agg #[.bool s, .slice A n c]] w (RetI z w) := by
  obtain ⟨hZ, hR, hB⟩ := boxed1 w s A n c
  have h1 := h.next hB
  obtain ⟨M, h, hz⟩ := h1.raw
  have HSZ := Lib.hid (Nat.lt_trans (Nat.lt_succ_self _) hR.lt)
  go_enter Tryz.func85, Tryz.ntmps85
  go_wp2_with fail
  generalize (w.alloc (.cells #[.bool s, .slice A n c] 28)).alloc (.cells #[.bool false, .slice none 0 0] 28) = W1 at *
  have hz0 := hZ.c0
  have hz1 := hZ.c1
  refine (refNorm_any h (by omega)).mono ?_
  rintro _ W2 ⟨A2, m2, c2, x2, rfl, ho2, hx2, hb2⟩
  have hZ2 := hZ.next hb2
  have hR2 := hR.next hb2
  have hB2 := hB.trans (hb2.mono hB.size)
  have hd0 := hZ2.c0
  have hd1 := hZ2.c1
  have hc0 := hR2.c0
  have hc1 := hR2.c1
  have hf0 := hR2.fz 0
  have hf1 := hR2.fz 1
  have HB := Lib.hid hR.lt
  have HO := Lib.hid (OwZ.mk' (t := s) ho2)
  clear hb2 hZ hR h1 h hz0 hz1 ho2
  cases s
  · go_wp2
    have hp := put_int hR2 hB2 (Nat.le_succ _) (show OwZ W2 W1.heap.size false A2 m2 c2 (Zz.sg false x2) from HO.out) HB.out
    generalize (W2.setCell ⟨w.heap.size + 1, 0, none⟩ (.bool false)).setCell ⟨w.heap.size + 1, 1, none⟩ (.slice A2 m2 c2) = W9 at hp ⊢
    obtain ⟨hZ9, ho9, hB9⟩ := hp
    exact bodyPost_ret (by simp [results, Tryz.results85, go_sem, hZ9.c0, hZ9.c1]) rfl ⟨_, _, _, _, _, rfl, ho9.base (Nat.le_of_lt HSZ.out), Lib.hid (by rw [hx2.out, hz.out]), hB9⟩
  · go_wp2
    have hp := put_int hR2 hB2 (Nat.le_succ _) (show OwZ W2 W1.heap.size (decide (0 < m2)) A2 m2 c2 (Zz.sg true x2) from HO.out) HB.out
    generalize (W2.setCell ⟨w.heap.size + 1, 0, none⟩ (.bool (decide (0 < m2)))).setCell ⟨w.heap.size + 1, 1, none⟩ (.slice A2 m2 c2) = W9 at hp ⊢
    obtain ⟨hZ9, ho9, hB9⟩ := hp
    exact bodyPost_ret (by simp [results, Tryz.results85, go_sem, hZ9.c0, hZ9.c1]) rfl ⟨_, _, _, _, _, rfl, ho9.base (Nat.le_of_lt HSZ.out), Lib.hid (by rw [hx2.out, hz.out]), hB9⟩

theorem OwZ.nonneg {w : World} {b : Nat} {A : Option Addr} {n c x : Nat} (h : OwU w b A n c (Dg.dg x)) : OwZ w b false A n c (x : Int) := ⟨by simpa using h, by simp⟩
set_option maxHeartbeats 1000000 in
theorem rIOf_any (z : Int) (h1 : -9223372036854775808 ≤ z) (h2 : z < 9223372036854775808) (w : World) :
    Calls Tryz.prog 101 #[.int .i64 z] w (RetI z w) := by
  have hB := (Below.refl w.heap.size w).alloc (Nat.le_refl _) (.cells #[.bool false, .slice none 0 0] 28)
  have hZ := ZC.new w false none 0 0
  go_enter Tryz.func101, Tryz.ntmps101
  by_cases hz : z < 0
  · go_wp2_with fail
    generalize w.alloc (.cells #[.bool false, .slice none 0 0] 28) = W1 at *
    refine (refOf_any z.natAbs (by omega) (by omega) W1).mono ?_
    rintro _ W2 ⟨A2, m2, c2, x2, rfl, ho2, hx2, hb2⟩
    have hZ3 := (hZ.next hb2)
    have hB3 := hB.trans (hb2.mono hB.size)
    have HO : Hid (OwZ W2 W1.heap.size true A2 m2 c2 z) := Lib.hid ⟨by rw [hx2.out] at ho2; exact ho2, (decide_eq_true hz).symm⟩
    have hc0 := hZ3.c0
    have hc1 := hZ3.c1
    have hf0 := hZ3.fz 0
    have hf1 := hZ3.fz 1
    have HB := Lib.hid (show w.heap.size < W1.heap.size from hZ.lt)
    clear hb2 ho2
    go_wp2
    have hp := put_int hZ3 hB3 (Nat.le_refl _) HO.out HB.out
    generalize (W2.setCell ⟨w.heap.size, 0, none⟩ (.bool true)).setCell ⟨w.heap.size, 1, none⟩ (.slice A2 m2 c2) = W9 at hp ⊢
    obtain ⟨hZ9, ho9, hB9⟩ := hp
    exact bodyPost_ret (by simp [results, Tryz.results101, go_sem, hZ9.c0, hZ9.c1]) rfl ⟨_, _, _, _, _, rfl, ho9.base (Nat.le_of_lt HB.out), Lib.hid rfl, hB9⟩
  · have hz0 : 0 ≤ z := by omega
    clear hz
    go_wp2_with fail
    generalize w.alloc (.cells #[.bool false, .slice none 0 0] 28) = W1 at *
    refine (refOf_any z.natAbs (by omega) (by omega) W1).mono ?_
    rintro _ W2 ⟨A2, m2, c2, x2, rfl, ho2, hx2, hb2⟩
    have hZ3 := (hZ.next hb2)
    have hB3 := hB.trans (hb2.mono hB.size)
    have HO : Hid (OwZ W2 W1.heap.size false A2 m2 c2 z) := Lib.hid ⟨by rw [hx2.out] at ho2; exact ho2, (decide_eq_false (by omega)).symm⟩
    have hc0 := hZ3.c0
    have hc1 := hZ3.c1
    have hf0 := hZ3.fz 0
    have hf1 := hZ3.fz 1
    have HB := Lib.hid (show w.heap.size < W1.heap.size from hZ.lt)
    clear hb2 ho2
    go_wp2
    have hp := put_int hZ3 hB3 (Nat.le_refl _) HO.out HB.out
    generalize (W2.setCell ⟨w.heap.size, 0, none⟩ (.bool false)).setCell ⟨w.heap.size, 1, none⟩ (.slice A2 m2 c2) = W9 at hp ⊢
    obtain ⟨hZ9, ho9, hB9⟩ := hp
    exact bodyPost_ret (by simp [results, Tryz.results101, go_sem, hZ9.c0, hZ9.c1]) rfl ⟨_, _, _, _, _, rfl, ho9.base (Nat.le_of_lt HB.out), Lib.hid rfl, hB9⟩

set_option maxHeartbeats 1000000 in
theorem rISign_any {s : Bool} {A : Option Addr} {n c : Nat} {z : Int} {w : World} (h : RdZ w w.heap.size s A n c z) (hn : n ≤ 17592186044416) :
    Calls Tryz.prog 84 #[.agg #[.bool s, .slice A n c]] w (RetK z.sign w) := by
  obtain ⟨M, h, hz⟩ := h.raw
  have hB := (Below.refl w.heap.size w).alloc (Nat.le_refl _) (.cells #[.bool s, .slice A n c] 28)
  have hZ := ZC.new w s A n c
  have h1 := h.next hB
  go_enter Tryz.func84, Tryz.ntmps84
  go_wp2_with fail
  refine (refZero_any h1 hn).mono ?_
  rintro _ _ ⟨b, rfl, hk, rfl⟩
  have HS := Lib.hid (show z.sign = if b = true then 0 else if s then -1 else 1 by
    rw [hz.out, sign_sg]
    by_cases e : b = true
    · rw [if_pos e, if_pos (hk.out.1 e)]
    · rw [if_neg e, if_neg fun e2 => e (hk.out.2 e2)])
  clear hk hz h1 h
  generalize w.alloc (.cells #[.bool s, .slice A n c] 28) = W1 at *
  have hc0 := hZ.c0
  have hc1 := hZ.c1
  cases b
  · cases s
    · go_wp2
      go_ret
      exact ⟨_, rfl, Lib.hid (by rw [HS.out]; rfl), hB⟩
    · go_wp2
      go_ret
      exact ⟨_, rfl, Lib.hid (by rw [HS.out]; rfl), hB⟩
  · go_wp2
    go_ret
    exact ⟨_, rfl, Lib.hid (by rw [HS.out]; rfl), hB⟩

theorem RdZ.neg {w : World} {B : Nat} {s : Bool} {A : Option Addr} {n c : Nat} {z : Int} (h : RdZ w B s A n c z) : RdZ w B (!s) A n c (-z) := by
  obtain ⟨M, h, rfl⟩ := h
  exact ⟨M, h, (Zz.sg_not _ _).symm⟩
set_option maxHeartbeats 1000000 in
theorem rINeg_any {s : Bool} {A : Option Addr} {n c : Nat} {z : Int} {w : World} (h : RdZ w w.heap.size s A n c z) (hn : n ≤ 17592186044416) :
    Calls Tryz.prog 88 #[.agg #[.bool s, .slice A n c]] w (RetI (-z) w) := by
  obtain ⟨hZ, hR, hB⟩ := boxed1 w s A n c
  have h1 := h.next hB
  have HSZ := Lib.hid (Nat.lt_trans (Nat.lt_succ_self _) hR.lt)
  go_enter Tryz.func88, Tryz.ntmps88
  go_wp2_with fail
  generalize (w.alloc (.cells #[.bool s, .slice A n c] 28)).alloc (.cells #[.bool false, .slice none 0 0] 28) = W1 at *
  refine (rINorm_any h1.neg hn).mono ?_
  rintro _ W2 ⟨s2, A2, m2, c2, z2, rfl, ho2, hz2, hb2⟩
  have hR2 := hR.next hb2
  have hB2 := hB.trans (hb2.mono hB.size)
  have hc0 := hR2.c0
  have hc1 := hR2.c1
  have hf0 := hR2.fz 0
  have hf1 := hR2.fz 1
  have HB := Lib.hid hR.lt
  clear hb2 hZ hR h1 h
  go_wp2
  have hp := put_int hR2 hB2 (Nat.le_succ _) ho2 HB.out
  generalize (W2.setCell ⟨w.heap.size + 1, 0, none⟩ (.bool s2)).setCell ⟨w.heap.size + 1, 1, none⟩ (.slice A2 m2 c2) = W9 at hp ⊢
  obtain ⟨hZ9, ho9, hB9⟩ := hp
  exact bodyPost_ret (by simp [results, Tryz.results88, go_sem, hZ9.c0, hZ9.c1]) rfl ⟨_, _, _, _, _, rfl, ho9.base (Nat.le_of_lt HSZ.out), hz2, hB9⟩

set_option maxHeartbeats 1000000 in
theorem rIAbs_any {s : Bool} {A : Option Addr} {n c : Nat} {z : Int} {w : World} (h : RdZ w w.heap.size s A n c z) (hn : n ≤ 17592186044416) :
    Calls Tryz.prog 94 #[.agg #[.bool s, .slice A n c]] w (RetI z.natAbs w) := by
  obtain ⟨hZ, hR, hB⟩ := boxed1 w s A n c
  have h1 := h.next hB
  obtain ⟨M, h, hz⟩ := h1.raw
  have HSZ := Lib.hid (Nat.lt_trans (Nat.lt_succ_self _) hR.lt)
  go_enter Tryz.func94, Tryz.ntmps94
  go_wp2_with fail
  generalize (w.alloc (.cells #[.bool s, .slice A n c] 28)).alloc (.cells #[.bool false, .slice none 0 0] 28) = W1 at *
  have hz0 := hZ.c0
  have hz1 := hZ.c1
  refine (refNorm_any h (by omega)).mono ?_
  rintro _ W2 ⟨A2, m2, c2, x2, rfl, ho2, hx2, hb2⟩
  have hR2 := hR.next hb2
  have hB2 := hB.trans (hb2.mono hB.size)
  have hc0 := hR2.c0
  have hc1 := hR2.c1
  have hf0 := hR2.fz 0
  have hf1 := hR2.fz 1
  have HB := Lib.hid hR.lt
  clear hb2 hZ hR h1 h hz0 hz1
  go_wp2
  have hp := put_int hR2 hB2 (Nat.le_succ _) (OwZ.nonneg ho2) HB.out
  generalize (W2.setCell ⟨w.heap.size + 1, 0, none⟩ (.bool false)).setCell ⟨w.heap.size + 1, 1, none⟩ (.slice A2 m2 c2) = W9 at hp ⊢
  obtain ⟨hZ9, ho9, hB9⟩ := hp
  exact bodyPost_ret (by simp [results, Tryz.results94, go_sem, hZ9.c0, hZ9.c1]) rfl ⟨_, _, _, _, _, rfl, ho9.base (Nat.le_of_lt HSZ.out), Lib.hid (by rw [hx2.out, hz.out, Zz.abs_sg]), hB9⟩

set_option maxHeartbeats 1000000 in
theorem rIGcd_any {s s' : Bool} {A A' : Option Addr} {n c n' c' : Nat} {z z' : Int} {w : World} (h : RdZ w w.heap.size s A n c z) (h' : RdZ w w.heap.size s' A' n' c' z') (hn : n ≤ 2199023255551) (hn' : n' ≤ 2199023255551) :
    Calls Tryz.prog 196 #[.agg #[.bool s, .slice A n c], .agg #[.bool s', .slice A' n' c']] w (RetI (Int.gcd z z') w) := by
  obtain ⟨hZ, hY, hR, hB⟩ := boxed2 w s A n c s' A' n' c'
  obtain ⟨M, h1, hz⟩ := (h.next hB).raw
  obtain ⟨M', h1', hz'⟩ := (h'.next hB).raw
  have HSZ := Lib.hid (show w.heap.size < _ from Nat.lt_trans (Nat.lt_succ_self _) (Nat.lt_trans (Nat.lt_succ_self _) hR.lt))
  go_enter Tryz.func196, Tryz.ntmps196
  go_wp2_with fail
  generalize ((w.alloc (.cells #[.bool s, .slice A n c] 28)).alloc (.cells #[.bool s', .slice A' n' c'] 28)).alloc (.cells #[.bool false, .slice none 0 0] 28) = W1 at *
  have hc1 := hZ.c1
  have hd1 := hY.c1
  refine (refGcd_any h1 h1' hn hn').mono ?_
  rintro _ W2 ⟨A2, m2, c2, x2, rfl, ho2, hx2, hb2⟩
  clear hc1 hd1
  have hR2 := hR.next hb2
  have hB2 := hB.trans (hb2.mono hB.size)
  have HS1 := Lib.hid hR.lt
  have hc0 := hR2.c0
  have hc1 := hR2.c1
  have hf0 := hR2.fz 0
  have hf1 := hR2.fz 1
  clear hb2 hZ hY
  go_wp2
  have hp := put_int hR2 hB2 (by omega) (OwZ.nonneg ho2) HS1.out
  generalize (W2.setCell ⟨w.heap.size + 1 + 1, 0, none⟩ (.bool false)).setCell ⟨w.heap.size + 1 + 1, 1, none⟩ (.slice A2 m2 c2) = W9 at hp ⊢
  obtain ⟨hZ9, ho9, hB9⟩ := hp
  exact bodyPost_ret (by simp [results, Tryz.results196, go_sem, hZ9.c0, hZ9.c1]) rfl ⟨_, _, _, _, _, rfl, ho9.base (Nat.le_of_lt HSZ.out), Lib.hid (by rw [hx2.out, hz.out, hz'.out]; unfold Int.gcd; rw [Zz.abs_sg, Zz.abs_sg]), hB9⟩

set_option maxRecDepth 100000 in
set_option maxHeartbeats 2000000 in
theorem rIMul_any {s s' : Bool} {A A' : Option Addr} {n c n' c' : Nat} {z z' : Int} {w : World} (h : RdZ w w.heap.size s A n c z) (h' : RdZ w w.heap.size s' A' n' c' z') (hn : n ≤ 4398046511103) (hn' : n' ≤ 4398046511103) :
    Calls Tryz.prog 183 #[.agg #[.bool s, .slice A n c], .agg #[.bool s', .slice A' n' c']] w (RetI (z * z') w) := by
  obtain ⟨hZ, hY, hR, hB⟩ := boxed2 w s A n c s' A' n' c'
  obtain ⟨M, h1, hz⟩ := (h.next hB).raw
  obtain ⟨M', h1', hz'⟩ := (h'.next hB).raw
  have HSZ := Lib.hid (show w.heap.size < _ from Nat.lt_trans (Nat.lt_succ_self _) (Nat.lt_trans (Nat.lt_succ_self _) hR.lt))
  go_enter Tryz.func183, Tryz.ntmps183
  go_wp2_with fail
  generalize ((w.alloc (.cells #[.bool s, .slice A n c] 28)).alloc (.cells #[.bool s', .slice A' n' c'] 28)).alloc (.cells #[.bool false, .slice none 0 0] 28) = W1 at *
  have HBD := Lib.hid (Below.refl W1.heap.size W1).drew
  have HMU := Lib.hid (refNMul_any (h1.next HBD.out) (h1'.next HBD.out) hn hn')
  have HLN := Lib.hid (show ∀ (W : World) (b : Nat) (A : Option Addr) (m c x : Nat), OwU W b A m c (Dg.dg x) → Hid (x = Dg.val M * Dg.val M') → m ≤ 17592186044416 from fun W b A m c x ho hx => by
    have e := prod_len h1.wd h1'.wd
    rw [h1.len, h1'.len] at e
    have e2 := ho.len
    rw [hx.out] at e2
    omega)
  have hc0 := hZ.c0
  have hc1 := hZ.c1
  have hd0 := hY.c0
  have hd1 := hY.c1
  have HZ := Lib.hid hZ
  have HY := Lib.hid hY
  have HR := Lib.hid hR
  have hq1 : ¬ (w.heap.size + 1 + 1 = w.heap.size) := by omega
  have hq2 : ¬ (w.heap.size = w.heap.size + 1 + 1) := by omega
  go_region_held3 (fun w' => w'.cell? ⟨w.heap.size, 0, none⟩ = some (.bool s) ∧ w'.cell? ⟨w.heap.size, 1, none⟩ = some (.slice A n c) ∧ w'.cell? ⟨w.heap.size + 1, 0, none⟩ = some (.bool s') ∧ w'.cell? ⟨w.heap.size + 1, 1, none⟩ = some (.slice A' n' c')) (go_keep)
    (first
      | (go_at_call 238; refine HMU.out.mono ?_; rintro _ W2 ⟨A2, m2, c2, x2, rfl, ho2, hx2, hb2⟩; have HB2 := Lib.hid (HBD.out.trans hb2); have hd0 := (HZ.out.next HB2.out).c0; have hd1 := (HZ.out.next HB2.out).c1; have hd2 := (HY.out.next HB2.out).c0; have hd3 := (HY.out.next HB2.out).c1)
      | (go_at_call 85; refine (rINorm_any (z := Zz.sg (s != s') (Dg.val (Dg.dg x2))) ⟨_, ho2.rd, rfl⟩ (HLN.out _ _ _ _ _ _ ho2 hx2)).mono ?_; rintro _ W4 ⟨s4, A4, m4, c4, z4, rfl, ho4, hz4, hb4⟩; have HB4 := Lib.hid (HB2.out.trans (hb4.mono HB2.out.size)); have hf0 := (HZ.out.next HB4.out).c0; have hf1 := (HZ.out.next HB4.out).c1; have hf2 := (HY.out.next HB4.out).c0; have hf3 := (HY.out.next HB4.out).c1; have hg0 := (HR.out.next HB4.out).c0; have hg1 := (HR.out.next HB4.out).c1; have hh0 := (HR.out.next HB4.out).fz 0; have hh1 := (HR.out.next HB4.out).fz 1))
  have HS1 := Lib.hid hR.lt
  have HFA := Lib.hid (show z4 = z * z' by rw [hz4.out, Dg.val_dg, hx2.out, hz.out, hz'.out, Zz.sg_mul])
  clear hf0 hf1 hf2 hf3 hg0 hg1 hh0 hh1 hc0 hc1 hd0 hd1 hd2 hd3 hb2 hb4 hq1 hq2
  have hR4 := hR.next HB4.out
  have hB4 := hB.trans (HB4.out.mono hB.size)
  have hp := put_int hR4 hB4 (by omega) ho4 (Nat.lt_of_lt_of_le HS1.out HB2.out.size)
  generalize (W4.setCell ⟨w.heap.size + 1 + 1, 0, none⟩ (.bool s4)).setCell ⟨w.heap.size + 1 + 1, 1, none⟩ (.slice A4 m4 c4) = W9 at hp ⊢
  obtain ⟨hZ9, ho9, hB9⟩ := hp
  go_wp2
  exact bodyPost_ret (by simp [results, Tryz.results183, go_sem, hZ9.c0, hZ9.c1]) rfl ⟨_, _, _, _, _, rfl, ho9.base (Nat.le_trans (Nat.le_of_lt HSZ.out) HB2.out.size), HFA, hB9⟩
end Go.Proofs.YtipbpdiahemmpaaGreat

/- zint: division rounded to nought, Euclid's division, exact division. -/
namespace Go.Proofs.YtipbpdiahemmpaaGreat
open Go.RowKit Go.IntWalk
attribute [local go_sem ↓] Go.wp_at_zero Go.wp_at_succ

/-- Two parameters and two results. -/
theorem boxed22 (w : World) (s : Bool) (A : Option Addr) (n c : Nat) (s' : Bool) (A' : Option Addr) (n' c' : Nat) :
    ∃ W, W = (((w.alloc (.cells #[.bool s, .slice A n c] 28)).alloc (.cells #[.bool s', .slice A' n' c'] 28)).alloc (.cells #[.bool false, .slice none 0 0] 28)).alloc (.cells #[.bool false, .slice none 0 0] 28) ∧
    ZC W w.heap.size s A n c ∧ ZC W (w.heap.size + 1) s' A' n' c' ∧ ZC W (w.heap.size + 1 + 1) false none 0 0 ∧ ZC W (w.heap.size + 1 + 1 + 1) false none 0 0 ∧ Below w.heap.size w W := by
  obtain ⟨h1, h2, h3, h4⟩ := boxed2 w s A n c s' A' n' c'
  refine ⟨_, rfl, h1.alloc _, h2.alloc _, h3.alloc _, ?_, h4.alloc h4.size _⟩
  simpa using ZC.new (((w.alloc (.cells #[.bool s, .slice A n c] 28)).alloc (.cells #[.bool s', .slice A' n' c'] 28)).alloc (.cells #[.bool false, .slice none 0 0] 28)) false none 0 0

theorem put_two {v w W : World} {g g' b b' : Nat} {s s' t t' : Bool} {A A' A1 A2 : Option Addr} {n c n' c' k m k' m' : Nat} {z z' : Int} (h : ZC w g s A n c) (h' : ZC w g' s' A' n' c') (hne : g ≠ g') (hB : Below v.heap.size v w) (hg : v.heap.size ≤ g) (hg' : v.heap.size ≤ g')
    (ho : OwZ w b t A1 k m z) (ho' : OwZ w b' t' A2 k' m' z') (hb : g < b ∧ g' < b) (hb' : g < b' ∧ g' < b') (hW : W = (((w.setCell ⟨g, 0, none⟩ (.bool t)).setCell ⟨g, 1, none⟩ (.slice A1 k m)).setCell ⟨g', 0, none⟩ (.bool t')).setCell ⟨g', 1, none⟩ (.slice A2 k' m')) :
    ZC W g t A1 k m ∧ ZC W g' t' A2 k' m' ∧ OwZ W b t A1 k m z ∧ OwZ W b' t' A2 k' m' z' ∧ Below v.heap.size v W := by
  obtain ⟨h1, h2, h3⟩ := put_int h hB hg ho hb.1
  obtain ⟨h4, h5, h6⟩ := put_int ((h'.far (p := ⟨g, 0, none⟩) (Ne.symm hne) _).far (p := ⟨g, 1, none⟩) (Ne.symm hne) _) h3 hg' ((ho'.far (p := ⟨g, 0, none⟩) hb'.1 _).far (p := ⟨g, 1, none⟩) hb'.1 _) hb'.2
  subst hW
  exact ⟨(h1.far (p := ⟨g', 0, none⟩) hne _).far (p := ⟨g', 1, none⟩) hne _, h4, (h2.far (p := ⟨g', 0, none⟩) hb.2 _).far (p := ⟨g', 1, none⟩) hb.2 _, h5, h6⟩

set_option maxRecDepth 100000 in
set_option maxHeartbeats 2000000 in
theorem trunc_any {s s' : Bool} {A A' : Option Addr} {n c n' c' : Nat} {z z' : Int} {w : World} (h : RdZ w w.heap.size s A n c z) (h' : RdZ w w.heap.size s' A' n' c' z') (hn : n ≤ 1000000000000) (hn' : n' ≤ 1000000000000) (h0 : z' ≠ 0) :
    Calls Tryz.prog 242 #[.agg #[.bool s, .slice A n c], .agg #[.bool s', .slice A' n' c']] w (RetII (z.tdiv z') (z.tmod z') w) := by
  obtain ⟨M, h, hz⟩ := h.raw
  obtain ⟨M', h', hz'⟩ := h'.raw
  have HP := Lib.hid (show 0 < Dg.val M' by
    rcases Nat.eq_zero_or_pos (Dg.val M') with e | e
    · exact absurd (by rw [hz'.out, e, Zz.sg_zero]) h0
    · exact e)
  clear h0
  obtain ⟨W1, HW1, hZ, hY, hR, hS, hB⟩ := boxed22 w s A n c s' A' n' c'
  have HW1 := Lib.hid HW1
  have HSZ := Lib.hid (show w.heap.size < W1.heap.size from hZ.lt)
  go_enter Tryz.func242, Tryz.ntmps242
  go_wp2_with fail
  rw [← HW1.out]
  clear HW1
  have hc0 := hZ.c0
  have hc1 := hZ.c1
  have hd0 := hY.c0
  have hd1 := hY.c1
  refine (nDiv_any (h.next hB) (h'.next hB) hn hn' HP.out).mono ?_
  rintro _ W2 ⟨A2, A3, m2, c2, m3, c3, x2, x3, rfl, ho2, ho3, hx2, hb2⟩
  have hZ2 := hZ.next hb2
  have hY2 := hY.next hb2
  have hR2 := hR.next hb2
  have hS2 := hS.next hb2
  have hB2 := hB.trans (hb2.mono hB.size)
  have HS1 := Lib.hid (And.intro hR.lt hS.lt)
  have HS2 := Lib.hid hb2.size
  clear hc0 hc1 hd0 hd1 hZ hY hR hS hb2 hB
  go_wp2_with fail
  have hc0 := hZ2.c0
  have hd0 := hY2.c0
  have HBD := Lib.hid (Below.refl W2.heap.size W2).drew
  have HZ := Lib.hid hZ2
  have HY := Lib.hid hY2
  have HR := Lib.hid hR2
  have HS := Lib.hid hS2
  have HO2 := Lib.hid ho2
  have HO3 := Lib.hid ho3
  clear hZ2 hY2 hR2 hS2 ho2 ho3
  have hq1 : ¬ (w.heap.size + 1 + 1 = w.heap.size) := by omega
  have hq2 : ¬ (w.heap.size = w.heap.size + 1 + 1) := by omega
  have hq3 : ¬ (w.heap.size + 1 + 1 + 1 = w.heap.size) := by omega
  have hq4 : ¬ (w.heap.size = w.heap.size + 1 + 1 + 1) := by omega
  go_region_held3 (fun w' => w'.cell? ⟨w.heap.size, 0, none⟩ = some (.bool s) ∧ w'.cell? ⟨w.heap.size + 1, 0, none⟩ = some (.bool s')) (go_keep)
    (first
      | (go_at_call 185; have hx := HB4.out; clear hx; refine (make1_any s (HO3.out.next HB4.out)).mono ?_; rintro _ W5 ⟨s5, rfl, ho5, hb5⟩; have HB5 := Lib.hid (HB4.out.trans (hb5.mono HB4.out.size)); have he0 := (HZ.out.next HB5.out).c0; have he1 := (HY.out.next HB5.out).c0; have hg0 := (HR.out.next HB5.out).c0; have hg1 := (HR.out.next HB5.out).c1; have hh0 := (HR.out.next HB5.out).fz 0; have hh1 := (HR.out.next HB5.out).fz 1; have hi0 := (HS.out.next HB5.out).c0; have hi1 := (HS.out.next HB5.out).c1; have hj0 := (HS.out.next HB5.out).fz 0; have hj1 := (HS.out.next HB5.out).fz 1)
      | (go_at_call 185; refine (make1_any (s != s') (HO2.out.next HBD.out)).mono ?_; rintro _ W4 ⟨s4, rfl, ho4, hb4⟩; have HB4 := Lib.hid (HBD.out.trans hb4); have hd0 := (HZ.out.next HB4.out).c0; have hd1 := (HY.out.next HB4.out).c0))
  have HP2 := Lib.hid fun W (hW : W = (((W5.setCell ⟨w.heap.size + 1 + 1, 0, none⟩ (.bool s4)).setCell ⟨w.heap.size + 1 + 1, 1, none⟩ (.slice A2 m2 c2)).setCell ⟨w.heap.size + 1 + 1 + 1, 0, none⟩ (.bool s5)).setCell ⟨w.heap.size + 1 + 1 + 1, 1, none⟩ (.slice A3 m3 c3)) =>
    put_two (HR.out.next HB5.out) (HS.out.next HB5.out) (by omega) (hB2.trans (HB5.out.mono hB2.size)) (by omega) (by omega) (ho4.next hb5) ho5 HS1.out HS1.out hW
  clear he0 he1 hg0 hg1 hh0 hh1 hi0 hi1 hj0 hj1 hb4 hb5 ho4 ho5 hq1 hq2 hq3 hq4
  obtain ⟨W6, HW6⟩ : ∃ W, W = (((W5.setCell ⟨w.heap.size + 1 + 1, 0, none⟩ (.bool s4)).setCell ⟨w.heap.size + 1 + 1, 1, none⟩ (.slice A2 m2 c2)).setCell ⟨w.heap.size + 1 + 1 + 1, 0, none⟩ (.bool s5)).setCell ⟨w.heap.size + 1 + 1 + 1, 1, none⟩ (.slice A3 m3 c3) := ⟨_, rfl⟩
  obtain ⟨hZ6, hY6, ho6, ho7, hB6⟩ := HP2.out W6 HW6
  rw [← HW6]
  clear HW6 HP2
  go_wp2
  exact bodyPost_ret (by simp [results, Tryz.results242, go_sem, hZ6.c0, hZ6.c1, hY6.c0, hY6.c1]) rfl ⟨_, _, _, _, _, _, _, _, _, _, rfl, ho6.base (Nat.le_of_lt HSZ.out), ho7.base (Nat.le_of_lt HSZ.out), Lib.hid (by rw [hx2.out.1, hx2.out.2, hz.out, hz'.out, Zz.sg_div, Zz.sg_mod]; exact ⟨rfl, rfl⟩), hB6⟩

set_option maxHeartbeats 1000000 in
theorem igcd_any {s s' : Bool} {A A' : Option Addr} {n c n' c' : Nat} {z z' : Int} {w : World} (h : RdZ w w.heap.size s A n c z) (h' : RdZ w w.heap.size s' A' n' c' z') (hn : n ≤ 1000000000000) (hn' : n' ≤ 1000000000000) :
    Calls Tryz.prog 195 #[.agg #[.bool s, .slice A n c], .agg #[.bool s', .slice A' n' c']] w (RetI (Int.gcd z z') w) := by
  obtain ⟨hZ, hY, hR, hB⟩ := boxed2 w s A n c s' A' n' c'
  obtain ⟨M, h1, hz⟩ := (h.next hB).raw
  obtain ⟨M', h1', hz'⟩ := (h'.next hB).raw
  have HSZ := Lib.hid (show w.heap.size < _ from Nat.lt_trans (Nat.lt_succ_self _) (Nat.lt_trans (Nat.lt_succ_self _) hR.lt))
  go_enter Tryz.func195, Tryz.ntmps195
  go_wp2_with fail
  generalize ((w.alloc (.cells #[.bool s, .slice A n c] 28)).alloc (.cells #[.bool s', .slice A' n' c'] 28)).alloc (.cells #[.bool false, .slice none 0 0] 28) = W1 at *
  have hc1 := hZ.c1
  have hd1 := hY.c1
  refine (nGcd_any h1 h1' hn hn').mono ?_
  rintro _ W2 ⟨A2, m2, c2, x2, rfl, ho2, hx2, hb2⟩
  clear hc1 hd1
  go_wp2_with fail
  refine (make1_any false ho2).mono ?_
  rintro _ W4 ⟨s4, rfl, ho4, hb4⟩
  have hR4 := (hR.next hb2).next hb4
  have hB4 := hB.trans ((hb2.trans (hb4.mono hb2.size)).mono hB.size)
  have HS1 := Lib.hid hR.lt
  have hc0 := hR4.c0
  have hc1 := hR4.c1
  have hf0 := hR4.fz 0
  have hf1 := hR4.fz 1
  clear hb4 hb2 hZ hY ho2
  go_wp2
  have hp := put_int hR4 hB4 (by omega) ho4 HS1.out
  generalize (W4.setCell ⟨w.heap.size + 1 + 1, 0, none⟩ (.bool s4)).setCell ⟨w.heap.size + 1 + 1, 1, none⟩ (.slice A2 m2 c2) = W5 at hp ⊢
  obtain ⟨hZ5, ho5, hB5⟩ := hp
  exact bodyPost_ret (by simp [results, Tryz.results195, go_sem, hZ5.c0, hZ5.c1]) rfl ⟨_, _, _, _, _, rfl, ho5.base (Nat.le_of_lt HSZ.out), Lib.hid (by rw [hx2.out, Zz.sg_false, hz.out, hz'.out]; unfold Int.gcd; rw [Zz.abs_sg, Zz.abs_sg]), hB5⟩

set_option maxRecDepth 100000 in
set_option maxHeartbeats 2000000 in
/-- A division that leaves nothing. -/
theorem exact_any {s s' : Bool} {A A' : Option Addr} {n c n' c' : Nat} {z z' : Int} {w : World} (h : RdZ w w.heap.size s A n c z) (h' : RdZ w w.heap.size s' A' n' c' z') (hn : n ≤ 1000000000000) (hn' : n' ≤ 1000000000000) (h0 : z' ≠ 0) :
    Calls Tryz.prog 190 #[.agg #[.bool s, .slice A n c], .agg #[.bool s', .slice A' n' c']] w fun e w' => ∃ (s : Bool) (A : Option Addr) (n c : Nat) (y k : Int), e = .returned (.tuple #[.agg #[.bool s, .slice A n c], .int .i64 k]) ∧ OwZ w' w.heap.size s A n c y ∧ Hid ((z.tmod z' = 0 ∧ y = z.tdiv z' ∧ k = 0) ∨ (z.tmod z' ≠ 0 ∧ y = 0 ∧ k = 30)) ∧ Below w.heap.size w w' := by
  obtain ⟨hZ, hY, hR, hB⟩ := boxed2 w s A n c s' A' n' c'
  have h1 := h.next hB
  have h1' := h'.next hB
  have HLN := Lib.hid h1'.len
  have HSZ := Lib.hid (show w.heap.size < _ from Nat.lt_trans (Nat.lt_succ_self _) (Nat.lt_trans (Nat.lt_succ_self _) hR.lt))
  go_enter Tryz.func190, Tryz.ntmps190
  go_wp2_with fail
  generalize ((w.alloc (.cells #[.bool s, .slice A n c] 28)).alloc (.cells #[.bool s', .slice A' n' c'] 28)).alloc (.cells #[.bool false, .slice none 0 0] 28) = W1 at *
  have hc0 := hZ.c0
  have hc1 := hZ.c1
  have hd0 := hY.c0
  have hd1 := hY.c1
  refine (trunc_any h1 h1' hn hn' h0).mono ?_
  rintro _ W2 ⟨s2, A2, m2, c2, z2, s3, A3, m3, c3, z3, rfl, ho2, ho3, hz2, hb2⟩
  obtain ⟨W3, HW3⟩ : ∃ W, W = (W2.alloc (.cells #[.bool s2, .slice A2 m2 c2] 28)).alloc (.cells #[.bool s3, .slice A3 m3 c3] 28) := ⟨_, rfl⟩
  have hQ : ZC W3 W2.heap.size s2 A2 m2 c2 := by rw [HW3]; exact (ZC.new W2 s2 A2 m2 c2).alloc _
  have hS : ZC W3 (W2.heap.size + 1) s3 A3 m3 c3 := by rw [HW3]; simpa using ZC.new (W2.alloc (.cells #[.bool s2, .slice A2 m2 c2] 28)) s3 A3 m3 c3
  have hb3 : Below W2.heap.size W2 W3 := by rw [HW3]; exact ((Below.refl W2.heap.size W2).alloc (Nat.le_refl _) _).alloc (by simp) _
  have HW3 := Lib.hid HW3
  clear hc0 hc1 hd0 hd1
  go_wp2_with fail
  rw [← HW3.out]
  clear HW3
  have hs0 := hS.c0
  have hs1 := hS.c1
  have HM3 := Lib.hid (show m3 ≤ 1000000000000 from by rw [ho3.len, hz2.out.2]; exact Nat.le_trans (Zz.zl_tmod_lt _ h0) (Nat.le_trans HLN.out hn'))
  refine (sign_any (ho3.next hb3).rd (by have := HM3.out; omega)).mono ?_
  rintro _ W4 ⟨k, rfl, hk, hb4⟩
  have HB24 := Lib.hid (hb3.trans (hb4.mono hb3.size))
  have HO2 := Lib.hid ((ho2.next HB24.out))
  have hQ4 := hQ.next hb4
  have hR4 := (hR.next hb2).next HB24.out
  have hB4 := hB.trans ((hb2.trans (HB24.out.mono hb2.size)).mono hB.size)
  have hf0 := hR4.fz 0
  have hf1 := hR4.fz 1
  have hr0 := hR4.c0
  have hr1 := hR4.c1
  have hq0 := hQ4.c0
  have hq1 := hQ4.c1
  have HS1 := Lib.hid hR.lt
  have HK := Lib.hid (show k = 0 ↔ z.tmod z' = 0 by rw [hk.out, hz2.out.2]; exact Int.sign_eq_zero_iff_zero)
  clear hs0 hs1 hS hQ hR hZ hY hb2 hb3 hb4 ho2 ho3
  by_cases hk0 : k = 0
  · have HT := Lib.hid (HK.out.1 hk0)
    subst hk0
    go_wp2
    have hp := put_int hR4 hB4 (by omega) HO2.out HS1.out
    generalize (W4.setCell ⟨w.heap.size + 1 + 1, 0, none⟩ (.bool s2)).setCell ⟨w.heap.size + 1 + 1, 1, none⟩ (.slice A2 m2 c2) = W5 at hp ⊢
    obtain ⟨hZ5, ho5, hB5⟩ := hp
    exact bodyPost_ret (by simp [results, Tryz.results190, go_sem, hZ5.c0, hZ5.c1]) rfl ⟨_, _, _, _, _, _, rfl, ho5.base (Nat.le_of_lt HSZ.out), Lib.hid (.inl ⟨HT.out, hz2.out.1, rfl⟩), hB5⟩
  · have HT := Lib.hid (mt HK.out.2 hk0)
    have hkb : (k != 0) = true := by simpa using hk0
    clear hk0
    go_wp2
    have hp := put_int hR4 hB4 (by omega) (OwZ.zero W4 W1.heap.size) HS1.out
    generalize (W4.setCell ⟨w.heap.size + 1 + 1, 0, none⟩ (.bool false)).setCell ⟨w.heap.size + 1 + 1, 1, none⟩ (.slice none 0 0) = W5 at hp ⊢
    obtain ⟨hZ5, ho5, hB5⟩ := hp
    exact bodyPost_ret (by simp [results, Tryz.results190, go_sem, hZ5.c0, hZ5.c1]) rfl ⟨_, _, _, _, _, _, rfl, ho5.base (Nat.le_of_lt HSZ.out), Lib.hid (.inr ⟨HT.out, rfl, rfl⟩), hB5⟩
end Go.Proofs.YtipbpdiahemmpaaGreat
