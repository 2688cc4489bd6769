/- The reference's integers, first part: in normal form, of a number, sign, sizes, product, greatest common divisor. -/
import Derived.Test.YtipbpdiahemmpaaGreatI3
import Derived.Test.YtipbpdiahemmpaaGreatN20
namespace Go.Proofs.YtipbpdiahemmpaaGreat
open Go.RowKit Go.IntWalk
attribute [local go_sem ↓] Go.wp_at_zero Go.wp_at_succ

set_option maxHeartbeats 1000000 in
theorem rINorm_any {s : Bool} {A : Option Addr} {n c : Nat} {z : Int} {w : World} (h : RdZ w w.heap.size s A n c z) (hn : n ≤ 17592186044416) :
    Calls Tryz.prog 85 #[.agg #[.bool s, .slice A n c]] w (RetI z w) := by
  obtain ⟨hZ, hR, hB⟩ := boxed1 w s A n c
  have h1 := h.next hB
  obtain ⟨M, h, hz⟩ := h1.raw
  have HSZ := Lib.hid (Nat.lt_trans (Nat.lt_succ_self _) hR.lt)
  go_enter Tryz.func85, Tryz.ntmps85
  go_wp2_with fail
  generalize (w.alloc (.cells #[.bool s, .slice A n c] 28)).alloc (.cells #[.bool false, .slice none 0 0] 28) = W1 at *
  have hz0 := hZ.c0
  have hz1 := hZ.c1
  refine (refNorm_any h (by omega)).mono ?_
  rintro _ W2 ⟨A2, m2, c2, x2, rfl, ho2, hx2, hb2⟩
  have hZ2 := hZ.next hb2
  have hR2 := hR.next hb2
  have hB2 := hB.trans (hb2.mono hB.size)
  have hd0 := hZ2.c0
  have hd1 := hZ2.c1
  have hc0 := hR2.c0
  have hc1 := hR2.c1
  have hf0 := hR2.fz 0
  have hf1 := hR2.fz 1
  have HB := Lib.hid hR.lt
  have HO := Lib.hid (OwZ.mk' (t := s) ho2)
  clear hb2 hZ hR h1 h hz0 hz1 ho2
  cases s
  · go_wp2
    have hp := put_int hR2 hB2 (Nat.le_succ _) (show OwZ W2 W1.heap.size false A2 m2 c2 (Zz.sg false x2) from HO.out) HB.out
    generalize (W2.setCell ⟨w.heap.size + 1, 0, none⟩ (.bool false)).setCell ⟨w.heap.size + 1, 1, none⟩ (.slice A2 m2 c2) = W9 at hp ⊢
    obtain ⟨hZ9, ho9, hB9⟩ := hp
    exact bodyPost_ret (by simp [results, Tryz.results85, go_sem, hZ9.c0, hZ9.c1]) rfl ⟨_, _, _, _, _, rfl, ho9.base (Nat.le_of_lt HSZ.out), Lib.hid (by rw [hx2.out, hz.out]), hB9⟩
  · go_wp2
    have hp := put_int hR2 hB2 (Nat.le_succ _) (show OwZ W2 W1.heap.size (decide (0 < m2)) A2 m2 c2 (Zz.sg true x2) from HO.out) HB.out
    generalize (W2.setCell ⟨w.heap.size + 1, 0, none⟩ (.bool (decide (0 < m2)))).setCell ⟨w.heap.size + 1, 1, none⟩ (.slice A2 m2 c2) = W9 at hp ⊢
    obtain ⟨hZ9, ho9, hB9⟩ := hp
    exact bodyPost_ret (by simp [results, Tryz.results85, go_sem, hZ9.c0, hZ9.c1]) rfl ⟨_, _, _, _, _, rfl, ho9.base (Nat.le_of_lt HSZ.out), Lib.hid (by rw [hx2.out, hz.out]), hB9⟩

theorem OwZ.nonneg {w : World} {b : Nat} {A : Option Addr} {n c x : Nat} (h : OwU w b A n c (Dg.dg x)) : OwZ w b false A n c (x : Int) := ⟨by simpa using h, by simp⟩
set_option maxHeartbeats 1000000 in
theorem rIOf_any (z : Int) (h1 : -9223372036854775808 ≤ z) (h2 : z < 9223372036854775808) (w : World) :
    Calls Tryz.prog 101 #[.int .i64 z] w (RetI z w) := by
  have hB := (Below.refl w.heap.size w).alloc (Nat.le_refl _) (.cells #[.bool false, .slice none 0 0] 28)
  have hZ := ZC.new w false none 0 0
  go_enter Tryz.func101, Tryz.ntmps101
  by_cases hz : z < 0
  · go_wp2_with fail
    generalize w.alloc (.cells #[.bool false, .slice none 0 0] 28) = W1 at *
    refine (refOf_any z.natAbs (by omega) (by omega) W1).mono ?_
    rintro _ W2 ⟨A2, m2, c2, x2, rfl, ho2, hx2, hb2⟩
    have hZ3 := (hZ.next hb2)
    have hB3 := hB.trans (hb2.mono hB.size)
    have HO : Hid (OwZ W2 W1.heap.size true A2 m2 c2 z) := Lib.hid ⟨by rw [hx2.out] at ho2; exact ho2, (decide_eq_true hz).symm⟩
    have hc0 := hZ3.c0
    have hc1 := hZ3.c1
    have hf0 := hZ3.fz 0
    have hf1 := hZ3.fz 1
    have HB := Lib.hid (show w.heap.size < W1.heap.size from hZ.lt)
    clear hb2 ho2
    go_wp2
    have hp := put_int hZ3 hB3 (Nat.le_refl _) HO.out HB.out
    generalize (W2.setCell ⟨w.heap.size, 0, none⟩ (.bool true)).setCell ⟨w.heap.size, 1, none⟩ (.slice A2 m2 c2) = W9 at hp ⊢
    obtain ⟨hZ9, ho9, hB9⟩ := hp
    exact bodyPost_ret (by simp [results, Tryz.results101, go_sem, hZ9.c0, hZ9.c1]) rfl ⟨_, _, _, _, _, rfl, ho9.base (Nat.le_of_lt HB.out), Lib.hid rfl, hB9⟩
  · have hz0 : 0 ≤ z := by omega
    clear hz
    go_wp2_with fail
    generalize w.alloc (.cells #[.bool false, .slice none 0 0] 28) = W1 at *
    refine (refOf_any z.natAbs (by omega) (by omega) W1).mono ?_
    rintro _ W2 ⟨A2, m2, c2, x2, rfl, ho2, hx2, hb2⟩
    have hZ3 := (hZ.next hb2)
    have hB3 := hB.trans (hb2.mono hB.size)
    have HO : Hid (OwZ W2 W1.heap.size false A2 m2 c2 z) := Lib.hid ⟨by rw [hx2.out] at ho2; exact ho2, (decide_eq_false (by omega)).symm⟩
    have hc0 := hZ3.c0
    have hc1 := hZ3.c1
    have hf0 := hZ3.fz 0
    have hf1 := hZ3.fz 1
    have HB := Lib.hid (show w.heap.size < W1.heap.size from hZ.lt)
    clear hb2 ho2
    go_wp2
    have hp := put_int hZ3 hB3 (Nat.le_refl _) HO.out HB.out
    generalize (W2.setCell ⟨w.heap.size, 0, none⟩ (.bool false)).setCell ⟨w.heap.size, 1, none⟩ (.slice A2 m2 c2) = W9 at hp ⊢
    obtain ⟨hZ9, ho9, hB9⟩ := hp
    exact bodyPost_ret (by simp [results, Tryz.results101, go_sem, hZ9.c0, hZ9.c1]) rfl ⟨_, _, _, _, _, rfl, ho9.base (Nat.le_of_lt HB.out), Lib.hid rfl, hB9⟩

set_option maxHeartbeats 1000000 in
theorem rISign_any {s : Bool} {A : Option Addr} {n c : Nat} {z : Int} {w : World} (h : RdZ w w.heap.size s A n c z) (hn : n ≤ 17592186044416) :
    Calls Tryz.prog 84 #[.agg #[.bool s, .slice A n c]] w (RetK z.sign w) := by
  obtain ⟨M, h, hz⟩ := h.raw
  have hB := (Below.refl w.heap.size w).alloc (Nat.le_refl _) (.cells #[.bool s, .slice A n c] 28)
  have hZ := ZC.new w s A n c
  have h1 := h.next hB
  go_enter Tryz.func84, Tryz.ntmps84
  go_wp2_with fail
  refine (refZero_any h1 hn).mono ?_
  rintro _ _ ⟨b, rfl, hk, rfl⟩
  have HS := Lib.hid (show z.sign = if b = true then 0 else if s then -1 else 1 by
    rw [hz.out, sign_sg]
    by_cases e : b = true
    · rw [if_pos e, if_pos (hk.out.1 e)]
    · rw [if_neg e, if_neg fun e2 => e (hk.out.2 e2)])
  clear hk hz h1 h
  generalize w.alloc (.cells #[.bool s, .slice A n c] 28) = W1 at *
  have hc0 := hZ.c0
  have hc1 := hZ.c1
  cases b
  · cases s
    · go_wp2
      go_ret
      exact ⟨_, rfl, Lib.hid (by rw [HS.out]; rfl), hB⟩
    · go_wp2
      go_ret
      exact ⟨_, rfl, Lib.hid (by rw [HS.out]; rfl), hB⟩
  · go_wp2
    go_ret
    exact ⟨_, rfl, Lib.hid (by rw [HS.out]; rfl), hB⟩

theorem RdZ.neg {w : World} {B : Nat} {s : Bool} {A : Option Addr} {n c : Nat} {z : Int} (h : RdZ w B s A n c z) : RdZ w B (!s) A n c (-z) := by
  obtain ⟨M, h, rfl⟩ := h
  exact ⟨M, h, (Zz.sg_not _ _).symm⟩
set_option maxHeartbeats 1000000 in
theorem rINeg_any {s : Bool} {A : Option Addr} {n c : Nat} {z : Int} {w : World} (h : RdZ w w.heap.size s A n c z) (hn : n ≤ 17592186044416) :
    Calls Tryz.prog 88 #[.agg #[.bool s, .slice A n c]] w (RetI (-z) w) := by
  obtain ⟨hZ, hR, hB⟩ := boxed1 w s A n c
  have h1 := h.next hB
  have HSZ := Lib.hid (Nat.lt_trans (Nat.lt_succ_self _) hR.lt)
  go_enter Tryz.func88, Tryz.ntmps88
  go_wp2_with fail
  generalize (w.alloc (.cells #[.bool s, .slice A n c] 28)).alloc (.cells #[.bool false, .slice none 0 0] 28) = W1 at *
  refine (rINorm_any h1.neg hn).mono ?_
  rintro _ W2 ⟨s2, A2, m2, c2, z2, rfl, ho2, hz2, hb2⟩
  have hR2 := hR.next hb2
  have hB2 := hB.trans (hb2.mono hB.size)
  have hc0 := hR2.c0
  have hc1 := hR2.c1
  have hf0 := hR2.fz 0
  have hf1 := hR2.fz 1
  have HB := Lib.hid hR.lt
  clear hb2 hZ hR h1 h
  go_wp2
  have hp := put_int hR2 hB2 (Nat.le_succ _) ho2 HB.out
  generalize (W2.setCell ⟨w.heap.size + 1, 0, none⟩ (.bool s2)).setCell ⟨w.heap.size + 1, 1, none⟩ (.slice A2 m2 c2) = W9 at hp ⊢
  obtain ⟨hZ9, ho9, hB9⟩ := hp
  exact bodyPost_ret (by simp [results, Tryz.results88, go_sem, hZ9.c0, hZ9.c1]) rfl ⟨_, _, _, _, _, rfl, ho9.base (Nat.le_of_lt HSZ.out), hz2, hB9⟩

set_option maxHeartbeats 1000000 in
theorem rIAbs_any {s : Bool} {A : Option Addr} {n c : Nat} {z : Int} {w : World} (h : RdZ w w.heap.size s A n c z) (hn : n ≤ 17592186044416) :
    Calls Tryz.prog 94 #[.agg #[.bool s, .slice A n c]] w (RetI z.natAbs w) := by
  obtain ⟨hZ, hR, hB⟩ := boxed1 w s A n c
  have h1 := h.next hB
  obtain ⟨M, h, hz⟩ := h1.raw
  have HSZ := Lib.hid (Nat.lt_trans (Nat.lt_succ_self _) hR.lt)
  go_enter Tryz.func94, Tryz.ntmps94
  go_wp2_with fail
  generalize (w.alloc (.cells #[.bool s, .slice A n c] 28)).alloc (.cells #[.bool false, .slice none 0 0] 28) = W1 at *
  have hz0 := hZ.c0
  have hz1 := hZ.c1
  refine (refNorm_any h (by omega)).mono ?_
  rintro _ W2 ⟨A2, m2, c2, x2, rfl, ho2, hx2, hb2⟩
  have hR2 := hR.next hb2
  have hB2 := hB.trans (hb2.mono hB.size)
  have hc0 := hR2.c0
  have hc1 := hR2.c1
  have hf0 := hR2.fz 0
  have hf1 := hR2.fz 1
  have HB := Lib.hid hR.lt
  clear hb2 hZ hR h1 h hz0 hz1
  go_wp2
  have hp := put_int hR2 hB2 (Nat.le_succ _) (OwZ.nonneg ho2) HB.out
  generalize (W2.setCell ⟨w.heap.size + 1, 0, none⟩ (.bool false)).setCell ⟨w.heap.size + 1, 1, none⟩ (.slice A2 m2 c2) = W9 at hp ⊢
  obtain ⟨hZ9, ho9, hB9⟩ := hp
  exact bodyPost_ret (by simp [results, Tryz.results94, go_sem, hZ9.c0, hZ9.c1]) rfl ⟨_, _, _, _, _, rfl, ho9.base (Nat.le_of_lt HSZ.out), Lib.hid (by rw [hx2.out, hz.out, Zz.abs_sg]), hB9⟩

set_option maxHeartbeats 1000000 in
theorem rIGcd_any {s s' : Bool} {A A' : Option Addr} {n c n' c' : Nat} {z z' : Int} {w : World} (h : RdZ w w.heap.size s A n c z) (h' : RdZ w w.heap.size s' A' n' c' z') (hn : n ≤ 2199023255551) (hn' : n' ≤ 2199023255551) :
    Calls Tryz.prog 196 #[.agg #[.bool s, .slice A n c], .agg #[.bool s', .slice A' n' c']] w (RetI (Int.gcd z z') w) := by
  obtain ⟨hZ, hY, hR, hB⟩ := boxed2 w s A n c s' A' n' c'
  obtain ⟨M, h1, hz⟩ := (h.next hB).raw
  obtain ⟨M', h1', hz'⟩ := (h'.next hB).raw
  have HSZ := Lib.hid (show w.heap.size < _ from Nat.lt_trans (Nat.lt_succ_self _) (Nat.lt_trans (Nat.lt_succ_self _) hR.lt))
  go_enter Tryz.func196, Tryz.ntmps196
  go_wp2_with fail
  generalize ((w.alloc (.cells #[.bool s, .slice A n c] 28)).alloc (.cells #[.bool s', .slice A' n' c'] 28)).alloc (.cells #[.bool false, .slice none 0 0] 28) = W1 at *
  have hc1 := hZ.c1
  have hd1 := hY.c1
  refine (refGcd_any h1 h1' hn hn').mono ?_
  rintro _ W2 ⟨A2, m2, c2, x2, rfl, ho2, hx2, hb2⟩
  clear hc1 hd1
  have hR2 := hR.next hb2
  have hB2 := hB.trans (hb2.mono hB.size)
  have HS1 := Lib.hid hR.lt
  have hc0 := hR2.c0
  have hc1 := hR2.c1
  have hf0 := hR2.fz 0
  have hf1 := hR2.fz 1
  clear hb2 hZ hY
  go_wp2
  have hp := put_int hR2 hB2 (by omega) (OwZ.nonneg ho2) HS1.out
  generalize (W2.setCell ⟨w.heap.size + 1 + 1, 0, none⟩ (.bool false)).setCell ⟨w.heap.size + 1 + 1, 1, none⟩ (.slice A2 m2 c2) = W9 at hp ⊢
  obtain ⟨hZ9, ho9, hB9⟩ := hp
  exact bodyPost_ret (by simp [results, Tryz.results196, go_sem, hZ9.c0, hZ9.c1]) rfl ⟨_, _, _, _, _, rfl, ho9.base (Nat.le_of_lt HSZ.out), Lib.hid (by rw [hx2.out, hz.out, hz'.out]; unfold Int.gcd; rw [Zz.abs_sg, Zz.abs_sg]), hB9⟩

set_option maxRecDepth 100000 in
set_option maxHeartbeats 2000000 in
theorem rIMul_any {s s' : Bool} {A A' : Option Addr} {n c n' c' : Nat} {z z' : Int} {w : World} (h : RdZ w w.heap.size s A n c z) (h' : RdZ w w.heap.size s' A' n' c' z') (hn : n ≤ 4398046511103) (hn' : n' ≤ 4398046511103) :
    Calls Tryz.prog 183 #[.agg #[.bool s, .slice A n c], .agg #[.bool s', .slice A' n' c']] w (RetI (z * z') w) := by
  obtain ⟨hZ, hY, hR, hB⟩ := boxed2 w s A n c s' A' n' c'
  obtain ⟨M, h1, hz⟩ := (h.next hB).raw
  obtain ⟨M', h1', hz'⟩ := (h'.next hB).raw
  have HSZ := Lib.hid (show w.heap.size < _ from Nat.lt_trans (Nat.lt_succ_self _) (Nat.lt_trans (Nat.lt_succ_self _) hR.lt))
  go_enter Tryz.func183, Tryz.ntmps183
  go_wp2_with fail
  generalize ((w.alloc (.cells #[.bool s, .slice A n c] 28)).alloc (.cells #[.bool s', .slice A' n' c'] 28)).alloc (.cells #[.bool false, .slice none 0 0] 28) = W1 at *
  have HBD := Lib.hid (Below.refl W1.heap.size W1).drew
  have HMU := Lib.hid (refNMul_any (h1.next HBD.out) (h1'.next HBD.out) hn hn')
  have HLN := Lib.hid (show ∀ (W : World) (b : Nat) (A : Option Addr) (m c x : Nat), OwU W b A m c (Dg.dg x) → Hid (x = Dg.val M * Dg.val M') → m ≤ 17592186044416 from fun W b A m c x ho hx => by
    have e := prod_len h1.wd h1'.wd
    rw [h1.len, h1'.len] at e
    have e2 := ho.len
    rw [hx.out] at e2
    omega)
  have hc0 := hZ.c0
  have hc1 := hZ.c1
  have hd0 := hY.c0
  have hd1 := hY.c1
  have HZ := Lib.hid hZ
  have HY := Lib.hid hY
  have HR := Lib.hid hR
  have hq1 : ¬ (w.heap.size + 1 + 1 = w.heap.size) := by omega
  have hq2 : ¬ (w.heap.size = w.heap.size + 1 + 1) := by omega
  go_region_held3 (fun w' => w'.cell? ⟨w.heap.size, 0, none⟩ = some (.bool s) ∧ w'.cell? ⟨w.heap.size, 1, none⟩ = some (.slice A n c) ∧ w'.cell? ⟨w.heap.size + 1, 0, none⟩ = some (.bool s') ∧ w'.cell? ⟨w.heap.size + 1, 1, none⟩ = some (.slice A' n' c')) (go_keep)
    (first
      | (go_at_call 238; refine HMU.out.mono ?_; rintro _ W2 ⟨A2, m2, c2, x2, rfl, ho2, hx2, hb2⟩; have HB2 := Lib.hid (HBD.out.trans hb2); have hd0 := (HZ.out.next HB2.out).c0; have hd1 := (HZ.out.next HB2.out).c1; have hd2 := (HY.out.next HB2.out).c0; have hd3 := (HY.out.next HB2.out).c1)
      | (go_at_call 85; refine (rINorm_any (z := Zz.sg (s != s') (Dg.val (Dg.dg x2))) ⟨_, ho2.rd, rfl⟩ (HLN.out _ _ _ _ _ _ ho2 hx2)).mono ?_; rintro _ W4 ⟨s4, A4, m4, c4, z4, rfl, ho4, hz4, hb4⟩; have HB4 := Lib.hid (HB2.out.trans (hb4.mono HB2.out.size)); have hf0 := (HZ.out.next HB4.out).c0; have hf1 := (HZ.out.next HB4.out).c1; have hf2 := (HY.out.next HB4.out).c0; have hf3 := (HY.out.next HB4.out).c1; have hg0 := (HR.out.next HB4.out).c0; have hg1 := (HR.out.next HB4.out).c1; have hh0 := (HR.out.next HB4.out).fz 0; have hh1 := (HR.out.next HB4.out).fz 1))
  have HS1 := Lib.hid hR.lt
  have HFA := Lib.hid (show z4 = z * z' by rw [hz4.out, Dg.val_dg, hx2.out, hz.out, hz'.out, Zz.sg_mul])
  clear hf0 hf1 hf2 hf3 hg0 hg1 hh0 hh1 hc0 hc1 hd0 hd1 hd2 hd3 hb2 hb4 hq1 hq2
  have hR4 := hR.next HB4.out
  have hB4 := hB.trans (HB4.out.mono hB.size)
  have hp := put_int hR4 hB4 (by omega) ho4 (Nat.lt_of_lt_of_le HS1.out HB2.out.size)
  generalize (W4.setCell ⟨w.heap.size + 1 + 1, 0, none⟩ (.bool s4)).setCell ⟨w.heap.size + 1 + 1, 1, none⟩ (.slice A4 m4 c4) = W9 at hp ⊢
  obtain ⟨hZ9, ho9, hB9⟩ := hp
  go_wp2
  exact bodyPost_ret (by simp [results, Tryz.results183, go_sem, hZ9.c0, hZ9.c1]) rfl ⟨_, _, _, _, _, rfl, ho9.base (Nat.le_trans (Nat.le_of_lt HSZ.out) HB2.out.size), HFA, hB9⟩
end Go.Proofs.YtipbpdiahemmpaaGreat
