/- zint: with the other sign, the sum, the difference. -/
import Derived.Test.YtjnklbfhelbjgaaGreatSn05
import Derived.Test.YtjnklbfhelbjgaaGreatSn01
import Derived.Deep.AppendLies
import Derived.Deep.RegionLaw
import Derived.Deep.LoopGhost
import Derived.Deep.CutBlock
import Derived.Deep.CutRange
import Derived.Deep.RegionWith
import Derived.Deep.RegionHeld3
namespace Go.Proofs.YtjnklbfhelbjgaaGreat
open Go.RowKit Go.IntWalk
attribute [local go_sem ↓] Go.wp_at_zero Go.wp_at_succ
theorem sign_pos_iff (z : Int) : (decide (0 < z.sign)) = decide (0 < z) := by
 rw [decide_eq_decide]
 exact Int.sign_pos_iff
theorem neg_sg (s : Bool) (x : Nat) : Zz.sg (decide (0 < Zz.sg s x)) x = -Zz.sg s x := by
 by_cases h : x = 0
 ·subst h; rw [Zz.sg_zero, Zz.sg_zero]; rfl
 ·cases s
  ·rw [Zz.sg_false, decide_eq_true (by omega), Zz.sg_true]
  ·rw [Zz.sg_true, decide_eq_false (by omega), Zz.sg_false]; omega
set_option maxHeartbeats 1000000 in
theorem neg_any {s : Bool} {A : Option Addr} {n c : Nat} {z : Int} {w : World} (h : RdZ w w.heap.size s A n c z) (hn : n ≤ 17592186044416) :
  Calls Tryz.prog 87 #[.agg #[.bool s, .slice A n c]] w (RetI (-z) w) := by
 obtain ⟨hZ, hR, hB⟩ := boxed1 w s A n c
 have h1 := h.next hB
 obtain ⟨M, h, hz⟩ := h.raw
 have HSZ := Lib.hid (Nat.lt_trans (Nat.lt_succ_self _) hR.lt)
 go_enter Tryz.func87, Tryz.ntmps87
 go_wp2_with fail
 generalize (w.alloc (.cells #[.bool s, .slice A n c] 25)).alloc (.cells #[.bool false, .slice none 0 0] 25) = W1 at *
 have HSI := Lib.hid (sign_any (h1.next (Below.refl W1.heap.size W1).drew) hn)
 have HNO := Lib.hid (show ∀ W : World, Below W1.heap.size W1 W → Calls Tryz.prog 142 #[.slice A n c] W (RetN (Dg.val M) W) from fun W hb => norm_any (h.next (hB.trans (hb.mono hB.size))) hn)
 have hc0 := hZ.c0
 have hc1 := hZ.c1
 have HZ := Lib.hid hZ
 go_region_held3 (fun w' => w'.cell? ⟨w.heap.size, 0, none⟩ = some (.bool s) ∧ w'.cell? ⟨w.heap.size, 1, none⟩ = some (.slice A n c)) (go_keep)
  (first
   | (go_at_call 36; refine HSI.out.mono ?_; rintro _ W2 ⟨k, rfl, hk, hb2⟩; have HB2 := Lib.hid ((Below.refl W1.heap.size W1).drew.trans hb2); have hd0 := (HZ.out.next HB2.out).c0; have hd1 := (HZ.out.next HB2.out).c1)
   | (go_at_call 142; refine (HNO.out _ HB2.out).mono ?_; rintro _ W3 ⟨A3, m3, c3, x3, rfl, ho3, hx3, hb3⟩; have HB3 := Lib.hid (HB2.out.trans (hb3.mono HB2.out.size)); have he0 := (HZ.out.next HB3.out).c0; have he1 := (HZ.out.next HB3.out).c1)
   | (go_at_call 141; refine (make1_any _ ho3).mono ?_; rintro _ W4 ⟨s4, rfl, ho4, hb4⟩; have HB4 := Lib.hid (HB3.out.trans (hb4.mono HB3.out.size)); have hf0 := (HZ.out.next HB4.out).c0; have hf1 := (HZ.out.next HB4.out).c1; have hg0 := (hR.next HB4.out).c0; have hg1 := (hR.next HB4.out).c1; have hh0 := (hR.next HB4.out).fz 0; have hh1 := (hR.next HB4.out).fz 1))
 have HS1 := Lib.hid hR.lt
 have HS2 := Lib.hid hb2.size
 have hp := put_int (hR.next HB4.out) (hB.trans (HB4.out.mono hB.size)) (Nat.le_succ _) ho4 (Nat.lt_of_lt_of_le HS1.out HB2.out.size)
 generalize (W4.setCell ⟨w.heap.size + 1, 0, none⟩ (.bool s4)).setCell ⟨w.heap.size + 1, 1, none⟩ (.slice A3 m3 c3) = W5 at hp ⊢
 obtain ⟨hZ5, ho5, hB5⟩ := hp
 clear hf0 hf1 hg0 hg1 hh0 hh1 hc0 hc1 hd0 hd1 he0 he1 hb2 hb3 hb4
 go_wp2
 exact bodyPost_ret (by simp [results, Tryz.results87, go_sem, hZ5.c0, hZ5.c1]) rfl ⟨_, _, _, _, _, rfl, ho5.base (Nat.le_trans (Nat.le_of_lt HSZ.out) HB2.out.size), Lib.hid (by rw [hx3.out, hk.out, sign_pos_iff, hz.out]; exact neg_sg _ _), hB5⟩
theorem cmp_neg {x y : Nat} : Dg.cmp x y < 0 ↔ x < y := by
 rcases Nat.lt_trichotomy x y with h | h | h
 ·rw [Dg.cmp_lt h]; omega
 ·rw [Dg.cmp_eq h]; omega
 ·rw [Dg.cmp_gt h]; omega
set_option maxRecDepth 100000 in
set_option maxHeartbeats 2000000 in
theorem joined_any {s s' : Bool} {A A' : Option Addr} {n c n' c' : Nat} {z z' : Int} {w : World} (h : RdZ w w.heap.size s A n c z) (h' : RdZ w w.heap.size s' A' n' c' z') (hn : n ≤ 8796093022207) (hn' : n' ≤ 8796093022207) (hss : s' ≠ s) :
  Calls Tryz.prog 209 #[.agg #[.bool s, .slice A n c], .agg #[.bool s', .slice A' n' c']] w (RetI (z + z') w) := by
 obtain ⟨hZ, hY, hR, hB⟩ := boxed2 w s A n c s' A' n' c'
 obtain ⟨M, h, hz⟩ := h.raw
 obtain ⟨M', h', hz'⟩ := h'.raw
 have HSS := Lib.hid hss
 clear hss
 have HSZ := Lib.hid (show w.heap.size < _ from Nat.lt_trans (Nat.lt_succ_self _) (Nat.lt_trans (Nat.lt_succ_self _) hR.lt))
 go_enter Tryz.func209, Tryz.ntmps209
 go_wp2_with fail
 generalize ((w.alloc (.cells #[.bool s, .slice A n c] 25)).alloc (.cells #[.bool s', .slice A' n' c'] 25)).alloc (.cells #[.bool false, .slice none 0 0] 25) = W1 at *
 refine (cmp_any (h.next hB) (h'.next hB) (by omega) (by omega)).mono ?_
 rintro _ _ ⟨zc, rfl, hzc, d, rfl⟩
 have hZ2 := hZ.drewN d
 have hY2 := hY.drewN d
 have hR2 := hR.drewN d
 have hB2 := hB.trans ((drewN_below W1 d).mono hB.size)
 have HSZ2 : Hid (w.heap.size < (W1.drewN d).heap.size) := HSZ
 clear hZ hY hR hB HSZ
 generalize W1.drewN d = W2 at *
 have hc0 := hZ2.c0
 have hc1 := hZ2.c1
 have hd0 := hY2.c0
 have hd1 := hY2.c1
 by_cases hlt : Dg.val M < Dg.val M'
 ·have hzc0 : zc < 0 := by rw [hzc.out]; exact cmp_neg.2 hlt
  have HLT := Lib.hid hlt
  clear hlt hzc
  have hf0 := hZ2.fz 0
  have hf1 := hZ2.fz 1
  have hf2 := hY2.fz 0
  have hf3 := hY2.fz 1
  go_wp2_with fail
  have hbs := (((hB2.setCell (p := ⟨w.heap.size, 0, none⟩) (Nat.le_refl _) (.bool s')).setCell (p := ⟨w.heap.size, 1, none⟩) (Nat.le_refl _) (.slice A' n' c')).setCell (p := ⟨w.heap.size + 1, 0, none⟩) (Nat.le_succ _) (.bool s)).setCell (p := ⟨w.heap.size + 1, 1, none⟩) (Nat.le_succ _) (.slice A n c)
  have hZ3 := ((hZ2.store s' A' n' c').far (p := ⟨w.heap.size + 1, 0, none⟩) (by simp) (.bool s)).far (p := ⟨w.heap.size + 1, 1, none⟩) (by simp) (.slice A n c)
  have hR3 := (((hR2.far (p := ⟨w.heap.size, 0, none⟩) (by simp; omega) (.bool s')).far (p := ⟨w.heap.size, 1, none⟩) (by simp; omega) (.slice A' n' c')).far (p := ⟨w.heap.size + 1, 0, none⟩) (by simp) (.bool s)).far (p := ⟨w.heap.size + 1, 1, none⟩) (by simp) (.slice A n c)
  generalize (((W2.setCell ⟨w.heap.size, 0, none⟩ (.bool s')).setCell ⟨w.heap.size, 1, none⟩ (.slice A' n' c')).setCell ⟨w.heap.size + 1, 0, none⟩ (.bool s)).setCell ⟨w.heap.size + 1, 1, none⟩ (.slice A n c) = W3 at hbs hZ3 hR3 ⊢
  clear hf0 hf1 hf2 hf3 hc0 hc1 hd0 hd1 hZ2 hY2 hR2
  refine (nSub_any (h'.next hbs) (h.next hbs) (by omega) (by omega) (Nat.le_of_lt HLT.out)).mono ?_
  rintro _ W4 ⟨A4, m4, c4, x4, rfl, ho4, hx4, hb4⟩
  have hd0 := (hZ3.next hb4).c0
  have hd1 := (hZ3.next hb4).c1
  go_wp2_with fail
  refine (make1_any s' ho4).mono ?_
  rintro _ W5 ⟨s5, rfl, ho5, hb5⟩
  have hR5 := (hR3.next hb4).next hb5
  have hB5 := hbs.trans ((hb4.trans (hb5.mono hb4.size)).mono hbs.size)
  have HS1 := Lib.hid hR3.lt
  have hc0 := hR5.c0
  have hc1 := hR5.c1
  have hf0 := hR5.fz 0
  have hf1 := hR5.fz 1
  clear hd0 hd1 hb4 hb5 ho4 hZ3
  go_wp2
  have hp := put_int hR5 hB5 (by omega) ho5 HS1.out
  generalize (W5.setCell ⟨w.heap.size + 1 + 1, 0, none⟩ (.bool s5)).setCell ⟨w.heap.size + 1 + 1, 1, none⟩ (.slice A4 m4 c4) = W6 at hp ⊢
  obtain ⟨hZ6, ho6, hB6⟩ := hp
  exact bodyPost_ret (by simp [results, Tryz.results209, go_sem, hZ6.c0, hZ6.c1]) rfl ⟨_, _, _, _, _, rfl, ho6.base (by have := HS1.out; omega), Lib.hid (by rw [hx4.out, hz.out, hz'.out, Int.add_comm, Zz.sg_sub (fun e => HSS.out e.symm) (Nat.le_of_lt HLT.out)]), hB6⟩
 ·have hzc0 : 0 ≤ zc := by rw [hzc.out]; have := mt cmp_neg.1 hlt; omega
  have HLT := Lib.hid (Nat.le_of_not_lt hlt)
  clear hlt hzc
  go_wp2_with fail
  refine (nSub_any (h.next hB2) (h'.next hB2) (by omega) (by omega) HLT.out).mono ?_
  rintro _ W3 ⟨A3, m3, c3, x3, rfl, ho3, hx3, hb3⟩
  have hd0 := (hZ2.next hb3).c0
  have hd1 := (hZ2.next hb3).c1
  clear hc0 hc1
  go_wp2_with fail
  refine (make1_any s ho3).mono ?_
  rintro _ W4 ⟨s4, rfl, ho4, hb4⟩
  have hR4 := (hR2.next hb3).next hb4
  have hB4 := hB2.trans ((hb3.trans (hb4.mono hb3.size)).mono hB2.size)
  have HS1 := Lib.hid hR2.lt
  have hc0 := hR4.c0
  have hc1 := hR4.c1
  have hf0 := hR4.fz 0
  have hf1 := hR4.fz 1
  clear hd0 hd1 hb3 hb4 ho3 hZ2 hY2
  go_wp2
  have hp := put_int hR4 hB4 (by omega) ho4 HS1.out
  generalize (W4.setCell ⟨w.heap.size + 1 + 1, 0, none⟩ (.bool s4)).setCell ⟨w.heap.size + 1 + 1, 1, none⟩ (.slice A3 m3 c3) = W5 at hp ⊢
  obtain ⟨hZ5, ho5, hB5⟩ := hp
  exact bodyPost_ret (by simp [results, Tryz.results209, go_sem, hZ5.c0, hZ5.c1]) rfl ⟨_, _, _, _, _, rfl, ho5.base (Nat.le_of_lt HSZ2.out), Lib.hid (by rw [hx3.out, hz.out, hz'.out, Zz.sg_sub HSS.out HLT.out]), hB5⟩
set_option maxRecDepth 100000 in
set_option maxHeartbeats 2000000 in
theorem add_any {s s' : Bool} {A A' : Option Addr} {n c n' c' : Nat} {z z' : Int} {w : World} (h : RdZ w w.heap.size s A n c z) (h' : RdZ w w.heap.size s' A' n' c' z') (hn : n ≤ 8796093022207) (hn' : n' ≤ 8796093022207) :
  Calls Tryz.prog 167 #[.agg #[.bool s, .slice A n c], .agg #[.bool s', .slice A' n' c']] w (RetI (z + z') w) := by
 obtain ⟨hZ, hY, hR, hB⟩ := boxed2 w s A n c s' A' n' c'
 have h1 := h.next hB
 have h1' := h'.next hB
 have HSZ := Lib.hid (show w.heap.size < _ from Nat.lt_trans (Nat.lt_succ_self _) (Nat.lt_trans (Nat.lt_succ_self _) hR.lt))
 go_enter Tryz.func167, Tryz.ntmps167
 by_cases hss : s' = s
 ·subst hss
  obtain ⟨M, h2, hz⟩ := h1.raw
  obtain ⟨M', h2', hz'⟩ := h1'.raw
  go_wp2_with fail
  generalize ((w.alloc (.cells #[.bool s', .slice A n c] 25)).alloc (.cells #[.bool s', .slice A' n' c'] 25)).alloc (.cells #[.bool false, .slice none 0 0] 25) = W1 at *
  have HBD := Lib.hid (Below.refl W1.heap.size W1).drew
  have HAD := Lib.hid (nAdd_any (h2.next HBD.out) (h2'.next HBD.out) (by omega) (by omega))
  have hc0 := hZ.c0
  have hc1 := hZ.c1
  have hd0 := hY.c0
  have hd1 := hY.c1
  have HZ := Lib.hid hZ
  have HY := Lib.hid hY
  have HR := Lib.hid hR
  have hq1 : ¬ (w.heap.size + 1 + 1 = w.heap.size) := by omega
  have hq2 : ¬ (w.heap.size = w.heap.size + 1 + 1) := by omega
  go_region_held3 (fun w' => w'.cell? ⟨w.heap.size, 0, none⟩ = some (.bool s') ∧ w'.cell? ⟨w.heap.size, 1, none⟩ = some (.slice A n c) ∧ w'.cell? ⟨w.heap.size + 1, 1, none⟩ = some (.slice A' n' c')) (go_keep)
   (first
    | (go_at_call 208; refine HAD.out.mono ?_; rintro _ W2 ⟨A2, m2, c2, x2, rfl, ho2, hx2, hb2⟩; have HB2 := Lib.hid (HBD.out.trans hb2); have hd0 := (HZ.out.next HB2.out).c0; have hd1 := (HZ.out.next HB2.out).c1; have hd2 := (HY.out.next HB2.out).c1)
    | (go_at_call 141; refine (make1_any _ ho2).mono ?_; rintro _ W4 ⟨s4, rfl, ho4, hb4⟩; have HB4 := Lib.hid (HB2.out.trans (hb4.mono HB2.out.size)); have hf0 := (HZ.out.next HB4.out).c0; have hf1 := (HZ.out.next HB4.out).c1; have hf2 := (HY.out.next HB4.out).c1; have hg0 := (HR.out.next HB4.out).c0; have hg1 := (HR.out.next HB4.out).c1; have hh0 := (HR.out.next HB4.out).fz 0; have hh1 := (HR.out.next HB4.out).fz 1))
  have HS1 := Lib.hid hR.lt
  have hp := put_int (hR.next HB4.out) (hB.trans (HB4.out.mono hB.size)) (by omega) ho4 (Nat.lt_of_lt_of_le HS1.out HBD.out.size)
  generalize (W4.setCell ⟨w.heap.size + 1 + 1, 0, none⟩ (.bool s4)).setCell ⟨w.heap.size + 1 + 1, 1, none⟩ (.slice A2 m2 c2) = W5 at hp ⊢
  obtain ⟨hZ5, ho5, hB5⟩ := hp
  clear hf0 hf1 hf2 hg0 hg1 hh0 hh1 hc0 hc1 hd0 hd1 hd2 hb2 hb4
  go_wp2
  exact bodyPost_ret (by simp [results, Tryz.results167, go_sem, hZ5.c0, hZ5.c1]) rfl ⟨_, _, _, _, _, rfl, ho5.base (Nat.le_trans (Nat.le_of_lt HSZ.out) HBD.out.size), Lib.hid (by rw [hx2.out, hz.out, hz'.out, Zz.sg_add]), hB5⟩
 ·have hbe : (s == s') = false := by simpa using fun e => hss e.symm
  have HSS := Lib.hid hss
  clear hss
  go_wp2_with fail
  generalize ((w.alloc (.cells #[.bool s, .slice A n c] 25)).alloc (.cells #[.bool s', .slice A' n' c'] 25)).alloc (.cells #[.bool false, .slice none 0 0] 25) = W1 at *
  refine (joined_any h1 h1' hn hn' HSS.out).mono ?_
  rintro _ W4 ⟨s4, A4, m4, c4, z4, rfl, ho4, hz4, hb4⟩
  have hR4 := hR.next hb4
  have hB4 := hB.trans (hb4.mono hB.size)
  have HS1 := Lib.hid hR.lt
  have hc0 := hR4.c0
  have hc1 := hR4.c1
  have hf0 := hR4.fz 0
  have hf1 := hR4.fz 1
  clear hb4 hZ hY hbe
  go_wp2
  have hp := put_int hR4 hB4 (by omega) ho4 HS1.out
  generalize (W4.setCell ⟨w.heap.size + 1 + 1, 0, none⟩ (.bool s4)).setCell ⟨w.heap.size + 1 + 1, 1, none⟩ (.slice A4 m4 c4) = W5 at hp ⊢
  obtain ⟨hZ5, ho5, hB5⟩ := hp
  exact bodyPost_ret (by simp [results, Tryz.results167, go_sem, hZ5.c0, hZ5.c1]) rfl ⟨_, _, _, _, _, rfl, ho5.base (Nat.le_of_lt HSZ.out), hz4, hB5⟩
set_option maxRecDepth 100000 in
set_option maxHeartbeats 2000000 in
theorem sub_any {s s' : Bool} {A A' : Option Addr} {n c n' c' : Nat} {z z' : Int} {w : World} (h : RdZ w w.heap.size s A n c z) (h' : RdZ w w.heap.size s' A' n' c' z') (hn : n ≤ 8796093022207) (hn' : n' ≤ 8796093022207) :
  Calls Tryz.prog 246 #[.agg #[.bool s, .slice A n c], .agg #[.bool s', .slice A' n' c']] w (RetI (z - z') w) := by
 obtain ⟨hZ, hY, hR, hB⟩ := boxed2 w s A n c s' A' n' c'
 have h1 := h.next hB
 have h1' := h'.next hB
 have HSZ := Lib.hid (show w.heap.size < _ from Nat.lt_trans (Nat.lt_succ_self _) (Nat.lt_trans (Nat.lt_succ_self _) hR.lt))
 go_enter Tryz.func246, Tryz.ntmps246
 go_wp2_with fail
 generalize ((w.alloc (.cells #[.bool s, .slice A n c] 25)).alloc (.cells #[.bool s', .slice A' n' c'] 25)).alloc (.cells #[.bool false, .slice none 0 0] 25) = W1 at *
 have HBD := Lib.hid (Below.refl W1.heap.size W1).drew
 have HNE := Lib.hid (neg_any (h1'.next HBD.out) (by omega))
 have HLN := Lib.hid (show Zz.zl z' ≤ n' from h1'.len)
 have hc0 := hZ.c0
 have hc1 := hZ.c1
 have hd0 := hY.c0
 have hd1 := hY.c1
 have HZ := Lib.hid hZ
 have HY := Lib.hid hY
 have HR := Lib.hid hR
 have hq1 : ¬ (w.heap.size + 1 + 1 = w.heap.size) := by omega
 have hq2 : ¬ (w.heap.size = w.heap.size + 1 + 1) := by omega
 go_region_held3 (fun w' => w'.cell? ⟨w.heap.size, 0, none⟩ = some (.bool s) ∧ w'.cell? ⟨w.heap.size, 1, none⟩ = some (.slice A n c) ∧ w'.cell? ⟨w.heap.size + 1, 0, none⟩ = some (.bool s') ∧ w'.cell? ⟨w.heap.size + 1, 1, none⟩ = some (.slice A' n' c')) (go_keep)
  (first
   | (go_at_call 87; refine HNE.out.mono ?_; rintro _ W2 ⟨s2, A2, m2, c2, z2, rfl, ho2, hz2, hb2⟩; have HB2 := Lib.hid (HBD.out.trans hb2); have hd0 := (HZ.out.next HB2.out).c0; have hd1 := (HZ.out.next HB2.out).c1; have hd2 := (HY.out.next HB2.out).c0; have hd3 := (HY.out.next HB2.out).c1)
   | (go_at_call 167; refine (add_any (h1.next HB2.out) ho2.rd hn (by rw [ho2.len, hz2.out, Zz.zl_neg]; exact Nat.le_trans HLN.out hn')).mono ?_; rintro _ W4 ⟨s4, A4, m4, c4, z4, rfl, ho4, hz4, hb4⟩; have HB4 := Lib.hid (HB2.out.trans (hb4.mono HB2.out.size)); have hf0 := (HZ.out.next HB4.out).c0; have hf1 := (HZ.out.next HB4.out).c1; have hf2 := (HY.out.next HB4.out).c0; have hf3 := (HY.out.next HB4.out).c1; have hg0 := (HR.out.next HB4.out).c0; have hg1 := (HR.out.next HB4.out).c1; have hh0 := (HR.out.next HB4.out).fz 0; have hh1 := (HR.out.next HB4.out).fz 1))
 have HS1 := Lib.hid hR.lt
 have hp := put_int (hR.next HB4.out) (hB.trans (HB4.out.mono hB.size)) (by omega) ho4 (Nat.lt_of_lt_of_le HS1.out HB2.out.size)
 generalize (W4.setCell ⟨w.heap.size + 1 + 1, 0, none⟩ (.bool s4)).setCell ⟨w.heap.size + 1 + 1, 1, none⟩ (.slice A4 m4 c4) = W5 at hp ⊢
 obtain ⟨hZ5, ho5, hB5⟩ := hp
 clear hf0 hf1 hf2 hf3 hg0 hg1 hh0 hh1 hc0 hc1 hd0 hd1 hd2 hd3 hb2 hb4
 go_wp2
 exact bodyPost_ret (by simp [results, Tryz.results246, go_sem, hZ5.c0, hZ5.c1]) rfl ⟨_, _, _, _, _, rfl, ho5.base (Nat.le_trans (Nat.le_of_lt HSZ.out) HB2.out.size), Lib.hid (by rw [hz4.out, hz2.out, Int.sub_eq_add_neg]), hB5⟩
end Go.Proofs.YtjnklbfhelbjgaaGreat

/- The reference's natural numbers, eighth part: quotient and what is left. -/
namespace Go.Proofs.YtjnklbfhelbjgaaGreat
open Go.RowKit Go.IntWalk
theorem dig_step {L O : List Nat} {t b x r d : Nat} (hL : t < L.length) (hO : t < O.length) (hr : r = Dg.ld L t + 4294967296 * x) (hd : d = r / b) (hI : Dg.val (O.drop (t + 1)) * b + x = Dg.val (L.drop (t + 1))) :
  Dg.val ((O.set t d).drop t) * b + (r - d * b) = Dg.val (L.drop t) := by
 have e : x * 4294967296 + Dg.ld L t = r := by omega
 have hs := Dg.short_step hL hO hI (q := d) (by rw [e, hd])
 rw [e] at hs
 have h := Nat.div_add_mod r b
 have e2 : r - d * b = r % b := by
  rw [hd, Nat.mul_comm (r / b) b]
  omega
 rw [e2]
 exact hs
end Go.Proofs.YtjnklbfhelbjgaaGreat

/- The reference's natural numbers, ninth part: times 2^s. -/
namespace Go.Proofs.YtjnklbfhelbjgaaGreat
open Go.RowKit Go.IntWalk
end Go.Proofs.YtjnklbfhelbjgaaGreat

/- The reference's natural numbers, tenth part: the greatest common divisor, plain. -/
namespace Go.Proofs.YtjnklbfhelbjgaaGreat
open Go.RowKit Go.IntWalk
end Go.Proofs.YtjnklbfhelbjgaaGreat

/- The reference's natural numbers, eleventh part: the greatest common divisor, the walk. -/
namespace Go.Proofs.YtjnklbfhelbjgaaGreat
open Go.RowKit Go.IntWalk
end Go.Proofs.YtjnklbfhelbjgaaGreat

/- The reference's integers, first part: in normal form, of a number, sign, sizes, product, greatest common divisor. -/
namespace Go.Proofs.YtjnklbfhelbjgaaGreat
open Go.RowKit Go.IntWalk
attribute [local go_sem ↓] Go.wp_at_zero Go.wp_at_succ
set_option maxHeartbeats 1000000 in
theorem rIOf_any (z : Int) (h1 : -9223372036854775808 ≤ z) (h2 : z < 9223372036854775808) (w : World) :
  Calls Tryz.prog 101 #[.int .i64 z] w (RetI z w) := by
 have hB := (Below.refl w.heap.size w).alloc (Nat.le_refl _) (.cells #[.bool false, .slice none 0 0] 25)
 have hZ := ZC.new w false none 0 0
 go_enter Tryz.func101, Tryz.ntmps101
 by_cases hz : z < 0
 ·go_wp2_with fail
  generalize w.alloc (.cells #[.bool false, .slice none 0 0] 25) = W1 at *
  refine (refOf_any z.natAbs (by omega) (by omega) W1).mono ?_
  rintro _ W2 ⟨A2, m2, c2, x2, rfl, ho2, hx2, hb2⟩
  have hZ3 := (hZ.next hb2)
  have hB3 := hB.trans (hb2.mono hB.size)
  have HO : Hid (OwZ W2 W1.heap.size true A2 m2 c2 z) := Lib.hid ⟨by rw [hx2.out] at ho2; exact ho2, (decide_eq_true hz).symm⟩
  have hc0 := hZ3.c0
  have hc1 := hZ3.c1
  have hf0 := hZ3.fz 0
  have hf1 := hZ3.fz 1
  have HB := Lib.hid (show w.heap.size < W1.heap.size from hZ.lt)
  clear hb2 ho2
  go_wp2
  have hp := put_int hZ3 hB3 (Nat.le_refl _) HO.out HB.out
  generalize (W2.setCell ⟨w.heap.size, 0, none⟩ (.bool true)).setCell ⟨w.heap.size, 1, none⟩ (.slice A2 m2 c2) = W9 at hp ⊢
  obtain ⟨hZ9, ho9, hB9⟩ := hp
  exact bodyPost_ret (by simp [results, Tryz.results101, go_sem, hZ9.c0, hZ9.c1]) rfl ⟨_, _, _, _, _, rfl, ho9.base (Nat.le_of_lt HB.out), Lib.hid rfl, hB9⟩
 ·have hz0 : 0 ≤ z := by omega
  clear hz
  go_wp2_with fail
  generalize w.alloc (.cells #[.bool false, .slice none 0 0] 25) = W1 at *
  refine (refOf_any z.natAbs (by omega) (by omega) W1).mono ?_
  rintro _ W2 ⟨A2, m2, c2, x2, rfl, ho2, hx2, hb2⟩
  have hZ3 := (hZ.next hb2)
  have hB3 := hB.trans (hb2.mono hB.size)
  have HO : Hid (OwZ W2 W1.heap.size false A2 m2 c2 z) := Lib.hid ⟨by rw [hx2.out] at ho2; exact ho2, (decide_eq_false (by omega)).symm⟩
  have hc0 := hZ3.c0
  have hc1 := hZ3.c1
  have hf0 := hZ3.fz 0
  have hf1 := hZ3.fz 1
  have HB := Lib.hid (show w.heap.size < W1.heap.size from hZ.lt)
  clear hb2 ho2
  go_wp2
  have hp := put_int hZ3 hB3 (Nat.le_refl _) HO.out HB.out
  generalize (W2.setCell ⟨w.heap.size, 0, none⟩ (.bool false)).setCell ⟨w.heap.size, 1, none⟩ (.slice A2 m2 c2) = W9 at hp ⊢
  obtain ⟨hZ9, ho9, hB9⟩ := hp
  exact bodyPost_ret (by simp [results, Tryz.results101, go_sem, hZ9.c0, hZ9.c1]) rfl ⟨_, _, _, _, _, rfl, ho9.base (Nat.le_of_lt HB.out), Lib.hid rfl, hB9⟩
end Go.Proofs.YtjnklbfhelbjgaaGreat

/- zint: division rounded to nought, Euclid's division, exact division. -/
namespace Go.Proofs.YtjnklbfhelbjgaaGreat
open Go.RowKit Go.IntWalk
attribute [local go_sem ↓] Go.wp_at_zero Go.wp_at_succ
theorem boxed22 (w : World) (s : Bool) (A : Option Addr) (n c : Nat) (s' : Bool) (A' : Option Addr) (n' c' : Nat) :
  ∃ W, W = (((w.alloc (.cells #[.bool s, .slice A n c] 25)).alloc (.cells #[.bool s', .slice A' n' c'] 25)).alloc (.cells #[.bool false, .slice none 0 0] 25)).alloc (.cells #[.bool false, .slice none 0 0] 25) ∧
  ZC W w.heap.size s A n c ∧ ZC W (w.heap.size + 1) s' A' n' c' ∧ ZC W (w.heap.size + 1 + 1) false none 0 0 ∧ ZC W (w.heap.size + 1 + 1 + 1) false none 0 0 ∧ Below w.heap.size w W := by
 obtain ⟨h1, h2, h3, h4⟩ := boxed2 w s A n c s' A' n' c'
 refine ⟨_, rfl, h1.alloc _, h2.alloc _, h3.alloc _, ?_, h4.alloc h4.size _⟩
 simpa using ZC.new (((w.alloc (.cells #[.bool s, .slice A n c] 25)).alloc (.cells #[.bool s', .slice A' n' c'] 25)).alloc (.cells #[.bool false, .slice none 0 0] 25)) false none 0 0
theorem put_two {v w W : World} {g g' b b' : Nat} {s s' t t' : Bool} {A A' A1 A2 : Option Addr} {n c n' c' k m k' m' : Nat} {z z' : Int} (h : ZC w g s A n c) (h' : ZC w g' s' A' n' c') (hne : g ≠ g') (hB : Below v.heap.size v w) (hg : v.heap.size ≤ g) (hg' : v.heap.size ≤ g')
  (ho : OwZ w b t A1 k m z) (ho' : OwZ w b' t' A2 k' m' z') (hb : g < b ∧ g' < b) (hb' : g < b' ∧ g' < b') (hW : W = (((w.setCell ⟨g, 0, none⟩ (.bool t)).setCell ⟨g, 1, none⟩ (.slice A1 k m)).setCell ⟨g', 0, none⟩ (.bool t')).setCell ⟨g', 1, none⟩ (.slice A2 k' m')) :
  ZC W g t A1 k m ∧ ZC W g' t' A2 k' m' ∧ OwZ W b t A1 k m z ∧ OwZ W b' t' A2 k' m' z' ∧ Below v.heap.size v W := by
 obtain ⟨h1, h2, h3⟩ := put_int h hB hg ho hb.1
 obtain ⟨h4, h5, h6⟩ := put_int ((h'.far (p := ⟨g, 0, none⟩) (Ne.symm hne) _).far (p := ⟨g, 1, none⟩) (Ne.symm hne) _) h3 hg' ((ho'.far (p := ⟨g, 0, none⟩) hb'.1 _).far (p := ⟨g, 1, none⟩) hb'.1 _) hb'.2
 subst hW
 exact ⟨(h1.far (p := ⟨g', 0, none⟩) hne _).far (p := ⟨g', 1, none⟩) hne _, h4, (h2.far (p := ⟨g', 0, none⟩) hb.2 _).far (p := ⟨g', 1, none⟩) hb.2 _, h5, h6⟩
set_option maxRecDepth 100000 in
set_option maxHeartbeats 2000000 in
theorem trunc_any {s s' : Bool} {A A' : Option Addr} {n c n' c' : Nat} {z z' : Int} {w : World} (h : RdZ w w.heap.size s A n c z) (h' : RdZ w w.heap.size s' A' n' c' z') (hn : n ≤ 1000000000000) (hn' : n' ≤ 1000000000000) (h0 : z' ≠ 0) :
  Calls Tryz.prog 192 #[.agg #[.bool s, .slice A n c], .agg #[.bool s', .slice A' n' c']] w (RetII (z.tdiv z') (z.tmod z') w) := by
 obtain ⟨M, h, hz⟩ := h.raw
 obtain ⟨M', h', hz'⟩ := h'.raw
 have HP := Lib.hid (show 0 < Dg.val M' by
  rcases Nat.eq_zero_or_pos (Dg.val M') with e | e
  ·exact absurd (by rw [hz'.out, e, Zz.sg_zero]) h0
  ·exact e)
 clear h0
 obtain ⟨W1, HW1, hZ, hY, hR, hS, hB⟩ := boxed22 w s A n c s' A' n' c'
 have HW1 := Lib.hid HW1
 have HSZ := Lib.hid (show w.heap.size < W1.heap.size from hZ.lt)
 go_enter Tryz.func192, Tryz.ntmps192
 go_wp2_with fail
 rw [← HW1.out]
 clear HW1
 have hc0 := hZ.c0
 have hc1 := hZ.c1
 have hd0 := hY.c0
 have hd1 := hY.c1
 refine (nDiv_any (h.next hB) (h'.next hB) hn hn' HP.out).mono ?_
 rintro _ W2 ⟨A2, A3, m2, c2, m3, c3, x2, x3, rfl, ho2, ho3, hx2, hb2⟩
 have hZ2 := hZ.next hb2
 have hY2 := hY.next hb2
 have hR2 := hR.next hb2
 have hS2 := hS.next hb2
 have hB2 := hB.trans (hb2.mono hB.size)
 have HS1 := Lib.hid (And.intro hR.lt hS.lt)
 have HS2 := Lib.hid hb2.size
 clear hc0 hc1 hd0 hd1 hZ hY hR hS hb2 hB
 go_wp2_with fail
 have hc0 := hZ2.c0
 have hd0 := hY2.c0
 have HBD := Lib.hid (Below.refl W2.heap.size W2).drew
 have HZ := Lib.hid hZ2
 have HY := Lib.hid hY2
 have HR := Lib.hid hR2
 have HS := Lib.hid hS2
 have HO2 := Lib.hid ho2
 have HO3 := Lib.hid ho3
 clear hZ2 hY2 hR2 hS2 ho2 ho3
 have hq1 : ¬ (w.heap.size + 1 + 1 = w.heap.size) := by omega
 have hq2 : ¬ (w.heap.size = w.heap.size + 1 + 1) := by omega
 have hq3 : ¬ (w.heap.size + 1 + 1 + 1 = w.heap.size) := by omega
 have hq4 : ¬ (w.heap.size = w.heap.size + 1 + 1 + 1) := by omega
 go_region_held3 (fun w' => w'.cell? ⟨w.heap.size, 0, none⟩ = some (.bool s) ∧ w'.cell? ⟨w.heap.size + 1, 0, none⟩ = some (.bool s')) (go_keep)
  (first
   | (go_at_call 141; have hx := HB4.out; clear hx; refine (make1_any s (HO3.out.next HB4.out)).mono ?_; rintro _ W5 ⟨s5, rfl, ho5, hb5⟩; have HB5 := Lib.hid (HB4.out.trans (hb5.mono HB4.out.size)); have he0 := (HZ.out.next HB5.out).c0; have he1 := (HY.out.next HB5.out).c0; have hg0 := (HR.out.next HB5.out).c0; have hg1 := (HR.out.next HB5.out).c1; have hh0 := (HR.out.next HB5.out).fz 0; have hh1 := (HR.out.next HB5.out).fz 1; have hi0 := (HS.out.next HB5.out).c0; have hi1 := (HS.out.next HB5.out).c1; have hj0 := (HS.out.next HB5.out).fz 0; have hj1 := (HS.out.next HB5.out).fz 1)
   | (go_at_call 141; refine (make1_any (s != s') (HO2.out.next HBD.out)).mono ?_; rintro _ W4 ⟨s4, rfl, ho4, hb4⟩; have HB4 := Lib.hid (HBD.out.trans hb4); have hd0 := (HZ.out.next HB4.out).c0; have hd1 := (HY.out.next HB4.out).c0))
 have HP2 := Lib.hid fun W (hW : W = (((W5.setCell ⟨w.heap.size + 1 + 1, 0, none⟩ (.bool s4)).setCell ⟨w.heap.size + 1 + 1, 1, none⟩ (.slice A2 m2 c2)).setCell ⟨w.heap.size + 1 + 1 + 1, 0, none⟩ (.bool s5)).setCell ⟨w.heap.size + 1 + 1 + 1, 1, none⟩ (.slice A3 m3 c3)) =>
  put_two (HR.out.next HB5.out) (HS.out.next HB5.out) (by omega) (hB2.trans (HB5.out.mono hB2.size)) (by omega) (by omega) (ho4.next hb5) ho5 HS1.out HS1.out hW
 clear he0 he1 hg0 hg1 hh0 hh1 hi0 hi1 hj0 hj1 hb4 hb5 ho4 ho5 hq1 hq2 hq3 hq4
 obtain ⟨W6, HW6⟩ : ∃ W, W = (((W5.setCell ⟨w.heap.size + 1 + 1, 0, none⟩ (.bool s4)).setCell ⟨w.heap.size + 1 + 1, 1, none⟩ (.slice A2 m2 c2)).setCell ⟨w.heap.size + 1 + 1 + 1, 0, none⟩ (.bool s5)).setCell ⟨w.heap.size + 1 + 1 + 1, 1, none⟩ (.slice A3 m3 c3) := ⟨_, rfl⟩
 obtain ⟨hZ6, hY6, ho6, ho7, hB6⟩ := HP2.out W6 HW6
 rw [← HW6]
 clear HW6 HP2
 go_wp2
 exact bodyPost_ret (by simp [results, Tryz.results192, go_sem, hZ6.c0, hZ6.c1, hY6.c0, hY6.c1]) rfl ⟨_, _, _, _, _, _, _, _, _, _, rfl, ho6.base (Nat.le_of_lt HSZ.out), ho7.base (Nat.le_of_lt HSZ.out), Lib.hid (by rw [hx2.out.1, hx2.out.2, hz.out, hz'.out, Zz.sg_div, Zz.sg_mod]; exact ⟨rfl, rfl⟩), hB6⟩
set_option maxHeartbeats 1000000 in
theorem igcd_any {s s' : Bool} {A A' : Option Addr} {n c n' c' : Nat} {z z' : Int} {w : World} (h : RdZ w w.heap.size s A n c z) (h' : RdZ w w.heap.size s' A' n' c' z') (hn : n ≤ 1000000000000) (hn' : n' ≤ 1000000000000) :
  Calls Tryz.prog 191 #[.agg #[.bool s, .slice A n c], .agg #[.bool s', .slice A' n' c']] w (RetI (Int.gcd z z') w) := by
 obtain ⟨hZ, hY, hR, hB⟩ := boxed2 w s A n c s' A' n' c'
 obtain ⟨M, h1, hz⟩ := (h.next hB).raw
 obtain ⟨M', h1', hz'⟩ := (h'.next hB).raw
 have HSZ := Lib.hid (show w.heap.size < _ from Nat.lt_trans (Nat.lt_succ_self _) (Nat.lt_trans (Nat.lt_succ_self _) hR.lt))
 go_enter Tryz.func191, Tryz.ntmps191
 go_wp2_with fail
 generalize ((w.alloc (.cells #[.bool s, .slice A n c] 25)).alloc (.cells #[.bool s', .slice A' n' c'] 25)).alloc (.cells #[.bool false, .slice none 0 0] 25) = W1 at *
 have hc1 := hZ.c1
 have hd1 := hY.c1
 refine (nGcd_any h1 h1' hn hn').mono ?_
 rintro _ W2 ⟨A2, m2, c2, x2, rfl, ho2, hx2, hb2⟩
 clear hc1 hd1
 go_wp2_with fail
 refine (make1_any false ho2).mono ?_
 rintro _ W4 ⟨s4, rfl, ho4, hb4⟩
 have hR4 := (hR.next hb2).next hb4
 have hB4 := hB.trans ((hb2.trans (hb4.mono hb2.size)).mono hB.size)
 have HS1 := Lib.hid hR.lt
 have hc0 := hR4.c0
 have hc1 := hR4.c1
 have hf0 := hR4.fz 0
 have hf1 := hR4.fz 1
 clear hb4 hb2 hZ hY ho2
 go_wp2
 have hp := put_int hR4 hB4 (by omega) ho4 HS1.out
 generalize (W4.setCell ⟨w.heap.size + 1 + 1, 0, none⟩ (.bool s4)).setCell ⟨w.heap.size + 1 + 1, 1, none⟩ (.slice A2 m2 c2) = W5 at hp ⊢
 obtain ⟨hZ5, ho5, hB5⟩ := hp
 exact bodyPost_ret (by simp [results, Tryz.results191, go_sem, hZ5.c0, hZ5.c1]) rfl ⟨_, _, _, _, _, rfl, ho5.base (Nat.le_of_lt HSZ.out), Lib.hid (by rw [hx2.out, Zz.sg_false, hz.out, hz'.out]; unfold Int.gcd; rw [Zz.abs_sg, Zz.abs_sg]), hB5⟩
set_option maxRecDepth 100000 in
set_option maxHeartbeats 2000000 in
theorem exact_any {s s' : Bool} {A A' : Option Addr} {n c n' c' : Nat} {z z' : Int} {w : World} (h : RdZ w w.heap.size s A n c z) (h' : RdZ w w.heap.size s' A' n' c' z') (hn : n ≤ 1000000000000) (hn' : n' ≤ 1000000000000) (h0 : z' ≠ 0) :
  Calls Tryz.prog 138 #[.agg #[.bool s, .slice A n c], .agg #[.bool s', .slice A' n' c']] w fun e w' => ∃ (s : Bool) (A : Option Addr) (n c : Nat) (y k : Int), e = .returned (.tuple #[.agg #[.bool s, .slice A n c], .int .i64 k]) ∧ OwZ w' w.heap.size s A n c y ∧ Hid ((z.tmod z' = 0 ∧ y = z.tdiv z' ∧ k = 0) ∨ (z.tmod z' ≠ 0 ∧ y = 0 ∧ k = 30)) ∧ Below w.heap.size w w' := by
 obtain ⟨hZ, hY, hR, hB⟩ := boxed2 w s A n c s' A' n' c'
 have h1 := h.next hB
 have h1' := h'.next hB
 have HLN := Lib.hid h1'.len
 have HSZ := Lib.hid (show w.heap.size < _ from Nat.lt_trans (Nat.lt_succ_self _) (Nat.lt_trans (Nat.lt_succ_self _) hR.lt))
 go_enter Tryz.func138, Tryz.ntmps138
 go_wp2_with fail
 generalize ((w.alloc (.cells #[.bool s, .slice A n c] 25)).alloc (.cells #[.bool s', .slice A' n' c'] 25)).alloc (.cells #[.bool false, .slice none 0 0] 25) = W1 at *
 have hc0 := hZ.c0
 have hc1 := hZ.c1
 have hd0 := hY.c0
 have hd1 := hY.c1
 refine (trunc_any h1 h1' hn hn' h0).mono ?_
 rintro _ W2 ⟨s2, A2, m2, c2, z2, s3, A3, m3, c3, z3, rfl, ho2, ho3, hz2, hb2⟩
 obtain ⟨W3, HW3⟩ : ∃ W, W = (W2.alloc (.cells #[.bool s2, .slice A2 m2 c2] 25)).alloc (.cells #[.bool s3, .slice A3 m3 c3] 25) := ⟨_, rfl⟩
 have hQ : ZC W3 W2.heap.size s2 A2 m2 c2 := by rw [HW3]; exact (ZC.new W2 s2 A2 m2 c2).alloc _
 have hS : ZC W3 (W2.heap.size + 1) s3 A3 m3 c3 := by rw [HW3]; simpa using ZC.new (W2.alloc (.cells #[.bool s2, .slice A2 m2 c2] 25)) s3 A3 m3 c3
 have hb3 : Below W2.heap.size W2 W3 := by rw [HW3]; exact ((Below.refl W2.heap.size W2).alloc (Nat.le_refl _) _).alloc (by simp) _
 have HW3 := Lib.hid HW3
 clear hc0 hc1 hd0 hd1
 go_wp2_with fail
 rw [← HW3.out]
 clear HW3
 have hs0 := hS.c0
 have hs1 := hS.c1
 have HM3 := Lib.hid (show m3 ≤ 1000000000000 from by rw [ho3.len, hz2.out.2]; exact Nat.le_trans (Zz.zl_tmod_lt _ h0) (Nat.le_trans HLN.out hn'))
 refine (sign_any (ho3.next hb3).rd (by have := HM3.out; omega)).mono ?_
 rintro _ W4 ⟨k, rfl, hk, hb4⟩
 have HB24 := Lib.hid (hb3.trans (hb4.mono hb3.size))
 have HO2 := Lib.hid ((ho2.next HB24.out))
 have hQ4 := hQ.next hb4
 have hR4 := (hR.next hb2).next HB24.out
 have hB4 := hB.trans ((hb2.trans (HB24.out.mono hb2.size)).mono hB.size)
 have hf0 := hR4.fz 0
 have hf1 := hR4.fz 1
 have hr0 := hR4.c0
 have hr1 := hR4.c1
 have hq0 := hQ4.c0
 have hq1 := hQ4.c1
 have HS1 := Lib.hid hR.lt
 have HK := Lib.hid (show k = 0 ↔ z.tmod z' = 0 by rw [hk.out, hz2.out.2]; exact Int.sign_eq_zero_iff_zero)
 clear hs0 hs1 hS hQ hR hZ hY hb2 hb3 hb4 ho2 ho3
 by_cases hk0 : k = 0
 ·have HT := Lib.hid (HK.out.1 hk0)
  subst hk0
  go_wp2
  have hp := put_int hR4 hB4 (by omega) HO2.out HS1.out
  generalize (W4.setCell ⟨w.heap.size + 1 + 1, 0, none⟩ (.bool s2)).setCell ⟨w.heap.size + 1 + 1, 1, none⟩ (.slice A2 m2 c2) = W5 at hp ⊢
  obtain ⟨hZ5, ho5, hB5⟩ := hp
  exact bodyPost_ret (by simp [results, Tryz.results138, go_sem, hZ5.c0, hZ5.c1]) rfl ⟨_, _, _, _, _, _, rfl, ho5.base (Nat.le_of_lt HSZ.out), Lib.hid (.inl ⟨HT.out, hz2.out.1, rfl⟩), hB5⟩
 ·have HT := Lib.hid (mt HK.out.2 hk0)
  have hkb : (k != 0) = true := by simpa using hk0
  clear hk0
  go_wp2
  have hp := put_int hR4 hB4 (by omega) (OwZ.zero W4 W1.heap.size) HS1.out
  generalize (W4.setCell ⟨w.heap.size + 1 + 1, 0, none⟩ (.bool false)).setCell ⟨w.heap.size + 1 + 1, 1, none⟩ (.slice none 0 0) = W5 at hp ⊢
  obtain ⟨hZ5, ho5, hB5⟩ := hp
  exact bodyPost_ret (by simp [results, Tryz.results138, go_sem, hZ5.c0, hZ5.c1]) rfl ⟨_, _, _, _, _, _, rfl, ho5.base (Nat.le_of_lt HSZ.out), Lib.hid (.inr ⟨HT.out, rfl, rfl⟩), hB5⟩
end Go.Proofs.YtjnklbfhelbjgaaGreat

/- The reference's integers, second part: the sum, the difference. -/
namespace Go.Proofs.YtjnklbfhelbjgaaGreat
open Go.RowKit Go.IntWalk
attribute [local go_sem ↓] Go.wp_at_zero Go.wp_at_succ
def Two (w : World) (b g g' : Nat) (z z' : Int) (wr : World) : Prop :=
 ∃ (s1 s2 : Bool) (A1 A2 : Option Addr) (m1 c1 m2 c2 : Nat) (y1 y2 : Int), ZC wr g s1 A1 m1 c1 ∧ ZC wr g' s2 A2 m2 c2 ∧ OwZ wr b s1 A1 m1 c1 y1 ∧ OwZ wr b s2 A2 m2 c2 y2 ∧ Hid (y1 = z ∧ y2 = z') ∧ Below w.heap.size w wr
end Go.Proofs.YtjnklbfhelbjgaaGreat

/- Integers compared. -/
namespace Go.Proofs.YtjnklbfhelbjgaaGreat
open Go.RowKit Go.IntWalk
attribute [local go_sem ↓] Go.wp_at_zero Go.wp_at_succ
end Go.Proofs.YtjnklbfhelbjgaaGreat
