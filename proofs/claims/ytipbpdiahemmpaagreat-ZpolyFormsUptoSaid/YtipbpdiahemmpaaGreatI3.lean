/- zint: with the other sign, the sum, the difference. -/
import Derived.Test.YtipbpdiahemmpaaGreatI2
import Derived.Test.YtipbpdiahemmpaaGreatN5
namespace Go.Proofs.YtipbpdiahemmpaaGreat
open Go.RowKit Go.IntWalk
attribute [local go_sem ↓] Go.wp_at_zero Go.wp_at_succ

theorem sign_pos_iff (z : Int) : (decide (0 < z.sign)) = decide (0 < z) := by
  rw [decide_eq_decide]
  exact Int.sign_pos_iff
theorem neg_sg (s : Bool) (x : Nat) : Zz.sg (decide (0 < Zz.sg s x)) x = -Zz.sg s x := by
  by_cases h : x = 0
  · subst h; rw [Zz.sg_zero, Zz.sg_zero]; rfl
  · cases s
    · rw [Zz.sg_false, decide_eq_true (by omega), Zz.sg_true]
    · rw [Zz.sg_true, decide_eq_false (by omega), Zz.sg_false]; omega

set_option maxHeartbeats 1000000 in
theorem neg_any {s : Bool} {A : Option Addr} {n c : Nat} {z : Int} {w : World} (h : RdZ w w.heap.size s A n c z) (hn : n ≤ 17592186044416) :
    Calls Tryz.prog 86 #[.agg #[.bool s, .slice A n c]] w (RetI (-z) w) := by
  obtain ⟨hZ, hR, hB⟩ := boxed1 w s A n c
  have h1 := h.next hB
  obtain ⟨M, h, hz⟩ := h.raw
  have HSZ := Lib.hid (Nat.lt_trans (Nat.lt_succ_self _) hR.lt)
  go_enter Tryz.func86, Tryz.ntmps86
  go_wp2_with fail
  generalize (w.alloc (.cells #[.bool s, .slice A n c] 28)).alloc (.cells #[.bool false, .slice none 0 0] 28) = W1 at *
  have HSI := Lib.hid (sign_any (h1.next (Below.refl W1.heap.size W1).drew) hn)
  have HNO := Lib.hid (show ∀ W : World, Below W1.heap.size W1 W → Calls Tryz.prog 186 #[.slice A n c] W (RetN (Dg.val M) W) from fun W hb => norm_any (h.next (hB.trans (hb.mono hB.size))) hn)
  have hc0 := hZ.c0
  have hc1 := hZ.c1
  have HZ := Lib.hid hZ
  go_region_held3 (fun w' => w'.cell? ⟨w.heap.size, 0, none⟩ = some (.bool s) ∧ w'.cell? ⟨w.heap.size, 1, none⟩ = some (.slice A n c)) (go_keep)
    (first
      | (go_at_call 81; refine HSI.out.mono ?_; rintro _ W2 ⟨k, rfl, hk, hb2⟩; have HB2 := Lib.hid ((Below.refl W1.heap.size W1).drew.trans hb2); have hd0 := (HZ.out.next HB2.out).c0; have hd1 := (HZ.out.next HB2.out).c1)
      | (go_at_call 186; refine (HNO.out _ HB2.out).mono ?_; rintro _ W3 ⟨A3, m3, c3, x3, rfl, ho3, hx3, hb3⟩; have HB3 := Lib.hid (HB2.out.trans (hb3.mono HB2.out.size)); have he0 := (HZ.out.next HB3.out).c0; have he1 := (HZ.out.next HB3.out).c1)
      | (go_at_call 185; refine (make1_any _ ho3).mono ?_; rintro _ W4 ⟨s4, rfl, ho4, hb4⟩; have HB4 := Lib.hid (HB3.out.trans (hb4.mono HB3.out.size)); have hf0 := (HZ.out.next HB4.out).c0; have hf1 := (HZ.out.next HB4.out).c1; have hg0 := (hR.next HB4.out).c0; have hg1 := (hR.next HB4.out).c1; have hh0 := (hR.next HB4.out).fz 0; have hh1 := (hR.next HB4.out).fz 1))
  have HS1 := Lib.hid hR.lt
  have HS2 := Lib.hid hb2.size
  have hp := put_int (hR.next HB4.out) (hB.trans (HB4.out.mono hB.size)) (Nat.le_succ _) ho4 (Nat.lt_of_lt_of_le HS1.out HB2.out.size)
  generalize (W4.setCell ⟨w.heap.size + 1, 0, none⟩ (.bool s4)).setCell ⟨w.heap.size + 1, 1, none⟩ (.slice A3 m3 c3) = W5 at hp ⊢
  obtain ⟨hZ5, ho5, hB5⟩ := hp
  clear hf0 hf1 hg0 hg1 hh0 hh1 hc0 hc1 hd0 hd1 he0 he1 hb2 hb3 hb4
  go_wp2
  exact bodyPost_ret (by simp [results, Tryz.results86, go_sem, hZ5.c0, hZ5.c1]) rfl ⟨_, _, _, _, _, rfl, ho5.base (Nat.le_trans (Nat.le_of_lt HSZ.out) HB2.out.size), Lib.hid (by rw [hx3.out, hk.out, sign_pos_iff, hz.out]; exact neg_sg _ _), hB5⟩

theorem cmp_neg {x y : Nat} : Dg.cmp x y < 0 ↔ x < y := by
  rcases Nat.lt_trichotomy x y with h | h | h
  · rw [Dg.cmp_lt h]; omega
  · rw [Dg.cmp_eq h]; omega
  · rw [Dg.cmp_gt h]; omega

set_option maxRecDepth 100000 in
set_option maxHeartbeats 2000000 in
theorem joined_any {s s' : Bool} {A A' : Option Addr} {n c n' c' : Nat} {z z' : Int} {w : World} (h : RdZ w w.heap.size s A n c z) (h' : RdZ w w.heap.size s' A' n' c' z') (hn : n ≤ 8796093022207) (hn' : n' ≤ 8796093022207) (hss : s' ≠ s) :
    Calls Tryz.prog 256 #[.agg #[.bool s, .slice A n c], .agg #[.bool s', .slice A' n' c']] w (RetI (z + z') w) := by
  obtain ⟨hZ, hY, hR, hB⟩ := boxed2 w s A n c s' A' n' c'
  obtain ⟨M, h, hz⟩ := h.raw
  obtain ⟨M', h', hz'⟩ := h'.raw
  have HSS := Lib.hid hss
  clear hss
  have HSZ := Lib.hid (show w.heap.size < _ from Nat.lt_trans (Nat.lt_succ_self _) (Nat.lt_trans (Nat.lt_succ_self _) hR.lt))
  go_enter Tryz.func256, Tryz.ntmps256
  go_wp2_with fail
  generalize ((w.alloc (.cells #[.bool s, .slice A n c] 28)).alloc (.cells #[.bool s', .slice A' n' c'] 28)).alloc (.cells #[.bool false, .slice none 0 0] 28) = W1 at *
  refine (cmp_any (h.next hB) (h'.next hB) (by omega) (by omega)).mono ?_
  rintro _ _ ⟨zc, rfl, hzc, d, rfl⟩
  have hZ2 := hZ.drewN d
  have hY2 := hY.drewN d
  have hR2 := hR.drewN d
  have hB2 := hB.trans ((drewN_below W1 d).mono hB.size)
  have HSZ2 : Hid (w.heap.size < (W1.drewN d).heap.size) := HSZ
  clear hZ hY hR hB HSZ
  generalize W1.drewN d = W2 at *
  have hc0 := hZ2.c0
  have hc1 := hZ2.c1
  have hd0 := hY2.c0
  have hd1 := hY2.c1
  by_cases hlt : Dg.val M < Dg.val M'
  · have hzc0 : zc < 0 := by rw [hzc.out]; exact cmp_neg.2 hlt
    have HLT := Lib.hid hlt
    clear hlt hzc
    have hf0 := hZ2.fz 0
    have hf1 := hZ2.fz 1
    have hf2 := hY2.fz 0
    have hf3 := hY2.fz 1
    go_wp2_with fail
    have hbs := (((hB2.setCell (p := ⟨w.heap.size, 0, none⟩) (Nat.le_refl _) (.bool s')).setCell (p := ⟨w.heap.size, 1, none⟩) (Nat.le_refl _) (.slice A' n' c')).setCell (p := ⟨w.heap.size + 1, 0, none⟩) (Nat.le_succ _) (.bool s)).setCell (p := ⟨w.heap.size + 1, 1, none⟩) (Nat.le_succ _) (.slice A n c)
    have hZ3 := ((hZ2.store s' A' n' c').far (p := ⟨w.heap.size + 1, 0, none⟩) (by simp) (.bool s)).far (p := ⟨w.heap.size + 1, 1, none⟩) (by simp) (.slice A n c)
    have hR3 := (((hR2.far (p := ⟨w.heap.size, 0, none⟩) (by simp; omega) (.bool s')).far (p := ⟨w.heap.size, 1, none⟩) (by simp; omega) (.slice A' n' c')).far (p := ⟨w.heap.size + 1, 0, none⟩) (by simp) (.bool s)).far (p := ⟨w.heap.size + 1, 1, none⟩) (by simp) (.slice A n c)
    generalize (((W2.setCell ⟨w.heap.size, 0, none⟩ (.bool s')).setCell ⟨w.heap.size, 1, none⟩ (.slice A' n' c')).setCell ⟨w.heap.size + 1, 0, none⟩ (.bool s)).setCell ⟨w.heap.size + 1, 1, none⟩ (.slice A n c) = W3 at hbs hZ3 hR3 ⊢
    clear hf0 hf1 hf2 hf3 hc0 hc1 hd0 hd1 hZ2 hY2 hR2
    refine (nSub_any (h'.next hbs) (h.next hbs) (by omega) (by omega) (Nat.le_of_lt HLT.out)).mono ?_
    rintro _ W4 ⟨A4, m4, c4, x4, rfl, ho4, hx4, hb4⟩
    have hd0 := (hZ3.next hb4).c0
    have hd1 := (hZ3.next hb4).c1
    go_wp2_with fail
    refine (make1_any s' ho4).mono ?_
    rintro _ W5 ⟨s5, rfl, ho5, hb5⟩
    have hR5 := (hR3.next hb4).next hb5
    have hB5 := hbs.trans ((hb4.trans (hb5.mono hb4.size)).mono hbs.size)
    have HS1 := Lib.hid hR3.lt
    have hc0 := hR5.c0
    have hc1 := hR5.c1
    have hf0 := hR5.fz 0
    have hf1 := hR5.fz 1
    clear hd0 hd1 hb4 hb5 ho4 hZ3
    go_wp2
    have hp := put_int hR5 hB5 (by omega) ho5 HS1.out
    generalize (W5.setCell ⟨w.heap.size + 1 + 1, 0, none⟩ (.bool s5)).setCell ⟨w.heap.size + 1 + 1, 1, none⟩ (.slice A4 m4 c4) = W6 at hp ⊢
    obtain ⟨hZ6, ho6, hB6⟩ := hp
    exact bodyPost_ret (by simp [results, Tryz.results256, go_sem, hZ6.c0, hZ6.c1]) rfl ⟨_, _, _, _, _, rfl, ho6.base (by have := HS1.out; omega), Lib.hid (by rw [hx4.out, hz.out, hz'.out, Int.add_comm, Zz.sg_sub (fun e => HSS.out e.symm) (Nat.le_of_lt HLT.out)]), hB6⟩
  · have hzc0 : 0 ≤ zc := by rw [hzc.out]; have := mt cmp_neg.1 hlt; omega
    have HLT := Lib.hid (Nat.le_of_not_lt hlt)
    clear hlt hzc
    go_wp2_with fail
    refine (nSub_any (h.next hB2) (h'.next hB2) (by omega) (by omega) HLT.out).mono ?_
    rintro _ W3 ⟨A3, m3, c3, x3, rfl, ho3, hx3, hb3⟩
    have hd0 := (hZ2.next hb3).c0
    have hd1 := (hZ2.next hb3).c1
    clear hc0 hc1
    go_wp2_with fail
    refine (make1_any s ho3).mono ?_
    rintro _ W4 ⟨s4, rfl, ho4, hb4⟩
    have hR4 := (hR2.next hb3).next hb4
    have hB4 := hB2.trans ((hb3.trans (hb4.mono hb3.size)).mono hB2.size)
    have HS1 := Lib.hid hR2.lt
    have hc0 := hR4.c0
    have hc1 := hR4.c1
    have hf0 := hR4.fz 0
    have hf1 := hR4.fz 1
    clear hd0 hd1 hb3 hb4 ho3 hZ2 hY2
    go_wp2
    have hp := put_int hR4 hB4 (by omega) ho4 HS1.out
    generalize (W4.setCell ⟨w.heap.size + 1 + 1, 0, none⟩ (.bool s4)).setCell ⟨w.heap.size + 1 + 1, 1, none⟩ (.slice A3 m3 c3) = W5 at hp ⊢
    obtain ⟨hZ5, ho5, hB5⟩ := hp
    exact bodyPost_ret (by simp [results, Tryz.results256, go_sem, hZ5.c0, hZ5.c1]) rfl ⟨_, _, _, _, _, rfl, ho5.base (Nat.le_of_lt HSZ2.out), Lib.hid (by rw [hx3.out, hz.out, hz'.out, Zz.sg_sub HSS.out HLT.out]), hB5⟩

set_option maxRecDepth 100000 in
set_option maxHeartbeats 2000000 in
theorem add_any {s s' : Bool} {A A' : Option Addr} {n c n' c' : Nat} {z z' : Int} {w : World} (h : RdZ w w.heap.size s A n c z) (h' : RdZ w w.heap.size s' A' n' c' z') (hn : n ≤ 8796093022207) (hn' : n' ≤ 8796093022207) :
    Calls Tryz.prog 218 #[.agg #[.bool s, .slice A n c], .agg #[.bool s', .slice A' n' c']] w (RetI (z + z') w) := by
  obtain ⟨hZ, hY, hR, hB⟩ := boxed2 w s A n c s' A' n' c'
  have h1 := h.next hB
  have h1' := h'.next hB
  have HSZ := Lib.hid (show w.heap.size < _ from Nat.lt_trans (Nat.lt_succ_self _) (Nat.lt_trans (Nat.lt_succ_self _) hR.lt))
  go_enter Tryz.func218, Tryz.ntmps218
  by_cases hss : s' = s
  · subst hss
    obtain ⟨M, h2, hz⟩ := h1.raw
    obtain ⟨M', h2', hz'⟩ := h1'.raw
    go_wp2_with fail
    generalize ((w.alloc (.cells #[.bool s', .slice A n c] 28)).alloc (.cells #[.bool s', .slice A' n' c'] 28)).alloc (.cells #[.bool false, .slice none 0 0] 28) = W1 at *
    have HBD := Lib.hid (Below.refl W1.heap.size W1).drew
    have HAD := Lib.hid (nAdd_any (h2.next HBD.out) (h2'.next HBD.out) (by omega) (by omega))
    have hc0 := hZ.c0
    have hc1 := hZ.c1
    have hd0 := hY.c0
    have hd1 := hY.c1
    have HZ := Lib.hid hZ
    have HY := Lib.hid hY
    have HR := Lib.hid hR
    have hq1 : ¬ (w.heap.size + 1 + 1 = w.heap.size) := by omega
    have hq2 : ¬ (w.heap.size = w.heap.size + 1 + 1) := by omega
    go_region_held3 (fun w' => w'.cell? ⟨w.heap.size, 0, none⟩ = some (.bool s') ∧ w'.cell? ⟨w.heap.size, 1, none⟩ = some (.slice A n c) ∧ w'.cell? ⟨w.heap.size + 1, 1, none⟩ = some (.slice A' n' c')) (go_keep)
      (first
        | (go_at_call 255; refine HAD.out.mono ?_; rintro _ W2 ⟨A2, m2, c2, x2, rfl, ho2, hx2, hb2⟩; have HB2 := Lib.hid (HBD.out.trans hb2); have hd0 := (HZ.out.next HB2.out).c0; have hd1 := (HZ.out.next HB2.out).c1; have hd2 := (HY.out.next HB2.out).c1)
        | (go_at_call 185; refine (make1_any _ ho2).mono ?_; rintro _ W4 ⟨s4, rfl, ho4, hb4⟩; have HB4 := Lib.hid (HB2.out.trans (hb4.mono HB2.out.size)); have hf0 := (HZ.out.next HB4.out).c0; have hf1 := (HZ.out.next HB4.out).c1; have hf2 := (HY.out.next HB4.out).c1; have hg0 := (HR.out.next HB4.out).c0; have hg1 := (HR.out.next HB4.out).c1; have hh0 := (HR.out.next HB4.out).fz 0; have hh1 := (HR.out.next HB4.out).fz 1))
    have HS1 := Lib.hid hR.lt
    have hp := put_int (hR.next HB4.out) (hB.trans (HB4.out.mono hB.size)) (by omega) ho4 (Nat.lt_of_lt_of_le HS1.out HBD.out.size)
    generalize (W4.setCell ⟨w.heap.size + 1 + 1, 0, none⟩ (.bool s4)).setCell ⟨w.heap.size + 1 + 1, 1, none⟩ (.slice A2 m2 c2) = W5 at hp ⊢
    obtain ⟨hZ5, ho5, hB5⟩ := hp
    clear hf0 hf1 hf2 hg0 hg1 hh0 hh1 hc0 hc1 hd0 hd1 hd2 hb2 hb4
    go_wp2
    exact bodyPost_ret (by simp [results, Tryz.results218, go_sem, hZ5.c0, hZ5.c1]) rfl ⟨_, _, _, _, _, rfl, ho5.base (Nat.le_trans (Nat.le_of_lt HSZ.out) HBD.out.size), Lib.hid (by rw [hx2.out, hz.out, hz'.out, Zz.sg_add]), hB5⟩
  · have hbe : (s == s') = false := by simpa using fun e => hss e.symm
    have HSS := Lib.hid hss
    clear hss
    go_wp2_with fail
    generalize ((w.alloc (.cells #[.bool s, .slice A n c] 28)).alloc (.cells #[.bool s', .slice A' n' c'] 28)).alloc (.cells #[.bool false, .slice none 0 0] 28) = W1 at *
    refine (joined_any h1 h1' hn hn' HSS.out).mono ?_
    rintro _ W4 ⟨s4, A4, m4, c4, z4, rfl, ho4, hz4, hb4⟩
    have hR4 := hR.next hb4
    have hB4 := hB.trans (hb4.mono hB.size)
    have HS1 := Lib.hid hR.lt
    have hc0 := hR4.c0
    have hc1 := hR4.c1
    have hf0 := hR4.fz 0
    have hf1 := hR4.fz 1
    clear hb4 hZ hY hbe
    go_wp2
    have hp := put_int hR4 hB4 (by omega) ho4 HS1.out
    generalize (W4.setCell ⟨w.heap.size + 1 + 1, 0, none⟩ (.bool s4)).setCell ⟨w.heap.size + 1 + 1, 1, none⟩ (.slice A4 m4 c4) = W5 at hp ⊢
    obtain ⟨hZ5, ho5, hB5⟩ := hp
    exact bodyPost_ret (by simp [results, Tryz.results218, go_sem, hZ5.c0, hZ5.c1]) rfl ⟨_, _, _, _, _, rfl, ho5.base (Nat.le_of_lt HSZ.out), hz4, hB5⟩

set_option maxRecDepth 100000 in
set_option maxHeartbeats 2000000 in
theorem sub_any {s s' : Bool} {A A' : Option Addr} {n c n' c' : Nat} {z z' : Int} {w : World} (h : RdZ w w.heap.size s A n c z) (h' : RdZ w w.heap.size s' A' n' c' z') (hn : n ≤ 8796093022207) (hn' : n' ≤ 8796093022207) :
    Calls Tryz.prog 248 #[.agg #[.bool s, .slice A n c], .agg #[.bool s', .slice A' n' c']] w (RetI (z - z') w) := by
  obtain ⟨hZ, hY, hR, hB⟩ := boxed2 w s A n c s' A' n' c'
  have h1 := h.next hB
  have h1' := h'.next hB
  have HSZ := Lib.hid (show w.heap.size < _ from Nat.lt_trans (Nat.lt_succ_self _) (Nat.lt_trans (Nat.lt_succ_self _) hR.lt))
  go_enter Tryz.func248, Tryz.ntmps248
  go_wp2_with fail
  generalize ((w.alloc (.cells #[.bool s, .slice A n c] 28)).alloc (.cells #[.bool s', .slice A' n' c'] 28)).alloc (.cells #[.bool false, .slice none 0 0] 28) = W1 at *
  have HBD := Lib.hid (Below.refl W1.heap.size W1).drew
  have HNE := Lib.hid (neg_any (h1'.next HBD.out) (by omega))
  have HLN := Lib.hid (show Zz.zl z' ≤ n' from h1'.len)
  have hc0 := hZ.c0
  have hc1 := hZ.c1
  have hd0 := hY.c0
  have hd1 := hY.c1
  have HZ := Lib.hid hZ
  have HY := Lib.hid hY
  have HR := Lib.hid hR
  have hq1 : ¬ (w.heap.size + 1 + 1 = w.heap.size) := by omega
  have hq2 : ¬ (w.heap.size = w.heap.size + 1 + 1) := by omega
  go_region_held3 (fun w' => w'.cell? ⟨w.heap.size, 0, none⟩ = some (.bool s) ∧ w'.cell? ⟨w.heap.size, 1, none⟩ = some (.slice A n c) ∧ w'.cell? ⟨w.heap.size + 1, 0, none⟩ = some (.bool s') ∧ w'.cell? ⟨w.heap.size + 1, 1, none⟩ = some (.slice A' n' c')) (go_keep)
    (first
      | (go_at_call 86; refine HNE.out.mono ?_; rintro _ W2 ⟨s2, A2, m2, c2, z2, rfl, ho2, hz2, hb2⟩; have HB2 := Lib.hid (HBD.out.trans hb2); have hd0 := (HZ.out.next HB2.out).c0; have hd1 := (HZ.out.next HB2.out).c1; have hd2 := (HY.out.next HB2.out).c0; have hd3 := (HY.out.next HB2.out).c1)
      | (go_at_call 218; refine (add_any (h1.next HB2.out) ho2.rd hn (by rw [ho2.len, hz2.out, Zz.zl_neg]; exact Nat.le_trans HLN.out hn')).mono ?_; rintro _ W4 ⟨s4, A4, m4, c4, z4, rfl, ho4, hz4, hb4⟩; have HB4 := Lib.hid (HB2.out.trans (hb4.mono HB2.out.size)); have hf0 := (HZ.out.next HB4.out).c0; have hf1 := (HZ.out.next HB4.out).c1; have hf2 := (HY.out.next HB4.out).c0; have hf3 := (HY.out.next HB4.out).c1; have hg0 := (HR.out.next HB4.out).c0; have hg1 := (HR.out.next HB4.out).c1; have hh0 := (HR.out.next HB4.out).fz 0; have hh1 := (HR.out.next HB4.out).fz 1))
  have HS1 := Lib.hid hR.lt
  have hp := put_int (hR.next HB4.out) (hB.trans (HB4.out.mono hB.size)) (by omega) ho4 (Nat.lt_of_lt_of_le HS1.out HB2.out.size)
  generalize (W4.setCell ⟨w.heap.size + 1 + 1, 0, none⟩ (.bool s4)).setCell ⟨w.heap.size + 1 + 1, 1, none⟩ (.slice A4 m4 c4) = W5 at hp ⊢
  obtain ⟨hZ5, ho5, hB5⟩ := hp
  clear hf0 hf1 hf2 hf3 hg0 hg1 hh0 hh1 hc0 hc1 hd0 hd1 hd2 hd3 hb2 hb4
  go_wp2
  exact bodyPost_ret (by simp [results, Tryz.results248, go_sem, hZ5.c0, hZ5.c1]) rfl ⟨_, _, _, _, _, rfl, ho5.base (Nat.le_trans (Nat.le_of_lt HSZ.out) HB2.out.size), Lib.hid (by rw [hz4.out, hz2.out, Int.sub_eq_add_neg]), hB5⟩
end Go.Proofs.YtipbpdiahemmpaaGreat
