/- zint: Euclid's division. -/
import Derived.Test.YtipbpdiahemmpaaDoorQg
import Derived.Deep.RegionWith
import Derived.Deep.LoopGhost
namespace Go.Proofs.YtipbpdiahemmpaaDoor
open Go.RowKit Go.IntWalk
attribute [local go_sem ↓] Go.wp_at_zero Go.wp_at_succ

theorem euclid_unique {a b q r : Int} (h0 : 0 ≤ r) (h1 : r < b.natAbs) (h : a = b * q + r) : q = a / b ∧ r = a % b := by
  have hb : b ≠ 0 := by omega
  have hr : a % b = r := by
    rw [h, Int.mul_add_emod_self_left]
    rcases Int.lt_or_lt_of_ne hb with hb' | hb'
    · rw [← Int.emod_neg, Int.emod_eq_of_lt h0 (by omega)]
    · rw [Int.emod_eq_of_lt h0 (by omega)]
  have hd := Int.mul_ediv_add_emod a b
  refine ⟨?_, hr.symm⟩
  rw [hr] at hd
  have e : b * (a / b) = b * q := by omega
  exact (Int.eq_of_mul_eq_mul_left hb e).symm
theorem tmod_bound (a b : Int) (hb : b ≠ 0) : (a.tmod b).natAbs < b.natAbs := by
  rw [Int.natAbs_tmod]
  exact Nat.mod_lt _ (by omega)
theorem euclid_up {a b : Int} (hb : b ≠ 0) (h : 0 ≤ a.tmod b) : a.tdiv b = a / b ∧ a.tmod b = a % b :=
  euclid_unique h (by have := tmod_bound a b hb; omega) (Int.mul_tdiv_add_tmod a b).symm
theorem euclid_down {a b : Int} (hb : b ≠ 0) (h : a.tmod b < 0) : a.tdiv b - b.sign = a / b ∧ a.tmod b + b.natAbs = a % b :=
  euclid_unique (by have := tmod_bound a b hb; omega) (by have := tmod_bound a b hb; omega) (by
    have e := Int.mul_tdiv_add_tmod a b
    have e2 := Int.mul_sign_self b
    rw [Int.mul_sub, e2]
    omega)
theorem zl_ediv (a b : Int) : Zz.zl (a / b) ≤ Zz.zl a + 1 := by
  by_cases hb : b = 0
  · subst hb; rw [Int.ediv_zero, Zz.zl_zero]; omega
  · rcases Decidable.em (a.tmod b < 0) with h | h
    · rw [← (euclid_down hb h).1]
      have e := Zz.zl_sub (a.tdiv b) b.sign
      have e1 := Zz.zl_tdiv a b
      have ha : a ≠ 0 := by rintro rfl; simp at h
      have e2 : 1 ≤ Zz.zl a := by
        rcases Nat.eq_zero_or_pos (Zz.zl a) with h0 | h0
        · have := Zz.zl_lt a
          rw [h0] at this
          simp at this
          omega
        · exact h0
      have e3 : Zz.zl b.sign ≤ 1 := Zz.zl_small (by rcases Int.lt_trichotomy b 0 with h1 | h1 | h1 <;> simp_all [Int.sign_eq_neg_one_of_neg, Int.sign_eq_one_of_pos])
      omega
    · rw [← (euclid_up hb (by omega)).1]
      have e1 := Zz.zl_tdiv a b
      omega

set_option maxRecDepth 100000 in
set_option maxHeartbeats 4000000 in
theorem euclid_any {s s' : Bool} {A A' : Option Addr} {n c n' c' : Nat} {z z' : Int} {w : World} (h : RdZ w w.heap.size s A n c z) (h' : RdZ w w.heap.size s' A' n' c' z') (hn : n ≤ 1000000000000) (hn' : n' ≤ 1000000000000) (h0 : z' ≠ 0) :
    Calls Tryd.prog 48 #[.agg #[.bool s, .slice A n c], .agg #[.bool s', .slice A' n' c']] w (RetII (z / z') (z % z') w) := by
  obtain ⟨W1, HW1, hZ, hY, hR, hS, hB⟩ := boxed22 w s A n c s' A' n' c'
  have HW1 := Lib.hid HW1
  have h1 := h.next hB
  have h1' := h'.next hB
  have HLN := Lib.hid h1'.len
  have HLZ := Lib.hid h1.len
  have HSZ := Lib.hid (show w.heap.size < W1.heap.size from hZ.lt)
  go_enter Tryd.func48, Tryd.ntmps48
  go_wp2_with fail
  rw [← HW1.out]
  clear HW1
  have hc0 := hZ.c0
  have hc1 := hZ.c1
  have hd0 := hY.c0
  have hd1 := hY.c1
  refine (trunc_any h1 h1' hn hn' h0).mono ?_
  rintro _ W2 ⟨s2, A2, m2, c2, z2, s3, A3, m3, c3, z3, rfl, ho2, ho3, hz2, hb2⟩
  obtain ⟨W3, HW3⟩ : ∃ W, W = (W2.alloc (.cells #[.bool s2, .slice A2 m2 c2] 25)).alloc (.cells #[.bool s3, .slice A3 m3 c3] 25) := ⟨_, rfl⟩
  have hQ : ZC W3 W2.heap.size s2 A2 m2 c2 := by rw [HW3]; exact (ZC.new W2 s2 A2 m2 c2).alloc _
  have hT : ZC W3 (W2.heap.size + 1) s3 A3 m3 c3 := by rw [HW3]; simpa using ZC.new (W2.alloc (.cells #[.bool s2, .slice A2 m2 c2] 25)) s3 A3 m3 c3
  have hb3 : Below W2.heap.size W2 W3 := by rw [HW3]; exact ((Below.refl W2.heap.size W2).alloc (Nat.le_refl _) _).alloc (by simp) _
  have HW3 := Lib.hid HW3
  clear hc0 hc1 hd0 hd1
  go_wp2_with fail
  rw [← HW3.out]
  clear HW3
  have hs0 := hT.c0
  have hs1 := hT.c1
  have H0 := Lib.hid h0
  have HM3 := Lib.hid (show m3 ≤ 1000000000000 from by rw [ho3.len, hz2.out.2]; exact Nat.le_trans (Zz.zl_tmod_lt _ h0) (Nat.le_trans HLN.out hn'))
  have HM2 := Lib.hid (show m2 ≤ 1000000000000 from by rw [ho2.len, hz2.out.1]; exact Nat.le_trans (Zz.zl_tdiv _ _) (Nat.le_trans HLZ.out hn))
  refine (sign_any (ho3.next hb3).rd (by have := HM3.out; omega)).mono ?_
  rintro _ W4 ⟨k, rfl, hk, hb4⟩
  have HX2 := Lib.hid ho2
  have HY2 := Lib.hid (hY.next hb2)
  have HR2 := Lib.hid (hR.next hb2)
  have HS2 := Lib.hid (hS.next hb2)
  have HB2 := Lib.hid (hB.trans (hb2.mono hB.size))
  obtain ⟨gq, hgq⟩ : ∃ g, g = W2.heap.size := ⟨_, rfl⟩
  have HGQ := Lib.hid hgq
  have HG := Lib.hid (show W1.heap.size ≤ gq by rw [hgq]; exact hb2.size)
  rw [← hgq] at hQ hT ⊢
  have HB24 := Lib.hid (hb3.trans (hb4.mono hb3.size))
  have HO2 := Lib.hid (ho2.next HB24.out)
  have HO3 := Lib.hid (ho3.next HB24.out)
  have hQ4 := hQ.next hb4
  have hT4 := hT.next hb4
  have hY4 := (hY.next hb2).next HB24.out
  have hR4 := (hR.next hb2).next HB24.out
  have hS4 := (hS.next hb2).next HB24.out
  have hB4 := hB.trans ((hb2.trans (HB24.out.mono hb2.size)).mono hB.size)
  have HS1 := Lib.hid (And.intro hR.lt hS.lt)
  have HKB : Hid (decide (k < 0) = decide (z3 < 0)) := Lib.hid (by rw [hk.out, decide_eq_decide]; exact Int.sign_neg_iff)
  have HH := Lib.hid h'
  clear hs0 hs1 hS hQ hR hZ hY hT hb2 hb3 hb4 ho2 ho3 h0 h1 h1' hB h h' hgq hk
  have hq1 : ¬ (w.heap.size + 1 + 1 = gq) := by have := HG.out; have := HS1.out; omega
  have hq2 : ¬ (w.heap.size + 1 + 1 + 1 = gq) := by have := HG.out; have := HS1.out; omega
  have hq3 : ¬ (w.heap.size + 1 = gq) := by have := HG.out; have := HS1.out; omega
  by_cases hk0 : k < 0
  · have HT : Hid (z3 < 0) := Lib.hid (by have e := HKB.out; rw [decide_eq_true hk0] at e; simpa using e.symm)
    have HBD := Lib.hid (Below.refl W4.heap.size W4).drew
    have HAB := Lib.hid (abs_any ((HH.out.next hB4).next HBD.out) (by omega))
    have HTT := Lib.hid hT4
    have HQQ := Lib.hid hQ4
    have HM5 := Lib.hid (show ∀ (W : World) (b : Nat) (s : Bool) (A : Option Addr) (m c : Nat) (x : Int), OwZ W b s A m c x → Hid (x = z'.natAbs) → m ≤ 8796093022207 from fun W b s A m c x ho hx => by rw [ho.len, hx.out, Zz.zl_abs]; have := HLN.out; omega)
    have hd0 := hY4.c0
    have hd1 := hY4.c1
    have he0 := hT4.c0
    have he1 := hT4.c1
    go_wp2_with fail
    go_region_with (first
      | (go_at_call 67; refine HAB.out.mono ?_; rintro _ W5 ⟨s5, A5, m5, c5, z5, rfl, ho5, hz5, hb5⟩; have HB5 := Lib.hid (HBD.out.trans hb5); have ha0 := (HTT.out.next HB5.out).c0; have ha1 := (HTT.out.next HB5.out).c1)
      | (go_at_call 66; refine (add_any (HO3.out.next HB5.out).rd ho5.rd (by have := HM3.out; omega) (HM5.out _ _ _ _ _ _ _ ho5 hz5)).mono ?_; rintro _ W6 ⟨s6, A6, m6, c6, z6, rfl, ho6, hz6, hb6⟩; have HB6 := Lib.hid (HB5.out.trans (hb6.mono HB5.out.size)); have hb0 := (HTT.out.next HB6.out).c0; have hb1 := (HTT.out.next HB6.out).c1; have hb2 := (HTT.out.next HB6.out).fz 0; have hb3 := (HTT.out.next HB6.out).fz 1))
    all_goals
      have HSW := Lib.hid (show W1.heap.size ≤ W5.heap.size ∧ gq + 1 < W5.heap.size by have h1 := HTT.out.lt; have h2 := HB5.out.size; have h3 := HG.out; omega)
      have hp := put_int (HTT.out.next HB6.out) (HB24.out.trans (HB6.out.mono HB24.out.size)) (by have := HGQ.out; omega) ho6 HSW.out.2
      have hQ7 := ((HQQ.out.next HB6.out).far (p := ⟨gq + 1, 0, none⟩) (by simp) (.bool s6)).far (p := ⟨gq + 1, 1, none⟩) (by simp) (.slice A6 m6 c6)
      generalize (W6.setCell ⟨gq + 1, 0, none⟩ (.bool s6)).setCell ⟨gq + 1, 1, none⟩ (.slice A6 m6 c6) = W7 at hp hQ7 ⊢
      obtain ⟨hT7, ho7, hb7⟩ := hp
      have HB7 := Lib.hid (HB2.out.trans (hb7.mono HB2.out.size))
      have hY7 := HY2.out.next hb7
      have HO7 := Lib.hid (HX2.out.next hb7)
      have HQ7 := Lib.hid hQ7
      have HT7 := Lib.hid hT7
      have HP7 := Lib.hid ho7
      have HV7 := Lib.hid hb7
      have HBD7 := Lib.hid (Below.refl W7.heap.size W7).drew
      have HSG := Lib.hid (sign_any ((HH.out.next HB7.out).next HBD7.out) (by omega))
      have HK8 := Lib.hid (show ∀ k : Int, Hid (k = z'.sign) → -9223372036854775808 ≤ k ∧ k < 9223372036854775808 ∧ Zz.zl k ≤ 1 from fun k hk => by
        have e : k = -1 ∨ k = 0 ∨ k = 1 := by
          rw [hk.out]
          rcases Int.lt_trichotomy z' 0 with h1 | h1 | h1
          · exact .inl (Int.sign_eq_neg_one_of_neg h1)
          · exact .inr (.inl (by rw [h1]; rfl))
          · exact .inr (.inr (Int.sign_eq_one_of_pos h1))
        refine ⟨by omega, by omega, Zz.zl_small (by omega)⟩)
      clear ha0 ha1 hb0 hb1 hb2 hb3 hd0 hd1 he0 he1 hb5 hb6 ho5 ho6 hT4 hQ4 hY4 hR4 hS4 hB4
      have hd0 := hY7.c0
      have hd1 := hY7.c1
      have he0 := hQ7.c0
      have he1 := hQ7.c1
      go_wp2_with fail
      go_region_with (first
        | (go_at_call 55; refine HSG.out.mono ?_; rintro _ W8 ⟨k8, rfl, hk8, hb8⟩; have HB8 := Lib.hid (HBD7.out.trans hb8); have ha0 := (HQ7.out.next HB8.out).c0; have ha1 := (HQ7.out.next HB8.out).c1)
        | (go_at_call 49; refine (of_any k8 (HK8.out k8 hk8).1 (HK8.out k8 hk8).2.1 W8).mono ?_; rintro _ W9 ⟨s9, A9, m9, c9, z9, rfl, ho9, hz9, hb9⟩; have HB9 := Lib.hid (HB8.out.trans (hb9.mono HB8.out.size)); have hc0 := (HQ7.out.next HB9.out).c0; have hc1 := (HQ7.out.next HB9.out).c1)
        | (go_at_call 68; refine (sub_any (HO7.out.next HB9.out).rd ho9.rd (by have := HM2.out; omega) (by rw [ho9.len, hz9.out]; have := (HK8.out k8 hk8).2.2; omega)).mono ?_; rintro _ W10 ⟨s10, A10, m10, c10, z10, rfl, ho10, hz10, hb10⟩; have HB10 := Lib.hid (HB9.out.trans (hb10.mono HB9.out.size)); have hb0 := (HQ7.out.next HB10.out).c0; have hb1 := (HQ7.out.next HB10.out).c1; have hb2 := (HQ7.out.next HB10.out).fz 0; have hb3 := (HQ7.out.next HB10.out).fz 1))
      all_goals
        have HSW9 := Lib.hid (show W1.heap.size ≤ W9.heap.size ∧ gq + 1 < W9.heap.size by have h1 := HT7.out.lt; have h2 := HB9.out.size; have h3 := HG.out; omega)
        have hp := put_int (HQ7.out.next HB10.out) (HV7.out.trans (HB10.out.mono HV7.out.size)) (by have := HGQ.out; omega) ho10 (Nat.lt_of_succ_lt HSW9.out.2)
        have hT11 := ((HT7.out.next HB10.out).far (p := ⟨gq, 0, none⟩) (by simp) (.bool s10)).far (p := ⟨gq, 1, none⟩) (by simp) (.slice A10 m10 c10)
        have hP11 := ((HP7.out.next HB10.out).far (p := ⟨gq, 0, none⟩) (Nat.lt_of_succ_lt HSW.out.2) (.bool s10)).far (p := ⟨gq, 1, none⟩) (Nat.lt_of_succ_lt HSW.out.2) (.slice A10 m10 c10)
        generalize (W10.setCell ⟨gq, 0, none⟩ (.bool s10)).setCell ⟨gq, 1, none⟩ (.slice A10 m10 c10) = W11 at hp hT11 hP11 ⊢
        obtain ⟨hQ11, ho11, hb11⟩ := hp
        have hB11 := HB2.out.trans (hb11.mono HB2.out.size)
        have hR11 := HR2.out.next hb11
        have hS11 := HS2.out.next hb11
        clear ha0 ha1 hb0 hb1 hb2 hb3 hc0 hc1 hd0 hd1 he0 he1 hb8 hb9 hb10 ho9 ho10 hT7 hQ7 hY7 ho7 hb7
        go_wp2_with fail
        have HBE := Lib.hid (Below.refl W11.heap.size W11).drew
        have he0 := hQ11.c0
        have he1 := hQ11.c1
        have he2 := hT11.c0
        have he3 := hT11.c1
        have hg0 := hR11.c0
        have hg1 := hR11.c1
        have hh0 := hR11.fz 0
        have hh1 := hR11.fz 1
        have hi0 := hS11.c0
        have hi1 := hS11.c1
        have hj0 := hS11.fz 0
        have hj1 := hS11.fz 1
        go_region_held3 (fun w' => w'.cell? ⟨gq, 0, none⟩ = some (.bool s10) ∧ w'.cell? ⟨gq, 1, none⟩ = some (.slice A10 m10 c10) ∧ w'.cell? ⟨gq + 1, 0, none⟩ = some (.bool s6) ∧ w'.cell? ⟨gq + 1, 1, none⟩ = some (.slice A6 m6 c6)) (go_keep) (fail)
        obtain ⟨V, HV⟩ : ∃ V, V = (((W11.setCell ⟨w.heap.size + 1 + 1, 0, none⟩ (.bool s10)).setCell ⟨w.heap.size + 1 + 1, 1, none⟩ (.slice A10 m10 c10)).setCell ⟨w.heap.size + 1 + 1 + 1, 0, none⟩ (.bool s6)).setCell ⟨w.heap.size + 1 + 1 + 1, 1, none⟩ (.slice A6 m6 c6) := ⟨_, rfl⟩
        obtain ⟨hZ9, hY9, ho9, ho10, hB9⟩ := put_two hR11 hS11 (by omega) hB11 (by omega) (by omega) (ho11.base HSW9.out.1) (hP11.base HSW.out.1) HS1.out HS1.out HV
        rw [← HV]
        clear HV he0 he1 he2 he3 hg0 hg1 hh0 hh1 hi0 hi1 hj0 hj1 hq1 hq2 hq3
        go_wp2
        exact bodyPost_ret (by simp [results, Tryd.results48, go_sem, hZ9.c0, hZ9.c1, hY9.c0, hY9.c1]) rfl ⟨_, _, _, _, _, _, _, _, _, _, rfl, (ho9.next (Below.refl V.heap.size V).drew).base (Nat.le_of_lt HSZ.out), (ho10.next (Below.refl V.heap.size V).drew).base (Nat.le_of_lt HSZ.out), Lib.hid (by have e := euclid_down H0.out (by rw [← hz2.out.2]; exact HT.out); rw [hz10.out, hz9.out, hk8.out, hz6.out, hz5.out, hz2.out.1, hz2.out.2]; exact e), hB9.drew⟩
  · have HT : Hid (0 ≤ z3) := Lib.hid (by have e := HKB.out; rw [decide_eq_false hk0] at e; simp at e; omega)
    have hk1 : 0 ≤ k := by omega
    clear hk0
    go_wp2_with fail
    have HBE := Lib.hid (Below.refl W4.heap.size W4).drew
    have he0 := hQ4.c0
    have he1 := hQ4.c1
    have he2 := hT4.c0
    have he3 := hT4.c1
    have hg0 := hR4.c0
    have hg1 := hR4.c1
    have hh0 := hR4.fz 0
    have hh1 := hR4.fz 1
    have hi0 := hS4.c0
    have hi1 := hS4.c1
    have hj0 := hS4.fz 0
    have hj1 := hS4.fz 1
    go_region_held3 (fun w' => w'.cell? ⟨gq, 0, none⟩ = some (.bool s2) ∧ w'.cell? ⟨gq, 1, none⟩ = some (.slice A2 m2 c2) ∧ w'.cell? ⟨gq + 1, 0, none⟩ = some (.bool s3) ∧ w'.cell? ⟨gq + 1, 1, none⟩ = some (.slice A3 m3 c3)) (go_keep) (fail)
    obtain ⟨V, HV⟩ : ∃ V, V = (((W4.setCell ⟨w.heap.size + 1 + 1, 0, none⟩ (.bool s2)).setCell ⟨w.heap.size + 1 + 1, 1, none⟩ (.slice A2 m2 c2)).setCell ⟨w.heap.size + 1 + 1 + 1, 0, none⟩ (.bool s3)).setCell ⟨w.heap.size + 1 + 1 + 1, 1, none⟩ (.slice A3 m3 c3) := ⟨_, rfl⟩
    obtain ⟨hZ9, hY9, ho9, ho10, hB9⟩ := put_two hR4 hS4 (by omega) hB4 (by omega) (by omega) HO2.out HO3.out HS1.out HS1.out HV
    rw [← HV]
    clear HV he0 he1 he2 he3 hg0 hg1 hh0 hh1 hi0 hi1 hj0 hj1 hq1 hq2 hq3
    go_wp2
    exact bodyPost_ret (by simp [results, Tryd.results48, go_sem, hZ9.c0, hZ9.c1, hY9.c0, hY9.c1]) rfl ⟨_, _, _, _, _, _, _, _, _, _, rfl, (ho9.next (Below.refl V.heap.size V).drew).base (Nat.le_of_lt HSZ.out), (ho10.next (Below.refl V.heap.size V).drew).base (Nat.le_of_lt HSZ.out), Lib.hid (by have e := euclid_up H0.out (by rw [← hz2.out.2]; exact HT.out); rw [hz2.out.1, hz2.out.2]; exact e), hB9.drew⟩
end Go.Proofs.YtipbpdiahemmpaaDoor

/- Lists of integers; zint: the greatest common divisor of a list. -/
namespace Go.Proofs.YtipbpdiahemmpaaDoor
open Go.RowKit Go.IntWalk
attribute [local go_sem ↓] Go.wp_at_zero Go.wp_at_succ

/-- A slice of integers that came in: each one's cells and its size's row lie below block B; none has more than N words. -/
structure RdZs (w : World) (B N : Nat) (A : Option Addr) (n c : Nat) (L : List Int) : Prop where
  len : L.length = n
  le : n ≤ c
  mx : c ≤ maxLen
  at_ : ∀ (j : Nat) (z : Int), L[j]? = some z → ∃ (ad : Addr) (s : Bool) (A' : Option Addr) (n' c' : Nat), A = some ad ∧ ad.block < B ∧ w.cell? (ad.add (j * 2)) = some (.bool s) ∧ w.cell? ⟨(ad.add (j * 2)).block, (ad.add (j * 2)).off + 1, none⟩ = some (.slice A' n' c') ∧ RdZ w B s A' n' c' z ∧ n' ≤ N
section
variable {w w' : World} {B B' N : Nat} {A : Option Addr} {n c : Nat} {L : List Int}
theorem RdZs.below (h : RdZs w B N A n c L) (hb : Below B w w') : RdZs w' B N A n c L :=
  ⟨h.len, h.le, h.mx, fun j z hz => by
    obtain ⟨ad, s, A', n', c', h1, h2, h3, h4, h5, h6⟩ := h.at_ j z hz
    exact ⟨ad, s, A', n', c', h1, h2, (hb.cell (p := ad.add (j * 2)) (by rw [add_blk]; exact h2)).trans h3, (hb.cell (p := ⟨(ad.add (j * 2)).block, (ad.add (j * 2)).off + 1, none⟩) (by show (ad.add (j * 2)).block < B; rw [add_blk]; exact h2)).trans h4, h5.below hb, h6⟩⟩
theorem RdZs.more (h : RdZs w B N A n c L) (hB : B ≤ B') : RdZs w B' N A n c L :=
  ⟨h.len, h.le, h.mx, fun j z hz => by
    obtain ⟨ad, s, A', n', c', h1, h2, h3, h4, h5, h6⟩ := h.at_ j z hz
    exact ⟨ad, s, A', n', c', h1, by omega, h3, h4, h5.more hB, h6⟩⟩
theorem RdZs.next (h : RdZs w w.heap.size N A n c L) (hb : Below w.heap.size w w') : RdZs w' w'.heap.size N A n c L := (h.below hb).more hb.size
end

theorem foldl_take {f : Int → Int → Int} {a : Int} {L : List Int} {j : Nat} {x : Int} (h : L[j]? = some x) : (L.take (j + 1)).foldl f a = f ((L.take j).foldl f a) x := by
  rw [List.take_add_one, h, List.foldl_append]
  rfl
theorem zs_get {L : List Int} {j : Nat} (h : j < L.length) : ∃ x, L[j]? = some x := ⟨L[j], List.getElem?_eq_getElem h⟩

set_option maxRecDepth 100000 in
set_option maxHeartbeats 2000000 in
theorem folded_gcd {N : Nat} {A : Option Addr} {n c : Nat} {L : List Int} {w : World} (h : RdZs w w.heap.size N A n c L) (hN : N ≤ 1000000000000) :
    Calls Tryd.prog 52 #[.agg #[.bool false, .slice none 0 0], .slice A n c, .func (.func 53) #[] #[]] w (RetI (L.foldl (fun (g x : Int) => (Int.gcd g x : Int)) 0) w) := by
  have hEN := enters_of Tryd.func53 (by kernel_rfl) rfl
  have HLEN := Lib.hid h.len
  have hn48 : n ≤ 9223372036854775807 := by
    have h1 := h.mx
    have h2 := h.le
    unfold maxLen at h1
    omega
  obtain ⟨hZ, hR, hB⟩ := boxed1 w false none 0 0
  go_enter Tryd.func52, Tryd.ntmps52
  go_wp2_with fail
  generalize (w.alloc (.cells #[.bool false, .slice none 0 0] 25)).alloc (.cells #[.bool false, .slice none 0 0] 25) = W1 at *
  have HS1 := Lib.hid hR.lt
  go_loopw [11] (fun iv wr => ∃ (j : Nat) (s : Bool) (A' : Option Addr) (n' c' : Nat) (y : Int), iv = .int .i64 j ∧ j ≤ n ∧ ZC wr w.heap.size s A' n' c' ∧ ZC wr (w.heap.size + 1) false none 0 0 ∧ Hid (W1.heap.size ≤ wr.heap.size) ∧ OwZ wr W1.heap.size s A' n' c' y ∧ n' ≤ N ∧ Hid (y = (L.take j).foldl (fun (g x : Int) => (Int.gcd g x : Int)) 0) ∧ Below w.heap.size w wr) (fun iv _ => n - (intOf iv).toNat)
  case atStart => exact ⟨0, false, none, 0, 0, 0, rfl, Nat.zero_le _, hZ, hR, Lib.hid (Nat.le_refl _), OwZ.zero _ _, Nat.zero_le _, Lib.hid rfl, hB⟩
  case round =>
    clear hZ hR hB
    obtain ⟨j, s, A', n', c', y, rfl, hj, hZ, hR, HB1, ho, hn', hy, hB⟩ := hrel
    by_cases hjn : j = n
    · subst hjn
      have hc0 := hZ.c0
      have hc1 := hZ.c1
      have hr0 := hR.c0
      have hr1 := hR.c1
      have hf0 := hR.fz 0
      have hf1 := hR.fz 1
      go_wp2
      have hp := put_int hR hB (Nat.le_succ _) ho HS1.out
      generalize (wr.setCell ⟨w.heap.size + 1, 0, none⟩ (.bool s)).setCell ⟨w.heap.size + 1, 1, none⟩ (.slice A' n' c') = W5 at hp ⊢
      obtain ⟨hZ5, ho5, hB5⟩ := hp
      exact bodyPost_ret (by simp [results, Tryd.results52, go_sem, hZ5.c0, hZ5.c1]) rfl ⟨_, _, _, _, _, rfl, ho5.base (by have := HS1.out; omega), Lib.hid (by rw [hy.out, List.take_of_length_le (by rw [HLEN.out]; exact Nat.le_refl _)]), hB5⟩
    · have hjl : j < n := by omega
      clear hjn
      obtain ⟨x, hx⟩ := zs_get (L := L) (j := j) (by rw [HLEN.out]; exact hjl)
      obtain ⟨ad, s2, A2, n2, c2, rfl, hbk, hx0, hx1, hr, hn2⟩ := h.at_ j x hx
      have hx0' := (hB.cell (p := ad.add (j * 2)) (by rw [add_blk]; exact hbk)).trans hx0
      have hx1' := (hB.cell (p := ⟨(ad.add (j * 2)).block, (ad.add (j * 2)).off + 1, none⟩) (by show (ad.add (j * 2)).block < _; rw [add_blk]; exact hbk)).trans hx1
      have hjl' : (j : Int) < (n : Int) := by omega
      obtain ⟨W2, HW2⟩ : ∃ W, W = wr.alloc (.cells #[.bool s2, .slice A2 n2 c2] 25) := ⟨_, rfl⟩
      have hX : ZC W2 wr.heap.size s2 A2 n2 c2 := by rw [HW2]; exact ZC.new wr s2 A2 n2 c2
      have hb2 : Below wr.heap.size wr W2 := by rw [HW2]; exact (Below.refl wr.heap.size wr).alloc (Nat.le_refl _) _
      have hZ2 := hZ.next hb2
      have hc0 := hZ2.c0
      have hc1 := hZ2.c1
      have hd0 := hX.c0
      have hd1 := hX.c1
      rw [HW2] at hc0 hc1 hd0 hd1
      have HW2 := Lib.hid HW2
      go_wp2_with fail
      clear hc0 hc1 hd0 hd1
      rw [← HW2.out]
      clear HW2
      have hR2 := hR.next hb2
      have hB2 := hB.trans (hb2.mono hB.size)
      have hr2 := (hr.next hB2)
      have ho2 := ho.next hb2
      refine (igcd_any ho2.rd hr2 (by omega) (by omega)).mono ?_
      rintro _ W3 ⟨s3, A3, m3, c3, z3, rfl, ho3, hz3, hb3⟩
      have hZ3 := hZ2.next hb3
      have hR3 := hR2.next hb3
      have hB3 := hB2.trans (hb3.mono hB2.size)
      have hc0 := hZ3.c0
      have hc1 := hZ3.c1
      have hf0 := hZ3.fz 0
      have hf1 := hZ3.fz 1
      have HS2 := Lib.hid (show w.heap.size < W2.heap.size from hZ2.lt)
      have HZL := Lib.hid (show m3 ≤ N by
        rw [ho3.len, hz3.out]
        have e1 := Zz.zl_gcd y x
        have e2 := hr.len
        have e3 := ho.len
        omega)
      have HFO := Lib.hid (show z3 = (L.take (j + 1)).foldl (fun (g x : Int) => (Int.gcd g x : Int)) 0 by rw [foldl_take hx, hz3.out, hy.out])
      have HB12 := Lib.hid (show W1.heap.size ≤ W2.heap.size from Nat.le_trans HB1.out hb2.size)
      have HB23 := Lib.hid hb3.size
      clear hx hx0 hx1 hx0' hx1' hr hr2 hZ hZ2 hX hR hR2 hb2 hb3 ho ho2 hy hz3
      go_wp2
      have hp := put_int hZ3 hB3 (Nat.le_refl _) ho3 HS2.out
      have HS5 := Lib.hid (show W2.heap.size ≤ ((W3.setCell ⟨w.heap.size, 0, none⟩ (.bool s3)).setCell ⟨w.heap.size, 1, none⟩ (.slice A3 m3 c3)).heap.size by simpa using HB23.out)
      have hR5 := (hR3.far (p := ⟨w.heap.size, 0, none⟩) (by simp) (.bool s3)).far (p := ⟨w.heap.size, 1, none⟩) (by simp) (.slice A3 m3 c3)
      generalize (W3.setCell ⟨w.heap.size, 0, none⟩ (.bool s3)).setCell ⟨w.heap.size, 1, none⟩ (.slice A3 m3 c3) = W5 at hp hR5 HS5 ⊢
      obtain ⟨hZ5, ho5, hB5⟩ := hp
      have HB15 : W1.heap.size ≤ W5.heap.size := Nat.le_trans HB12.out HS5.out
      go_roundw
      case rel => exact ⟨j + 1, s3, A3, m3, c3, z3, by go_num, by omega, hZ5, hR5, Lib.hid HB15, ho5.base HB12.out, HZL.out, HFO.out, hB5⟩
      case measure => simp [intOf]; omega

set_option maxHeartbeats 1000000 in
theorem gcdl_any {N : Nat} {A : Option Addr} {n c : Nat} {L : List Int} {w : World} (h : RdZs w w.heap.size N A n c L) (hN : N ≤ 1000000000000) :
    Calls Tryd.prog 23 #[.slice A n c] w (RetI (L.foldl (fun (g x : Int) => (Int.gcd g x : Int)) 0) w) := by
  obtain ⟨W1, HW1⟩ : ∃ W, W = w.alloc (.cells #[.bool false, .slice none 0 0] 25) := ⟨_, rfl⟩
  have hR : ZC W1 w.heap.size false none 0 0 := by rw [HW1]; exact ZC.new w false none 0 0
  have hB : Below w.heap.size w W1 := by rw [HW1]; exact (Below.refl w.heap.size w).alloc (Nat.le_refl _) _
  have HW1 := Lib.hid HW1
  have h1 := h.next hB
  go_enter Tryd.func23, Tryd.ntmps23
  go_wp2_with fail
  rw [← HW1.out]
  clear HW1
  refine (folded_gcd h1 hN).mono ?_
  rintro _ W3 ⟨s3, A3, m3, c3, z3, rfl, ho3, hz3, hb3⟩
  have hR3 := hR.next hb3
  have hB3 := hB.trans (hb3.mono hB.size)
  have HS1 := Lib.hid hR.lt
  have hc0 := hR3.c0
  have hc1 := hR3.c1
  have hf0 := hR3.fz 0
  have hf1 := hR3.fz 1
  clear hb3 hR h1 h
  go_wp2
  have hp := put_int hR3 hB3 (Nat.le_refl _) ho3 HS1.out
  generalize (W3.setCell ⟨w.heap.size, 0, none⟩ (.bool s3)).setCell ⟨w.heap.size, 1, none⟩ (.slice A3 m3 c3) = W5 at hp ⊢
  obtain ⟨hZ5, ho5, hB5⟩ := hp
  exact bodyPost_ret (by simp [results, Tryd.results23, go_sem, hZ5.c0, hZ5.c1]) rfl ⟨_, _, _, _, _, rfl, ho5.base (Nat.le_of_lt HS1.out), hz3, hB5⟩
end Go.Proofs.YtipbpdiahemmpaaDoor
