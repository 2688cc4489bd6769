/- rat.Quo, by what is not nought. -/
import Derived.Test.YtipbpdiahemmpaaGreatQ24
namespace Go.Proofs.YtipbpdiahemmpaaGreat
open Go.RowKit Go.IntWalk
attribute [local go_sem ↓] Go.wp_at_zero Go.wp_at_succ

theorem divInt_ne {z d : Int} (h : z ≠ 0) (hd : d ≠ 0) : Rat.divInt z d ≠ 0 := fun e => by
  have e1 := Rat.num_eq_zero.2 e
  rw [← Qz.make_num hd] at e1
  have e2 := Int.mul_tdiv_cancel' (Qz.gs_left z d)
  rw [e1, Int.mul_zero] at e2
  exact h e2.symm

set_option maxRecDepth 100000 in
set_option maxHeartbeats 4000000 in
theorem qquo_any {N : Nat} {s1 s2 s3 s4 : Bool} {A1 A2 A3 A4 : Option Addr} {n1 c1 n2 c2 n3 c3 n4 c4 : Nat} {z1 d1 z2 d2 : Int} {w : World} (h1 : RdZ w w.heap.size s1 A1 n1 c1 z1) (h2 : RdZ w w.heap.size s2 A2 n2 c2 d1) (h3 : RdZ w w.heap.size s3 A3 n3 c3 z2) (h4 : RdZ w w.heap.size s4 A4 n4 c4 d2) (hn : n1 ≤ N ∧ n2 ≤ N ∧ n3 ≤ N ∧ n4 ≤ N) (hN : N ≤ 200000000000) (h0 : z2 ≠ 0) :
    Calls Tryz.prog 204 #[.agg #[.bool s1, .slice A1 n1 c1, .bool s2, .slice A2 n2 c2], .agg #[.bool s3, .slice A3 n3 c3, .bool s4, .slice A4 n4 c4]] w (RetQE (d1 ≠ 0 ∧ d2 ≠ 0) (Rat.divInt z1 d1 / Rat.divInt z2 d2) w) := by
  have heg := enters_of Tryz.func250 (by kernel_rfl) rfl
  obtain ⟨W1, HW1⟩ : ∃ W, W = ((w.alloc (.cells #[.bool s1, .slice A1 n1 c1, .bool s2, .slice A2 n2 c2] 56)).alloc (.cells #[.bool s3, .slice A3 n3 c3, .bool s4, .slice A4 n4 c4] 56)).alloc (.cells #[.bool false, .slice none 0 0, .bool false, .slice none 0 0] 56) := ⟨_, rfl⟩
  obtain ⟨hX, hY, hR, hB⟩ := q_boxes2 w s1 s2 s3 s4 A1 A2 A3 A4 n1 c1 n2 c2 n3 c3 n4 c4 W1 HW1
  obtain ⟨W2, HW2⟩ : ∃ W, W = W1.alloc (.cells #[.bool s1, .slice A1 n1 c1, .bool s2, .slice A2 n2 c2, .bool s3, .slice A3 n3 c3, .bool s4, .slice A4 n4 c4] 56) := ⟨_, rfl⟩
  have hq := qs_two (h1.next hB) (h2.next hB) (h3.next hB) (h4.next hB) hn HW2
  have hb2 : Below W1.heap.size W1 W2 := by rw [HW2]; exact (Below.refl _ _).alloc (Nat.le_refl _) _
  have a0 := hX.c0
  have a1 := hX.c1
  have a2 := hX.c2
  have a3 := hX.c3
  have b0 := hY.c0
  have b1 := hY.c1
  have b2 := hY.c2
  have b3 := hY.c3
  have hs1 : W1.heap.size = w.heap.size + 1 + 1 + 1 := by rw [HW1]; simp
  rw [hs1] at hq
  rw [HW1] at a0 a1 a2 a3 b0 b1 b2 b3 HW2
  have HQ := Lib.hid hq
  have HR2 := Lib.hid (hR.next hb2)
  have HB2 := Lib.hid (hB.trans (hb2.mono hB.size))
  have HSW := Lib.hid (show w.heap.size ≤ W2.heap.size from Nat.le_trans hB.size hb2.size)
  have HLZ := Lib.hid (show Zz.zl z1 ≤ N ∧ Zz.zl d1 ≤ N ∧ Zz.zl z2 ≤ N ∧ Zz.zl d2 ≤ N from ⟨Nat.le_trans h1.len hn.1, Nat.le_trans h2.len hn.2.1, Nat.le_trans h3.len hn.2.2.1, Nat.le_trans h4.len hn.2.2.2⟩)
  have HW2 := Lib.hid HW2
  clear hX hY hR hB hq hb2 hs1 HW1 h1 h2 h3 h4
  go_enter Tryz.func204, Tryz.ntmps204
  go_wp2_with fail
  rw [← HW2.out]
  clear HW2 a0 a1 a2 a3 b0 b1 b2 b3
  clear HW2
  refine (made_any (N := N) (z := (Rat.divInt z1 d1 / Rat.divInt z2 d2).num) (d := (Rat.divInt z1 d1 / Rat.divInt z2 d2).den) (k := 0) HQ.out (by decide) (by omega) heg (fun hne W A' c' b hb _ ho => by
    have e1 : d1 ≠ 0 := hne (z1, d1) (by simp)
    have e2 : d2 ≠ 0 := hne (z2, d2) (by simp)
    exact qquoIn_any (N := N) ho ⟨Nat.le_trans (zl_qnum e1) HLZ.out.1, Nat.le_trans (zl_qden e1) HLZ.out.2.1⟩ ⟨Nat.le_trans (zl_qnum e2) HLZ.out.2.2.1, Nat.le_trans (zl_qden e2) HLZ.out.2.2.2⟩ (by omega) (divInt_ne h0 e2))).mono ?_
  intro e3 W3 hpost
  obtain ⟨s5, A5, n5, c5, y5, s6, A6, n6, c6, y6, kk, rfl, ho5, ho6, hy, hb3⟩ : RetQE (d1 ≠ 0 ∧ d2 ≠ 0) (Rat.divInt z1 d1 / Rat.divInt z2 d2) W2 e3 W3 := by
    rcases hpost with ⟨hall, s5, A5, n5, c5, y5, s6, A6, n6, c6, y6, kk, k1, k2, k3, k4, k5⟩ | ⟨⟨p, hp, hp0⟩, k1, k2⟩
    · exact ⟨s5, A5, n5, c5, y5, s6, A6, n6, c6, y6, kk, k1, k2, k3, Lib.hid (.inl ⟨⟨hall (z1, d1) (by simp), hall (z2, d2) (by simp)⟩, k4.out⟩), k5⟩
    · refine ⟨false, none, 0, 0, 0, false, none, 0, 0, 0, 6, k1, OwZ.zero _ _, OwZ.zero _ _, Lib.hid (.inr ⟨?_, rfl, rfl, rfl⟩), k2⟩
      rintro ⟨e1, e2⟩
      simp at hp
      rcases hp with rfl | rfl
      · exact e1 hp0
      · exact e2 hp0
  have hR5 := HR2.out.next hb3
  have r0 := hR5.c0
  have r1 := hR5.c1
  have r2 := hR5.c2
  have r3 := hR5.c3
  have f0 := hR5.fz 0
  have f1 := hR5.fz 1
  have f2 := hR5.fz 2
  have f3 := hR5.fz 3
  have HR9 := Lib.hid (hR5.store s5 A5 n5 c5 s6 A6 n6 c6)
  have HO9 := Lib.hid (And.intro ((ho5.base (b' := w.heap.size) HSW.out).keep (keep_putQ hR5 s5 A5 n5 c5 s6 A6 n6 c6)) ((ho6.base (b' := w.heap.size) HSW.out).keep (keep_putQ hR5 s5 A5 n5 c5 s6 A6 n6 c6)))
  have HB9 := Lib.hid (below_putQ (HB2.out.trans (hb3.mono HB2.out.size)) (show w.heap.size ≤ w.heap.size + 1 + 1 by omega) s5 A5 n5 c5 s6 A6 n6 c6)
  unfold putQ at HR9 HB9 HO9
  clear ho5 ho6 hb3 hR5 hpost
  go_wp2_with fail
  generalize (((W3.setCell ⟨w.heap.size + 1 + 1, 0, none⟩ (.bool s5)).setCell ⟨w.heap.size + 1 + 1, 1, none⟩ (.slice A5 n5 c5)).setCell ⟨w.heap.size + 1 + 1, 2, none⟩ (.bool s6)).setCell ⟨w.heap.size + 1 + 1, 3, none⟩ (.slice A6 n6 c6) = W9 at *
  have z0 := HR9.out.c0
  have z1 := HR9.out.c1
  have z2 := HR9.out.c2
  have z3 := HR9.out.c3
  exact bodyPost_ret (by simp [results, Tryz.results204, go_sem, z0, z1, z2, z3]) rfl ⟨_, _, _, _, _, _, _, _, _, _, _, rfl, HO9.out.1, HO9.out.2, hy, HB9.out⟩
end Go.Proofs.YtipbpdiahemmpaaGreat

/- rat.Inv. -/
namespace Go.Proofs.YtipbpdiahemmpaaGreat
open Go.RowKit Go.IntWalk
attribute [local go_sem ↓] Go.wp_at_zero Go.wp_at_succ

theorem inv_val (z d : Int) : Rat.divInt 1 1 / Rat.divInt z d = (Rat.divInt z d)⁻¹ := by
  rw [Rat.div_def, show Rat.divInt 1 1 = 1 from rfl, Rat.one_mul]

set_option maxRecDepth 100000 in
set_option maxHeartbeats 2000000 in
theorem qinv_any {N : Nat} {s s' : Bool} {A A' : Option Addr} {n c n' c' : Nat} {z d : Int} {w : World} (h : RdZ w w.heap.size s A n c z) (h' : RdZ w w.heap.size s' A' n' c' d) (hn : n ≤ N ∧ n' ≤ N) (hN : N ≤ 200000000000) (h1N : 1 ≤ N) (hz : z ≠ 0) :
    Calls Tryz.prog 179 #[.agg #[.bool s, .slice A n c, .bool s', .slice A' n' c']] w (RetQE (d ≠ 0) (Rat.divInt z d)⁻¹ w) := by
  obtain ⟨W1, HW1⟩ : ∃ W, W = (w.alloc (.cells #[.bool s, .slice A n c, .bool s', .slice A' n' c'] 56)).alloc (.cells #[.bool false, .slice none 0 0, .bool false, .slice none 0 0] 56) := ⟨_, rfl⟩
  obtain ⟨hX, hR, hB⟩ := q_box1 w s A n c s' A' n' c' W1 HW1
  have HCE := Lib.hid (show ∀ W : World, Below W1.heap.size W1 W → (W.cell? ⟨w.heap.size, 0, none⟩ = some (.bool s) ∧ W.cell? ⟨w.heap.size, 1, none⟩ = some (.slice A n c) ∧ W.cell? ⟨w.heap.size, 2, none⟩ = some (.bool s') ∧ W.cell? ⟨w.heap.size, 3, none⟩ = some (.slice A' n' c')) from fun W hb => ⟨(hX.next hb).c0, (hX.next hb).c1, (hX.next hb).c2, (hX.next hb).c3⟩)
  have HRD := Lib.hid (show ∀ W : World, Below W1.heap.size W1 W → RdZ W W.heap.size s A n c z ∧ RdZ W W.heap.size s' A' n' c' d from fun W hb => ⟨(h.next hB).next hb, (h'.next hB).next hb⟩)
  have HRR := Lib.hid (show ∀ W : World, Below W1.heap.size W1 W → QC W (w.heap.size + 1) false none 0 0 false none 0 0 from fun W hb => hR.next hb)
  have HCP := Lib.hid (show ∀ (W : World) (t : Bool) (D : Option Addr) (k m : Nat) (t' : Bool) (D' : Option Addr) (k' m' : Nat), Below W1.heap.size W1 W → ((putQ W (w.heap.size + 1) t D k m t' D' k' m').cell? ⟨w.heap.size, 0, none⟩ = some (.bool s) ∧ (putQ W (w.heap.size + 1) t D k m t' D' k' m').cell? ⟨w.heap.size, 1, none⟩ = some (.slice A n c) ∧ (putQ W (w.heap.size + 1) t D k m t' D' k' m').cell? ⟨w.heap.size, 2, none⟩ = some (.bool s') ∧ (putQ W (w.heap.size + 1) t D k m t' D' k' m').cell? ⟨w.heap.size, 3, none⟩ = some (.slice A' n' c')) from fun W t D k m t' D' k' m' hb => by
    have hP := below_putQ (Below.refl (w.heap.size + 1) W) (Nat.le_refl (w.heap.size + 1)) t D k m t' D' k' m'
    obtain ⟨e0, e1, e2, e3⟩ := HCE.out W hb
    have hg : w.heap.size < w.heap.size + 1 := Nat.lt_succ_self _
    exact ⟨(hP.cell (p := ⟨w.heap.size, 0, none⟩) hg).trans e0, (hP.cell (p := ⟨w.heap.size, 1, none⟩) hg).trans e1, (hP.cell (p := ⟨w.heap.size, 2, none⟩) hg).trans e2, (hP.cell (p := ⟨w.heap.size, 3, none⟩) hg).trans e3⟩)
  unfold putQ at HCP
  have HD := Lib.hid (Below.refl W1.heap.size W1).drew
  have HB := Lib.hid hB
  have HZ := Lib.hid hz
  have HW1 := Lib.hid HW1
  clear hX hR hB h h' hz
  obtain ⟨a0, a1, a2, a3⟩ := HCE.out W1 (Below.refl _ _)
  go_enter Tryz.func179, Tryz.ntmps179
  go_upto_region 1 with fail
  rw [← HW1.out]
  clear HW1
  clear HW1
  go_region_held3 (fun w' => w'.cell? ⟨w.heap.size, 0, none⟩ = some (.bool s) ∧ w'.cell? ⟨w.heap.size, 1, none⟩ = some (.slice A n c) ∧ w'.cell? ⟨w.heap.size, 2, none⟩ = some (.bool s') ∧ w'.cell? ⟨w.heap.size, 3, none⟩ = some (.slice A' n' c'))
    (first | exact HCE.out _ HB3.out | exact HCE.out _ HB2.out | exact HCE.out _ HD.out | exact HCP.out _ _ _ _ _ _ _ _ _ HB3.out)
    (first
      | (go_at_call 204; refine (qquo_any (N := N) HO2.out.num.rd HO2.out.den.rd (HRD.out _ HB2.out).1 (HRD.out _ HB2.out).2 ⟨HN2.out.1, HN2.out.2, hn.1, hn.2⟩ hN HZ.out).mono ?_; rintro _ W3 ⟨s5, A5, n5, c5, y5, s6, A6, n6, c6, y6, kk, rfl, ho5, ho6, hy, hb3⟩; have HB3 := Lib.hid (HB2.out.trans (hb3.mono HB2.out.size)); have hR4 := HRR.out _ HB3.out; have r0 := hR4.c0; have r1 := hR4.c1; have r2 := hR4.c2; have r3 := hR4.c3; have f0 := hR4.fz 0; have f1 := hR4.fz 1; have f2 := hR4.fz 2; have f3 := hR4.fz 3)
      | (go_at_call 141; refine (qof_any 1 (by decide) (by decide) _).mono ?_; rintro _ W2 ⟨s2, A2, n2, c2, s3, A3, n3, c3, y2, rfl, ho2, hy2, hb2⟩; obtain rfl := hy2.out; have HB2 := Lib.hid (HD.out.trans hb2); have HO2 := Lib.hid ho2; have HN2 := Lib.hid (show n2 ≤ N ∧ n3 ≤ N from ⟨Nat.le_trans (Nat.le_of_eq ho2.num.len) (Nat.le_trans (Zz.zl_small (by decide)) h1N), Nat.le_trans (Nat.le_of_eq ho2.den.len) (Nat.le_trans (Zz.zl_small (by decide)) h1N)⟩)))
  have hR4' := HRR.out _ HB3.out
  have HR9 := Lib.hid (hR4'.store s5 A5 n5 c5 s6 A6 n6 c6)
  have HO9 := Lib.hid (And.intro ((ho5.base (b' := w.heap.size) (Nat.le_trans HB.out.size HB2.out.size)).keep (keep_putQ hR4' s5 A5 n5 c5 s6 A6 n6 c6)) ((ho6.base (b' := w.heap.size) (Nat.le_trans HB.out.size HB2.out.size)).keep (keep_putQ hR4' s5 A5 n5 c5 s6 A6 n6 c6)))
  have HB9 := Lib.hid (below_putQ (HB.out.trans (HB3.out.mono HB.out.size)) (Nat.le_succ w.heap.size) s5 A5 n5 c5 s6 A6 n6 c6)
  have HV := Lib.hid (show (d ≠ 0 ∧ y5 = ((Rat.divInt z d)⁻¹).num ∧ y6 = ((Rat.divInt z d)⁻¹).den ∧ kk = 0) ∨ (¬ d ≠ 0 ∧ y5 = 0 ∧ y6 = 0 ∧ kk = 6) by
    rcases hy.out with ⟨⟨_, e1⟩, e2, e3, e4⟩ | ⟨e1, e2⟩
    · refine .inl ⟨e1, ?_, ?_, e4⟩
      · rw [← inv_val]; exact e2
      · rw [← inv_val]; exact e3
    · exact .inr ⟨fun h => e1 ⟨by decide, h⟩, e2⟩)
  unfold putQ at HR9 HO9 HB9
  clear a0 a1 a2 a3 r0 r1 r2 r3 f0 f1 f2 f3 hR4 hR4' ho2 ho5 ho6 hb2 hb3 hy
  generalize (((W3.setCell ⟨w.heap.size + 1, 0, none⟩ (.bool s5)).setCell ⟨w.heap.size + 1, 1, none⟩ (.slice A5 n5 c5)).setCell ⟨w.heap.size + 1, 2, none⟩ (.bool s6)).setCell ⟨w.heap.size + 1, 3, none⟩ (.slice A6 n6 c6) = W9 at *
  have z0 := HR9.out.c0
  have z1 := HR9.out.c1
  have z2 := HR9.out.c2
  have z3 := HR9.out.c3
  go_wp2
  exact bodyPost_ret (by simp [results, Tryz.results179, go_sem, z0, z1, z2, z3]) rfl ⟨_, _, _, _, _, _, _, _, _, _, _, rfl, HO9.out.1, HO9.out.2, HV, HB9.out⟩
end Go.Proofs.YtipbpdiahemmpaaGreat

/- Lists of fractions as polynomials: coefficients, the normal list. Nothing of the program. -/
namespace Pq
def co (L : List Rat) (i : Nat) : Rat := L.getD i 0
/-- No nought at the top. -/
def Nz (L : List Rat) : Prop := ∀ h : L ≠ [], L.getLast h ≠ 0
theorem co_ge {L : List Rat} {i : Nat} (h : L.length ≤ i) : co L i = 0 := by simp [co, h]
theorem co_nil (i : Nat) : co [] i = 0 := by simp [co]
theorem co_get {L : List Rat} {i : Nat} {z : Rat} (h : L[i]? = some z) : co L i = z := by simp [co, List.getD_eq_getElem?_getD, h]
theorem get_co {L : List Rat} {i : Nat} (h : i < L.length) : L[i]? = some (co L i) := by simp [co, h]
theorem mem_co {L : List Rat} {z : Rat} (h : z ∈ L) : ∃ i, i < L.length ∧ co L i = z := by
  obtain ⟨i, hi⟩ := List.getElem?_of_mem h
  refine ⟨i, ?_, co_get hi⟩
  rcases Nat.lt_or_ge i L.length with h1 | h1
  · exact h1
  · rw [List.getElem?_eq_none h1] at hi; cases hi
theorem co_take {L : List Rat} {k i : Nat} (h : i < k) : co (L.take k) i = co L i := by
  simp only [co, List.getD_eq_getElem?_getD, List.getElem?_take_of_lt h]
theorem co_take_all {L : List Rat} {k : Nat} (h : ∀ i, k ≤ i → co L i = 0) (i : Nat) : co (L.take k) i = co L i := by
  rcases Nat.lt_or_ge i k with h1 | h1
  · exact co_take h1
  · rw [h i h1]; exact co_ge (by rw [List.length_take]; omega)
theorem nz_nil : Nz [] := fun h => absurd rfl h
theorem nz_take {L : List Rat} {k : Nat} (hk : k ≤ L.length) (h : k = 0 ∨ co L (k - 1) ≠ 0) : Nz (L.take k) := by
  intro hne
  have hk0 : k ≠ 0 := by rintro rfl; simp at hne
  have hl := h.resolve_left hk0
  rw [List.getLast_eq_getElem]
  simp only [List.length_take, Nat.min_eq_left hk, List.getElem_take]
  have e := get_co (L := L) (i := k - 1) (by omega)
  rw [List.getElem?_eq_getElem (by omega)] at e
  injection e with e
  rw [e]
  exact hl
theorem nz_top {L : List Rat} (h : Nz L) (h0 : 0 < L.length) : co L (L.length - 1) ≠ 0 := by
  have hne : L ≠ [] := by rintro rfl; simp at h0
  have e := h hne
  rw [List.getLast_eq_getElem] at e
  have e2 := get_co (L := L) (i := L.length - 1) (by omega)
  rw [List.getElem?_eq_getElem (by omega)] at e2
  injection e2 with e2
  rw [← e2]
  exact e
theorem nz_len {L : List Rat} (h : Nz L) {k : Nat} (hk : ∀ i, k ≤ i → co L i = 0) : L.length ≤ k := by
  apply Classical.byContradiction
  intro hc
  exact nz_top h (by omega) (hk _ (by omega))
theorem nz_ext {L M : List Rat} (h : Nz L) (h' : Nz M) (e : ∀ i, co L i = co M i) : L = M := by
  have h1 : L.length ≤ M.length := nz_len h fun i hi => by rw [e]; exact co_ge hi
  have h2 : M.length ≤ L.length := nz_len h' fun i hi => by rw [← e]; exact co_ge hi
  apply List.ext_getElem?
  intro i
  rcases Nat.lt_or_ge i L.length with hi | hi
  · rw [get_co hi, get_co (by omega), e]
  · rw [List.getElem?_eq_none hi, List.getElem?_eq_none (by omega)]
theorem nz_nil_iff {L : List Rat} (h : Nz L) : L = [] ↔ ∀ i, co L i = 0 := by
  constructor
  · rintro rfl i; exact co_nil i
  · intro e
    exact nz_ext h nz_nil fun i => by rw [e, co_nil]
/-- The normal list of coefficients. -/
def IsP (f : Nat → Rat) (M : List Rat) : Prop := Nz M ∧ ∀ i, co M i = f i
theorem IsP.unique {f : Nat → Rat} {L M : List Rat} (h : IsP f L) (h' : IsP f M) : L = M := nz_ext h.1 h'.1 fun i => by rw [h.2, h'.2]
theorem IsP.congr {f g : Nat → Rat} {L : List Rat} (h : IsP f L) (e : ∀ i, f i = g i) : IsP g L := ⟨h.1, fun i => by rw [h.2, e]⟩
theorem IsP.len {f : Nat → Rat} {L : List Rat} (h : IsP f L) {k : Nat} (hk : ∀ i, k ≤ i → f i = 0) : L.length ≤ k := nz_len h.1 fun i hi => by rw [h.2]; exact hk i hi
theorem co_map {φ : Rat → Rat} (h0 : φ 0 = 0) (L : List Rat) (i : Nat) : co (L.map φ) i = φ (co L i) := by
  simp only [co, List.getD_eq_getElem?_getD, List.getElem?_map]
  cases L[i]? <;> simp [h0]
end Pq

/- Polynomials over the fractions in memory of the call's own: the first n of what a block holds. -/
namespace Go.Proofs.YtipbpdiahemmpaaGreat
open Go.RowKit Go.IntWalk

/-- Numerator and denominator. -/
def pr (x : Rat) : Int × Int := (x.num, (x.den : Int))
theorem qval_pr (x : Rat) : qval (pr x) = x := by unfold qval pr; exact Rat.num_divInt_den x
theorem pr_ne (x : Rat) : (pr x).2 ≠ 0 := qden_ne x
/-- Fractions of the call's own, at or beyond block b: the first n of what a block holds. -/
def OwQp (w : World) (b : Nat) (A : Option Addr) (n c : Nat) (L : List Rat) : Prop :=
  ∃ E : List (Ent × Ent), E.length = n ∧ EntQ w b E L ∧ n ≤ c ∧ c ≤ maxLen ∧ (n = 0 ∨ ∃ (g : Nat) (cs : Array Value), A = some ⟨g, 0, none⟩ ∧ b ≤ g ∧ w.heap[g]? = some (.cells cs 56 (0, 0)) ∧ ∀ (i : Nat) (v : Value), (qcs E)[i]? = some v → cs[i]? = some v)
/-- What holds words and fractions stays. -/
def KeepQ (w w' : World) : Prop := KeepT w w' ∧ ∀ (i : Nat) (cs : Array Value) (f : Nat × Nat), w.heap[i]? = some (.cells cs 56 f) → w'.heap[i]? = some (.cells cs 56 f)
section
variable {w w' : World} {b b' : Nat} {A : Option Addr} {n c : Nat} {L : List Rat}
theorem EntQ.keep {E : List (Ent × Ent)} (h : EntQ w b E L) (hk : KeepT w w') : EntQ w' b E L := ⟨h.1, fun j e z he hz => (h.2 j e z he hz).keep hk⟩
theorem OwQp.len (h : OwQp w b A n c L) : L.length = n := by
  obtain ⟨E, h1, h2, _⟩ := h
  rw [← h2.1, h1]
theorem OwQp.le (h : OwQp w b A n c L) : n ≤ c ∧ c ≤ maxLen := by
  obtain ⟨E, _, _, h3, h4, _⟩ := h
  exact ⟨h3, h4⟩
theorem OwQp.next (h : OwQp w b A n c L) (hb : Below w.heap.size w w') : OwQp w' b A n c L := by
  obtain ⟨E, h1, h2, h3, h4, h5⟩ := h
  refine ⟨E, h1, h2.next hb, h3, h4, h5.imp id ?_⟩
  rintro ⟨g, cs, k1, k2, k3, k4⟩
  exact ⟨g, cs, k1, k2, (hb.block g (Array.getElem?_eq_some_iff.1 k3).1).trans k3, k4⟩
theorem OwQp.base (h : OwQp w b A n c L) (hb : b' ≤ b) : OwQp w b' A n c L := by
  obtain ⟨E, h1, h2, h3, h4, h5⟩ := h
  refine ⟨E, h1, h2.base hb, h3, h4, h5.imp id ?_⟩
  rintro ⟨g, cs, k1, k2, k3, k4⟩
  exact ⟨g, cs, k1, Nat.le_trans hb k2, k3, k4⟩
theorem OwQp.keep (h : OwQp w b A n c L) (hk : KeepQ w w') : OwQp w' b A n c L := by
  obtain ⟨E, h1, h2, h3, h4, h5⟩ := h
  refine ⟨E, h1, h2.keep hk.1, h3, h4, h5.imp id ?_⟩
  rintro ⟨g, cs, k1, k2, k3, k4⟩
  exact ⟨g, cs, k1, k2, hk.2 _ _ _ k3, k4⟩
theorem OwQp.nil (w : World) (b : Nat) (A : Option Addr) : OwQp w b A 0 0 [] := ⟨[], rfl, ⟨rfl, fun j e z he _ => by simp at he⟩, Nat.le_refl _, Nat.zero_le _, .inl rfl⟩
theorem OwQs.p (h : OwQs w b A n c L) : OwQp w b A n c L := by
  rcases h.form with ⟨rfl, rfl, rfl⟩ | ⟨g, rfl, h1, h2, h3, h4⟩
  · have := h.len
    rw [List.eq_nil_of_length_eq_zero this]
    exact OwQp.nil w b none
  · obtain ⟨E, hr, hE, hel⟩ := h
    refine ⟨E, hE, hel, h3, h4, .inr ?_⟩
    rcases hr.2 with ⟨k1, _⟩ | ⟨g2, cap, cur, k1, k2, k3, k4, k5, k6, k7⟩
    · cases k1
    · injection k1 with k1 _ _
      injection k1 with k1
      injection k1 with k1 _ _
      subst k1
      refine ⟨g, cur, rfl, k2, k3, fun i v hv => ?_⟩
      have hi : i < (qcs E).length := by
        rcases Nat.lt_or_ge i (qcs E).length with h5 | h5
        · exact h5
        · rw [List.getElem?_eq_none h5] at hv; cases hv
      have hi2 : i < n * 4 := by rw [qcs_len, hE] at hi; exact hi
      rw [← k7, List.getElem?_take_of_lt hi2] at hv
      simpa using hv
theorem qcs_take (E : List (Ent × Ent)) : ∀ (k i : Nat) (v : Value), (qcs (E.take k))[i]? = some v → (qcs E)[i]? = some v := by
  induction E with
  | nil => intro k i v h; simpa using h
  | cons e E ih =>
    intro k i v h
    cases k with
    | zero => simp [qcs] at h
    | succ k =>
      rw [List.take_succ_cons, qcs_cons] at h
      rw [qcs_cons]
      rcases Nat.lt_or_ge i (qc e).length with h1 | h1
      · rw [List.getElem?_append_left h1] at h ⊢
        exact h
      · rw [List.getElem?_append_right h1] at h ⊢
        exact ih k _ v h
theorem EntQ.take {E : List (Ent × Ent)} (h : EntQ w b E L) (k : Nat) : EntQ w b (E.take k) (L.take k) := by
  refine ⟨by rw [List.length_take, List.length_take, h.1], fun j e z he hz => ?_⟩
  have hj : j < k := by
    rcases Nat.lt_or_ge j k with h1 | h1
    · exact h1
    · rw [List.getElem?_eq_none (by rw [List.length_take]; omega)] at he; cases he
  rw [List.getElem?_take_of_lt hj] at he hz
  exact h.2 j e z he hz
theorem OwQp.take (h : OwQp w b A n c L) {k : Nat} (hk : k ≤ n) : OwQp w b A k k (L.take k) := by
  obtain ⟨E, h1, h2, h3, h4, h5⟩ := h
  refine ⟨E.take k, by rw [List.length_take]; omega, h2.take k, Nat.le_refl _, by omega, ?_⟩
  rcases h5 with h5 | ⟨g, cs, k1, k2, k3, k4⟩
  · exact .inl (by omega)
  · exact .inr ⟨g, cs, k1, k2, k3, fun i v hv => k4 i v (qcs_take E k i v hv)⟩
/-- An entry, with its cells. -/
theorem op_at (h : OwQp w b A n c L) {j : Nat} (hj : j < n) :
    ∃ (ad : Addr) (s : Bool) (A1 : Option Addr) (n1 c1 : Nat) (s' : Bool) (A1' : Option Addr) (n1' c1' : Nat) (x : Rat), A = some ad ∧ ad.block < w.heap.size ∧ w.cell? (ad.add (j * 4)) = some (.bool s) ∧ w.cell? ⟨(ad.add (j * 4)).block, (ad.add (j * 4)).off + 1, none⟩ = some (.slice A1 n1 c1) ∧ w.cell? ⟨(ad.add (j * 4)).block, (ad.add (j * 4)).off + 2, none⟩ = some (.bool s') ∧ w.cell? ⟨(ad.add (j * 4)).block, (ad.add (j * 4)).off + 3, none⟩ = some (.slice A1' n1' c1') ∧ OwQ w b s A1 n1 c1 s' A1' n1' c1' x ∧ Hid (L[j]? = some x) := by
  obtain ⟨E, h1, h2, h3, h4, h5⟩ := h
  rcases h5 with h5 | ⟨g, cs, rfl, k2, k3, k4⟩
  · omega
  · have hjE : j < E.length := by omega
    have hjL : j < L.length := by rw [← h2.1]; exact hjE
    have he := List.getElem?_eq_getElem hjE
    have hq := qcs_at E j _ he
    have hx := h2.2 j _ _ he (List.getElem?_eq_getElem hjL)
    have hc : ∀ i, i < 4 → ∀ v, (qc E[j])[i]? = some v → w.cell? ⟨g, j * 4 + i, none⟩ = some v := fun i hi v hv => by
      rw [cell_of_row w g _ _ _ _ k3]
      exact k4 _ v ((hq i hi).trans hv)
    exact ⟨_, _, _, _, _, _, _, _, _, _, rfl, (Array.getElem?_eq_some_iff.1 k3).1, by rw [add_base]; exact hc 0 (by omega) _ rfl, by rw [add_base]; exact hc 1 (by omega) _ rfl, by rw [add_base]; exact hc 2 (by omega) _ rfl, by rw [add_base]; exact hc 3 (by omega) _ rfl, hx, Lib.hid (List.getElem?_eq_getElem hjL)⟩
/-- As a list that came in. -/
theorem OwQp.rd {N : Nat} (h : OwQp w b A n c L) (hN : ∀ x ∈ L, Zz.zl x.num ≤ N ∧ Zz.zl (x.den : Int) ≤ N) : RdQs w w.heap.size N A n c (L.map pr) := by
  refine ⟨by rw [List.length_map, h.len], h.le.1, h.le.2, fun j p hp => ?_⟩
  rw [List.getElem?_map] at hp
  rcases Nat.lt_or_ge j L.length with hj | hj
  · obtain ⟨ad, s, A1, n1, c1, s', A1', n1', c1', x, e1, e2, a0, a1, a2, a3, hx, hL⟩ := op_at h (show j < n by rw [← h.len]; exact hj)
    rw [hL.out] at hp
    simp at hp
    subst hp
    have hs := hN x (List.mem_of_getElem? hL.out)
    exact ⟨ad, s, A1, n1, c1, s', A1', n1', c1', e1, e2, a0, a1, a2, a3, hx.num.rd, hx.den.rd, by rw [hx.num.len]; exact hs.1, by rw [hx.den.len]; exact hs.2⟩
  · rw [List.getElem?_eq_none hj] at hp
    simp at hp
end
/-- A fraction's size. -/
def Qs (N : Nat) (x : Rat) : Prop := Zz.zl x.num ≤ N ∧ Zz.zl (x.den : Int) ≤ N
section
variable {a b : Nat} {x y : Rat}
theorem Qs.mono (h : Qs a x) (hb : a ≤ b) : Qs b x := ⟨Nat.le_trans h.1 hb, Nat.le_trans h.2 hb⟩
theorem Qs.divInt {z d : Int} (hd : d ≠ 0) (h1 : Zz.zl z ≤ a) (h2 : Zz.zl d ≤ a) : Qs a (Rat.divInt z d) := ⟨Nat.le_trans (zl_qnum hd) h1, Nat.le_trans (zl_qden hd) h2⟩
theorem Qs.int {z : Int} (h : Zz.zl z ≤ a) (ha : 1 ≤ a) : Qs a (z : Rat) := ⟨h, show Zz.zl ((1 : Nat) : Int) ≤ a from Nat.le_trans (Zz.zl_small (by decide)) ha⟩
theorem Qs.zero (ha : 1 ≤ a) : Qs a 0 := ⟨by rw [show (0 : Rat).num = 0 from rfl, Zz.zl_zero]; exact Nat.zero_le _, Nat.le_trans (Zz.zl_small (by decide)) ha⟩
theorem Qs.one (ha : 1 ≤ a) : Qs a 1 := ⟨Nat.le_trans (Zz.zl_small (by decide)) ha, Nat.le_trans (Zz.zl_small (by decide)) ha⟩
theorem Qs.mul (h : Qs a x) (h' : Qs b y) : Qs (a + b) (x * y) := by
  rw [← qmul_val]
  refine Qs.divInt (Int.mul_ne_zero (qden_ne x) (qden_ne y)) ?_ ?_
  · exact Nat.le_trans (Zz.zl_mul _ _) (Nat.add_le_add h.1 h'.1)
  · exact Nat.le_trans (Zz.zl_mul _ _) (Nat.add_le_add h.2 h'.2)
theorem Qs.add (h : Qs a x) (h' : Qs b y) : Qs (a + b + 1) (x + y) := by
  rw [← qadd_val]
  refine Qs.divInt (Int.mul_ne_zero (qden_ne x) (qden_ne y)) ?_ ?_
  · have e1 := Zz.zl_add (x.num * y.den) (y.num * x.den)
    have e2 := Zz.zl_mul x.num y.den
    have e3 := Zz.zl_mul y.num x.den
    have := h.1
    have := h.2
    have := h'.1
    have := h'.2
    omega
  · have e2 := Zz.zl_mul x.den y.den
    have := h.2
    have := h'.2
    omega
theorem Qs.neg (h : Qs a x) : Qs a (-x) := ⟨by rw [Rat.neg_num, Zz.zl_neg]; exact h.1, by rw [Rat.neg_den]; exact h.2⟩
theorem Qs.sub (h : Qs a x) (h' : Qs b y) : Qs (a + b + 1) (x - y) := by
  rw [Rat.sub_eq_add_neg]
  exact h.add h'.neg
theorem Qs.inv (h : Qs a x) (h0 : x ≠ 0) : Qs a x⁻¹ := by
  rw [show x⁻¹ = Rat.divInt x.den x.num by conv => lhs; rw [← Rat.num_divInt_den x, Rat.inv_divInt]]
  exact Qs.divInt (fun e => h0 (Rat.num_eq_zero.1 e)) h.2 h.1
theorem Qs.div (h : Qs a x) (h' : Qs b y) (h0 : y ≠ 0) : Qs (a + b) (x / y) := by
  rw [Rat.div_def]
  exact h.mul (h'.inv h0)
end
/-- The size of a polynomial's coefficients. -/
def SzQ (N : Nat) (L : List Rat) : Prop := ∀ i, Qs N (Pq.co L i)
theorem SzQ.mem {N : Nat} {L : List Rat} (h : SzQ N L) : ∀ x ∈ L, Qs N x := fun x hx => by
  obtain ⟨i, _, rfl⟩ := Pq.mem_co hx
  exact h i
theorem SzQ.of {N : Nat} {L : List Rat} (h : ∀ x ∈ L, Qs N x) (hN : 1 ≤ N) : SzQ N L := fun i => by
  rcases Nat.lt_or_ge i L.length with hi | hi
  · exact h _ (List.mem_of_getElem? (Pq.get_co hi))
  · rw [Pq.co_ge hi]
    exact Qs.zero hN
/-- The size of what came in. -/
theorem RdQs.sz {w : World} {B N : Nat} {A : Option Addr} {n c : Nat} {L : List (Int × Int)} (h : RdQs w B N A n c L) (hd : ∀ p ∈ L, p.2 ≠ 0) (hN : 1 ≤ N) : SzQ N (L.map qval) := SzQ.of (fun x hx => by
  obtain ⟨p, hp, rfl⟩ := List.mem_map.1 hx
  obtain ⟨j, hj⟩ := List.getElem?_of_mem hp
  obtain ⟨_, _, _, _, _, _, _, _, _, _, _, _, _, _, _, h1, h2, h3, h4⟩ := h.at_ j p hj
  exact Qs.divInt (hd p hp) (Nat.le_trans h1.len h3) (Nat.le_trans h2.len h4)) hN
/-- A polynomial in normal form comes back. -/
def RetPq (f : Nat → Rat) (w : World) (e : Ending) (w' : World) : Prop :=
  ∃ (A : Option Addr) (n c : Nat) (M : List Rat), e = .returned (.slice A n c) ∧ OwQp w' w.heap.size A n c M ∧ Hid (Pq.IsP f M) ∧ Below w.heap.size w w'
end Go.Proofs.YtipbpdiahemmpaaGreat

/- Polynomials as coefficient functions with values in Rat: products, tops, division with a rest is of one kind. Nothing of the program. -/
namespace Pq
/-- The product of two polynomials. -/
def cv (a b : Nat → Rat) : Nat → Rat
  | 0 => a 0 * b 0
  | k + 1 => a 0 * b (k + 1) + cv (fun i => a (i + 1)) b k
theorem cv_right (a b : Nat → Rat) : ∀ k, cv a b (k + 1) = cv a (fun i => b (i + 1)) k + a (k + 1) * b 0 := by
  intro k
  induction k generalizing a with
  | zero => simp [cv]
  | succ k ih =>
    rw [cv, ih, cv]
    grind
theorem cv_comm (a b : Nat → Rat) (k : Nat) : cv a b k = cv b a k := by
  induction k generalizing a with
  | zero => simp only [cv]; grind
  | succ k ih => rw [cv, cv_right b a, ih]; grind
theorem cv_congr {a a' b b' : Nat → Rat} {k : Nat} (h : ∀ i, i ≤ k → a i = a' i) (h' : ∀ i, i ≤ k → b i = b' i) : cv a b k = cv a' b' k := by
  induction k generalizing a a' with
  | zero => simp [cv, h 0 (Nat.le_refl _), h' 0 (Nat.le_refl _)]
  | succ k ih => rw [cv, cv, h 0 (Nat.zero_le _), h' (k + 1) (Nat.le_refl _), ih (fun i hi => h (i + 1) (by omega)) (fun i hi => h' i (by omega))]
theorem cv_add_left (a b c : Nat → Rat) (k : Nat) : cv (fun i => a i + b i) c k = cv a c k + cv b c k := by
  induction k generalizing a b with
  | zero => simp only [cv]; grind
  | succ k ih => rw [cv, cv, cv, ih]; grind
theorem cv_add_right (a b c : Nat → Rat) (k : Nat) : cv a (fun i => b i + c i) k = cv a b k + cv a c k := by
  rw [cv_comm, cv_add_left, cv_comm b, cv_comm c]
theorem cv_smul_left (x : Rat) (a b : Nat → Rat) (k : Nat) : cv (fun i => x * a i) b k = x * cv a b k := by
  induction k generalizing a with
  | zero => simp only [cv]; grind
  | succ k ih => rw [cv, cv, ih]; grind
theorem cv_smul_right (x : Rat) (a b : Nat → Rat) (k : Nat) : cv a (fun i => x * b i) k = x * cv a b k := by
  rw [cv_comm, cv_smul_left, cv_comm]
theorem cv_sub_left (a b c : Nat → Rat) (k : Nat) : cv (fun i => a i - b i) c k = cv a c k - cv b c k := by
  induction k generalizing a b with
  | zero => simp only [cv]; grind
  | succ k ih => rw [cv, cv, cv, ih]; grind
theorem cv_sub_right (a b c : Nat → Rat) (k : Nat) : cv a (fun i => b i - c i) k = cv a b k - cv a c k := by
  rw [cv_comm, cv_sub_left, cv_comm b, cv_comm c]
theorem cv_zero_left (b : Nat → Rat) (k : Nat) : cv (fun _ => 0) b k = 0 := by
  induction k with
  | zero => simp only [cv]; grind
  | succ k ih => rw [cv, ih]; grind
theorem cv_zero_right (a : Nat → Rat) (k : Nat) : cv a (fun _ => 0) k = 0 := by rw [cv_comm, cv_zero_left]
theorem cv_assoc (a b c : Nat → Rat) (k : Nat) : cv (cv a b) c k = cv a (cv b c) k := by
  induction k generalizing a with
  | zero => simp only [cv]; grind
  | succ k ih =>
    rw [cv, cv, show (fun i => cv a b (i + 1)) = (fun i => a 0 * b (i + 1) + cv (fun j => a (j + 1)) b i) from rfl, cv_add_left, cv_smul_left, ih, cv, cv]
    grind
/-- c x^n -/
def mono (c : Rat) (n : Nat) : Nat → Rat := fun i => if i = n then c else 0
theorem cv_mono (c : Rat) (b : Nat → Rat) (n k : Nat) : cv (mono c n) b k = if n ≤ k then c * b (k - n) else 0 := by
  induction n generalizing k with
  | zero =>
    cases k with
    | zero => simp [cv, mono]
    | succ k =>
      rw [cv, show (fun i => mono c 0 (i + 1)) = fun _ => 0 from funext fun i => by simp [mono], cv_zero_left]
      simp [mono]
      try grind
  | succ n ih =>
    cases k with
    | zero => simp [cv, mono]
    | succ k =>
      rw [cv, show (fun i => mono c (n + 1) (i + 1)) = mono c n from funext fun i => by simp [mono], ih]
      simp [mono]
      try grind
theorem cv_one (b : Nat → Rat) (k : Nat) : cv (mono 1 0) b k = b k := by rw [cv_mono]; simp
/-- Nothing from n on. -/
def Up (f : Nat → Rat) (n : Nat) : Prop := ∀ k, n ≤ k → f k = 0
theorem Up.mono {f : Nat → Rat} {n m : Nat} (h : Up f n) (hm : n ≤ m) : Up f m := fun k hk => h k (by omega)
theorem Up.add {f g : Nat → Rat} {n : Nat} (h : Up f n) (k : Up g n) : Up (fun i => f i + g i) n := fun i hi => by
  show f i + g i = 0
  rw [h i hi, k i hi]; grind
theorem Up.sub {f g : Nat → Rat} {n : Nat} (h : Up f n) (k : Up g n) : Up (fun i => f i - g i) n := fun i hi => by
  show f i - g i = 0
  rw [h i hi, k i hi]; grind
theorem Up.smul {f : Nat → Rat} {n : Nat} (h : Up f n) (c : Rat) : Up (fun i => c * f i) n := fun i hi => by
  show c * f i = 0
  rw [h i hi]; grind
theorem cv_left0 {a b : Nat → Rat} (h : ∀ k, a k = 0) (k : Nat) : cv a b k = 0 := by
  rw [cv_congr (fun i _ => h i) (fun _ _ => rfl), cv_zero_left]
/-- The top of a product. -/
theorem cv_top {a b : Nat → Rat} {n m : Nat} (ha : Up a (n + 1)) (hb : Up b (m + 1)) : cv a b (n + m) = a n * b m := by
  induction n generalizing a with
  | zero =>
    rw [Nat.zero_add]
    cases m with
    | zero => rfl
    | succ m =>
      rw [cv, cv_left0 (fun k => ha (k + 1) (by omega))]
      grind
  | succ n ih =>
    rw [show n + 1 + m = (n + m) + 1 by omega, cv, hb (n + m + 1) (by omega), ih (a := fun i => a (i + 1)) fun k hk => ha (k + 1) (by omega)]
    grind
/-- Above the top there is nothing. -/
theorem cv_up {a b : Nat → Rat} {n m : Nat} (ha : Up a n) (hb : Up b m) : Up (cv a b) (n + m - 1) := by
  intro k hk
  induction n generalizing a k with
  | zero => exact cv_left0 (fun i => ha i (Nat.zero_le _)) k
  | succ n ih =>
    cases k with
    | zero =>
      have : m = 0 := by omega
      subst this
      rw [cv, hb 0 (Nat.le_refl _)]
      grind
    | succ k =>
      rw [cv, hb (k + 1) (by omega), ih (a := fun i => a (i + 1)) (fun k hk => ha (k + 1) (by omega)) k (by omega)]
      grind
theorem mul_zero' {a b : Rat} (h : a * b = 0) : a = 0 ∨ b = 0 := by
  rcases Classical.em (a = 0) with h0 | h0
  · exact .inl h0
  · right
    grind
/-- A product with what has a top is nothing from p + m on: then the other factor is nothing from p on. -/
theorem no_mul {d b : Nat → Rat} {p m : Nat} (hb : Up b (m + 1)) (ht : b m ≠ 0) (hu : Up (cv d b) (p + m)) : ∀ n, Up d n → Up d p
  | 0, h => h.mono (Nat.zero_le _)
  | n + 1, h => by
    rcases Nat.lt_or_ge n p with hn | hn
    · exact h.mono (by omega)
    · refine no_mul hb ht hu n fun k hk => ?_
      by_cases hkn : k = n
      · subst hkn
        have h1 := (cv_top h hb).symm.trans (hu (k + m) (by omega))
        exact (mul_zero' h1).resolve_right ht
      · exact h k (by omega)
/-- Quotient and rest are the only ones. -/
theorem dv_unique {b q r q' r' : Nat → Rat} {m n n' : Nat} (hb : Up b (m + 1)) (ht : b m ≠ 0) (hq : Up q n) (hq' : Up q' n')
    (e : ∀ k, cv q b k + r k = cv q' b k + r' k) (hr : Up r m) (hr' : Up r' m) : (∀ k, q k = q' k) ∧ ∀ k, r k = r' k := by
  have e1 : ∀ k, cv (fun i => q i - q' i) b k = r' k - r k := fun k => by
    rw [cv_sub_left]
    have := e k
    grind
  have hu : Up (cv (fun i => q i - q' i) b) m := fun k hk => by
    rw [e1, hr k hk, hr' k hk]; grind
  have hd : Up (fun i => q i - q' i) (n + n') := (hq.mono (by omega)).sub (hq'.mono (by omega))
  have h0 := no_mul (p := 0) hb ht (by rw [Nat.zero_add]; exact hu) _ hd
  have h1 : ∀ k, q k = q' k := fun k => by
    have := h0 k (Nat.zero_le _)
    simp only at this
    grind
  refine ⟨h1, fun k => ?_⟩
  have := e k
  rw [cv_congr (fun i _ => h1 i) (fun _ _ => rfl)] at this
  grind
end Pq

/- Polynomials over the fractions: the normal form as a function; the rounds of a division. Nothing of the program. -/
namespace Pq
theorem up_co (L : List Rat) : Up (co L) L.length := fun _ h => co_ge h
theorem IsP.up {f : Nat → Rat} {L : List Rat} (h : IsP f L) : Up f L.length := fun k hk => by rw [← h.2]; exact co_ge hk
theorem IsP.self {M : List Rat} (h : Nz M) : IsP (co M) M := ⟨h, fun _ => rfl⟩
theorem co_cons_zero (x : Rat) (L : List Rat) : co (x :: L) 0 = x := rfl
theorem co_cons_succ (x : Rat) (L : List Rat) (i : Nat) : co (x :: L) (i + 1) = co L i := by simp [co]
theorem co_range (f : Nat → Rat) (n i : Nat) : co ((List.range n).map f) i = if i < n then f i else 0 := by
  by_cases h : i < n
  · rw [if_pos h]; exact co_get (by rw [List.getElem?_map, List.getElem?_range h]; rfl)
  · rw [if_neg h]; exact co_ge (by simp; omega)
/-- Without noughts at the top. -/
def nrm : List Rat → List Rat
  | [] => []
  | x :: L => if nrm L = [] ∧ x = 0 then [] else x :: nrm L
theorem co_nrm : ∀ (L : List Rat) (i : Nat), co (nrm L) i = co L i
  | [], _ => rfl
  | x :: L, i => by
    have ih := co_nrm L
    unfold nrm
    split
    · rename_i h
      cases i with
      | zero => rw [co_nil, co_cons_zero, h.2]
      | succ i => rw [co_nil, co_cons_succ, ← ih, h.1, co_nil]
    · cases i with
      | zero => rfl
      | succ i => rw [co_cons_succ, co_cons_succ, ih]
theorem nz_nrm : ∀ L : List Rat, Nz (nrm L)
  | [] => nz_nil
  | x :: L => by
    have ih := nz_nrm L
    unfold nrm
    split
    · exact nz_nil
    · rename_i h
      intro hne
      by_cases h0 : nrm L = []
      · intro e
        refine h ⟨h0, ?_⟩
        simpa [h0] using e
      · rw [List.getLast_cons h0]
        exact ih h0
theorem isP_nrm (L : List Rat) : IsP (co L) (nrm L) := ⟨nz_nrm L, co_nrm L⟩
theorem IsP.nrm {L M : List Rat} (h : IsP (co L) M) : M = nrm L := h.unique (isP_nrm L)
theorem nrm_id {M : List Rat} (h : Nz M) : nrm M = M := (IsP.nrm (IsP.self h)).symm
theorem nrm_len (L : List Rat) : (nrm L).length ≤ L.length := nz_len (nz_nrm L) fun i hi => by rw [co_nrm]; exact co_ge hi
/-- One round of a division: the top goes. -/
def dstep (b a : List Rat) : List Rat := nrm ((List.range a.length).map fun i => co a i - (if i < a.length - b.length then 0 else co a (a.length - 1) / co b (b.length - 1) * co b (i - (a.length - b.length))))
theorem co_dstep {a b : List Rat} (h : b.length ≤ a.length) (i : Nat) : co (dstep b a) i = co a i - (if i < a.length - b.length then 0 else co a (a.length - 1) / co b (b.length - 1) * co b (i - (a.length - b.length))) := by
  unfold dstep
  rw [co_nrm, co_range]
  by_cases h1 : i < a.length
  · rw [if_pos h1]
  · rw [if_neg h1, co_ge (L := a) (by omega), co_ge (L := b) (i := i - (a.length - b.length)) (by omega), Rat.mul_zero]
    split <;> grind
theorem dstep_nz (b a : List Rat) : Nz (dstep b a) := nz_nrm _
theorem dstep_len {a b : List Rat} (hb : Nz b) (h0 : 0 < b.length) (h : b.length ≤ a.length) : (dstep b a).length < a.length := by
  have ht := nz_top hb h0
  have : (dstep b a).length ≤ a.length - 1 := nz_len (dstep_nz b a) fun i hi => by
    rw [co_dstep h]
    rcases Nat.eq_or_lt_of_le hi with e | e
    · rw [← e, if_neg (by omega), show a.length - 1 - (a.length - b.length) = b.length - 1 by omega]
      grind
    · rw [co_ge (L := a) (by omega), co_ge (L := b) (i := i - (a.length - b.length)) (by omega), Rat.mul_zero]
      split <;> grind
  omega
/-- What is left behind some rounds. -/
def drest (b : List Rat) : Nat → List Rat → List Rat
  | 0, a => a
  | j + 1, a => if b.length ≤ a.length then drest b j (dstep b a) else a
theorem drest_step {a b : List Rat} (h : b.length ≤ a.length) (j : Nat) : drest b (j + 1) a = drest b j (dstep b a) := by
  rw [drest, if_pos h]
/-- Quotient and rest, of lists in normal form. -/
def IsD (a b Q R : List Rat) : Prop := Nz Q ∧ Nz R ∧ R.length < b.length ∧ ∀ i, co a i = cv (co Q) (co b) i + co R i
theorem IsD.unique {a b Q R Q' R' : List Rat} (hb : Nz b) (h : IsD a b Q R) (h' : IsD a b Q' R') : Q = Q' ∧ R = R' := by
  have hl : 0 < b.length := by have := h.2.2.1; omega
  have ht := nz_top hb hl
  have hu : Up (co b) (b.length - 1 + 1) := by rw [Nat.sub_add_cancel hl]; exact up_co b
  have hr : R.length ≤ b.length - 1 := by have := h.2.2.1; omega
  have hr' : R'.length ≤ b.length - 1 := by have := h'.2.2.1; omega
  obtain ⟨e1, e2⟩ := dv_unique hu ht (up_co Q) (up_co Q') (fun k => (h.2.2.2 k).symm.trans (h'.2.2.2 k)) ((up_co R).mono hr) ((up_co R').mono hr')
  exact ⟨nz_ext h.1 h'.1 e1, nz_ext h.2.1 h'.2.1 e2⟩
/-- How a division stands: the quotient's coefficients so far, and what is left. -/
theorem dv_step {a b K : List Rat} {q : Nat → Rat} (h : b.length ≤ K.length) (e : ∀ i, co a i = cv q (co b) i + co K i) (hq : q (K.length - b.length) = 0) (i : Nat) :
    co a i = cv (fun t => if t = K.length - b.length then co K (K.length - 1) / co b (b.length - 1) else q t) (co b) i + co (dstep b K) i := by
  have e1 : (fun t => if t = K.length - b.length then co K (K.length - 1) / co b (b.length - 1) else q t) = fun t => q t + mono (co K (K.length - 1) / co b (b.length - 1)) (K.length - b.length) t := by
    funext t
    unfold mono
    by_cases h1 : t = K.length - b.length
    · rw [if_pos h1, if_pos h1, h1, hq]; grind
    · rw [if_neg h1, if_neg h1]; grind
  rw [e1, cv_add_left, cv_mono, co_dstep h, e i]
  by_cases h1 : K.length - b.length ≤ i
  · rw [if_pos h1, if_neg (by omega)]; grind
  · rw [if_neg h1, if_pos (by omega)]; grind
end Pq

/- qpoly: the top's noughts go; the normal form. -/
namespace Go.Proofs.YtipbpdiahemmpaaGreat
open Go.RowKit Go.IntWalk
attribute [local go_sem ↓] Go.wp_at_zero Go.wp_at_succ

/-- A polynomial in normal form comes back that lies at block b or beyond. -/
def RetPqB (b : Nat) (f : Nat → Rat) (w : World) (e : Ending) (w' : World) : Prop :=
  ∃ (A : Option Addr) (n c : Nat) (M : List Rat), e = .returned (.slice A n c) ∧ OwQp w' b A n c M ∧ Hid (Pq.IsP f M) ∧ Below w.heap.size w w'

set_option maxRecDepth 100000 in
set_option maxHeartbeats 4000000 in
theorem qtrim_any {b N : Nat} {A : Option Addr} {n c : Nat} {L : List Rat} {w : World} (h : OwQp w b A n c L) (hz : ∀ x ∈ L, Qs N x) (hn : n ≤ 4398046511103) (hN : N ≤ 17592186044416) :
    Calls Tryz.prog 118 #[.slice A n c] w (RetPqB b (Pq.co L) w) := by
  have HLEN := Lib.hid h.len
  have H := Lib.hid h
  have HSZ := Lib.hid hz
  have hle := h.le.1
  have hmx := h.le.2
  clear h hz
  go_enter Tryz.func118, Tryz.ntmps118
  go_wp2_with fail
  go_loopw [3] (fun kv wr => ∃ k : Nat, kv = .int .i64 k ∧ k ≤ n ∧ Hid (∀ i, k ≤ i → Pq.co L i = 0) ∧ Below w.heap.size w wr) (fun kv _ => (intOf kv).toNat)
  case atStart => exact ⟨n, rfl, Nat.le_refl _, Lib.hid fun i hi => Pq.co_ge (by rw [HLEN.out]; exact hi), Below.refl _ _⟩
  case round =>
    obtain ⟨k, rfl, hk, hZ, hB⟩ := hrel
    rcases Nat.eq_zero_or_pos k with h0 | h0
    · subst h0
      go_wp2
      go_ret
      exact ⟨_, _, _, [], rfl, OwQp.nil _ _ _, Lib.hid ⟨Pq.nz_nil, fun i => by rw [Pq.co_nil, hZ.out i (Nat.zero_le _)]⟩, hB⟩
    · obtain ⟨j, rfl⟩ : ∃ j, k = j + 1 := ⟨k - 1, by omega⟩
      obtain ⟨ad, s, A1, n1, c1, s', A1', n1', c1', x, rfl, hbk, hx0, hx1, hx2, hx3, hr, hx⟩ := op_at H.out (show j < n by omega)
      obtain ⟨hy0, hy1, hy2, hy3⟩ := qs_cells hB hbk hx0 hx1 hx2 hx3
      have hn1 : n1 ≤ N := by
        rw [hr.num.len]
        exact (HSZ.out x (List.mem_of_getElem? hx.out)).1
      have hr' := (hr.next hB).num.rd
      clear hx0 hx1 hx2 hx3 hy2 hy3 hr
      go_wp2_with fail
      refine (sign_any hr' (by omega)).mono ?_
      rintro _ W2 ⟨kz, rfl, hkz, hb2⟩
      have HB2 := Lib.hid (hB.trans (hb2.mono hB.size))
      have HZ := Lib.hid (show kz = 0 ↔ Pq.co L j = 0 by rw [hkz.out, Int.sign_eq_zero_iff_zero, Rat.num_eq_zero, Pq.co_get hx.out])
      clear hb2 hy0 hy1 hr'
      by_cases hk0 : kz = 0
      · have HC := Lib.hid (HZ.out.1 hk0)
        subst hk0
        go_wp2
        go_roundw
        case rel => exact ⟨j, by go_num, by omega, Lib.hid fun i hi => by
          rcases Nat.lt_or_ge j i with h1 | h1
          · exact hZ.out i h1
          · rw [show i = j by omega]; exact HC.out, HB2.out⟩
        case measure => simp [intOf]
      · have HC := Lib.hid (mt HZ.out.2 hk0)
        have hkb : (kz == 0) = false := by simpa using hk0
        clear hk0
        go_wp2
        go_ret
        exact ⟨_, _, _, L.take (j + 1), rfl, (H.out.next HB2.out).take hk, Lib.hid ⟨Pq.nz_take (by rw [HLEN.out]; exact hk) (.inr HC.out), Pq.co_take_all hZ.out⟩, HB2.out⟩

set_option maxRecDepth 100000 in
set_option maxHeartbeats 8000000 in
theorem qpnorm_any {N : Nat} {A : Option Addr} {n c : Nat} {L : List (Int × Int)} {w : World} (h : RdQs w w.heap.size N A n c L) (hn : n ≤ 1048576) (hN : N ≤ 1000000000000) (h1N : 1 ≤ N) :
    Calls Tryz.prog 38 #[.slice A n c] w fun e w' => ((∀ p ∈ L, p.2 ≠ 0) ∧ ∃ (A' : Option Addr) (n' c' : Nat) (M : List Rat), e = .returned (.tuple #[.slice A' n' c', .int .i64 0]) ∧ OwQp w' w.heap.size A' n' c' M ∧ Hid (M = Pq.nrm (L.map qval)) ∧ Below w.heap.size w w') ∨ ((∃ p ∈ L, p.2 = 0) ∧ e = .returned (.tuple #[.slice none 0 0, .int .i64 6]) ∧ Below w.heap.size w w') := by
  have HLEN := Lib.hid h.len
  have H := Lib.hid h
  obtain ⟨i0, hi, hz0, hz1, hz2⟩ := info_parts infoQ
  go_enter Tryz.func38, Tryz.ntmps38
  go_wp2_with fail
  go_loopw [4, 11] (fun ov iv wr => ∃ (j c' : Nat) (A' : Option Addr) (M : List Rat), ov = .slice A' j c' ∧ iv = .int .i64 j ∧ j ≤ n ∧ OwQs wr w.heap.size A' j c' M ∧ Hid (M = (L.take j).map qval) ∧ Hid (∀ (i : Nat) (p : Int × Int), i < j → L[i]? = some p → p.2 ≠ 0) ∧ Below w.heap.size w wr) (fun _ iv _ => n - (intOf iv).toNat)
  case atStart => exact ⟨0, 0, none, [], rfl, rfl, Nat.zero_le _, OwQs.nil _ _, Lib.hid rfl, Lib.hid fun i p hi => absurd hi (Nat.not_lt_zero _), Below.refl _ _⟩
  case round =>
    obtain ⟨j, c', A', M, rfl, rfl, hj, ho, hM, hne, hB⟩ := hrel
    by_cases hjn : j = n
    · subst hjn
      have HALL := Lib.hid (show ∀ p ∈ L, p.2 ≠ 0 from fun p hp => by
        obtain ⟨i, hi, e⟩ := List.mem_iff_getElem.1 hp
        exact hne.out i p (by rw [← HLEN.out]; exact hi) (by rw [List.getElem?_eq_getElem hi, e]))
      have HML := Lib.hid (show M = L.map qval by rw [hM.out, List.take_of_length_le (by rw [HLEN.out]; exact Nat.le_refl _)])
      have HSM := Lib.hid (show ∀ x ∈ M, Qs N x by rw [HML.out]; exact (H.out.sz HALL.out h1N).mem)
      go_wp2_with fail
      refine (qtrim_any ho.p HSM.out (by omega) (by omega)).mono ?_
      rintro _ W4 ⟨A4, n4, c4, M4, rfl, ho4, hM4, hb4⟩
      go_wp2
      exact bodyPost_ret (by simp [results, Tryz.results38, go_sem]) rfl (.inl ⟨HALL.out, _, _, _, M4, rfl, ho4, Lib.hid (by rw [← HML.out]; exact hM4.out.nrm), hB.trans (hb4.mono hB.size)⟩)
    · have hjl : j < n := by omega
      clear hjn
      have hjli : (j : Int) < (n : Int) := by omega
      obtain ⟨ad, s1, A1, n1, c1, s2, A2, n2, c2, z1, d1, rfl, hbk, hx0, hx1, hx2, hx3, hr1, hr2, hn1, hn2, hp⟩ := qs_at h hjl
      obtain ⟨hy0, hy1, hy2, hy3⟩ := qs_cells hB hbk hx0 hx1 hx2 hx3
      obtain ⟨W2, HW2⟩ : ∃ W, W = wr.alloc (.cells #[.bool s1, .slice A1 n1 c1, .bool s2, .slice A2 n2 c2] 56) := ⟨_, rfl⟩
      have hb2 : Below wr.heap.size wr W2 := by rw [HW2]; exact (Below.refl _ _).alloc (Nat.le_refl _) _
      have hB2 := hB.trans (hb2.mono hB.size)
      have HO := Lib.hid (ho.next hb2)
      have HRD := Lib.hid (And.intro (hr1.next hB2) (hr2.next hB2))
      have HB2 := Lib.hid hB2
      have HNN := Lib.hid (And.intro (Nat.le_trans hn1 hN) (Nat.le_trans hn2 hN))
      have HW2 := Lib.hid HW2
      clear ho hB hb2 hB2 hr1 hr2 hx0 hx1 hx2 hx3
      go_wp2_with fail
      rw [← HW2.out]
      clear HW2 hy0 hy1 hy2 hy3
      clear HW2
      by_cases hd0 : d1 = 0
      · subst hd0
        have HEX := Lib.hid (show ∃ p ∈ L, p.2 = 0 from ⟨(z1, 0), List.mem_of_getElem? hp.out, rfl⟩)
        refine (qnorm_zero HRD.out.2 HNN.out.2).mono ?_
        rintro _ W3 ⟨rfl, hb3⟩
        have HB4 := Lib.hid ((HB2.out.trans (hb3.mono HB2.out.size)).alloc (Nat.le_trans HB2.out.size hb3.size) (.cells #[.bool false, .slice none 0 0, .bool false, .slice none 0 0] 56))
        go_wp2
        exact bodyPost_ret (by simp [results, Tryz.results38, go_sem]) rfl (.inr ⟨HEX.out, rfl, HB4.out⟩)
      · have HD1 := Lib.hid hd0
        clear hd0
        refine (qnorm_any HRD.out.1 HRD.out.2 HNN.out.1 HNN.out.2 HD1.out).mono ?_
        rintro _ W3 ⟨s3, A3, n3, c3, s4, A4, n4, c4, y, rfl, ho3, hy, hb3⟩
        have hB3 := HB2.out.trans (hb3.mono HB2.out.size)
        obtain ⟨W4, HW4⟩ : ∃ W, W = W3.alloc (.cells #[.bool s3, .slice A3 n3 c3, .bool s4, .slice A4 n4 c4] 56) := ⟨_, rfl⟩
        have hb4 : Below W3.heap.size W3 W4 := by rw [HW4]; exact (Below.refl _ _).alloc (Nat.le_refl _) _
        have hB4 := hB3.trans (hb4.mono hB3.size)
        obtain ⟨E, hE, hEl, hEn⟩ := (HO.out.next hb3).next hb4
        have HO4 := Lib.hid ((ho3.base HB2.out.size).next hb4)
        rw [HW4] at hE hB4 hEn
        rw [HW4] at HO4
        have HE := Lib.hid hE
        have HEN := Lib.hid (And.intro hEl hEn)
        have HM2 := Lib.hid (show M ++ [y] = (L.take (j + 1)).map qval by rw [hM.out, hy.out]; exact mapq_snoc hp.out)
        have HNE2 := Lib.hid (show ∀ (i : Nat) (p : Int × Int), i < j + 1 → L[i]? = some p → p.2 ≠ 0 from fun i p hi hq => by
          rcases Nat.lt_or_ge i j with h1 | h1
          · exact hne.out i p h1 hq
          · rw [show i = j by omega, hp.out] at hq
            injection hq with hq
            rw [← hq]
            exact HD1.out)
        have HB4 := Lib.hid hB4
        clear hE hEl hEn hb3 ho3 hb4 hB3 hB4 hy HO hne hM
        clear HW4
        go_wp2_with (at_builtin; refine wpList_append_own _ rfl _ _ 38 rfl w.heap.size 56 i0 (.agg #[.bool false, .slice none 0 0, .bool false, .slice none 0 0]) 4 64 Tryz.underlying38 hi hz0 hz1 hz2 rfl (by decide) _ _ _ rfl (HE.out.alloc _) ⟨W3.heap.size + 1, 0, none⟩ 1 1 [.bool s3, .slice A3 n3 c3, .bool s4, .slice A4 n4 c4] rfl rfl (by simpa using qcell_new (W3.alloc (.cells #[.bool s3, .slice A3 n3 c3, .bool s4, .slice A4 n4 c4] 56)) (.bool s3) (.slice A3 n3 c3) (.bool s4) (.slice A4 n4 c4) 56) (by simp [Value.oneCell']) (by unfold maxLen; omega) (by omega) (by have := HB4.out.size; simp at this ⊢; omega) ?_; intro v' w1 hown' hgrow _)
        have hmore := qs_more (e := ((s3, A3, n3, c3), (s4, A4, n4, c4))) (x := y) HO4.out rfl (HE.out.alloc _) HEN.out.1 HEN.out.2 hown' hgrow
        have HB5 := Lib.hid ((HB4.out.alloc HB4.out.size (.cells #[.bool s3, .slice A3 n3 c3, .bool s4, .slice A4 n4 c4] 56)).grown hgrow (by have := HB4.out.size; simp at this ⊢; omega) (own_block HE.out))
        obtain ⟨A5, c5, rfl, ho5⟩ := hmore
        clear hown' hgrow HE HEN HO4
        go_wp2
        go_roundw
        case rel => exact ⟨j + 1, c5, A5, M ++ [y], rfl, by go_num, by omega, ho5, HM2, HNE2, HB5.out⟩
        case measure => simp [intOf]; omega
end Go.Proofs.YtipbpdiahemmpaaGreat

/- Values of polynomials over the fractions. Nothing of the program. -/
namespace Pq
/-- From the top down. -/
def hor (a : Nat → Rat) (x : Rat) (n : Nat) : Nat → Rat
  | 0 => 0
  | d + 1 => hor a x n d * x + a (n - 1 - d)
/-- From the bottom up. -/
def psum (a : Nat → Rat) (x : Rat) : Nat → Rat
  | 0 => 0
  | i + 1 => psum a x i + a i * x ^ i
theorem hor_succ (a : Nat → Rat) (x : Rat) (n d : Nat) : hor a x n (d + 1) = hor a x n d * x + a (n - 1 - d) := rfl
theorem psum_succ (a : Nat → Rat) (x : Rat) (i : Nat) : psum a x (i + 1) = psum a x i + a i * x ^ i := rfl
theorem hor_psum (a : Nat → Rat) (x : Rat) (n : Nat) : ∀ d, d ≤ n → hor a x n d * x ^ (n - d) + psum a x (n - d) = psum a x n
  | 0, _ => by simp [hor, Rat.zero_add]
  | d + 1, h => by
    have ih := hor_psum a x n d (by omega)
    obtain ⟨k, hk⟩ : ∃ k, n - d = k + 1 := ⟨n - d - 1, by omega⟩
    rw [hk, psum_succ] at ih
    rw [hor_succ, show n - (d + 1) = k by omega, show n - 1 - d = k by omega, ← ih, Rat.pow_succ]
    generalize x ^ k = p
    generalize psum a x k = s
    generalize hor a x n d = y
    generalize a k = z
    grind
theorem hor_all (a : Nat → Rat) (x : Rat) (n : Nat) : hor a x n n = psum a x n := by
  have h := hor_psum a x n n (Nat.le_refl _)
  rw [Nat.sub_self] at h
  simpa [psum, Rat.add_zero] using h
theorem psum_up {a : Nat → Rat} {x : Rat} {n : Nat} (h : ∀ i, n ≤ i → a i = 0) : ∀ k, psum a x (n + k) = psum a x n
  | 0 => rfl
  | k + 1 => by
    rw [show n + (k + 1) = n + k + 1 by omega, psum_succ, psum_up h k, h _ (by omega)]
    grind
theorem psum_congr {a b : Nat → Rat} {x : Rat} (h : ∀ i, a i = b i) : ∀ n, psum a x n = psum b x n
  | 0 => rfl
  | n + 1 => by rw [psum_succ, psum_succ, psum_congr h n, h]
end Pq
