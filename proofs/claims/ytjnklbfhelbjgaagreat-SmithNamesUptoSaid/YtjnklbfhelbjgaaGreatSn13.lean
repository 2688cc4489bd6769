/- rat: the closure of quotients. -/
import Derived.Test.YtjnklbfhelbjgaaGreatSn12
namespace Go.Proofs.YtjnklbfhelbjgaaGreat
open Go.RowKit Go.IntWalk
attribute [local go_sem ↓] Go.wp_at_zero Go.wp_at_succ
theorem qquo_val (x y : Rat) : Rat.divInt (x.num * (y.den : Int)) ((x.den : Int) * y.num) = x / y := by
 rw [← Rat.divInt_mul_divInt, Rat.num_divInt_den, Rat.div_def]
 conv => rhs; rw [← Rat.num_divInt_den y]
 rw [Rat.inv_divInt]
set_option maxRecDepth 100000 in
set_option maxHeartbeats 4000000 in
theorem qquoIn_any {N b : Nat} {A : Option Addr} {c : Nat} {x y : Rat} {w : World} (h : OwQs w b A 2 c [x, y]) (hx : Zz.zl x.num ≤ N ∧ Zz.zl x.den ≤ N) (hy : Zz.zl y.num ≤ N ∧ Zz.zl y.den ≤ N) (hN : N ≤ 400000000000) (h0 : y ≠ 0) :
  Calls Tryz.prog 244 #[.slice A 2 c] w (RetZD2 (x / y).num (x / y).den 0 w) := by
 obtain ⟨g, s1, A1, n1, c1, s2, A2, n2, c2, s3, A3, n3, c3, s4, A4, n4, c4, rfl, hg, ⟨a0, a1, a2, a3⟩, ⟨b0, b1, b2, b3⟩, ox, oy⟩ := oq_two h
 obtain ⟨W1, HW1⟩ : ∃ W, W = w.alloc (.cells #[.bool false, .slice none 0 0, .bool false, .slice none 0 0] 47) := ⟨_, rfl⟩
 have hR : QC W1 w.heap.size false none 0 0 false none 0 0 := by rw [HW1]; exact QC.new w false none 0 0 false none 0 0
 have hB : Below w.heap.size w W1 := by rw [HW1]; exact (Below.refl _ _).alloc (Nat.le_refl _) _
 have HCE := Lib.hid (show ∀ W : World, Below W1.heap.size W1 W → (W.cell? ⟨g, 0, none⟩ = some (.bool s1) ∧ W.cell? ⟨g, 1, none⟩ = some (.slice A1 n1 c1) ∧ W.cell? ⟨g, 2, none⟩ = some (.bool s2) ∧ W.cell? ⟨g, 3, none⟩ = some (.slice A2 n2 c2) ∧ W.cell? ⟨g, 4, none⟩ = some (.bool s3) ∧ W.cell? ⟨g, 5, none⟩ = some (.slice A3 n3 c3) ∧ W.cell? ⟨g, 6, none⟩ = some (.bool s4) ∧ W.cell? ⟨g, 7, none⟩ = some (.slice A4 n4 c4)) from fun W hb => by
  have hb' := hB.trans (hb.mono hB.size)
  exact ⟨(hb'.cell hg).trans a0, (hb'.cell hg).trans a1, (hb'.cell hg).trans a2, (hb'.cell hg).trans a3, (hb'.cell hg).trans b0, (hb'.cell hg).trans b1, (hb'.cell hg).trans b2, (hb'.cell hg).trans b3⟩)
 have HCP := Lib.hid (show ∀ (W : World) (t : Bool) (D : Option Addr) (k m : Nat) (t' : Bool) (D' : Option Addr) (k' m' : Nat), Below W1.heap.size W1 W → ((putQ W w.heap.size t D k m t' D' k' m').cell? ⟨g, 0, none⟩ = some (.bool s1) ∧ (putQ W w.heap.size t D k m t' D' k' m').cell? ⟨g, 1, none⟩ = some (.slice A1 n1 c1) ∧ (putQ W w.heap.size t D k m t' D' k' m').cell? ⟨g, 2, none⟩ = some (.bool s2) ∧ (putQ W w.heap.size t D k m t' D' k' m').cell? ⟨g, 3, none⟩ = some (.slice A2 n2 c2) ∧ (putQ W w.heap.size t D k m t' D' k' m').cell? ⟨g, 4, none⟩ = some (.bool s3) ∧ (putQ W w.heap.size t D k m t' D' k' m').cell? ⟨g, 5, none⟩ = some (.slice A3 n3 c3) ∧ (putQ W w.heap.size t D k m t' D' k' m').cell? ⟨g, 6, none⟩ = some (.bool s4) ∧ (putQ W w.heap.size t D k m t' D' k' m').cell? ⟨g, 7, none⟩ = some (.slice A4 n4 c4)) from fun W t D k m t' D' k' m' hb => by
  have hP := below_putQ (Below.refl w.heap.size W) (Nat.le_refl w.heap.size) t D k m t' D' k' m'
  obtain ⟨e0, e1, e2, e3, e4, e5, e6, e7⟩ := HCE.out W hb
  exact ⟨(hP.cell hg).trans e0, (hP.cell hg).trans e1, (hP.cell hg).trans e2, (hP.cell hg).trans e3, (hP.cell hg).trans e4, (hP.cell hg).trans e5, (hP.cell hg).trans e6, (hP.cell hg).trans e7⟩)
 unfold putQ at HCP
 have HX := Lib.hid (show ∀ W : World, Below W1.heap.size W1 W → RdZ W W.heap.size s1 A1 n1 c1 x.num ∧ RdZ W W.heap.size s2 A2 n2 c2 x.den ∧ RdZ W W.heap.size s3 A3 n3 c3 y.num ∧ RdZ W W.heap.size s4 A4 n4 c4 y.den from fun W hb => by
  have hb' := hB.trans (hb.mono hB.size)
  exact ⟨(ox.num.next hb').rd, (ox.den.next hb').rd, (oy.num.next hb').rd, (oy.den.next hb').rd⟩)
 have HNN := Lib.hid (show n1 ≤ N ∧ n2 ≤ N ∧ n3 ≤ N ∧ n4 ≤ N from ⟨by rw [ox.num.len]; exact hx.1, by rw [ox.den.len]; exact hx.2, by rw [oy.num.len]; exact hy.1, by rw [oy.den.len]; exact hy.2⟩)
 have HB := Lib.hid hB
 have HRR := Lib.hid (show ∀ W : World, Below W1.heap.size W1 W → QC W w.heap.size false none 0 0 false none 0 0 from fun W hb => hR.next hb)
 have HY0 := Lib.hid (show y.num ≠ 0 from mt Rat.num_eq_zero.1 h0)
 have HXY := Lib.hid (And.intro hx hy)
 have HGN := Lib.hid (show g ≠ w.heap.size by omega)
 have HW1 := Lib.hid HW1
 clear a0 a1 a2 a3 b0 b1 b2 b3 ox oy hR hB h hx hy h0
 obtain ⟨a0, a1, a2, a3, b0, b1, b2, b3⟩ := HCE.out W1 (Below.refl _ _)
 rw [HW1.out] at b0 b1
 go_enter Tryz.func244, Tryz.ntmps244
 go_wp2_with fail
 rw [← HW1.out]
 clear HW1
 clear HW1
 refine (sign_any (HX.out _ (Below.refl _ _)).2.2.1 (by have := HNN.out; omega)).mono ?_
 rintro _ V1 ⟨k1, rfl, hk1, hv1⟩
 have hkb : (k1 == 0) = false := by
  have e := hk1.out
  have e2 := mt Int.sign_eq_zero_iff_zero.1 HY0.out
  rw [← e] at e2
  simpa using e2
 have HD := Lib.hid hv1.drew
 clear a0 a1 a2 a3 b0 b1 b2 b3 hk1
 obtain ⟨a0, a1, a2, a3, b0, b1, b2, b3⟩ := HCE.out V1 hv1
 clear hv1
 go_upto_region 3 with fail
 go_region_held3 (fun w' => w'.cell? ⟨g, 0, none⟩ = some (.bool s1) ∧ w'.cell? ⟨g, 1, none⟩ = some (.slice A1 n1 c1) ∧ w'.cell? ⟨g, 2, none⟩ = some (.bool s2) ∧ w'.cell? ⟨g, 3, none⟩ = some (.slice A2 n2 c2) ∧ w'.cell? ⟨g, 4, none⟩ = some (.bool s3) ∧ w'.cell? ⟨g, 5, none⟩ = some (.slice A3 n3 c3) ∧ w'.cell? ⟨g, 6, none⟩ = some (.bool s4) ∧ w'.cell? ⟨g, 7, none⟩ = some (.slice A4 n4 c4))
  (first | exact HCE.out _ HB4.out | exact HCE.out _ HB3.out | exact HCE.out _ HB2.out | exact HCE.out _ HD.out | exact HCP.out _ _ _ _ _ _ _ _ _ HB4.out)
  (first
   | (go_at_call 83; refine (qmake_any ho2.rd ho3.rd HN2.out HN3.out HD3.out).mono ?_; rintro _ W4 ⟨s7, A7, n7, c7, s8, A8, n8, c8, q4, rfl, ho4, hq4, hb4⟩; have HB4 := Lib.hid (HB3.out.trans (hb4.mono HB3.out.size)); have hR4 := HRR.out _ HB4.out; have r0 := hR4.c0; have r1 := hR4.c1; have r2 := hR4.c2; have r3 := hR4.c3; have f0 := hR4.fz 0; have f1 := hR4.fz 1; have f2 := hR4.fz 2; have f3 := hR4.fz 3)
   | (have hxx := HB2.out; clear hxx; go_at_call 146; refine (imul_any (HX.out _ HB2.out).2.1 (HX.out _ HB2.out).2.2.1 (by have := HNN.out; omega) (by have := HNN.out; omega)).mono ?_; rintro _ W3 ⟨s6, A6, n6, c6, y3, rfl, ho3, hy3, hb3⟩; have HB3 := Lib.hid (HB2.out.trans (hb3.mono HB2.out.size)); have ho2 := ho2.next hb3; have HN3 := Lib.hid (show n6 ≤ 1000000000000 by { rw [ho3.len, hy3.out]; have e1 := Zz.zl_mul (x.den : Int) y.num; have e2 := HXY.out; omega }); have HD3 := Lib.hid (show y3 ≠ 0 by { rw [hy3.out]; exact Int.mul_ne_zero (qden_ne x) HY0.out }))
   | (go_at_call 146; refine (imul_any (HX.out _ HD.out).1 (HX.out _ HD.out).2.2.2 (by have := HNN.out; omega) (by have := HNN.out; omega)).mono ?_; rintro _ W2 ⟨s5, A5, n5, c5, y2, rfl, ho2, hy2, hb2⟩; have HB2 := Lib.hid (HD.out.trans (hb2.mono HD.out.size)); have HN2 := Lib.hid (show n5 ≤ 1000000000000 by { rw [ho2.len, hy2.out]; have e1 := Zz.zl_mul x.num (y.den : Int); have e2 := HXY.out; omega })))
 have hR4' := HRR.out _ HB4.out
 have HR9 := Lib.hid (hR4'.store s7 A7 n7 c7 s8 A8 n8 c8)
 have HO9 := Lib.hid ((ho4.base (b' := w.heap.size) (Nat.le_trans HB.out.size HB3.out.size)).keep (keep_putQ hR4' s7 A7 n7 c7 s8 A8 n8 c8))
 have HB9 := Lib.hid (below_putQ (HB.out.trans (HB4.out.mono HB.out.size)) (Nat.le_refl w.heap.size) s7 A7 n7 c7 s8 A8 n8 c8)
 have HV := Lib.hid (show q4 = x / y by rw [hq4.out, hy2.out, hy3.out]; exact qquo_val x y)
 unfold putQ at HR9 HO9 HB9
 clear a0 a1 a2 a3 b0 b1 b2 b3 r0 r1 r2 r3 f0 f1 f2 f3 hR4 hR4' ho2 ho3 ho4 hb2 hb3 hb4 hy2 hy3 hq4
 generalize (((W4.setCell ⟨w.heap.size, 0, none⟩ (.bool s7)).setCell ⟨w.heap.size, 1, none⟩ (.slice A7 n7 c7)).setCell ⟨w.heap.size, 2, none⟩ (.bool s8)).setCell ⟨w.heap.size, 3, none⟩ (.slice A8 n8 c8) = W9 at *
 have z0 := HR9.out.c0
 have z1 := HR9.out.c1
 have z2 := HR9.out.c2
 have z3 := HR9.out.c3
 go_wp2
 exact bodyPost_ret (by simp [results, Tryz.results244, go_sem, z0, z1, z2, z3]; rfl) rfl ⟨_, _, _, _, _, _, _, _, _, _, _, rfl, HO9.out.num, HO9.out.den, Lib.hid (by rw [HV.out]; exact ⟨rfl, rfl, rfl⟩), HB9.out⟩
end Go.Proofs.YtjnklbfhelbjgaaGreat

/- rat.Quo, by what is not nought. -/
namespace Go.Proofs.YtjnklbfhelbjgaaGreat
open Go.RowKit Go.IntWalk
attribute [local go_sem ↓] Go.wp_at_zero Go.wp_at_succ
theorem divInt_ne {z d : Int} (h : z ≠ 0) (hd : d ≠ 0) : Rat.divInt z d ≠ 0 := fun e => by
 have e1 := Rat.num_eq_zero.2 e
 rw [← Qz.make_num hd] at e1
 have e2 := Int.mul_tdiv_cancel' (Qz.gs_left z d)
 rw [e1, Int.mul_zero] at e2
 exact h e2.symm
set_option maxRecDepth 100000 in
set_option maxHeartbeats 4000000 in
theorem qquo_any {N : Nat} {s1 s2 s3 s4 : Bool} {A1 A2 A3 A4 : Option Addr} {n1 c1 n2 c2 n3 c3 n4 c4 : Nat} {z1 d1 z2 d2 : Int} {w : World} (h1 : RdZ w w.heap.size s1 A1 n1 c1 z1) (h2 : RdZ w w.heap.size s2 A2 n2 c2 d1) (h3 : RdZ w w.heap.size s3 A3 n3 c3 z2) (h4 : RdZ w w.heap.size s4 A4 n4 c4 d2) (hn : n1 ≤ N ∧ n2 ≤ N ∧ n3 ≤ N ∧ n4 ≤ N) (hN : N ≤ 200000000000) (h0 : z2 ≠ 0) :
  Calls Tryz.prog 224 #[.agg #[.bool s1, .slice A1 n1 c1, .bool s2, .slice A2 n2 c2], .agg #[.bool s3, .slice A3 n3 c3, .bool s4, .slice A4 n4 c4]] w (RetQE (d1 ≠ 0 ∧ d2 ≠ 0) (Rat.divInt z1 d1 / Rat.divInt z2 d2) w) := by
 have heg := enters_of Tryz.func244 (by kernel_rfl) rfl
 obtain ⟨W1, HW1⟩ : ∃ W, W = ((w.alloc (.cells #[.bool s1, .slice A1 n1 c1, .bool s2, .slice A2 n2 c2] 47)).alloc (.cells #[.bool s3, .slice A3 n3 c3, .bool s4, .slice A4 n4 c4] 47)).alloc (.cells #[.bool false, .slice none 0 0, .bool false, .slice none 0 0] 47) := ⟨_, rfl⟩
 obtain ⟨hX, hY, hR, hB⟩ := q_boxes2 w s1 s2 s3 s4 A1 A2 A3 A4 n1 c1 n2 c2 n3 c3 n4 c4 W1 HW1
 obtain ⟨W2, HW2⟩ : ∃ W, W = W1.alloc (.cells #[.bool s1, .slice A1 n1 c1, .bool s2, .slice A2 n2 c2, .bool s3, .slice A3 n3 c3, .bool s4, .slice A4 n4 c4] 47) := ⟨_, rfl⟩
 have hq := qs_two (h1.next hB) (h2.next hB) (h3.next hB) (h4.next hB) hn HW2
 have hb2 : Below W1.heap.size W1 W2 := by rw [HW2]; exact (Below.refl _ _).alloc (Nat.le_refl _) _
 have a0 := hX.c0
 have a1 := hX.c1
 have a2 := hX.c2
 have a3 := hX.c3
 have b0 := hY.c0
 have b1 := hY.c1
 have b2 := hY.c2
 have b3 := hY.c3
 have hs1 : W1.heap.size = w.heap.size + 1 + 1 + 1 := by rw [HW1]; simp
 rw [hs1] at hq
 rw [HW1] at a0 a1 a2 a3 b0 b1 b2 b3 HW2
 have HQ := Lib.hid hq
 have HR2 := Lib.hid (hR.next hb2)
 have HB2 := Lib.hid (hB.trans (hb2.mono hB.size))
 have HSW := Lib.hid (show w.heap.size ≤ W2.heap.size from Nat.le_trans hB.size hb2.size)
 have HLZ := Lib.hid (show Zz.zl z1 ≤ N ∧ Zz.zl d1 ≤ N ∧ Zz.zl z2 ≤ N ∧ Zz.zl d2 ≤ N from ⟨Nat.le_trans h1.len hn.1, Nat.le_trans h2.len hn.2.1, Nat.le_trans h3.len hn.2.2.1, Nat.le_trans h4.len hn.2.2.2⟩)
 have HW2 := Lib.hid HW2
 clear hX hY hR hB hq hb2 hs1 HW1 h1 h2 h3 h4
 go_enter Tryz.func224, Tryz.ntmps224
 go_wp2_with fail
 rw [← HW2.out]
 clear HW2 a0 a1 a2 a3 b0 b1 b2 b3
 clear HW2
 refine (made_any (N := N) (z := (Rat.divInt z1 d1 / Rat.divInt z2 d2).num) (d := (Rat.divInt z1 d1 / Rat.divInt z2 d2).den) (k := 0) HQ.out (by decide) (by omega) heg (fun hne W A' c' b hb _ ho => by
  have e1 : d1 ≠ 0 := hne (z1, d1) (by simp)
  have e2 : d2 ≠ 0 := hne (z2, d2) (by simp)
  exact qquoIn_any (N := N) ho ⟨Nat.le_trans (zl_qnum e1) HLZ.out.1, Nat.le_trans (zl_qden e1) HLZ.out.2.1⟩ ⟨Nat.le_trans (zl_qnum e2) HLZ.out.2.2.1, Nat.le_trans (zl_qden e2) HLZ.out.2.2.2⟩ (by omega) (divInt_ne h0 e2))).mono ?_
 intro e3 W3 hpost
 obtain ⟨s5, A5, n5, c5, y5, s6, A6, n6, c6, y6, kk, rfl, ho5, ho6, hy, hb3⟩ : RetQE (d1 ≠ 0 ∧ d2 ≠ 0) (Rat.divInt z1 d1 / Rat.divInt z2 d2) W2 e3 W3 := by
  rcases hpost with ⟨hall, s5, A5, n5, c5, y5, s6, A6, n6, c6, y6, kk, k1, k2, k3, k4, k5⟩ | ⟨⟨p, hp, hp0⟩, k1, k2⟩
  ·exact ⟨s5, A5, n5, c5, y5, s6, A6, n6, c6, y6, kk, k1, k2, k3, Lib.hid (.inl ⟨⟨hall (z1, d1) (by simp), hall (z2, d2) (by simp)⟩, k4.out⟩), k5⟩
  ·refine ⟨false, none, 0, 0, 0, false, none, 0, 0, 0, 6, k1, OwZ.zero _ _, OwZ.zero _ _, Lib.hid (.inr ⟨?_, rfl, rfl, rfl⟩), k2⟩
   rintro ⟨e1, e2⟩
   simp at hp
   rcases hp with rfl | rfl
   ·exact e1 hp0
   ·exact e2 hp0
 have hR5 := HR2.out.next hb3
 have r0 := hR5.c0
 have r1 := hR5.c1
 have r2 := hR5.c2
 have r3 := hR5.c3
 have f0 := hR5.fz 0
 have f1 := hR5.fz 1
 have f2 := hR5.fz 2
 have f3 := hR5.fz 3
 have HR9 := Lib.hid (hR5.store s5 A5 n5 c5 s6 A6 n6 c6)
 have HO9 := Lib.hid (And.intro ((ho5.base (b' := w.heap.size) HSW.out).keep (keep_putQ hR5 s5 A5 n5 c5 s6 A6 n6 c6)) ((ho6.base (b' := w.heap.size) HSW.out).keep (keep_putQ hR5 s5 A5 n5 c5 s6 A6 n6 c6)))
 have HB9 := Lib.hid (below_putQ (HB2.out.trans (hb3.mono HB2.out.size)) (show w.heap.size ≤ w.heap.size + 1 + 1 by omega) s5 A5 n5 c5 s6 A6 n6 c6)
 unfold putQ at HR9 HB9 HO9
 clear ho5 ho6 hb3 hR5 hpost
 go_wp2_with fail
 generalize (((W3.setCell ⟨w.heap.size + 1 + 1, 0, none⟩ (.bool s5)).setCell ⟨w.heap.size + 1 + 1, 1, none⟩ (.slice A5 n5 c5)).setCell ⟨w.heap.size + 1 + 1, 2, none⟩ (.bool s6)).setCell ⟨w.heap.size + 1 + 1, 3, none⟩ (.slice A6 n6 c6) = W9 at *
 have z0 := HR9.out.c0
 have z1 := HR9.out.c1
 have z2 := HR9.out.c2
 have z3 := HR9.out.c3
 exact bodyPost_ret (by simp [results, Tryz.results224, go_sem, z0, z1, z2, z3]) rfl ⟨_, _, _, _, _, _, _, _, _, _, _, rfl, HO9.out.1, HO9.out.2, hy, HB9.out⟩
end Go.Proofs.YtjnklbfhelbjgaaGreat

/- rat.Inv. -/
namespace Go.Proofs.YtjnklbfhelbjgaaGreat
open Go.RowKit Go.IntWalk
attribute [local go_sem ↓] Go.wp_at_zero Go.wp_at_succ
theorem inv_val (z d : Int) : Rat.divInt 1 1 / Rat.divInt z d = (Rat.divInt z d)⁻¹ := by
 rw [Rat.div_def, show Rat.divInt 1 1 = 1 from rfl, Rat.one_mul]
set_option maxRecDepth 100000 in
set_option maxHeartbeats 2000000 in
theorem qinv_any {N : Nat} {s s' : Bool} {A A' : Option Addr} {n c n' c' : Nat} {z d : Int} {w : World} (h : RdZ w w.heap.size s A n c z) (h' : RdZ w w.heap.size s' A' n' c' d) (hn : n ≤ N ∧ n' ≤ N) (hN : N ≤ 200000000000) (h1N : 1 ≤ N) (hz : z ≠ 0) :
  Calls Tryz.prog 207 #[.agg #[.bool s, .slice A n c, .bool s', .slice A' n' c']] w (RetQE (d ≠ 0) (Rat.divInt z d)⁻¹ w) := by
 obtain ⟨W1, HW1⟩ : ∃ W, W = (w.alloc (.cells #[.bool s, .slice A n c, .bool s', .slice A' n' c'] 47)).alloc (.cells #[.bool false, .slice none 0 0, .bool false, .slice none 0 0] 47) := ⟨_, rfl⟩
 obtain ⟨hX, hR, hB⟩ := q_box1 w s A n c s' A' n' c' W1 HW1
 have HCE := Lib.hid (show ∀ W : World, Below W1.heap.size W1 W → (W.cell? ⟨w.heap.size, 0, none⟩ = some (.bool s) ∧ W.cell? ⟨w.heap.size, 1, none⟩ = some (.slice A n c) ∧ W.cell? ⟨w.heap.size, 2, none⟩ = some (.bool s') ∧ W.cell? ⟨w.heap.size, 3, none⟩ = some (.slice A' n' c')) from fun W hb => ⟨(hX.next hb).c0, (hX.next hb).c1, (hX.next hb).c2, (hX.next hb).c3⟩)
 have HRD := Lib.hid (show ∀ W : World, Below W1.heap.size W1 W → RdZ W W.heap.size s A n c z ∧ RdZ W W.heap.size s' A' n' c' d from fun W hb => ⟨(h.next hB).next hb, (h'.next hB).next hb⟩)
 have HRR := Lib.hid (show ∀ W : World, Below W1.heap.size W1 W → QC W (w.heap.size + 1) false none 0 0 false none 0 0 from fun W hb => hR.next hb)
 have HCP := Lib.hid (show ∀ (W : World) (t : Bool) (D : Option Addr) (k m : Nat) (t' : Bool) (D' : Option Addr) (k' m' : Nat), Below W1.heap.size W1 W → ((putQ W (w.heap.size + 1) t D k m t' D' k' m').cell? ⟨w.heap.size, 0, none⟩ = some (.bool s) ∧ (putQ W (w.heap.size + 1) t D k m t' D' k' m').cell? ⟨w.heap.size, 1, none⟩ = some (.slice A n c) ∧ (putQ W (w.heap.size + 1) t D k m t' D' k' m').cell? ⟨w.heap.size, 2, none⟩ = some (.bool s') ∧ (putQ W (w.heap.size + 1) t D k m t' D' k' m').cell? ⟨w.heap.size, 3, none⟩ = some (.slice A' n' c')) from fun W t D k m t' D' k' m' hb => by
  have hP := below_putQ (Below.refl (w.heap.size + 1) W) (Nat.le_refl (w.heap.size + 1)) t D k m t' D' k' m'
  obtain ⟨e0, e1, e2, e3⟩ := HCE.out W hb
  have hg : w.heap.size < w.heap.size + 1 := Nat.lt_succ_self _
  exact ⟨(hP.cell (p := ⟨w.heap.size, 0, none⟩) hg).trans e0, (hP.cell (p := ⟨w.heap.size, 1, none⟩) hg).trans e1, (hP.cell (p := ⟨w.heap.size, 2, none⟩) hg).trans e2, (hP.cell (p := ⟨w.heap.size, 3, none⟩) hg).trans e3⟩)
 unfold putQ at HCP
 have HD := Lib.hid (Below.refl W1.heap.size W1).drew
 have HB := Lib.hid hB
 have HZ := Lib.hid hz
 have HW1 := Lib.hid HW1
 clear hX hR hB h h' hz
 obtain ⟨a0, a1, a2, a3⟩ := HCE.out W1 (Below.refl _ _)
 go_enter Tryz.func207, Tryz.ntmps207
 go_upto_region 1 with fail
 rw [← HW1.out]
 clear HW1
 clear HW1
 go_region_held3 (fun w' => w'.cell? ⟨w.heap.size, 0, none⟩ = some (.bool s) ∧ w'.cell? ⟨w.heap.size, 1, none⟩ = some (.slice A n c) ∧ w'.cell? ⟨w.heap.size, 2, none⟩ = some (.bool s') ∧ w'.cell? ⟨w.heap.size, 3, none⟩ = some (.slice A' n' c'))
  (first | exact HCE.out _ HB3.out | exact HCE.out _ HB2.out | exact HCE.out _ HD.out | exact HCP.out _ _ _ _ _ _ _ _ _ HB3.out)
  (first
   | (go_at_call 224; refine (qquo_any (N := N) HO2.out.num.rd HO2.out.den.rd (HRD.out _ HB2.out).1 (HRD.out _ HB2.out).2 ⟨HN2.out.1, HN2.out.2, hn.1, hn.2⟩ hN HZ.out).mono ?_; rintro _ W3 ⟨s5, A5, n5, c5, y5, s6, A6, n6, c6, y6, kk, rfl, ho5, ho6, hy, hb3⟩; have HB3 := Lib.hid (HB2.out.trans (hb3.mono HB2.out.size)); have hR4 := HRR.out _ HB3.out; have r0 := hR4.c0; have r1 := hR4.c1; have r2 := hR4.c2; have r3 := hR4.c3; have f0 := hR4.fz 0; have f1 := hR4.fz 1; have f2 := hR4.fz 2; have f3 := hR4.fz 3)
   | (go_at_call 38; refine (qof_any 1 (by decide) (by decide) _).mono ?_; rintro _ W2 ⟨s2, A2, n2, c2, s3, A3, n3, c3, y2, rfl, ho2, hy2, hb2⟩; obtain rfl := hy2.out; have HB2 := Lib.hid (HD.out.trans hb2); have HO2 := Lib.hid ho2; have HN2 := Lib.hid (show n2 ≤ N ∧ n3 ≤ N from ⟨Nat.le_trans (Nat.le_of_eq ho2.num.len) (Nat.le_trans (Zz.zl_small (by decide)) h1N), Nat.le_trans (Nat.le_of_eq ho2.den.len) (Nat.le_trans (Zz.zl_small (by decide)) h1N)⟩)))
 have hR4' := HRR.out _ HB3.out
 have HR9 := Lib.hid (hR4'.store s5 A5 n5 c5 s6 A6 n6 c6)
 have HO9 := Lib.hid (And.intro ((ho5.base (b' := w.heap.size) (Nat.le_trans HB.out.size HB2.out.size)).keep (keep_putQ hR4' s5 A5 n5 c5 s6 A6 n6 c6)) ((ho6.base (b' := w.heap.size) (Nat.le_trans HB.out.size HB2.out.size)).keep (keep_putQ hR4' s5 A5 n5 c5 s6 A6 n6 c6)))
 have HB9 := Lib.hid (below_putQ (HB.out.trans (HB3.out.mono HB.out.size)) (Nat.le_succ w.heap.size) s5 A5 n5 c5 s6 A6 n6 c6)
 have HV := Lib.hid (show (d ≠ 0 ∧ y5 = ((Rat.divInt z d)⁻¹).num ∧ y6 = ((Rat.divInt z d)⁻¹).den ∧ kk = 0) ∨ (¬ d ≠ 0 ∧ y5 = 0 ∧ y6 = 0 ∧ kk = 6) by
  rcases hy.out with ⟨⟨_, e1⟩, e2, e3, e4⟩ | ⟨e1, e2⟩
  ·refine .inl ⟨e1, ?_, ?_, e4⟩
   ·rw [← inv_val]; exact e2
   ·rw [← inv_val]; exact e3
  ·exact .inr ⟨fun h => e1 ⟨by decide, h⟩, e2⟩)
 unfold putQ at HR9 HO9 HB9
 clear a0 a1 a2 a3 r0 r1 r2 r3 f0 f1 f2 f3 hR4 hR4' ho2 ho5 ho6 hb2 hb3 hy
 generalize (((W3.setCell ⟨w.heap.size + 1, 0, none⟩ (.bool s5)).setCell ⟨w.heap.size + 1, 1, none⟩ (.slice A5 n5 c5)).setCell ⟨w.heap.size + 1, 2, none⟩ (.bool s6)).setCell ⟨w.heap.size + 1, 3, none⟩ (.slice A6 n6 c6) = W9 at *
 have z0 := HR9.out.c0
 have z1 := HR9.out.c1
 have z2 := HR9.out.c2
 have z3 := HR9.out.c3
 go_wp2
 exact bodyPost_ret (by simp [results, Tryz.results207, go_sem, z0, z1, z2, z3]) rfl ⟨_, _, _, _, _, _, _, _, _, _, _, rfl, HO9.out.1, HO9.out.2, HV, HB9.out⟩
end Go.Proofs.YtjnklbfhelbjgaaGreat

/- Lists of fractions as polynomials: coefficients, the normal list. Nothing of the program. -/
namespace Pq
def co (L : List Rat) (i : Nat) : Rat := L.getD i 0
def Nz (L : List Rat) : Prop := ∀ h : L ≠ [], L.getLast h ≠ 0
theorem co_ge {L : List Rat} {i : Nat} (h : L.length ≤ i) : co L i = 0 := by simp [co, h]
theorem co_nil (i : Nat) : co [] i = 0 := by simp [co]
theorem co_get {L : List Rat} {i : Nat} {z : Rat} (h : L[i]? = some z) : co L i = z := by simp [co, List.getD_eq_getElem?_getD, h]
theorem get_co {L : List Rat} {i : Nat} (h : i < L.length) : L[i]? = some (co L i) := by simp [co, h]
theorem mem_co {L : List Rat} {z : Rat} (h : z ∈ L) : ∃ i, i < L.length ∧ co L i = z := by
 obtain ⟨i, hi⟩ := List.getElem?_of_mem h
 refine ⟨i, ?_, co_get hi⟩
 rcases Nat.lt_or_ge i L.length with h1 | h1
 ·exact h1
 ·rw [List.getElem?_eq_none h1] at hi; cases hi
theorem co_take {L : List Rat} {k i : Nat} (h : i < k) : co (L.take k) i = co L i := by
 simp only [co, List.getD_eq_getElem?_getD, List.getElem?_take_of_lt h]
theorem co_take_all {L : List Rat} {k : Nat} (h : ∀ i, k ≤ i → co L i = 0) (i : Nat) : co (L.take k) i = co L i := by
 rcases Nat.lt_or_ge i k with h1 | h1
 ·exact co_take h1
 ·rw [h i h1]; exact co_ge (by rw [List.length_take]; omega)
theorem nz_nil : Nz [] := fun h => absurd rfl h
theorem nz_take {L : List Rat} {k : Nat} (hk : k ≤ L.length) (h : k = 0 ∨ co L (k - 1) ≠ 0) : Nz (L.take k) := by
 intro hne
 have hk0 : k ≠ 0 := by rintro rfl; simp at hne
 have hl := h.resolve_left hk0
 rw [List.getLast_eq_getElem]
 simp only [List.length_take, Nat.min_eq_left hk, List.getElem_take]
 have e := get_co (L := L) (i := k - 1) (by omega)
 rw [List.getElem?_eq_getElem (by omega)] at e
 injection e with e
 rw [e]
 exact hl
theorem nz_top {L : List Rat} (h : Nz L) (h0 : 0 < L.length) : co L (L.length - 1) ≠ 0 := by
 have hne : L ≠ [] := by rintro rfl; simp at h0
 have e := h hne
 rw [List.getLast_eq_getElem] at e
 have e2 := get_co (L := L) (i := L.length - 1) (by omega)
 rw [List.getElem?_eq_getElem (by omega)] at e2
 injection e2 with e2
 rw [← e2]
 exact e
theorem nz_len {L : List Rat} (h : Nz L) {k : Nat} (hk : ∀ i, k ≤ i → co L i = 0) : L.length ≤ k := by
 apply Classical.byContradiction
 intro hc
 exact nz_top h (by omega) (hk _ (by omega))
theorem nz_ext {L M : List Rat} (h : Nz L) (h' : Nz M) (e : ∀ i, co L i = co M i) : L = M := by
 have h1 : L.length ≤ M.length := nz_len h fun i hi => by rw [e]; exact co_ge hi
 have h2 : M.length ≤ L.length := nz_len h' fun i hi => by rw [← e]; exact co_ge hi
 apply List.ext_getElem?
 intro i
 rcases Nat.lt_or_ge i L.length with hi | hi
 ·rw [get_co hi, get_co (by omega), e]
 ·rw [List.getElem?_eq_none hi, List.getElem?_eq_none (by omega)]
def IsP (f : Nat → Rat) (M : List Rat) : Prop := Nz M ∧ ∀ i, co M i = f i
theorem IsP.unique {f : Nat → Rat} {L M : List Rat} (h : IsP f L) (h' : IsP f M) : L = M := nz_ext h.1 h'.1 fun i => by rw [h.2, h'.2]
theorem IsP.congr {f g : Nat → Rat} {L : List Rat} (h : IsP f L) (e : ∀ i, f i = g i) : IsP g L := ⟨h.1, fun i => by rw [h.2, e]⟩
theorem IsP.len {f : Nat → Rat} {L : List Rat} (h : IsP f L) {k : Nat} (hk : ∀ i, k ≤ i → f i = 0) : L.length ≤ k := nz_len h.1 fun i hi => by rw [h.2]; exact hk i hi
theorem co_map {φ : Rat → Rat} (h0 : φ 0 = 0) (L : List Rat) (i : Nat) : co (L.map φ) i = φ (co L i) := by
 simp only [co, List.getD_eq_getElem?_getD, List.getElem?_map]
 cases L[i]? <;> simp [h0]
end Pq

/- Polynomials over the fractions in memory of the call's own: the first n of what a block holds. -/
namespace Go.Proofs.YtjnklbfhelbjgaaGreat
open Go.RowKit Go.IntWalk
def pr (x : Rat) : Int × Int := (x.num, (x.den : Int))
theorem qval_pr (x : Rat) : qval (pr x) = x := by unfold qval pr; exact Rat.num_divInt_den x
theorem pr_ne (x : Rat) : (pr x).2 ≠ 0 := qden_ne x
def OwQp (w : World) (b : Nat) (A : Option Addr) (n c : Nat) (L : List Rat) : Prop :=
 ∃ E : List (Ent × Ent), E.length = n ∧ EntQ w b E L ∧ n ≤ c ∧ c ≤ maxLen ∧ (n = 0 ∨ ∃ (g : Nat) (cs : Array Value), A = some ⟨g, 0, none⟩ ∧ b ≤ g ∧ w.heap[g]? = some (.cells cs 47 (0, 0)) ∧ ∀ (i : Nat) (v : Value), (qcs E)[i]? = some v → cs[i]? = some v)
def KeepQ (w w' : World) : Prop := KeepT w w' ∧ ∀ (i : Nat) (cs : Array Value) (f : Nat × Nat), w.heap[i]? = some (.cells cs 47 f) → w'.heap[i]? = some (.cells cs 47 f)
section
variable {w w' : World} {b b' : Nat} {A : Option Addr} {n c : Nat} {L : List Rat}
theorem EntQ.keep {E : List (Ent × Ent)} (h : EntQ w b E L) (hk : KeepT w w') : EntQ w' b E L := ⟨h.1, fun j e z he hz => (h.2 j e z he hz).keep hk⟩
theorem OwQp.len (h : OwQp w b A n c L) : L.length = n := by
 obtain ⟨E, h1, h2, _⟩ := h
 rw [← h2.1, h1]
theorem OwQp.le (h : OwQp w b A n c L) : n ≤ c ∧ c ≤ maxLen := by
 obtain ⟨E, _, _, h3, h4, _⟩ := h
 exact ⟨h3, h4⟩
theorem OwQp.next (h : OwQp w b A n c L) (hb : Below w.heap.size w w') : OwQp w' b A n c L := by
 obtain ⟨E, h1, h2, h3, h4, h5⟩ := h
 refine ⟨E, h1, h2.next hb, h3, h4, h5.imp id ?_⟩
 rintro ⟨g, cs, k1, k2, k3, k4⟩
 exact ⟨g, cs, k1, k2, (hb.block g (Array.getElem?_eq_some_iff.1 k3).1).trans k3, k4⟩
theorem OwQp.base (h : OwQp w b A n c L) (hb : b' ≤ b) : OwQp w b' A n c L := by
 obtain ⟨E, h1, h2, h3, h4, h5⟩ := h
 refine ⟨E, h1, h2.base hb, h3, h4, h5.imp id ?_⟩
 rintro ⟨g, cs, k1, k2, k3, k4⟩
 exact ⟨g, cs, k1, Nat.le_trans hb k2, k3, k4⟩
theorem OwQp.keep (h : OwQp w b A n c L) (hk : KeepQ w w') : OwQp w' b A n c L := by
 obtain ⟨E, h1, h2, h3, h4, h5⟩ := h
 refine ⟨E, h1, h2.keep hk.1, h3, h4, h5.imp id ?_⟩
 rintro ⟨g, cs, k1, k2, k3, k4⟩
 exact ⟨g, cs, k1, k2, hk.2 _ _ _ k3, k4⟩
theorem OwQp.nil (w : World) (b : Nat) (A : Option Addr) : OwQp w b A 0 0 [] := ⟨[], rfl, ⟨rfl, fun j e z he _ => by simp at he⟩, Nat.le_refl _, Nat.zero_le _, .inl rfl⟩
theorem OwQs.p (h : OwQs w b A n c L) : OwQp w b A n c L := by
 rcases h.form with ⟨rfl, rfl, rfl⟩ | ⟨g, rfl, h1, h2, h3, h4⟩
 ·have := h.len
  rw [List.eq_nil_of_length_eq_zero this]
  exact OwQp.nil w b none
 ·obtain ⟨E, hr, hE, hel⟩ := h
  refine ⟨E, hE, hel, h3, h4, .inr ?_⟩
  rcases hr.2 with ⟨k1, _⟩ | ⟨g2, cap, cur, k1, k2, k3, k4, k5, k6, k7⟩
  ·cases k1
  ·injection k1 with k1 _ _
   injection k1 with k1
   injection k1 with k1 _ _
   subst k1
   refine ⟨g, cur, rfl, k2, k3, fun i v hv => ?_⟩
   have hi : i < (qcs E).length := by
    rcases Nat.lt_or_ge i (qcs E).length with h5 | h5
    ·exact h5
    ·rw [List.getElem?_eq_none h5] at hv; cases hv
   have hi2 : i < n * 4 := by rw [qcs_len, hE] at hi; exact hi
   rw [← k7, List.getElem?_take_of_lt hi2] at hv
   simpa using hv
theorem qcs_take (E : List (Ent × Ent)) : ∀ (k i : Nat) (v : Value), (qcs (E.take k))[i]? = some v → (qcs E)[i]? = some v := by
 induction E with
 | nil => intro k i v h; simpa using h
 | cons e E ih =>
   intro k i v h
   cases k with
   | zero => simp [qcs] at h
   | succ k =>
     rw [List.take_succ_cons, qcs_cons] at h
     rw [qcs_cons]
     rcases Nat.lt_or_ge i (qc e).length with h1 | h1
     ·rw [List.getElem?_append_left h1] at h ⊢
      exact h
     ·rw [List.getElem?_append_right h1] at h ⊢
      exact ih k _ v h
theorem EntQ.take {E : List (Ent × Ent)} (h : EntQ w b E L) (k : Nat) : EntQ w b (E.take k) (L.take k) := by
 refine ⟨by rw [List.length_take, List.length_take, h.1], fun j e z he hz => ?_⟩
 have hj : j < k := by
  rcases Nat.lt_or_ge j k with h1 | h1
  ·exact h1
  ·rw [List.getElem?_eq_none (by rw [List.length_take]; omega)] at he; cases he
 rw [List.getElem?_take_of_lt hj] at he hz
 exact h.2 j e z he hz
theorem OwQp.take (h : OwQp w b A n c L) {k : Nat} (hk : k ≤ n) : OwQp w b A k k (L.take k) := by
 obtain ⟨E, h1, h2, h3, h4, h5⟩ := h
 refine ⟨E.take k, by rw [List.length_take]; omega, h2.take k, Nat.le_refl _, by omega, ?_⟩
 rcases h5 with h5 | ⟨g, cs, k1, k2, k3, k4⟩
 ·exact .inl (by omega)
 ·exact .inr ⟨g, cs, k1, k2, k3, fun i v hv => k4 i v (qcs_take E k i v hv)⟩
theorem op_at (h : OwQp w b A n c L) {j : Nat} (hj : j < n) :
  ∃ (ad : Addr) (s : Bool) (A1 : Option Addr) (n1 c1 : Nat) (s' : Bool) (A1' : Option Addr) (n1' c1' : Nat) (x : Rat), A = some ad ∧ ad.block < w.heap.size ∧ w.cell? (ad.add (j * 4)) = some (.bool s) ∧ w.cell? ⟨(ad.add (j * 4)).block, (ad.add (j * 4)).off + 1, none⟩ = some (.slice A1 n1 c1) ∧ w.cell? ⟨(ad.add (j * 4)).block, (ad.add (j * 4)).off + 2, none⟩ = some (.bool s') ∧ w.cell? ⟨(ad.add (j * 4)).block, (ad.add (j * 4)).off + 3, none⟩ = some (.slice A1' n1' c1') ∧ OwQ w b s A1 n1 c1 s' A1' n1' c1' x ∧ Hid (L[j]? = some x) := by
 obtain ⟨E, h1, h2, h3, h4, h5⟩ := h
 rcases h5 with h5 | ⟨g, cs, rfl, k2, k3, k4⟩
 ·omega
 ·have hjE : j < E.length := by omega
  have hjL : j < L.length := by rw [← h2.1]; exact hjE
  have he := List.getElem?_eq_getElem hjE
  have hq := qcs_at E j _ he
  have hx := h2.2 j _ _ he (List.getElem?_eq_getElem hjL)
  have hc : ∀ i, i < 4 → ∀ v, (qc E[j])[i]? = some v → w.cell? ⟨g, j * 4 + i, none⟩ = some v := fun i hi v hv => by
   rw [cell_of_row w g _ _ _ _ k3]
   exact k4 _ v ((hq i hi).trans hv)
  exact ⟨_, _, _, _, _, _, _, _, _, _, rfl, (Array.getElem?_eq_some_iff.1 k3).1, by rw [add_base]; exact hc 0 (by omega) _ rfl, by rw [add_base]; exact hc 1 (by omega) _ rfl, by rw [add_base]; exact hc 2 (by omega) _ rfl, by rw [add_base]; exact hc 3 (by omega) _ rfl, hx, Lib.hid (List.getElem?_eq_getElem hjL)⟩
theorem OwQp.rd {N : Nat} (h : OwQp w b A n c L) (hN : ∀ x ∈ L, Zz.zl x.num ≤ N ∧ Zz.zl (x.den : Int) ≤ N) : RdQs w w.heap.size N A n c (L.map pr) := by
 refine ⟨by rw [List.length_map, h.len], h.le.1, h.le.2, fun j p hp => ?_⟩
 rw [List.getElem?_map] at hp
 rcases Nat.lt_or_ge j L.length with hj | hj
 ·obtain ⟨ad, s, A1, n1, c1, s', A1', n1', c1', x, e1, e2, a0, a1, a2, a3, hx, hL⟩ := op_at h (show j < n by rw [← h.len]; exact hj)
  rw [hL.out] at hp
  simp at hp
  subst hp
  have hs := hN x (List.mem_of_getElem? hL.out)
  exact ⟨ad, s, A1, n1, c1, s', A1', n1', c1', e1, e2, a0, a1, a2, a3, hx.num.rd, hx.den.rd, by rw [hx.num.len]; exact hs.1, by rw [hx.den.len]; exact hs.2⟩
 ·rw [List.getElem?_eq_none hj] at hp
  simp at hp
end
def Qs (N : Nat) (x : Rat) : Prop := Zz.zl x.num ≤ N ∧ Zz.zl (x.den : Int) ≤ N
section
variable {a b : Nat} {x y : Rat}
theorem Qs.mono (h : Qs a x) (hb : a ≤ b) : Qs b x := ⟨Nat.le_trans h.1 hb, Nat.le_trans h.2 hb⟩
theorem Qs.divInt {z d : Int} (hd : d ≠ 0) (h1 : Zz.zl z ≤ a) (h2 : Zz.zl d ≤ a) : Qs a (Rat.divInt z d) := ⟨Nat.le_trans (zl_qnum hd) h1, Nat.le_trans (zl_qden hd) h2⟩
theorem Qs.int {z : Int} (h : Zz.zl z ≤ a) (ha : 1 ≤ a) : Qs a (z : Rat) := ⟨h, show Zz.zl ((1 : Nat) : Int) ≤ a from Nat.le_trans (Zz.zl_small (by decide)) ha⟩
theorem Qs.zero (ha : 1 ≤ a) : Qs a 0 := ⟨by rw [show (0 : Rat).num = 0 from rfl, Zz.zl_zero]; exact Nat.zero_le _, Nat.le_trans (Zz.zl_small (by decide)) ha⟩
theorem Qs.one (ha : 1 ≤ a) : Qs a 1 := ⟨Nat.le_trans (Zz.zl_small (by decide)) ha, Nat.le_trans (Zz.zl_small (by decide)) ha⟩
theorem Qs.mul (h : Qs a x) (h' : Qs b y) : Qs (a + b) (x * y) := by
 rw [← qmul_val]
 refine Qs.divInt (Int.mul_ne_zero (qden_ne x) (qden_ne y)) ?_ ?_
 ·exact Nat.le_trans (Zz.zl_mul _ _) (Nat.add_le_add h.1 h'.1)
 ·exact Nat.le_trans (Zz.zl_mul _ _) (Nat.add_le_add h.2 h'.2)
theorem Qs.add (h : Qs a x) (h' : Qs b y) : Qs (a + b + 1) (x + y) := by
 rw [← qadd_val]
 refine Qs.divInt (Int.mul_ne_zero (qden_ne x) (qden_ne y)) ?_ ?_
 ·have e1 := Zz.zl_add (x.num * y.den) (y.num * x.den)
  have e2 := Zz.zl_mul x.num y.den
  have e3 := Zz.zl_mul y.num x.den
  have := h.1
  have := h.2
  have := h'.1
  have := h'.2
  omega
 ·have e2 := Zz.zl_mul x.den y.den
  have := h.2
  have := h'.2
  omega
theorem Qs.neg (h : Qs a x) : Qs a (-x) := ⟨by rw [Rat.neg_num, Zz.zl_neg]; exact h.1, by rw [Rat.neg_den]; exact h.2⟩
theorem Qs.inv (h : Qs a x) (h0 : x ≠ 0) : Qs a x⁻¹ := by
 rw [show x⁻¹ = Rat.divInt x.den x.num by conv => lhs; rw [← Rat.num_divInt_den x, Rat.inv_divInt]]
 exact Qs.divInt (fun e => h0 (Rat.num_eq_zero.1 e)) h.2 h.1
theorem Qs.div (h : Qs a x) (h' : Qs b y) (h0 : y ≠ 0) : Qs (a + b) (x / y) := by
 rw [Rat.div_def]
 exact h.mul (h'.inv h0)
end
def SzQ (N : Nat) (L : List Rat) : Prop := ∀ i, Qs N (Pq.co L i)
theorem SzQ.mem {N : Nat} {L : List Rat} (h : SzQ N L) : ∀ x ∈ L, Qs N x := fun x hx => by
 obtain ⟨i, _, rfl⟩ := Pq.mem_co hx
 exact h i
theorem SzQ.of {N : Nat} {L : List Rat} (h : ∀ x ∈ L, Qs N x) (hN : 1 ≤ N) : SzQ N L := fun i => by
 rcases Nat.lt_or_ge i L.length with hi | hi
 ·exact h _ (List.mem_of_getElem? (Pq.get_co hi))
 ·rw [Pq.co_ge hi]
  exact Qs.zero hN
theorem RdQs.sz {w : World} {B N : Nat} {A : Option Addr} {n c : Nat} {L : List (Int × Int)} (h : RdQs w B N A n c L) (hd : ∀ p ∈ L, p.2 ≠ 0) (hN : 1 ≤ N) : SzQ N (L.map qval) := SzQ.of (fun x hx => by
 obtain ⟨p, hp, rfl⟩ := List.mem_map.1 hx
 obtain ⟨j, hj⟩ := List.getElem?_of_mem hp
 obtain ⟨_, _, _, _, _, _, _, _, _, _, _, _, _, _, _, h1, h2, h3, h4⟩ := h.at_ j p hj
 exact Qs.divInt (hd p hp) (Nat.le_trans h1.len h3) (Nat.le_trans h2.len h4)) hN
def RetPq (f : Nat → Rat) (w : World) (e : Ending) (w' : World) : Prop :=
 ∃ (A : Option Addr) (n c : Nat) (M : List Rat), e = .returned (.slice A n c) ∧ OwQp w' w.heap.size A n c M ∧ Hid (Pq.IsP f M) ∧ Below w.heap.size w w'
end Go.Proofs.YtjnklbfhelbjgaaGreat
