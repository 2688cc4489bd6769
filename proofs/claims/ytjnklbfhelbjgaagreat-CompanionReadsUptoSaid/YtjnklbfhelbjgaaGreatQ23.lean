/- Integer polynomials as fractions; reference 09: degree, lead, by the lead. -/
import Derived.Test.YtjnklbfhelbjgaaGreatQ22
import Derived.Test.YtjnklbfhelbjgaaGreatQ12
import Derived.Test.YtjnklbfhelbjgaaGreatQ06
import Derived.Test.YtjnklbfhelbjgaaGreatQ20
import Derived.Test.YtjnklbfhelbjgaaGreatQ14
namespace Go.Proofs.YtjnklbfhelbjgaaGreat
open Go.RowKit Go.IntWalk
attribute [local go_sem ↓] Go.wp_at_zero Go.wp_at_succ
set_option maxRecDepth 100000 in
set_option maxHeartbeats 2000000 in
theorem rQInt_any {s : Bool} {A : Option Addr} {n c : Nat} {z : Int} {w : World} (h : RdZ w w.heap.size s A n c z) (hn : n ≤ 17592186044416) :
  Calls Tryz.prog 178 #[.agg #[.bool s, .slice A n c]] w (RetV4 (z : Rat) w) := by
 obtain ⟨W1, HW1⟩ : ∃ W, W = (w.alloc (.cells #[.bool s, .slice A n c] 25)).alloc (.cells #[.bool false, .slice none 0 0, .bool false, .slice none 0 0] 47) := ⟨_, rfl⟩
 have hb0 : Below w.heap.size w (w.alloc (.cells #[.bool s, .slice A n c] 25)) := (Below.refl _ _).alloc (Nat.le_refl _) _
 have hZ : ZC W1 w.heap.size s A n c := by rw [HW1]; exact (ZC.new w s A n c).alloc _
 have hR : QC W1 (w.heap.size + 1) false none 0 0 false none 0 0 := by rw [HW1]; simpa using QC.new (w.alloc (.cells #[.bool s, .slice A n c] 25)) false none 0 0 false none 0 0
 have hB : Below w.heap.size w W1 := by rw [HW1]; exact hb0.alloc hb0.size _
 have h1 := h.next hB
 have a0 := hZ.c0
 have a1 := hZ.c1
 rw [HW1] at a0 a1
 have HW1 := Lib.hid HW1
 clear hb0 hZ
 go_enter Tryz.func178, Tryz.ntmps178
 go_wp2_with fail
 rw [← HW1.out]
 clear HW1 a0 a1
 clear HW1
 refine (rINorm_any h1 hn).mono ?_
 rintro _ W2 ⟨s2, A2, n2, c2, y2, rfl, ho2, hy2, hb2⟩
 go_wp2_with fail
 refine (rIOf_any 1 (by decide) (by decide) W2).mono ?_
 rintro _ W3 ⟨s3, A3, n3, c3, y3, rfl, ho3, hy3, hb3⟩
 have hb13 := hb2.trans (hb3.mono hb2.size)
 have hR3 := hR.next hb13
 have hB3 := hB.trans (hb13.mono hB.size)
 have ho : OwQ W3 w.heap.size s2 A2 n2 c2 s3 A3 n3 c3 (z : Rat) := ⟨by have := (ho2.next hb3).base hB.size; rw [hy2.out] at this; exact this, by have := ho3.base (b' := w.heap.size) (Nat.le_trans hB.size hb2.size); rw [hy3.out] at this; exact this⟩
 have r0 := hR3.c0
 have r1 := hR3.c1
 have r2 := hR3.c2
 have r3 := hR3.c3
 have f0 := hR3.fz 0
 have f1 := hR3.fz 1
 have f2 := hR3.fz 2
 have f3 := hR3.fz 3
 have HR9 := Lib.hid (hR3.store s2 A2 n2 c2 s3 A3 n3 c3)
 have HO9 := Lib.hid (ho.keep (keep_putQ hR3 s2 A2 n2 c2 s3 A3 n3 c3))
 have HB9 := Lib.hid (below_putQ hB3 (Nat.le_succ w.heap.size) s2 A2 n2 c2 s3 A3 n3 c3)
 unfold putQ at HR9 HB9 HO9
 clear hR hR3 hB hB3 hb2 hb3 hb13 h1 h ho ho2 ho3 hy2 hy3
 go_wp2_with fail
 generalize (((W3.setCell ⟨w.heap.size + 1, 0, none⟩ (.bool s2)).setCell ⟨w.heap.size + 1, 1, none⟩ (.slice A2 n2 c2)).setCell ⟨w.heap.size + 1, 2, none⟩ (.bool s3)).setCell ⟨w.heap.size + 1, 3, none⟩ (.slice A3 n3 c3) = W9 at *
 have z0 := HR9.out.c0
 have z1 := HR9.out.c1
 have z2 := HR9.out.c2
 have z3 := HR9.out.c3
 exact bodyPost_ret (by simp [results, Tryz.results178, go_sem, z0, z1, z2, z3]) rfl ⟨_, _, _, _, _, _, _, _, (z : Rat), rfl, HO9.out, Lib.hid rfl, HB9.out⟩
set_option maxHeartbeats 400000 in
theorem rqDegree_any {N : Nat} {A : Option Addr} {n c : Nat} {L : List (Int × Int)} {w : World} (h : RdQs w w.heap.size N A n c L) (hd : ∀ p ∈ L, p.2 ≠ 0) (hn : n ≤ 1048576) (hN : N ≤ 1000000000000) :
  Calls Tryz.prog 105 #[.slice A n c] w (RetK (((nq L).length : Int) - 1) w) := by
 have HLEN := Lib.hid h.len
 go_enter Tryz.func105, Tryz.ntmps105
 go_wp2_with fail
 refine (rqnorm_any h hd hn hN).mono ?_
 rintro _ W2 ⟨A2, n2, c2, M2, rfl, ho2, hM2, hb2⟩
 have HM := Lib.hid (show M2 = nq L from hM2.out.nrm)
 have hl := ho2.len
 have hn2 : n2 ≤ 1048576 := by rw [← hl, HM.out]; exact Nat.le_trans (nq_len L) (by rw [HLEN.out]; exact hn)
 have HL := Lib.hid (show ((nq L).length : Int) - 1 = (n2 : Int) - 1 by rw [← HM.out, hl])
 have hw : IntKind.i64.wrap ((n2 : Int) - 1) = (n2 : Int) - 1 := by rw [IntWalk.i64_in _ (by omega)]
 clear hl
 go_wp2
 go_ret
 exact ⟨_, rfl, Lib.hid HL.out.symm, hb2⟩
set_option maxRecDepth 100000 in
set_option maxHeartbeats 2000000 in
theorem rqLead_any {N : Nat} {A : Option Addr} {n c : Nat} {L : List (Int × Int)} {w : World} (h : RdQs w w.heap.size N A n c L) (hd : ∀ p ∈ L, p.2 ≠ 0) (hn : n ≤ 1048576) (hN : N ≤ 1000000000000) (h0 : 0 < (nq L).length) :
  Calls Tryz.prog 158 #[.slice A n c] w (RetV4 (Pq.co (L.map qval) ((nq L).length - 1)) w) := by
 obtain ⟨W1, HW1⟩ : ∃ W, W = w.alloc (.cells #[.bool false, .slice none 0 0, .bool false, .slice none 0 0] 47) := ⟨_, rfl⟩
 have hR : QC W1 w.heap.size false none 0 0 false none 0 0 := by rw [HW1]; exact QC.new w false none 0 0 false none 0 0
 have hB : Below w.heap.size w W1 := by rw [HW1]; exact (Below.refl _ _).alloc (Nat.le_refl _) _
 have HLEN := Lib.hid h.len
 have HW1 := Lib.hid HW1
 have h1 := h.next hB
 go_enter Tryz.func158, Tryz.ntmps158
 go_wp2_with fail
 rw [← HW1.out]
 clear HW1
 clear HW1
 refine (rqnorm_any h1 hd hn hN).mono ?_
 rintro _ W2 ⟨A2, n2, c2, M2, rfl, ho2, hM2, hb2⟩
 have HM := Lib.hid (show M2 = nq L from hM2.out.nrm)
 have hl := ho2.len
 obtain ⟨m, hm⟩ : ∃ m, n2 = m + 1 := ⟨n2 - 1, by rw [← hl, HM.out]; omega⟩
 have hm1 : m ≤ 1048576 := by
  have : n2 ≤ 1048576 := by rw [← hl, HM.out]; exact Nat.le_trans (nq_len L) (by rw [HLEN.out]; exact hn)
  omega
 have HLM := Lib.hid (show (nq L).length - 1 = m by rw [← HM.out, hl, hm]; rfl)
 have hw : IntKind.i64.wrap (((m + 1 : Nat) : Int) - 1) = (m : Int) := by rw [IntWalk.i64_in _ (by omega)]; omega
 have hidx : ((m + 1 : Nat) : Int) - 1 = (m : Int) := by omega
 have hmi : (m : Int) < ((m + 1 : Nat) : Int) := by omega
 clear hl
 subst hm
 obtain ⟨ad, s3, A3, n3, c3, s4, A4, n4, c4, x, rfl, hbk, hx0, hx1, hx2, hx3, ho3, hx⟩ := op_at ho2 (show m < m + 1 by omega)
 have HX := Lib.hid (show x = Pq.co (L.map qval) ((nq L).length - 1) by
  rw [HLM.out, ← co_nq, ← HM.out, Pq.co_get hx.out])
 have hR2 := hR.next hb2
 have hB2 := hB.trans (hb2.mono hB.size)
 have r0 := hR2.c0
 have r1 := hR2.c1
 have r2 := hR2.c2
 have r3 := hR2.c3
 have f0 := hR2.fz 0
 have f1 := hR2.fz 1
 have f2 := hR2.fz 2
 have f3 := hR2.fz 3
 have HR9 := Lib.hid (hR2.store s3 A3 n3 c3 s4 A4 n4 c4)
 have HO9 := Lib.hid ((ho3.base (b' := w.heap.size) hB.size).keep (keep_putQ hR2 s3 A3 n3 c3 s4 A4 n4 c4))
 have HB9 := Lib.hid (below_putQ hB2 (Nat.le_refl w.heap.size) s3 A3 n3 c3 s4 A4 n4 c4)
 unfold putQ at HR9 HB9 HO9
 clear hR hR2 hB hB2 hb2 h1 h ho2 ho3
 go_wp2_with fail
 generalize (((W2.setCell ⟨w.heap.size, 0, none⟩ (.bool s3)).setCell ⟨w.heap.size, 1, none⟩ (.slice A3 n3 c3)).setCell ⟨w.heap.size, 2, none⟩ (.bool s4)).setCell ⟨w.heap.size, 3, none⟩ (.slice A4 n4 c4) = W9 at *
 have z0 := HR9.out.c0
 have z1 := HR9.out.c1
 have z2 := HR9.out.c2
 have z3 := HR9.out.c3
 exact bodyPost_ret (by simp [results, Tryz.results158, go_sem, z0, z1, z2, z3]) rfl ⟨_, _, _, _, _, _, _, _, x, rfl, HO9.out, HX, HB9.out⟩
set_option maxRecDepth 100000 in
set_option maxHeartbeats 2000000 in
theorem rQInv_any {s s' : Bool} {A A' : Option Addr} {n c n' c' : Nat} {x : Rat} {w : World} (h : RdZ w w.heap.size s A n c x.num) (h' : RdZ w w.heap.size s' A' n' c' (x.den : Int)) (hn : n ≤ 1000000000000) (hn' : n' ≤ 1000000000000) (h0 : x ≠ 0) :
  Calls Tryz.prog 200 #[.agg #[.bool s, .slice A n c, .bool s', .slice A' n' c']] w (RetV4 x⁻¹ w) := by
 obtain ⟨W1, HW1⟩ : ∃ W, W = (w.alloc (.cells #[.bool s, .slice A n c, .bool s', .slice A' n' c'] 47)).alloc (.cells #[.bool false, .slice none 0 0, .bool false, .slice none 0 0] 47) := ⟨_, rfl⟩
 obtain ⟨hX, hR, hB⟩ := q_box1 w s A n c s' A' n' c' W1 HW1
 have a0 := hX.c0
 have a1 := hX.c1
 have a2 := hX.c2
 have a3 := hX.c3
 rw [HW1] at a0 a1 a2 a3
 have h1 := h.next hB
 have h2 := h'.next hB
 have HW1 := Lib.hid HW1
 have HIV := Lib.hid (show x⁻¹ = Rat.divInt x.den x.num by conv => lhs; rw [← Rat.num_divInt_den x, Rat.inv_divInt])
 go_enter Tryz.func200, Tryz.ntmps200
 go_wp2_with fail
 rw [← HW1.out]
 clear HW1 a0 a1 a2 a3
 clear HW1
 refine (rQMake_any h2 h1 hn' hn (fun e => h0 (Rat.num_eq_zero.1 e))).mono ?_
 rintro _ W2 ⟨s2, A2, n2, c2, s3, A3, n3, c3, y, rfl, ho, hy, hb2⟩
 have hR2 := hR.next hb2
 have hB2 := hB.trans (hb2.mono hB.size)
 have r0 := hR2.c0
 have r1 := hR2.c1
 have r2 := hR2.c2
 have r3 := hR2.c3
 have f0 := hR2.fz 0
 have f1 := hR2.fz 1
 have f2 := hR2.fz 2
 have f3 := hR2.fz 3
 have HR9 := Lib.hid (hR2.store s2 A2 n2 c2 s3 A3 n3 c3)
 have HO9 := Lib.hid ((ho.base (b' := w.heap.size) hB.size).keep (keep_putQ hR2 s2 A2 n2 c2 s3 A3 n3 c3))
 have HB9 := Lib.hid (below_putQ hB2 (show w.heap.size ≤ w.heap.size + 1 by omega) s2 A2 n2 c2 s3 A3 n3 c3)
 unfold putQ at HR9 HB9 HO9
 clear hX hR hR2 hB hB2 hb2 h1 h2 h h' ho
 go_wp2_with fail
 generalize (((W2.setCell ⟨w.heap.size + 1, 0, none⟩ (.bool s2)).setCell ⟨w.heap.size + 1, 1, none⟩ (.slice A2 n2 c2)).setCell ⟨w.heap.size + 1, 2, none⟩ (.bool s3)).setCell ⟨w.heap.size + 1, 3, none⟩ (.slice A3 n3 c3) = W9 at *
 have z0 := HR9.out.c0
 have z1 := HR9.out.c1
 have z2 := HR9.out.c2
 have z3 := HR9.out.c3
 exact bodyPost_ret (by simp [results, Tryz.results200, go_sem, z0, z1, z2, z3]) rfl ⟨_, _, _, _, _, _, _, _, y, rfl, HO9.out, Lib.hid (by rw [hy.out, HIV.out]), HB9.out⟩
end Go.Proofs.YtjnklbfhelbjgaaGreat

/- Reference 05: the quotient; reference 09: times a power of x. -/
namespace Go.Proofs.YtjnklbfhelbjgaaGreat
open Go.RowKit Go.IntWalk
attribute [local go_sem ↓] Go.wp_at_zero Go.wp_at_succ
set_option maxRecDepth 100000 in
set_option maxHeartbeats 4000000 in
theorem rQQuo_any {N : Nat} {s1 s2 s3 s4 : Bool} {A1 A2 A3 A4 : Option Addr} {n1 c1 n2 c2 n3 c3 n4 c4 : Nat} {x y : Rat} {w : World} (h1 : RdZ w w.heap.size s1 A1 n1 c1 x.num) (h2 : RdZ w w.heap.size s2 A2 n2 c2 (x.den : Int)) (h3 : RdZ w w.heap.size s3 A3 n3 c3 y.num) (h4 : RdZ w w.heap.size s4 A4 n4 c4 (y.den : Int)) (hn : n1 ≤ N ∧ n2 ≤ N ∧ n3 ≤ N ∧ n4 ≤ N) (hN : N ≤ 200000000000) (h0 : y ≠ 0) :
  Calls Tryz.prog 157 #[.agg #[.bool s1, .slice A1 n1 c1, .bool s2, .slice A2 n2 c2], .agg #[.bool s3, .slice A3 n3 c3, .bool s4, .slice A4 n4 c4]] w (RetV4 (x / y) w) := by
 obtain ⟨W1, HW1⟩ : ∃ W, W = ((w.alloc (.cells #[.bool s1, .slice A1 n1 c1, .bool s2, .slice A2 n2 c2] 47)).alloc (.cells #[.bool s3, .slice A3 n3 c3, .bool s4, .slice A4 n4 c4] 47)).alloc (.cells #[.bool false, .slice none 0 0, .bool false, .slice none 0 0] 47) := ⟨_, rfl⟩
 obtain ⟨hX, hY, hR, hB⟩ := q_boxes2 w s1 s2 s3 s4 A1 A2 A3 A4 n1 c1 n2 c2 n3 c3 n4 c4 W1 HW1
 have hlr := hR.lt
 have HCE := Lib.hid (show ∀ W : World, Below (w.heap.size + 1 + 1) W1 W → (W.cell? ⟨w.heap.size, 0, none⟩ = some (.bool s1) ∧ W.cell? ⟨w.heap.size, 1, none⟩ = some (.slice A1 n1 c1) ∧ W.cell? ⟨w.heap.size, 2, none⟩ = some (.bool s2) ∧ W.cell? ⟨w.heap.size, 3, none⟩ = some (.slice A2 n2 c2)) ∧ (W.cell? ⟨w.heap.size + 1, 0, none⟩ = some (.bool s3) ∧ W.cell? ⟨w.heap.size + 1, 1, none⟩ = some (.slice A3 n3 c3) ∧ W.cell? ⟨w.heap.size + 1, 2, none⟩ = some (.bool s4) ∧ W.cell? ⟨w.heap.size + 1, 3, none⟩ = some (.slice A4 n4 c4)) from fun W hb => ⟨⟨(hb.cell (p := ⟨w.heap.size, 0, none⟩) (by simp; omega)).trans hX.c0, (hb.cell (p := ⟨w.heap.size, 1, none⟩) (by simp; omega)).trans hX.c1, (hb.cell (p := ⟨w.heap.size, 2, none⟩) (by simp; omega)).trans hX.c2, (hb.cell (p := ⟨w.heap.size, 3, none⟩) (by simp; omega)).trans hX.c3⟩, (hb.cell (p := ⟨w.heap.size + 1, 0, none⟩) (by simp)).trans hY.c0, (hb.cell (p := ⟨w.heap.size + 1, 1, none⟩) (by simp)).trans hY.c1, (hb.cell (p := ⟨w.heap.size + 1, 2, none⟩) (by simp)).trans hY.c2, (hb.cell (p := ⟨w.heap.size + 1, 3, none⟩) (by simp)).trans hY.c3⟩)
 have HZ := Lib.hid (show ∀ W : World, Below W1.heap.size W1 W → RdZ W W.heap.size s1 A1 n1 c1 x.num ∧ RdZ W W.heap.size s2 A2 n2 c2 (x.den : Int) ∧ RdZ W W.heap.size s3 A3 n3 c3 y.num ∧ RdZ W W.heap.size s4 A4 n4 c4 (y.den : Int) from fun W hb => ⟨(h1.next hB).next hb, (h2.next hB).next hb, (h3.next hB).next hb, (h4.next hB).next hb⟩)
 have HYS := Lib.hid (show Qs N y from ⟨Nat.le_trans h3.len hn.2.2.1, Nat.le_trans h4.len hn.2.2.2⟩)
 have HR := Lib.hid (And.intro hR hB)
 have hle : w.heap.size + 1 + 1 ≤ W1.heap.size := Nat.le_of_lt hlr
 have HW1 := Lib.hid HW1
 clear hX hY hR hB h1 h2 h3 h4
 go_enter Tryz.func157, Tryz.ntmps157
 go_upto_region 1 with fail
 rw [← HW1.out]
 clear HW1
 clear HW1
 have HBD := Lib.hid (Below.refl W1.heap.size W1).drew
 obtain ⟨⟨a0, a1, a2, a3⟩, b0, b1, b2, b3⟩ := HCE.out W1 (Below.refl _ _)
 go_region_held3 (fun w' => (w'.cell? ⟨w.heap.size, 0, none⟩ = some (.bool s1) ∧ w'.cell? ⟨w.heap.size, 1, none⟩ = some (.slice A1 n1 c1) ∧ w'.cell? ⟨w.heap.size, 2, none⟩ = some (.bool s2) ∧ w'.cell? ⟨w.heap.size, 3, none⟩ = some (.slice A2 n2 c2)) ∧ (w'.cell? ⟨w.heap.size + 1, 0, none⟩ = some (.bool s3) ∧ w'.cell? ⟨w.heap.size + 1, 1, none⟩ = some (.slice A3 n3 c3) ∧ w'.cell? ⟨w.heap.size + 1, 2, none⟩ = some (.bool s4) ∧ w'.cell? ⟨w.heap.size + 1, 3, none⟩ = some (.slice A4 n4 c4)))
  (first | exact HCE.out _ (HB3.out.mono hle) | exact HCE.out _ (HB2.out.mono hle) | exact HCE.out _ (HBD.out.mono hle) | exact HCE.out _ (below_put4 (HB3.out.mono hle) (Nat.le_refl _) _ _ _ _))
  (first
   | (go_at_call 124; refine (rQMul_any (N := N) (HZ.out _ HB2.out).1 (HZ.out _ HB2.out).2.1 ho2.num.rd ho2.den.rd ⟨hn.1, hn.2.1, HIN.out.1, HIN.out.2⟩ hN (by simpa using x.den_nz) (by simpa using i.den_nz)).mono ?_; rintro _ W3 ⟨s7, A7, n7, c7, s8, A8, n8, c8, q, rfl, ho3, hq, hb3⟩; have HB3 := Lib.hid (HB2.out.trans (hb3.mono HB2.out.size)); have HR3 := Lib.hid (HR.out.1.next HB3.out); have r0 := HR3.out.c0; have r1 := HR3.out.c1; have r2 := HR3.out.c2; have r3 := HR3.out.c3; have f0 := HR3.out.fz 0; have f1 := HR3.out.fz 1; have f2 := HR3.out.fz 2; have f3 := HR3.out.fz 3)
   | (go_at_call 200; refine (rQInv_any (HZ.out _ HBD.out).2.2.1 (HZ.out _ HBD.out).2.2.2 (by omega) (by omega) h0).mono ?_; rintro _ W2 ⟨s5, A5, n5, c5, s6, A6, n6, c6, i, rfl, ho2, hi, hb2⟩; have HB2 := Lib.hid (HBD.out.trans hb2); have HIN := Lib.hid (show n5 ≤ N ∧ n6 ≤ N from by { have h9 : Qs N i := by { rw [hi.out]; exact HYS.out.inv h0 }; exact ⟨by { rw [ho2.num.len]; exact h9.1 }, by { rw [ho2.den.len]; exact h9.2 }⟩ })))
 all_goals
  have HV := Lib.hid (show q = x / y by rw [hq.out, Rat.num_divInt_den, Rat.num_divInt_den, hi.out, Rat.div_def])
  have HR9 := Lib.hid (HR3.out.store s7 A7 n7 c7 s8 A8 n8 c8)
  have HO9 := Lib.hid ((ho3.base (b' := w.heap.size) (Nat.le_trans HR.out.2.size HB2.out.size)).keep (keep_putQ HR3.out s7 A7 n7 c7 s8 A8 n8 c8))
  have HB9 := Lib.hid (below_putQ (HR.out.2.trans (HB3.out.mono HR.out.2.size)) (show w.heap.size ≤ w.heap.size + 1 + 1 by omega) s7 A7 n7 c7 s8 A8 n8 c8)
  unfold putQ at HR9 HO9 HB9
  clear a0 a1 a2 a3 b0 b1 b2 b3 r0 r1 r2 r3 f0 f1 f2 f3 hb2 hb3 ho2 ho3
  go_wp2_with fail
  generalize (((W3.setCell ⟨w.heap.size + 1 + 1, 0, none⟩ (.bool s7)).setCell ⟨w.heap.size + 1 + 1, 1, none⟩ (.slice A7 n7 c7)).setCell ⟨w.heap.size + 1 + 1, 2, none⟩ (.bool s8)).setCell ⟨w.heap.size + 1 + 1, 3, none⟩ (.slice A8 n8 c8) = W9 at *
  have z0 := HR9.out.c0
  have z1 := HR9.out.c1
  have z2 := HR9.out.c2
  have z3 := HR9.out.c3
  exact bodyPost_ret (by simp [results, Tryz.results157, go_sem, z0, z1, z2, z3]) rfl ⟨_, _, _, _, _, _, _, _, q, rfl, HO9.out, HV, HB9.out⟩
theorem co_shiftq (k : Nat) (L : List Rat) (i : Nat) : Pq.co (List.replicate k 0 ++ L) i = if i < k then 0 else Pq.co L (i - k) := by
 unfold Pq.co
 rw [List.getD_eq_getElem?_getD]
 split
 ·rw [List.getElem?_append_left (by simpa using ‹i < k›)]
  simp [‹i < k›]
 ·rw [List.getElem?_append_right (by simp; omega), List.length_replicate, List.getD_eq_getElem?_getD]
set_option maxRecDepth 100000 in
set_option maxHeartbeats 4000000 in
theorem rqshift_any {b N : Nat} {A : Option Addr} {n c : Nat} {L : List Rat} {w : World} (k : Nat) (h : OwQp w b A n c L) (hb : b ≤ w.heap.size) (hS : ∀ x ∈ L, Qs N x) (hn : n ≤ 1048576) (hk : n + k ≤ 1048576) (hN : N ≤ 1000000000000) (h1N : 1 ≤ N) :
  Calls Tryz.prog 132 #[.slice A n c, .int .i64 k] w (RetPq (fun i => if i < k then 0 else Pq.co L (i - k)) w) := by
 obtain ⟨i0, hi0, hz0, hz1, hz2⟩ := info_parts infoQ
 have hmk := make_qs Tryz.underlying73 k (by omega)
 have hZ0 := QB.made w k
 have hB0 := (Below.refl w.heap.size w).alloc (Nat.le_refl _) (.cells (qcs (List.replicate k zq)).toArray 47)
 have HA := Lib.hid (And.intro h (And.intro hS hb))
 have hkb : k ≤ 1048576 := by omega
 clear h hS hb
 go_enter Tryz.func132, Tryz.ntmps132
 go_wp2_with fail
 generalize w.alloc (.cells (qcs (List.replicate k zq)).toArray 47) = W1 at *
 obtain ⟨gq, hgq⟩ : ∃ g, g = w.heap.size := ⟨_, rfl⟩
 rw [← hgq] at hZ0 ⊢
 have HGQ := Lib.hid hgq
 clear hmk hgq
 go_loopw [11] (fun iv wr => ∃ (j : Nat) (E : List (Ent × Ent)), iv = .int .i64 j ∧ j ≤ k ∧ QB wr gq E ∧ Hid (E.length = k) ∧ EntJ wr b E (fun _ => 0) j ∧ Below w.heap.size w wr) (fun iv _ => k - (intOf iv).toNat)
 case atStart => exact ⟨0, _, rfl, Nat.zero_le _, hZ0, Lib.hid (by simp), EntJ.zero _ _ _ _, hB0⟩
 case round =>
  clear hZ0 hB0
  obtain ⟨j, E, rfl, hj, hZ, hEl, hE, hB⟩ := hrel
  by_cases hjk : j = k
  ·have hkj := hjk.symm
   subst hkj
   clear hjk
   obtain ⟨E0, hE0, hEn, hEl0, hnil, hcell⟩ := (HA.out.1.next hB).news
   have HEN := Lib.hid (And.intro hEn (And.intro hEl0 (And.intro hnil hcell)))
   have HRW := Lib.hid (show wr.ownsRow b 47 4 (.slice (some ⟨gq, 0, none⟩) k k) k (qcs E) from
    ⟨by rw [qcs_len, hEl.out], .inr ⟨gq, k, _, rfl, by rw [HGQ.out]; exact HA.out.2.2, hZ, Nat.le_refl _, by unfold maxLen; omega, by rw [List.size_toArray, qcs_len, hEl.out], by rw [List.take_of_length_le (by simp [qcs_len, hEl.out])]⟩⟩)
   have HE := Lib.hid (show EntQ wr b E (List.replicate k 0) from ⟨by rw [hEl.out, List.length_replicate], fun t e x he hx => by
    have ht : t < k := by
     rcases Nat.lt_or_ge t k with h1 | h1
     ·exact h1
     ·rw [List.getElem?_eq_none (by rw [hEl.out]; exact h1)] at he; cases he
    rw [List.eq_of_mem_replicate (List.mem_of_getElem? hx)]
    exact hE t e he ht⟩)
   have HB := Lib.hid hB
   clear hZ hE hB hEn hEl0 hnil hcell
   have hbw : b ≤ wr.heap.size := Nat.le_trans HA.out.2.2 HB.out.size
   go_wp2_with (at_builtin; refine wpList_append_sl rfl _ _ 73 rfl b 47 i0 (.agg #[.bool false, .slice none 0 0, .bool false, .slice none 0 0]) 4 64 Tryz.underlying73 hi0 hz0 hz1 hz2 rfl (by decide) _ _ _ rfl HRW.out A n c (qcs E0) rfl HEN.out.2.1 HEN.out.2.2.1 HEN.out.2.2.2 (qcs_one' E0) (by unfold maxLen; omega) (by omega) hbw ?_; intro A1 c1 w1 hown1 hgrow)
   have hb1 : Below w.heap.size w w1 := HB.out.grown hgrow HB.out.size (fun t e => by cases e; exact Nat.le_of_eq HGQ.out.symm)
   have hkT : KeepT wr w1 := KeepT.grown HRW.out (by decide) hgrow
   have hent : EntQ w1 b (E ++ E0) (List.replicate k 0 ++ L) := by
    refine ⟨by rw [List.length_append, List.length_append, HE.out.1, HEN.out.1.1], fun t e x he hx => ?_⟩
    have hl1 : (List.replicate k (0 : Rat)).length = E.length := by rw [List.length_replicate, hEl.out]
    rcases Nat.lt_or_ge t E.length with h1 | h1
    ·rw [List.getElem?_append_left h1] at he
     rw [List.getElem?_append_left (by rw [hl1]; exact h1)] at hx
     exact (HE.out.2 t e x he hx).keep hkT
    ·rw [List.getElem?_append_right h1] at he
     rw [List.getElem?_append_right (by rw [hl1]; exact h1), hl1] at hx
     exact (HEN.out.1.2 _ e x he hx).keep hkT
   have hO1 : OwQs w1 b A1 (k + n) c1 (List.replicate k 0 ++ L) := ⟨E ++ E0, by rw [qcs_append]; exact hown1, by rw [List.length_append, hEl.out, hE0], hent⟩
   have HO := Lib.hid (hO1.p.rd (N := N) (fun x hx => by
    rcases List.mem_append.1 hx with h1 | h1
    ·rw [List.eq_of_mem_replicate h1]; exact Qs.zero h1N
    ·exact HA.out.2.1 x h1))
   have HB1 := Lib.hid hb1
   clear hown1 hgrow hO1 hb1 hent hkT
   refine (rqnorm_own HO.out (by omega) hN).mono ?_
   rintro _ W4 ⟨A4, n4, c4, M4, rfl, ho4, hM4, hb4⟩
   go_wp2
   go_ret
   exact ⟨_, _, _, M4, rfl, ho4.base HB1.out.size, Lib.hid (hM4.out.congr fun i => co_shiftq k L i), HB1.out.trans (hb4.mono HB1.out.size)⟩
  ·have hjl : j < k := by omega
   have hjli : (j : Int) < (k : Int) := by omega
   clear hjk
   have HZ := Lib.hid hZ
   have HE := Lib.hid hE
   clear hZ hE
   go_wp2_with fail
   refine (rQOf_any 0 (by decide) (by decide) wr).mono ?_
   rintro _ W2 ⟨s5, A5, n5, c5, s6, A6, n6, c6, q, rfl, ho5, hq, hb2⟩
   obtain rfl : q = 0 := hq.out
   have hB2 := hB.trans (hb2.mono hB.size)
   have hZ4 := HZ.out.next hb2
   obtain ⟨e, he⟩ : ∃ e, E[j]? = some e := ⟨E[j]'(by rw [hEl.out]; exact hjl), List.getElem?_eq_getElem _⟩
   obtain ⟨k0, k1, k2, k3⟩ := hZ4.cells he
   have f0 := hZ4.frozen (j * 4)
   have f1 := hZ4.frozen (j * 4 + 1)
   have f2 := hZ4.frozen (j * 4 + 2)
   have f3 := hZ4.frozen (j * 4 + 3)
   have HZ5 := Lib.hid (hZ4.store j ((s5, A5, n5, c5), (s6, A6, n6, c6)))
   have HE5 := Lib.hid ((HE.out.next hb2).store (e := ((s5, A5, n5, c5), (s6, A6, n6, c6))) hZ4 (ho5.base (b' := b) (Nat.le_trans HA.out.2.2 hB.size)))
   have HB5 := Lib.hid (below_setQ hB2 (Nat.le_of_eq HGQ.out.symm) j ((s5, A5, n5, c5), (s6, A6, n6, c6)))
   unfold setQ at HZ5 HE5 HB5
   clear hb2 hB hB2 hZ4 he ho5 hq
   go_wp2_with fail
   go_roundw
   case rel => exact ⟨j + 1, E.set j ((s5, A5, n5, c5), (s6, A6, n6, c6)), by go_num, by omega, HZ5.out, Lib.hid (by rw [List.length_set]; exact hEl.out), HE5.out, HB5.out⟩
   case measure => simp [intOf]; omega
theorem rqLead_own {N : Nat} {A : Option Addr} {n c : Nat} {M : List Rat} {w : World} (h : RdQs w w.heap.size N A n c (M.map pr)) (hz : Pq.Nz M) (hn : n ≤ 1048576) (hN : N ≤ 1000000000000) (h0 : 0 < M.length) :
  Calls Tryz.prog 158 #[.slice A n c] w (RetV4 (Pq.co M (M.length - 1)) w) := by
 have e : nq (M.map pr) = M := by unfold nq; rw [map_qval_pr, Pq.nrm_id hz]
 have := rqLead_any h (fun p hp => by
  obtain ⟨x, _, rfl⟩ := List.mem_map.1 hp
  exact pr_ne x) hn hN (by rw [e]; exact h0)
 rwa [map_qval_pr, e] at this
theorem pr_ok (M : List Rat) : ∀ p ∈ M.map pr, p.2 ≠ 0 := fun p hp => by
 obtain ⟨x, _, rfl⟩ := List.mem_map.1 hp
 exact pr_ne x
end Go.Proofs.YtjnklbfhelbjgaaGreat

/- qpoly.norms at bool. -/
namespace Go.Proofs.YtjnklbfhelbjgaaGreat
open Go.RowKit Go.IntWalk
attribute [local go_sem ↓] Go.wp_at_zero Go.wp_at_succ
def RetBE (Φ : Bool → Int → Prop) (w : World) (e : Ending) (w' : World) : Prop :=
 ∃ (v : Bool) (kk : Int), e = .returned (.tuple #[.bool v, .int .i64 kk]) ∧ Hid (Φ v kk) ∧ Below w.heap.size w w'
set_option maxRecDepth 100000 in
set_option maxHeartbeats 8000000 in
theorem norms_bool {f N K : Nat} {A : Option Addr} {n c : Nat} {LL : List (List (Int × Int))} {w : World} {Φ : Bool → Int → Prop} (h : RdPs w w.heap.size N K A n c LL) (hn : n ≤ 1048576) (hK : K ≤ 1048576) (hN : N ≤ 1000000000000) (h1N : 1 ≤ N) (heg : ∀ args w, (callFunc f args).run Tryz.prog w = .ok (.enter f args) w)
  (hdo : (∀ L ∈ LL, ∀ p ∈ L, p.2 ≠ 0) → ∀ (W : World) (A' : Option Addr) (c' : Nat), Below w.heap.size w W → OwPs W w.heap.size A' n c' (LL.map nq) → Calls Tryz.prog f #[.slice A' n c'] W (RetBE Φ W)) :
  Calls Tryz.prog 147 #[.slice A n c, .func (.func f) #[] #[]] w fun e w' => ((∀ L ∈ LL, ∀ p ∈ L, p.2 ≠ 0) ∧ RetBE Φ w e w') ∨ ((∃ L ∈ LL, ∃ p ∈ L, p.2 = 0) ∧ e = .returned (.tuple #[.bool false, .int .i64 6]) ∧ Below w.heap.size w w') := by
 have HD := Lib.hid hdo
 have HLEN := Lib.hid h.len
 obtain ⟨i0, hi, hz0, hz1, hz2⟩ := info_parts infoPoly
 clear hdo
 go_enter Tryz.func147, Tryz.ntmps147
 go_wp2_with fail
 go_loopw [7, 14] (fun ov iv wr => ∃ (j c' : Nat) (A' : Option Addr) (M : List (List Rat)), ov = .slice A' j c' ∧ iv = .int .i64 j ∧ j ≤ n ∧ OwPs wr w.heap.size A' j c' M ∧ Hid (M = (LL.take j).map nq) ∧ Hid (∀ (i : Nat) (L : List (Int × Int)), i < j → LL[i]? = some L → ∀ p ∈ L, p.2 ≠ 0) ∧ Below w.heap.size w wr) (fun _ iv _ => n - (intOf iv).toNat)
 case atStart => exact ⟨0, 0, none, [], rfl, rfl, Nat.zero_le _, OwPs.nil _ _, Lib.hid rfl, Lib.hid fun i p hi => absurd hi (Nat.not_lt_zero _), Below.refl _ _⟩
 case round =>
  obtain ⟨j, c', A', M, rfl, rfl, hj, ho, hM, hne, hB⟩ := hrel
  by_cases hjn : j = n
  ·subst hjn
   have HALL := Lib.hid (show ∀ L ∈ LL, ∀ p ∈ L, p.2 ≠ 0 from fun L hp => by
    obtain ⟨i, hi, e⟩ := List.mem_iff_getElem.1 hp
    exact hne.out i L (by rw [← HLEN.out]; exact hi) (by rw [List.getElem?_eq_getElem hi, e]))
   have HO := Lib.hid (show OwPs wr w.heap.size A' j c' (LL.map nq) by rw [← List.take_of_length_le (l := LL) (by rw [HLEN.out]; exact Nat.le_refl _), ← hM.out]; exact ho)
   have HB := Lib.hid hB
   clear ho hB hM hne
   go_wp2_with fail
   refine (HD.out HALL.out wr A' c' HB.out HO.out).mono ?_
   rintro _ W5 ⟨v, kk, rfl, hy, hb5⟩
   go_wp2
   exact bodyPost_ret (by simp [results, Tryz.results147, go_sem]) rfl (.inl ⟨HALL.out, v, kk, rfl, hy, HB.out.trans (hb5.mono HB.out.size)⟩)
  ·have hjl : j < n := by omega
   clear hjn
   have hjli : (j : Int) < (n : Int) := by omega
   obtain ⟨ad, A1, n1, c1, L, rfl, hbk, hx, hr, hn1, hp⟩ := ps_at h hjl
   have hy := (hB.cell (p := ad.add j) (by rw [add_blk]; exact hbk)).trans hx
   have HR := Lib.hid (hr.next hB)
   have HO := Lib.hid ho
   clear hx hr ho
   go_wp2_with fail
   clear hy
   refine (qpnorm_any HR.out (by omega) hN h1N).mono ?_
   rintro _ W3 (⟨hall, A4, n4, c4, M4, rfl, ho4, hM4, hb3⟩ | ⟨hex, rfl, hb3⟩)
   ·have HALL := Lib.hid hall
    have hB3 := hB.trans (hb3.mono hB.size)
    obtain ⟨E, hE, hEl, hEn⟩ := HO.out.next hb3
    have HO4 := Lib.hid (ho4.base hB.size)
    have HE := Lib.hid hE
    have HEN := Lib.hid (And.intro hEl (hEn.next ((Below.refl _ _).alloc (Nat.le_refl _) (.cells #[.slice A4 n4 c4] 73))))
    have HM2 := Lib.hid (show M ++ [M4] = (LL.take (j + 1)).map nq by rw [hM.out, hM4.out]; exact mapn_snoc hp.out)
    have HNE2 := Lib.hid (show ∀ (i : Nat) (L : List (Int × Int)), i < j + 1 → LL[i]? = some L → ∀ p ∈ L, p.2 ≠ 0 from fun i L' hi hq => by
     rcases Nat.lt_or_ge i j with h1 | h1
     ·exact hne.out i L' h1 hq
     ·rw [show i = j by omega, hp.out] at hq
      injection hq with hq
      rw [← hq]
      exact HALL.out)
    have HB3 := Lib.hid hB3
    clear hE hEl hEn hb3 ho4 hB3 hB hM4 HO hne hM hall
    go_wp2_with (at_builtin; refine wpList_append_own _ rfl _ _ 30 rfl w.heap.size 73 i0 (.slice none 0 0) 1 24 Tryz.underlying30 hi hz0 hz1 hz2 rfl (by decide) _ _ _ rfl (HE.out.alloc _) ⟨W3.heap.size, 0, none⟩ 1 1 [.slice A4 n4 c4] rfl rfl (pcell_new _ _ _) (by simp [Value.oneCell']) (by unfold maxLen; omega) (by omega) (by have := HB3.out.size; simp; omega) ?_; intro v' w1 hown' hgrow _)
    have hmore := ps_more (e := (A4, n4, c4)) (L := M4) HO4.out rfl (HE.out.alloc _) HEN.out.1 HEN.out.2 hown' hgrow
    have HB5 := Lib.hid ((HB3.out.alloc HB3.out.size (.cells #[.slice A4 n4 c4] 73)).grown hgrow (by have := HB3.out.size; simp; omega) (own_block HE.out))
    obtain ⟨A5, c5, rfl, ho5⟩ := hmore
    clear hown' hgrow HE HEN HO4
    go_wp2
    go_roundw
    case rel => exact ⟨j + 1, c5, A5, M ++ [M4], rfl, by go_num, by omega, ho5, HM2, HNE2, HB5.out⟩
    case measure => simp [intOf]; omega
   ·have HEX := Lib.hid (show ∃ L ∈ LL, ∃ p ∈ L, p.2 = 0 from ⟨L, List.mem_of_getElem? hp.out, hex⟩)
    go_wp2
    exact bodyPost_ret (by simp [results, Tryz.results147, go_sem]) rfl (.inr ⟨HEX.out, rfl, hB.trans (hb3.mono hB.size)⟩)
end Go.Proofs.YtjnklbfhelbjgaaGreat

/- qpoly: the same?; Equal, Degree as exported. -/
namespace Go.Proofs.YtjnklbfhelbjgaaGreat
open Go.RowKit Go.IntWalk
attribute [local go_sem ↓] Go.wp_at_zero Go.wp_at_succ
def RetOb (ok : Prop) (P : Prop) (w : World) (e : Ending) (w' : World) : Prop :=
 ∃ (v : Bool) (kk : Int), e = .returned (.tuple #[.bool v, .int .i64 kk]) ∧ Hid ((ok ∧ (v = true ↔ P) ∧ kk = 0) ∨ (¬ok ∧ v = false ∧ kk = 6)) ∧ Below w.heap.size w w'
end Go.Proofs.YtjnklbfhelbjgaaGreat

/- qpoly: does one divide the other?; Divides as exported. -/
namespace Go.Proofs.YtjnklbfhelbjgaaGreat
open Go.RowKit Go.IntWalk
attribute [local go_sem ↓] Go.wp_at_zero Go.wp_at_succ
def Dvd (a b : List Rat) : Prop := (a = [] ∧ b = []) ∨ (a ≠ [] ∧ ∀ Q R, Pq.IsD b a Q R → R = [])
theorem dvd_nil {b : List Rat} : Dvd [] b ↔ b = [] := by
 constructor
 ·rintro (h | h)
  ·exact h.2
  ·exact absurd rfl h.1
 ·intro h; exact .inl ⟨rfl, h⟩
theorem dvd_of {a b Q R : List Rat} (ha : a ≠ []) (hz : Pq.Nz a) (h : Pq.IsD b a Q R) : Dvd a b ↔ R = [] := by
 constructor
 ·rintro (h1 | h1)
  ·exact absurd h1.1 ha
  ·exact h1.2 Q R h
 ·intro e
  refine .inr ⟨ha, fun Q' R' h' => ?_⟩
  rw [(Pq.IsD.unique hz h' h).2, e]
set_option maxRecDepth 100000 in
set_option maxHeartbeats 4000000 in
theorem qdivides_any {b N : Nat} {A A' : Option Addr} {n c n' c' : Nat} {La Lb : List Rat} {w : World} (ha : RdQs w w.heap.size N A n c (La.map pr)) (hb : OwQp w b A' n' c' Lb) (hza : Pq.Nz La) (hzb : Pq.Nz Lb) (hw : b ≤ w.heap.size) (hS : 0 < La.length → ∀ j, SzQ N (Pq.drest La j Lb)) (hn : n' ≤ 1048576) (hN : N ≤ 60000000000) (h1N : 1 ≤ N) :
  Calls Tryz.prog 149 #[.slice A n c, .slice A' n' c'] w (RetBo (Dvd La Lb) w) := by
 have hla : La.length = n := ha.lenp
 have hlb : Lb.length = n' := hb.len
 go_enter Tryz.func149, Tryz.ntmps149
 by_cases h0 : n = 0
 ·have HL := Lib.hid (show La = [] from List.eq_nil_of_length_eq_zero (by omega))
  have HLB := Lib.hid hlb
  subst h0
  clear ha hb hza hzb hS hla hlb
  by_cases h1 : n' = 0
  ·have HB := Lib.hid (show Lb = [] from List.eq_nil_of_length_eq_zero (by rw [HLB.out]; exact h1))
   subst h1
   go_wp2
   go_ret
   exact ⟨true, rfl, Lib.hid ⟨fun _ => by rw [HL.out, dvd_nil]; exact HB.out, fun _ => rfl⟩, Below.refl _ _⟩
  ·have hbb : ((n' : Int) == 0) = false := by simp; omega
   have HB := Lib.hid (show Lb ≠ [] from fun e => h1 (by rw [← HLB.out, e]; rfl))
   clear h1
   go_wp2
   go_ret
   exact ⟨false, rfl, Lib.hid ⟨fun e => by simp at e, fun e => absurd (dvd_nil.1 (by rw [← HL.out]; exact e)) HB.out⟩, Below.refl _ _⟩
 ·have hbb : ((n : Int) == 0) = false := by simp; omega
  have HL := Lib.hid (show La ≠ [] from fun e => h0 (by rw [← hla, e]; rfl))
  have h0l : 0 < La.length := by omega
  have HZ := Lib.hid hza
  clear h0
  go_wp2_with fail
  refine (qdiv_all hb ha hzb hza h0l hw (hS h0l) hn hN h1N).mono ?_
  rintro _ W2 ⟨A2, n2, c2, Q, A3, n3, c3, R, rfl, ho2, ho3, hD, hb2⟩
  have HD := Lib.hid (dvd_of HL.out HZ.out hD.out)
  have HR := Lib.hid ho3.len
  clear ho2 ho3 hS ha hb hza hzb hla hlb
  by_cases h3 : n3 = 0
  ·have HN3 := Lib.hid (show R = [] from List.eq_nil_of_length_eq_zero (by rw [HR.out]; exact h3))
   subst h3
   go_wp2
   go_ret
   exact ⟨true, rfl, Lib.hid ⟨fun _ => HD.out.2 HN3.out, fun _ => rfl⟩, hb2⟩
  ·have hb3 : ((n3 : Int) == 0) = false := by simp; omega
   have HN3 := Lib.hid (show R ≠ [] from fun e => h3 (by rw [← HR.out, e]; rfl))
   clear h3
   go_wp2
   go_ret
   exact ⟨false, rfl, Lib.hid ⟨fun e => by simp at e, fun e => absurd (HD.out.1 e) HN3.out⟩, hb2⟩
set_option maxRecDepth 100000 in
set_option maxHeartbeats 4000000 in
theorem qDividesIn_any {b N c : Nat} {A : Option Addr} {P Q : List Rat} {w : World} (h : OwPs w b A 2 c [P, Q]) (hP : ∀ x ∈ P, Qs N x) (hzp : Pq.Nz P) (hzq : Pq.Nz Q) (hw : b ≤ w.heap.size) (hS : 0 < P.length → ∀ j, SzQ N (Pq.drest P j Q)) (hq : Q.length ≤ 1048576) (hN : N ≤ 60000000000) (h1N : 1 ≤ N) :
  Calls Tryz.prog 148 #[.slice A 2 c] w (RetBE (fun v kk => (v = true ↔ Dvd P Q) ∧ kk = 0) w) := by
 obtain ⟨g, A1, n1, c1, L1, rfl, hbk, hx, ho1, hL1⟩ := opl_at h (show 0 < 2 by decide)
 obtain ⟨g', A2, n2, c2, L2, e, _, hy, ho2, hL2⟩ := opl_at h (show 1 < 2 by decide)
 injection e with e
 injection e with e
 subst e
 obtain rfl : P = L1 := by simpa using hL1.out
 obtain rfl : Q = L2 := by simpa using hL2.out
 have hn2 : n2 ≤ 1048576 := by rw [← ho2.len]; exact hq
 have HX := Lib.hid (show ∀ W, Below w.heap.size w W → (W.cell? ⟨g, 0, none⟩ = some (.slice A1 n1 c1) ∧ W.cell? ⟨g, 1, none⟩ = some (.slice A2 n2 c2)) ∧ RdQs W W.heap.size N A1 n1 c1 (P.map pr) ∧ OwQp W b A2 n2 c2 Q ∧ b ≤ W.heap.size from fun W hb => ⟨⟨(hb.cell (p := ⟨g, 0, none⟩) hbk).trans hx, (hb.cell (p := ⟨g, 1, none⟩) hbk).trans hy⟩, (ho1.next hb).rd hP, ho2.next hb, Nat.le_trans hw hb.size⟩)
 have HBD := Lib.hid (Below.refl w.heap.size w).drew
 have HCX := Lib.hid (show ∀ W, Below w.heap.size w W → _ from fun W hb => (HX.out W hb).1)
 clear h hL1 hL2 ho1 ho2 hP
 go_enter Tryz.func148, Tryz.ntmps148
 go_wp2_with fail
 go_region_held3 (fun w' => w'.cell? ⟨g, 0, none⟩ = some (.slice A1 n1 c1) ∧ w'.cell? ⟨g, 1, none⟩ = some (.slice A2 n2 c2))
  (first | exact HCX.out _ HB3.out | exact HCX.out _ HBD.out)
  (first
   | (go_at_call 149; refine (qdivides_any (HX.out _ HBD.out).2.1 (HX.out _ HBD.out).2.2.1 hzp hzq (HX.out _ HBD.out).2.2.2 hS hn2 hN h1N).mono ?_; rintro _ W3 ⟨v, rfl, hv, hb3⟩; have HB3 := Lib.hid (HBD.out.trans (hb3.mono HBD.out.size))))
 all_goals
  go_wp2
  go_ret2
  exact ⟨v, 0, rfl, Lib.hid ⟨hv.out, rfl⟩, HB3.out⟩
set_option maxRecDepth 100000 in
set_option maxHeartbeats 4000000 in
theorem qDivides_any {N N' : Nat} {A A' : Option Addr} {n c n' c' : Nat} {L L' : List (Int × Int)} {w : World} (h : RdQs w w.heap.size N A n c L) (h' : RdQs w w.heap.size N A' n' c' L') (hn : n ≤ 1048576) (hn' : n' ≤ 1048576) (hN : N ≤ N') (hN' : N' ≤ 60000000000) (h1N : 1 ≤ N) (hS : okD L → okD L' → 0 < (nq L).length → ∀ j, SzQ N' (Pq.drest (nq L) j (nq L'))) :
  Calls Tryz.prog 94 #[.slice A n c, .slice A' n' c'] w (RetOb (okD L ∧ okD L') (Dvd (nq L) (nq L')) w) := by
 have HEG := Lib.hid (enters_of Tryz.func148 (by kernel_rfl) rfl)
 have HH := Lib.hid (And.intro h h')
 have HSS := Lib.hid hS
 obtain ⟨W2, HW2⟩ : ∃ W, W = w.alloc (.cells #[.slice A n c, .slice A' n' c'] 73) := ⟨_, rfl⟩
 have hps := Lib.hid (ps_two (K := 1048576) h h' hn hn' HW2)
 have HB2 := Lib.hid (show Below w.heap.size w W2 by rw [HW2]; exact (Below.refl _ _).alloc (Nat.le_refl _) _)
 have HW2 := Lib.hid HW2
 clear h h' hS
 go_enter Tryz.func94, Tryz.ntmps94
 go_wp2_with fail
 rw [← HW2.out]
 clear HW2
 clear HW2
 refine (norms_bool (f := 148) (Φ := fun v kk => (v = true ↔ Dvd (nq L) (nq L')) ∧ kk = 0) hps.out (by decide) (by decide) (by omega) h1N HEG.out (fun hall W A' c' hb ho => qDividesIn_any (N := N') (P := nq L) (Q := nq L') ho (fun x hx => (nq_qs HH.out.1 (hall L (by simp)) h1N x hx).mono hN) (Pq.nz_nrm _) (Pq.nz_nrm _) hb.size (HSS.out (hall L (by simp)) (hall L' (by simp))) (Nat.le_trans (nq_len L') (by rw [HH.out.2.len]; exact hn')) hN' (Nat.le_trans h1N hN))).mono ?_
 intro e W3 hpost
 rcases hpost with ⟨hall, v, kk, rfl, hM2, hb2⟩ | ⟨hex, rfl, hb2⟩
 ·have HOK := Lib.hid (show (((okD L ∧ okD L') ∧ (v = true ↔ Dvd (nq L) (nq L')) ∧ kk = 0) ∨ (¬(okD L ∧ okD L') ∧ v = false ∧ kk = 6)) from .inl ⟨⟨hall L (by simp), hall L' (by simp)⟩, hM2.out⟩)
  have HB4 := Lib.hid (HB2.out.trans (hb2.mono HB2.out.size))
  clear hall hb2 hM2
  go_wp2
  go_ret2
  exact ⟨v, kk, rfl, HOK, HB4.out⟩
 ·have HOK := Lib.hid (show ¬(okD L ∧ okD L') from fun ⟨h1, h2⟩ => by
   obtain ⟨L0, hL0, p, hp, hp0⟩ := hex
   rcases List.mem_cons.1 hL0 with rfl | h3
   ·exact h1 p hp hp0
   ·obtain rfl := List.mem_singleton.1 h3
    exact h2 p hp hp0)
  have HB4 := Lib.hid (HB2.out.trans (hb2.mono HB2.out.size))
  clear hex hb2
  go_wp2
  go_ret2
  exact ⟨false, 6, rfl, Lib.hid (.inr ⟨HOK.out, rfl, rfl⟩), HB4.out⟩
end Go.Proofs.YtjnklbfhelbjgaaGreat

/- Reference 09: division; does one divide the other? -/
namespace Go.Proofs.YtjnklbfhelbjgaaGreat
open Go.RowKit Go.IntWalk
attribute [local go_sem ↓] Go.wp_at_zero Go.wp_at_succ
theorem DivSz.step {N : Nat} {a b : List Rat} (h : DivSz N a b) (hl : b.length ≤ a.length) : DivSz N (Pq.dstep b a) b :=
 ⟨fun j => by rw [← Pq.drest_step hl j]; exact h.rest (j + 1), fun j hj => by
  rw [← Pq.drest_step hl j] at hj ⊢
  exact h.quo (j + 1) hj, h.one⟩
theorem OwQ.one {w : World} {b : Nat} {s s' : Bool} {A A' : Option Addr} {n c n' c' : Nat} {x : Rat} (h : OwQ w b s A n c s' A' n' c' x) (hb : b ≤ w.heap.size) : OwQp (w.alloc (.cells #[.bool s, .slice A n c, .bool s', .slice A' n' c'] 47)) b (some ⟨w.heap.size, 0, none⟩) 1 1 [x] := by
 have h2 := h.made (.cells #[.bool s, .slice A n c, .bool s', .slice A' n' c'] 47)
 refine ⟨[((s, A, n, c), (s', A', n', c'))], rfl, ⟨rfl, fun j e y he hy => ?_⟩, Nat.le_refl _, by unfold maxLen; omega, .inr ⟨w.heap.size, _, rfl, hb, heap_alloc_new w _, fun i v hv => by simpa [qcs, qc] using hv⟩⟩
 match j, he, hy with
 | 0, he, hy =>
   simp at he hy
   subst he hy
   exact h2
 | j + 1, he, hy => simp at he
theorem co_one_ge {x : Rat} {i : Nat} (h : 1 ≤ i) : Pq.co [x] i = 0 := Pq.co_ge (by simpa using h)
set_option maxRecDepth 100000 in
set_option maxHeartbeats 8000000 in
theorem rqDiv_any {N0 N : Nat} {A A' : Option Addr} {n c n' c' : Nat} {L L' : List (Int × Int)} {w : World} (h : RdQs w w.heap.size N0 A n c L) (h' : RdQs w w.heap.size N0 A' n' c' L') (hd : ∀ p ∈ L, p.2 ≠ 0) (hd' : ∀ p ∈ L', p.2 ≠ 0) (hn : n ≤ 1048576) (hn' : n' ≤ 1048576) (hN0 : N0 ≤ N) (h1N : 1 ≤ N0) (h0 : 0 < (nq L').length) (hS : DivSz N (nq L) (nq L')) (hN : N ≤ 60000000000) :
  Calls Tryz.prog 106 #[.slice A n c, .slice A' n' c'] w (RetDv w.heap.size (nq L) (nq L') w) := by
 have h1N' : 1 ≤ N := Nat.le_trans h1N hN0
 have HQB := Lib.hid (show ∀ x ∈ nq L', Qs N x from fun x hx => (nq_qs h' hd' h1N x hx).mono hN0)
 have HLA := Lib.hid (show (nq L).length ≤ 1048576 from Nat.le_trans (nq_len L) (by rw [h.len]; exact hn))
 have HLB := Lib.hid (show (nq L').length ≤ 1048576 from Nat.le_trans (nq_len L') (by rw [h'.len]; exact hn'))
 go_enter Tryz.func106, Tryz.ntmps106
 go_wp2_with fail
 refine (rqnorm_any h hd hn (by omega)).mono ?_
 rintro _ W1 ⟨Aa0, na0, ca0, Ma, rfl, hoa, hMa, hb1⟩
 obtain rfl : Ma = nq L := hMa.out.nrm
 have h2 := h'.next hb1
 go_wp2_with fail
 refine (rqnorm_any h2 hd' hn' (by omega)).mono ?_
 rintro _ W2 ⟨Ab, nb, cb, Mb, rfl, hob, hMb, hb2⟩
 obtain rfl : Mb = nq L' := hMb.out.nrm
 generalize nq L = La at *
 generalize nq L' = Lb at *
 have hoa := hoa.next hb2
 have hB2 := hb1.trans (hb2.mono hb1.size)
 have hlb : Lb.length = nb := hob.len
 have hla : La.length = na0 := hoa.len
 have HBB := Lib.hid (show ∀ W : World, Below W2.heap.size W2 W → RdQs W W.heap.size N Ab nb cb (Lb.map pr) from fun W hb => (hob.next hb).rd HQB.out)
 have HB2 := Lib.hid hB2
 have HNZ := Lib.hid (show Pq.Nz La ∧ Pq.Nz Lb from ⟨hMa.out.1, hMb.out.1⟩)
 have HL := Lib.hid (show La.length = na0 ∧ Lb.length = nb ∧ 0 < nb ∧ na0 ≤ 1048576 ∧ nb ≤ 1048576 from ⟨hla, hlb, by rw [← hlb]; exact h0, by rw [← hla]; exact HLA.out, by rw [← hlb]; exact HLB.out⟩)
 have HDS := Lib.hid hS
 have HTOP := Lib.hid (show Pq.co Lb (Lb.length - 1) ≠ 0 from Pq.nz_top hMb.out.1 h0)
 have hnb : nb ≤ 1048576 := HL.out.2.2.2.2
 have hnb0 : 0 < nb := HL.out.2.2.1
 clear hMa hMb hob hb1 hb2 h h' h2 hd hd' hS hlb hla h0
 go_wp2_with fail
 go_loopw [0, 6] (fun av qv wr => ∃ (K Qv : List Rat) (Aa : Option Addr) (la ca : Nat) (Aq : Option Addr) (lq cq : Nat), av = .slice Aa la ca ∧ qv = .slice Aq lq cq ∧ OwQp wr w.heap.size Aa la ca K ∧ OwQp wr w.heap.size Aq lq cq Qv ∧ Hid (Pq.Nz K ∧ DivSz N K Lb ∧ la ≤ na0) ∧ Hid (Pq.Nz Qv ∧ (∀ t, Qs N (Pq.co Qv t)) ∧ (∀ t, t + nb ≤ la → Pq.co Qv t = 0) ∧ (∀ t, na0 ≤ t → Pq.co Qv t = 0) ∧ ∀ t, Pq.co La t = Pq.cv (Pq.co Qv) (Pq.co Lb) t + Pq.co K t) ∧ Below W2.heap.size W2 wr) (fun av _ _ => lenOf av)
 case atStart => exact ⟨La, [], Aa0, na0, ca0, none, 0, 0, rfl, rfl, hoa, OwQp.nil _ _ _, Lib.hid ⟨HNZ.out.1, HDS.out, Nat.le_refl _⟩, Lib.hid ⟨Pq.nz_nil, fun t => by rw [Pq.co_nil]; exact Qs.zero h1N', fun _ _ => Pq.co_nil _, fun _ _ => Pq.co_nil _, fun t => by rw [show Pq.co [] = fun _ => 0 from funext Pq.co_nil, Pq.cv_zero_left, Rat.zero_add]⟩, Below.refl _ _⟩
 case round =>
  clear hoa
  obtain ⟨K, Qv, Aa, la, ca, Aq, lq, cq, rfl, rfl, hoa, hoq, hK, hQ, hB⟩ := hrel
  have HLK := Lib.hid (show K.length = la from hoa.len)
  have hlan : la ≤ 1048576 := Nat.le_trans hK.out.2.2 HL.out.2.2.2.1
  have hsz : ∀ x ∈ K, Qs N x := (hK.out.2.1.rest 0).mem
  by_cases hge : nb ≤ la
  ·obtain ⟨k, hk⟩ : ∃ k, la = nb + k := ⟨la - nb, by omega⟩
   have hgei : (nb : Int) ≤ (la : Int) := by omega
   have hdi : (la : Int) - (nb : Int) = (k : Int) := by omega
   have hwi : IntKind.i64.wrap (k : Int) = (k : Int) := by rw [IntWalk.i64_in _ (by omega)]
   have HKK := Lib.hid (And.intro hk hge)
   have HQL := Lib.hid (show Qv.length ≤ 1048576 from Nat.le_trans (Pq.nz_len hQ.out.1 hQ.out.2.2.2.1) HL.out.2.2.2.1)
   have HC := Lib.hid (hK.out.2.1.quo 0 (show Lb.length ≤ K.length by rw [HL.out.2.1, HLK.out]; exact hge))
   have HA := Lib.hid (show ∀ W : World, Below wr.heap.size wr W → RdQs W W.heap.size N Aa la ca (K.map pr) ∧ RdQs W W.heap.size N Aq lq cq (Qv.map pr) ∧ RdQs W W.heap.size N Ab nb cb (Lb.map pr) from fun W hb => ⟨(hoa.next hb).rd hsz, (hoq.next hb).rd (SzQ.mem hQ.out.2.1), HBB.out W (hB.trans (hb.mono hB.size))⟩)
   have HBW := Lib.hid hB
   have HWS := Lib.hid (show w.heap.size ≤ wr.heap.size from Nat.le_trans HB2.out.size hB.size)
   have HLQ := Lib.hid (show lq ≤ 1048576 by rw [← hoq.len]; exact HQL.out)
   have HD0 := Lib.hid (Below.refl wr.heap.size wr)
   clear hoa hoq hB hsz hk hge
   go_wp2_with fail
   refine (rqLead_own (HA.out _ HD0.out).1 hK.out.1 hlan (by omega) (by have := HLK.out; have := HKK.out; omega)).mono ?_
   rintro _ V1 ⟨s1, A1, n1, c1, s2, A2, n2, c2, x, rfl, ho1, hx, hl1⟩
   have HD1 := Lib.hid (HD0.out.trans hl1)
   go_wp2_with fail
   refine (rqLead_own (HA.out _ HD1.out).2.2 HNZ.out.2 hnb (by omega) (by rw [HL.out.2.1]; exact hnb0)).mono ?_
   rintro _ V2 ⟨s3, A3, n3, c3, s4, A4, n4, c4, y, rfl, ho2, hy, hl2⟩
   have HD2 := Lib.hid (HD1.out.trans (hl2.mono HD1.out.size))
   have ho1 := ho1.next hl2
   have HXS := Lib.hid (show Qs N x by rw [hx.out]; exact hK.out.2.1.rest 0 _)
   have HYS := Lib.hid (show Qs N y by
    rw [hy.out]
    have := HQB.out _ (List.mem_of_getElem? (Pq.get_co (L := Lb) (i := Lb.length - 1) (by rw [HL.out.2.1]; omega)))
    exact this)
   have HY0 := Lib.hid (show y ≠ 0 by rw [hy.out]; exact HTOP.out)
   go_wp2_with fail
   refine (rQQuo_any (N := N) ho1.num.rd ho1.den.rd ho2.num.rd ho2.den.rd ⟨by rw [ho1.num.len]; exact HXS.out.1, by rw [ho1.den.len]; exact HXS.out.2, by rw [ho2.num.len]; exact HYS.out.1, by rw [ho2.den.len]; exact HYS.out.2⟩ (by omega) HY0.out).mono ?_
   rintro _ V3 ⟨s5, A5, n5, c5, s6, A6, n6, c6, cc, rfl, ho3, hcc, hl3⟩
   have HD3 := Lib.hid (HD2.out.trans (hl3.mono HD2.out.size))
   have HCC := Lib.hid (show cc = Pq.co K (K.length - 1) / Pq.co Lb (Lb.length - 1) by rw [hcc.out, hx.out, hy.out])
   have HCS := Lib.hid (show Qs N cc ∧ ∀ t, Qs N (cc * Pq.co Lb t) by rw [HCC.out]; exact HC.out)
   have HCN := Lib.hid (show n5 ≤ N ∧ n6 ≤ N from ⟨by rw [ho3.num.len]; exact HCS.out.1.1, by rw [ho3.den.len]; exact HCS.out.1.2⟩)
   obtain ⟨V4, HV4⟩ : ∃ W, W = V3.alloc (.cells #[.bool s5, .slice A5 n5 c5, .bool s6, .slice A6 n6 c6] 47) := ⟨_, rfl⟩
   have hQ4 : QC V4 V3.heap.size s5 A5 n5 c5 s6 A6 n6 c6 := by rw [HV4]; exact QC.new V3 s5 A5 n5 c5 s6 A6 n6 c6
   have hl4 : Below V3.heap.size V3 V4 := by rw [HV4]; exact (Below.refl _ _).alloc (Nat.le_refl _) _
   have HD4 := Lib.hid (HD3.out.trans (hl4.mono HD3.out.size))
   have ho4 := (ho3.base (b' := w.heap.size) (Nat.le_trans HWS.out HD2.out.size)).next hl4
   have hw4 : w.heap.size ≤ V4.heap.size := Nat.le_trans HWS.out HD4.out.size
   obtain ⟨V5, HV5⟩ : ∃ W, W = V4.alloc (.cells #[.bool s5, .slice A5 n5 c5, .bool s6, .slice A6 n6 c6] 47) := ⟨_, rfl⟩
   have hO5 : OwQp V5 w.heap.size (some ⟨V4.heap.size, 0, none⟩) 1 1 [cc] := by rw [HV5]; exact ho4.one hw4
   have hl5 : Below V4.heap.size V4 V5 := by rw [HV5]; exact (Below.refl _ _).alloc (Nat.le_refl _) _
   have hQ5 := hQ4.next hl5
   have ho5 := ho4.next hl5
   have HD5 := Lib.hid (HD4.out.trans (hl5.mono HD4.out.size))
   have hg4 : V4.heap.size = V3.heap.size + 1 := by rw [HV4]; simp
   have HG4 := Lib.hid hg4
   have k0 := hQ4.c0
   have k1 := hQ4.c1
   have k2 := hQ4.c2
   have k3 := hQ4.c3
   have HO5 := Lib.hid (And.intro hO5 (And.intro hQ5 ho5))
   rw [HV4] at HV5 k0 k1 k2 k3
   have HV5 := Lib.hid HV5
   have HV5h := Lib.hid HV5
   clear HV4 hQ4 hl4 ho4 hO5 hl5 hQ5 ho5 ho1 ho2 ho3 hl1 hl2 hl3 hg4 hcc
   clear HV5
   have hw5 : w.heap.size ≤ V5.heap.size := Nat.le_trans HWS.out HD5.out.size
   have hkn : k ≤ 1048576 := by have := HKK.out; omega
   have hk1 : 1 + k ≤ 1048576 := by have := HKK.out; omega
   go_wp2_with fail
   rw [← HV5h.out, ← HG4.out]
   clear HV5h k0 k1 k2 k3
   refine (rqshift_any (N := N) k HO5.out.1 hw5 (fun x hx => by rw [List.mem_singleton.1 hx]; exact HCS.out.1) (by decide) hk1 (by omega) h1N').mono ?_
   rintro _ V6 ⟨A6', n6', c6', S1, rfl, ho6, hS1, hl6⟩
   have HD6 := Lib.hid (HD5.out.trans (hl6.mono HD5.out.size))
   have hS1v : ∀ i, Pq.co S1 i = if i < k then 0 else Pq.co [cc] (i - k) := hS1.out.2
   have HS1 := Lib.hid (show SzQ N S1 from fun i => by
    rw [hS1v]
    split
    ·exact Qs.zero h1N'
    ·rcases Nat.eq_zero_or_pos (i - k) with e | e
     ·rw [e]; exact HCS.out.1
     ·rw [co_one_ge e]; exact Qs.zero h1N')
   have hn6 : n6' ≤ 1048576 := by
    rw [← ho6.len]
    refine Nat.le_trans (Pq.nz_len hS1.out.1 (k := 1 + k) fun i hi => ?_) hk1
    rw [hS1v, if_neg (by omega), co_one_ge (by omega)]
   have hr6 := ho6.rd HS1.out.mem
   go_wp2_with fail
   refine (rqAdd_any (N := N) (HA.out _ HD6.out).2.1 hr6 (pr_ok _) (pr_ok _) HLQ.out hn6 (by omega) h1N').mono ?_
   rintro _ V7 ⟨Aq', lq', cq', Qn, rfl, hoq', hQn, hl7⟩
   have HD7 := Lib.hid (HD6.out.trans (hl7.mono HD6.out.size))
   have HQN := Lib.hid (show Pq.Nz Qn ∧ ∀ t, Pq.co Qn t = if t = k then cc else Pq.co Qv t from ⟨hQn.out.1, fun t => by
    have hq : Pq.co Qn t = Pq.co Qv t + Pq.co S1 t := by rw [hQn.out.2, map_qval_pr, map_qval_pr]
    rw [hq, hS1v]
    by_cases h1 : t = k
    ·subst h1
     rw [if_pos rfl, if_neg (Nat.lt_irrefl _), Nat.sub_self, hQ.out.2.2.1 t (by have := HKK.out; omega), Rat.zero_add]; rfl
    ·rw [if_neg h1]
     split
     ·rw [Rat.add_zero]
     ·rw [co_one_ge (by omega), Rat.add_zero]⟩)
   have HOQ := Lib.hid (hoq'.base (b' := w.heap.size) (Nat.le_trans HWS.out HD6.out.size))
   have hb57 := hl6.trans (hl7.mono hl6.size)
   have hQ7 := HO5.out.2.1.next hb57
   have ho7 := HO5.out.2.2.next hb57
   have k0 := hQ7.c0
   have k1 := hQ7.c1
   have k2 := hQ7.c2
   have k3 := hQ7.c3
   have hcn := ho7.num.rd
   have hcd := ho7.den.rd
   clear ho6 hoq' hl6 hr6 hQ7 hQn hS1 hS1v
   go_wp2_with fail
   clear k0 k1 k2 k3
   refine (rqScale_any (N := N) (HA.out _ HD7.out).2.2 hcn hcd (pr_ok _) (by simpa using cc.den_nz) hnb HCN.out.1 HCN.out.2 (by omega) h1N').mono ?_
   rintro _ V8 ⟨A8, n8, c8, T, rfl, ho8, hT, hl8⟩
   have HD8 := Lib.hid (HD7.out.trans (hl8.mono HD7.out.size))
   have HT := Lib.hid (show ∀ t, Pq.co T t = cc * Pq.co Lb t from fun t => by rw [hT.out.2, map_qval_pr, Rat.num_divInt_den, Rat.mul_comm])
   have HTL := Lib.hid (show n8 ≤ nb by
    rw [← ho8.len]
    exact Pq.nz_len hT.out.1 fun i hi => by rw [HT.out, Pq.co_ge (by rw [HL.out.2.1]; exact hi), Rat.mul_zero])
   have HTS := Lib.hid (show ∀ x ∈ T, Qs N x from fun x hx => by
    obtain ⟨i, _, rfl⟩ := Pq.mem_co hx
    rw [HT.out]; exact HCS.out.2 i)
   have ho8 := ho8.base (b' := w.heap.size) (Nat.le_trans HWS.out HD7.out.size)
   have hw8 : w.heap.size ≤ V8.heap.size := Nat.le_trans HWS.out HD8.out.size
   have hn8 : n8 + k ≤ 1048576 := by have h1 := HTL.out; have h2 := HKK.out; omega
   have HOQ8 := Lib.hid (HOQ.out.next hl8)
   clear hl8 hcn hcd hT ho7 HOQ
   go_wp2_with fail
   refine (rqshift_any (N := N) k ho8 hw8 HTS.out (by omega) hn8 (by omega) h1N').mono ?_
   rintro _ V9 ⟨A9, n9, c9, U, rfl, ho9, hU, hl9⟩
   have HD9 := Lib.hid (HD8.out.trans (hl9.mono HD8.out.size))
   have hUv : ∀ i, Pq.co U i = if i < k then 0 else Pq.co T (i - k) := hU.out.2
   have HUS := Lib.hid (show SzQ N U from fun i => by
    rw [hUv]
    split
    ·exact Qs.zero h1N'
    ·rw [HT.out]; exact HCS.out.2 _)
   have hn9 : n9 ≤ 1048576 := by
    rw [← ho9.len]
    refine Nat.le_trans (Pq.nz_len hU.out.1 (k := nb + k) fun i hi => ?_) (by have := HKK.out; omega)
    rw [hUv, if_neg (by omega), HT.out, Pq.co_ge (by rw [HL.out.2.1]; omega), Rat.mul_zero]
   have hr9 := ho9.rd HUS.out.mem
   have HOQ9 := Lib.hid (HOQ8.out.next hl9)
   clear ho8 HOQ8 hl9 ho9
   go_wp2_with fail
   refine (rqSub_any (N := N) (HA.out _ HD9.out).1 hr9 (pr_ok _) (pr_ok _) hlan hn9 (by omega) h1N').mono ?_
   rintro _ V10 ⟨A10, n10, c10, K', rfl, ho10, hK', hl10⟩
   have HD10 := Lib.hid (HD9.out.trans (hl10.mono HD9.out.size))
   have HLL := Lib.hid (show Lb.length ≤ K.length by rw [HL.out.2.1, HLK.out]; exact HKK.out.2)
   have HKD := Lib.hid (show K.length - Lb.length = k by rw [HL.out.2.1, HLK.out]; have := HKK.out; omega)
   have HKE := Lib.hid (show K' = Pq.dstep Lb K from by
    refine Pq.nz_ext hK'.out.1 (Pq.dstep_nz _ _) fun i => ?_
    have hk' : Pq.co K' i = Pq.co K i - Pq.co U i := by rw [hK'.out.2, map_qval_pr, map_qval_pr]
    rw [hk', hUv, Pq.co_dstep HLL.out, HKD.out, ← HCC.out]
    congr 1
    split
    ·rfl
    ·rw [HT.out])
   have HKL := Lib.hid (show n10 < la by
    rw [← ho10.len, HKE.out, ← HLK.out]
    exact Pq.dstep_len HNZ.out.2 (by rw [HL.out.2.1]; exact hnb0) HLL.out)
   have HOK := Lib.hid (ho10.base (b' := w.heap.size) (Nat.le_trans HWS.out HD9.out.size))
   have HOQ10 := Lib.hid (HOQ9.out.next hl10)
   have HBE := Lib.hid (HBW.out.trans (HD10.out.mono HBW.out.size))
   have HKI := Lib.hid (show Pq.Nz K' ∧ DivSz N K' Lb ∧ n10 ≤ na0 from ⟨hK'.out.1, by rw [HKE.out]; exact hK.out.2.1.step HLL.out, by have h1 := HKL.out; have h2 := hK.out.2.2; omega⟩)
   have HQI := Lib.hid (show Pq.Nz Qn ∧ (∀ t, Qs N (Pq.co Qn t)) ∧ (∀ t, t + nb ≤ n10 → Pq.co Qn t = 0) ∧ (∀ t, na0 ≤ t → Pq.co Qn t = 0) ∧ ∀ t, Pq.co La t = Pq.cv (Pq.co Qn) (Pq.co Lb) t + Pq.co K' t from by
    have h1 := HKL.out
    have h2 := HKK.out
    have h3 := hK.out.2.2
    refine ⟨HQN.out.1, fun t => ?_, fun t ht => ?_, fun t ht => ?_, fun t => ?_⟩
    ·rw [HQN.out.2]; split
     ·exact HCS.out.1
     ·exact hQ.out.2.1 t
    ·rw [HQN.out.2, if_neg (by omega)]; exact hQ.out.2.2.1 t (by omega)
    ·rw [HQN.out.2, if_neg (by omega)]; exact hQ.out.2.2.2.1 t ht
    ·rw [HKE.out, Pq.dv_step (q := Pq.co Qv) HLL.out hQ.out.2.2.2.2 (by rw [HKD.out]; exact hQ.out.2.2.1 k (by omega)) t]
     congr 1
     refine Pq.cv_congr (fun i _ => ?_) (fun _ _ => rfl)
     rw [HQN.out.2, HKD.out, ← HCC.out])
   clear hr9 hl10 ho10 hK' hU hUv hwi hgei hdi HOQ9
   go_wp2
   go_roundw
   case rel => exact ⟨K', Qn, A10, n10, c10, Aq', lq', cq', rfl, rfl, HOK.out, HOQ10.out, HKI, HQI, HBE.out⟩
   case measure => have := HKL.out; simp [lenOf]; omega
  ·have hlt : (la : Int) < (nb : Int) := by omega
   have HLT := Lib.hid (show K.length < Lb.length by rw [HLK.out, HL.out.2.1]; omega)
   have hlq : lq ≤ 1048576 := by rw [← hoq.len]; exact Nat.le_trans (Pq.nz_len hQ.out.1 hQ.out.2.2.2.1) HL.out.2.2.2.1
   have hrq := hoq.rd (SzQ.mem hQ.out.2.1)
   have HWS := Lib.hid (show w.heap.size ≤ wr.heap.size from Nat.le_trans HB2.out.size hB.size)
   clear hge
   go_wp2_with fail
   refine (rqnorm_own hrq hlq (by omega)).mono ?_
   rintro _ V1 ⟨A1, n1, c1, M1, rfl, ho1, hM1, hl1⟩
   have HM := Lib.hid (show M1 = Qv from hM1.out.unique (Pq.IsP.self hQ.out.1))
   have HF := Lib.hid (HB2.out.trans ((hB.trans (hl1.mono hB.size)).mono HB2.out.size))
   have HOK := Lib.hid (hoa.next hl1)
   have HOM := Lib.hid (ho1.base (b' := w.heap.size) HWS.out)
   have HID := Lib.hid (show Pq.IsD La Lb M1 K from ⟨hM1.out.1, hK.out.1, HLT.out, by rw [HM.out]; exact hQ.out.2.2.2.2⟩)
   clear hoa hoq hB hl1 ho1 hrq
   go_wp2
   go_ret2
   exact ⟨_, _, _, M1, _, _, _, K, rfl, HOM.out, HOK.out, HID, HF.out⟩
end Go.Proofs.YtjnklbfhelbjgaaGreat

/- Reference 09: does one divide the other?; the law QpolyDivides. -/
namespace Go.Proofs.YtjnklbfhelbjgaaGreat
open Go.RowKit Go.IntWalk
attribute [local go_sem ↓] Go.wp_at_zero Go.wp_at_succ
theorem bool_same {b b' : Bool} {P Q : Prop} (h : b = true ↔ P) (h' : b' = true ↔ Q) (e : P ↔ Q) : b = b' := by
 cases b <;> cases b' <;> simp_all
set_option maxRecDepth 100000 in
set_option maxHeartbeats 4000000 in
theorem rqDivides_any {N0 N : Nat} {A A' : Option Addr} {n c n' c' : Nat} {L L' : List (Int × Int)} {w : World} (h : RdQs w w.heap.size N0 A n c L) (h' : RdQs w w.heap.size N0 A' n' c' L') (hd : ∀ p ∈ L, p.2 ≠ 0) (hd' : ∀ p ∈ L', p.2 ≠ 0) (hn : n ≤ 1048576) (hn' : n' ≤ 1048576) (hN0 : N0 ≤ N) (h1N : 1 ≤ N0) (hS : 0 < (nq L).length → DivSz N (nq L') (nq L)) (hN : N ≤ 60000000000) :
  Calls Tryz.prog 59 #[.slice A n c, .slice A' n' c'] w (RetBo (Dvd (nq L) (nq L')) w) := by
 have HH := Lib.hid (And.intro h h')
 go_enter Tryz.func59, Tryz.ntmps59
 go_wp2_with fail
 refine (rqDegree_any h hd hn (by omega)).mono ?_
 rintro _ W1 ⟨v, rfl, hv, hb1⟩
 by_cases h0 : (nq L).length = 0
 ·have hv1 : v < 0 := by rw [hv.out, h0]; decide
  have HL := Lib.hid (List.eq_nil_of_length_eq_zero h0)
  have h2 := HH.out.2.next hb1
  clear h0 h h'
  go_wp2_with fail
  refine (rqDegree_any h2 hd' hn' (by omega)).mono ?_
  rintro _ W2 ⟨u, rfl, hu, hb2⟩
  have HB := Lib.hid (hb1.trans (hb2.mono hb1.size))
  clear hb1 hb2 h2
  by_cases h3 : (nq L').length = 0
  ·have hu1 : u < 0 := by rw [hu.out, h3]; decide
   have HL' := Lib.hid (List.eq_nil_of_length_eq_zero h3)
   clear h3
   go_wp2
   go_ret
   exact ⟨true, rfl, Lib.hid ⟨fun _ => by rw [HL.out, dvd_nil]; exact HL'.out, fun _ => rfl⟩, HB.out⟩
  ·have hu1 : decide (u < 0) = false := by simp only [decide_eq_false_iff_not]; rw [hu.out]; omega
   have HL' := Lib.hid (show nq L' ≠ [] from fun e => h3 (by rw [e]; rfl))
   clear h3
   go_wp2
   go_ret
   exact ⟨false, rfl, Lib.hid ⟨fun e => by simp at e, fun e => absurd (dvd_nil.1 (by rw [← HL.out]; exact e)) HL'.out⟩, HB.out⟩
 ·have hv1 : decide (v < 0) = false := by simp only [decide_eq_false_iff_not]; rw [hv.out]; omega
  have h0l : 0 < (nq L).length := by omega
  have HNE := Lib.hid (show nq L ≠ [] from fun e => h0 (by rw [e]; rfl))
  have h1 := HH.out.1.next hb1
  have h2 := HH.out.2.next hb1
  clear h0
  go_wp2_with fail
  refine (rqDiv_any h2 h1 hd' hd hn' hn hN0 h1N h0l (hS h0l) hN).mono ?_
  rintro _ W2 ⟨A2, n2, c2, Q, A3, n3, c3, R, rfl, ho2, ho3, hD, hb2⟩
  have HD := Lib.hid (dvd_of HNE.out (Pq.nz_nrm _) hD.out)
  have HR := Lib.hid ho3.len
  have HB := Lib.hid (hb1.trans (hb2.mono hb1.size))
  clear ho2 ho3 hS h h' h1 h2 hb1 hb2 h0l
  by_cases h3 : n3 = 0
  ·have HN3 := Lib.hid (show R = [] from List.eq_nil_of_length_eq_zero (by rw [HR.out]; exact h3))
   subst h3
   go_wp2
   go_ret
   exact ⟨true, rfl, Lib.hid ⟨fun _ => HD.out.2 HN3.out, fun _ => rfl⟩, HB.out⟩
  ·have hb3 : ((n3 : Int) == 0) = false := by simp; omega
   have HN3 := Lib.hid (show R ≠ [] from fun e => h3 (by rw [← HR.out, e]; rfl))
   clear h3
   go_wp2
   go_ret
   exact ⟨false, rfl, Lib.hid ⟨fun e => by simp at e, fun e => absurd (HD.out.1 e) HN3.out⟩, HB.out⟩
end Go.Proofs.YtjnklbfhelbjgaaGreat
