/- smith.Factors at the example's two matrices. -/
import Derived.Test.YtjnklbfhelbjgaaGreatSn30
import Derived.Test.YtjnklbfhelbjgaaGreatSn37
import Derived.Test.YtjnklbfhelbjgaaGreatSn26
import Derived.Test.YtjnklbfhelbjgaaGreatSn35
import Derived.Test.YtjnklbfhelbjgaaGreatSn06
import Derived.Test.YtjnklbfhelbjgaaGreatSn08
import Derived.Handy
import Derived.Test.YtjnklbfhelbjgaaGreatSn17
import Derived.Test.YtjnklbfhelbjgaaGreatSn15
namespace Go.Proofs.YtjnklbfhelbjgaaGreat
open Go.RowKit Go.IntWalk
attribute [local go_sem ↓] Go.wp_at_zero Go.wp_at_succ
def RetFa (LL : List (List Rat)) (w : World) (e : Ending) (w' : World) : Prop := ∃ (A : Option Addr) (n c : Nat), e = .returned (.tuple #[.slice A n c, .int .i64 0]) ∧ OwPs w' w.heap.size A n c LL ∧ Below w.heap.size w w'
set_option maxRecDepth 100000 in
set_option maxHeartbeats 8000000 in
theorem factors_A {b : Nat} {s : Bool} {A G : Option Addr} {n c r k : Nat} {w : World} (h : OwZ w b s A n c 1) (h' : OwMs w b G r k [[2, 0], [0, 2]]) :
  Calls Tryz.prog 60 #[.agg #[.bool s, .slice A n c, .slice G r k]] w (RetFa [xA.a, xA.d] w) := by
 obtain ⟨i1, hjf, hy0, hy1, hy2⟩ := info_parts infoPoly
 obtain ⟨W1, HW1⟩ : ∃ W, W = w.alloc (.cells #[.bool s, .slice A n c, .slice G r k] 28) := ⟨_, rfl⟩
 have hb1 : Below w.heap.size w W1 := by rw [HW1]; exact (Below.refl _ _).alloc (Nat.le_refl _) _
 have HI := Lib.hid (And.intro (h.next hb1) (h'.next hb1))
 have HB1 := Lib.hid hb1
 have HW1 := Lib.hid HW1
 clear h h' hb1
 go_enter Tryz.func60, Tryz.ntmps60
 go_wp2_with fail
 rw [← HW1.out]
 clear HW1
 clear HW1
 refine (char_two HI.out.1 HI.out.2 (by decide) (by decide) (by decide) (by decide) (by decide +kernel)).mono ?_
 rintro _ W2 ⟨t, rfl, ht, hb2⟩
 have HT := Lib.hid (show Tb W2 W1.heap.size t xA from by
  rw [show xA = ⟨Pq.nrm [-((2 : Int) : Rat), 1], Pq.nrm [-((0 : Int) : Rat)], Pq.nrm [-((0 : Int) : Rat)], Pq.nrm [-((2 : Int) : Rat), 1]⟩ by decide +kernel]
  exact ht)
 have HB2 := Lib.hid (And.intro hb2.size (HB1.out.trans (hb2.mono HB1.out.size)))
 clear ht hb2
 go_wp2_with fail
 refine (diagonal_any (E := xA) HT.out HB2.out.1 (by decide +kernel) (by decide +kernel) run_A).mono ?_
 rintro _ W3 ⟨A3, n3, c3, rfl, ho3, hb3⟩
 obtain rfl : n3 = 2 := ho3.len.symm
 have HO := Lib.hid (show ∀ W, Below W3.heap.size W3 W → OwPs W W1.heap.size A3 2 c3 [xA.a, xA.d] from fun W hb => ho3.next hb)
 have HB3 := Lib.hid (show Below w.heap.size w W3 ∧ W1.heap.size ≤ W3.heap.size from ⟨HB2.out.2.trans (hb3.mono HB1.out.size), Nat.le_trans HB2.out.1 hb3.size⟩)
 have HX0 := Lib.hid (Below.refl W3.heap.size W3)
 clear ho3 hb3
 go_wp2_with fail
 refine wp_loop_rounds 3 ?_
 rw [rounds_succ]
 obtain ⟨g0, B0, m0, l0, L0, hA0, _, k0, hq0, hL0⟩ := opl_at (HO.out _ HX0.out) (show 0 < 2 by decide)
 subst hA0
 obtain rfl : L0 = xA.a := by simpa using hL0.out.symm
 obtain rfl : m0 = 2 := by rw [← hq0.len]; rfl
 have HQ0 := Lib.hid hq0
 clear hq0 hL0
 go_wp2_with fail
 refine (deg_any (by decide)).mono ?_
 rintro _ Wd ⟨rfl, hwd⟩
 rw [hwd]
 clear hwd
 obtain ⟨EE, hE, hEl, hEn⟩ := (OwPs.nil W3 W1.heap.size)
 have HEE := Lib.hid (And.intro hE (And.intro hEl hEn))
 clear hE hEl hEn
 go_wp2_with (at_builtin; refine wpList_append_own _ rfl _ _ 30 rfl W1.heap.size 73 i1 (.slice none 0 0) 1 24 Tryz.underlying30 hjf hy0 hy1 hy2 rfl (by decide) _ _ _ rfl (HEE.out.1.alloc _) ⟨W3.heap.size, 0, none⟩ 1 1 [.slice B0 2 l0] rfl rfl (tcell_new W3 (.slice B0 2 l0) 73) (by simp [Value.oneCell']) (by decide) (by decide) (by have h1 := HB3.out.2; have h2 := HX0.out.size; simp; omega) ?_; intro v' Z0 hown' hgrow _)
 have hba : Below W3.heap.size W3 (W3.alloc (.cells #[.slice B0 2 l0] 73)) := (Below.refl _ _).alloc (Nat.le_refl _) _
 obtain ⟨A50, c50, rfl, ho5⟩ := ps_more (e := (B0, 2, l0)) HQ0.out rfl (HEE.out.1.alloc _) HEE.out.2.1 (HEE.out.2.2.next hba) hown' hgrow
 have HBZ0 := Lib.hid (show Below w.heap.size w Z0 from by
  have h0 := HB3.out.1.trans (HX0.out.mono (Nat.le_trans HB1.out.size HB3.out.2))
  exact (h0.alloc h0.size (.cells #[.slice B0 2 l0] 73)).grown hgrow (by have h1 := h0.size; simp; omega) (fun k hk => Nat.le_trans HB1.out.size (own_block HEE.out.1 k hk)))
 have HX1 := Lib.hid (HX0.out.trans ((hba.trans ((Below.refl _ _).grown hgrow (by simp) (fun k hk => by cases hk)))))
 have HR := Lib.hid ho5
 clear hown' hgrow hba ho5 HEE k0
 go_wp2_with fail
 rw [rounds_succ]
 obtain ⟨g1, B1, m1, l1, L1, hA1, _, k1, hq1, hL1⟩ := opl_at (HO.out _ HX1.out) (show 1 < 2 by decide)
 injection hA1 with hA1; injection hA1 with hA1; subst hA1
 obtain rfl : L1 = xA.d := by simpa using hL1.out.symm
 obtain rfl : m1 = 2 := by rw [← hq1.len]; rfl
 have HQ1 := Lib.hid hq1
 clear hq1 hL1
 go_wp2_with fail
 refine (deg_any (by decide)).mono ?_
 rintro _ Wd ⟨rfl, hwd⟩
 rw [hwd]
 clear hwd
 obtain ⟨EE, hE, hEl, hEn⟩ := HR.out
 have HEE := Lib.hid (And.intro hE (And.intro hEl hEn))
 clear hE hEl hEn
 go_wp2_with (at_builtin; refine wpList_append_own _ rfl _ _ 30 rfl W1.heap.size 73 i1 (.slice none 0 0) 1 24 Tryz.underlying30 hjf hy0 hy1 hy2 rfl (by decide) _ _ _ rfl (HEE.out.1.alloc _) ⟨Z0.heap.size, 0, none⟩ 1 1 [.slice B1 2 l1] rfl rfl (tcell_new Z0 (.slice B1 2 l1) 73) (by simp [Value.oneCell']) (by decide) (by decide) (by have h1 := HB3.out.2; have h2 := HX1.out.size; simp; omega) ?_; intro v' Z1 hown' hgrow _)
 have hba : Below Z0.heap.size Z0 (Z0.alloc (.cells #[.slice B1 2 l1] 73)) := (Below.refl _ _).alloc (Nat.le_refl _) _
 obtain ⟨A51, c51, rfl, ho5⟩ := ps_more (e := (B1, 2, l1)) HQ1.out rfl (HEE.out.1.alloc _) HEE.out.2.1 (HEE.out.2.2.next hba) hown' hgrow
 have HBZ1 := Lib.hid (show Below w.heap.size w Z1 from by
  have h0 := HBZ0.out
  exact (h0.alloc h0.size (.cells #[.slice B1 2 l1] 73)).grown hgrow (by have h1 := h0.size; simp; omega) (fun k hk => Nat.le_trans HB1.out.size (own_block HEE.out.1 k hk)))
 have HR := Lib.hid ho5
 clear hown' hgrow hba ho5 HEE k1
 go_wp2_with fail
 rw [rounds_succ]
 go_wp2
 go_ret2
 exact ⟨_, _, _, rfl, HR.out.base HB1.out.size, HBZ1.out⟩
set_option maxRecDepth 100000 in
set_option maxHeartbeats 8000000 in
theorem factors_B {b : Nat} {s : Bool} {A G : Option Addr} {n c r k : Nat} {w : World} (h : OwZ w b s A n c 1) (h' : OwMs w b G r k [[2, 0], [0, 3]]) :
  Calls Tryz.prog 60 #[.agg #[.bool s, .slice A n c, .slice G r k]] w (RetFa [xE.d] w) := by
 obtain ⟨i1, hjf, hy0, hy1, hy2⟩ := info_parts infoPoly
 obtain ⟨W1, HW1⟩ : ∃ W, W = w.alloc (.cells #[.bool s, .slice A n c, .slice G r k] 28) := ⟨_, rfl⟩
 have hb1 : Below w.heap.size w W1 := by rw [HW1]; exact (Below.refl _ _).alloc (Nat.le_refl _) _
 have HI := Lib.hid (And.intro (h.next hb1) (h'.next hb1))
 have HB1 := Lib.hid hb1
 have HW1 := Lib.hid HW1
 clear h h' hb1
 go_enter Tryz.func60, Tryz.ntmps60
 go_wp2_with fail
 rw [← HW1.out]
 clear HW1
 clear HW1
 refine (char_two HI.out.1 HI.out.2 (by decide) (by decide) (by decide) (by decide) (by decide +kernel)).mono ?_
 rintro _ W2 ⟨t, rfl, ht, hb2⟩
 have HT := Lib.hid (show Tb W2 W1.heap.size t xB from by
  rw [show xB = ⟨Pq.nrm [-((2 : Int) : Rat), 1], Pq.nrm [-((0 : Int) : Rat)], Pq.nrm [-((0 : Int) : Rat)], Pq.nrm [-((3 : Int) : Rat), 1]⟩ by decide +kernel]
  exact ht)
 have HB2 := Lib.hid (And.intro hb2.size (HB1.out.trans (hb2.mono HB1.out.size)))
 clear ht hb2
 go_wp2_with fail
 refine (diagonal_any (E := xE) HT.out HB2.out.1 (by decide +kernel) (by decide +kernel) run_B).mono ?_
 rintro _ W3 ⟨A3, n3, c3, rfl, ho3, hb3⟩
 obtain rfl : n3 = 2 := ho3.len.symm
 have HO := Lib.hid (show ∀ W, Below W3.heap.size W3 W → OwPs W W1.heap.size A3 2 c3 [xE.a, xE.d] from fun W hb => ho3.next hb)
 have HB3 := Lib.hid (show Below w.heap.size w W3 ∧ W1.heap.size ≤ W3.heap.size from ⟨HB2.out.2.trans (hb3.mono HB1.out.size), Nat.le_trans HB2.out.1 hb3.size⟩)
 have HX0 := Lib.hid (Below.refl W3.heap.size W3)
 clear ho3 hb3
 go_wp2_with fail
 refine wp_loop_rounds 3 ?_
 rw [rounds_succ]
 obtain ⟨g0, B0, m0, l0, L0, hA0, _, k0, hq0, hL0⟩ := opl_at (HO.out _ HX0.out) (show 0 < 2 by decide)
 subst hA0
 obtain rfl : L0 = xE.a := by simpa using hL0.out.symm
 obtain rfl : m0 = 1 := by rw [← hq0.len]; rfl
 have HQ0 := Lib.hid hq0
 clear hq0 hL0
 go_wp2_with fail
 refine (deg_any (by decide)).mono ?_
 rintro _ Wd ⟨rfl, hwd⟩
 rw [hwd]
 clear hwd
 clear k0
 go_wp2_with fail
 rw [rounds_succ]
 obtain ⟨g1, B1, m1, l1, L1, hA1, _, k1, hq1, hL1⟩ := opl_at (HO.out _ HX0.out) (show 1 < 2 by decide)
 injection hA1 with hA1; injection hA1 with hA1; subst hA1
 obtain rfl : L1 = xE.d := by simpa using hL1.out.symm
 obtain rfl : m1 = 3 := by rw [← hq1.len]; rfl
 have HQ1 := Lib.hid hq1
 clear hq1 hL1
 go_wp2_with fail
 refine (deg_any (by decide)).mono ?_
 rintro _ Wd ⟨rfl, hwd⟩
 rw [hwd]
 clear hwd
 obtain ⟨EE, hE, hEl, hEn⟩ := (OwPs.nil W3 W1.heap.size)
 have HEE := Lib.hid (And.intro hE (And.intro hEl hEn))
 clear hE hEl hEn
 go_wp2_with (at_builtin; refine wpList_append_own _ rfl _ _ 30 rfl W1.heap.size 73 i1 (.slice none 0 0) 1 24 Tryz.underlying30 hjf hy0 hy1 hy2 rfl (by decide) _ _ _ rfl (HEE.out.1.alloc _) ⟨W3.heap.size, 0, none⟩ 1 1 [.slice B1 3 l1] rfl rfl (tcell_new W3 (.slice B1 3 l1) 73) (by simp [Value.oneCell']) (by decide) (by decide) (by have h1 := HB3.out.2; have h2 := HX0.out.size; simp; omega) ?_; intro v' Z1 hown' hgrow _)
 have hba : Below W3.heap.size W3 (W3.alloc (.cells #[.slice B1 3 l1] 73)) := (Below.refl _ _).alloc (Nat.le_refl _) _
 obtain ⟨A51, c51, rfl, ho5⟩ := ps_more (e := (B1, 3, l1)) HQ1.out rfl (HEE.out.1.alloc _) HEE.out.2.1 (HEE.out.2.2.next hba) hown' hgrow
 have HBZ1 := Lib.hid (show Below w.heap.size w Z1 from by
  have h0 := HB3.out.1.trans (HX0.out.mono (Nat.le_trans HB1.out.size HB3.out.2))
  exact (h0.alloc h0.size (.cells #[.slice B1 3 l1] 73)).grown hgrow (by have h1 := h0.size; simp; omega) (fun k hk => Nat.le_trans HB1.out.size (own_block HEE.out.1 k hk)))
 have HR := Lib.hid ho5
 clear hown' hgrow hba ho5 HEE k1
 go_wp2_with fail
 rw [rounds_succ]
 go_wp2
 go_ret2
 exact ⟨_, _, _, rfl, HR.out.base HB1.out.size, HBZ1.out⟩
end Go.Proofs.YtjnklbfhelbjgaaGreat

/- similelaw18: table, of two rows of two. -/
namespace Go.Proofs.YtjnklbfhelbjgaaGreat
open Go.RowKit Go.IntWalk
attribute [local go_sem ↓] Go.wp_at_zero Go.wp_at_succ
def RetTa (LL : List (List Int)) (w : World) (e : Ending) (w' : World) : Prop :=
 ∃ (s : Bool) (A : Option Addr) (n c : Nat) (G : Option Addr) (r k : Nat), e = .returned (.agg #[.bool s, .slice A n c, .slice G r k]) ∧ OwZ w' w.heap.size s A n c 1 ∧ OwMs w' w.heap.size G r k LL ∧ Below w.heap.size w w'
set_option maxRecDepth 100000 in
set_option maxHeartbeats 16000000 in
theorem table_two {ga ca g0 c0 g1 c1 : Nat} {T T0 T1 : TypeId} {z0 z1 z2 z3 : Int} {w : World} (ha : PX w ga T [.slice (some ⟨g0, 0, none⟩) 2 c0, .slice (some ⟨g1, 0, none⟩) 2 c1]) (h0 : PX w g0 T0 [.int .i64 z0, .int .i64 z1]) (h1 : PX w g1 T1 [.int .i64 z2, .int .i64 z3])
  (b0 : -1000 ≤ z0 ∧ z0 ≤ 1000) (b1 : -1000 ≤ z1 ∧ z1 ≤ 1000) (b2 : -1000 ≤ z2 ∧ z2 ≤ 1000) (b3 : -1000 ≤ z3 ∧ z3 ≤ 1000) :
  Calls Tryz.prog 61 #[.slice (some ⟨ga, 0, none⟩) 2 ca] w (RetTa [[z0, z1], [z2, z3]] w) := by
 obtain ⟨i0, hi, hz0, hz1, hz2⟩ := info_parts infoZ
 obtain ⟨i1, hjf, hy0, hy1, hy2⟩ := info_parts infoIs
 have HX := Lib.hid (show ∀ W, Below w.heap.size w W → W.cell? ⟨ga, 0, none⟩ = some (.slice (some ⟨g0, 0, none⟩) 2 c0) ∧ W.cell? ⟨ga, 1, none⟩ = some (.slice (some ⟨g1, 0, none⟩) 2 c1) ∧ W.cell? ⟨g0, 0, none⟩ = some (.int .i64 z0) ∧ W.cell? ⟨g0, 1, none⟩ = some (.int .i64 z1) ∧ W.cell? ⟨g1, 0, none⟩ = some (.int .i64 z2) ∧ W.cell? ⟨g1, 1, none⟩ = some (.int .i64 z3) from fun W hb => ⟨(ha.next hb).cell rfl, (ha.next hb).cell rfl, (h0.next hb).cell rfl, (h0.next hb).cell rfl, (h1.next hb).cell rfl, (h1.next hb).cell rfl⟩)
 have HBZ := Lib.hid (And.intro b0 (And.intro b1 (And.intro b2 b3)))
 obtain ⟨W1, HW1⟩ : ∃ W, W = w.alloc (.cells #[.bool false, .slice none 0 0, .slice none 0 0] 28) := ⟨_, rfl⟩
 have hb1 : Below w.heap.size w W1 := by rw [HW1]; exact (Below.refl _ _).alloc (Nat.le_refl _) _
 obtain ⟨gq, hgq⟩ : ∃ g, g = w.heap.size := ⟨_, rfl⟩
 have HQ1 := Lib.hid (show MC W1 gq false none 0 0 none 0 0 by rw [HW1, hgq]; exact MC.new w false none 0 0 none 0 0)
 have HGQ := Lib.hid (show w.heap.size ≤ gq by rw [hgq]; exact Nat.le_refl _)
 have HB1 := Lib.hid hb1
 have HW1 := Lib.hid HW1
 clear ha h0 h1 hb1 b0 b1 b2 b3
 go_enter Tryz.func61, Tryz.ntmps61
 go_wp2_with fail
 rw [← HW1.out, ← hgq]
 clear HW1 hgq
 clear HW1
 refine (rIOf_any 1 (by decide) (by decide) W1).mono ?_
 rintro _ W2 ⟨sD, AD, nD, cD, yD, rfl, hoD, hyD, hb2⟩
 obtain rfl := hyD.out
 obtain ⟨W3, HW3⟩ : ∃ W, W = W2.alloc (.cells #[.bool sD, .slice AD nD cD, .slice none 0 0] 28) := ⟨_, rfl⟩
 have hb3 : Below W2.heap.size W2 W3 := by rw [HW3]; exact (Below.refl _ _).alloc (Nat.le_refl _) _
 obtain ⟨gm, hgm⟩ : ∃ g, g = W2.heap.size := ⟨_, rfl⟩
 have HM3 := Lib.hid (show MC W3 gm sD AD nD cD none 0 0 by rw [HW3, hgm]; exact MC.new W2 sD AD nD cD none 0 0)
 have HGM := Lib.hid (show W1.heap.size ≤ gm ∧ gm < W3.heap.size ∧ gq ≠ gm from by
  have h1 := hb2.size
  have h2 := HQ1.out.lt
  refine ⟨by rw [hgm]; exact h1, HM3.out.lt, by omega⟩)
 have HD3 := Lib.hid (hoD.next hb3)
 have HQ3 := Lib.hid ((HQ1.out.next hb2).next hb3)
 have HB3 := Lib.hid (HB1.out.trans ((hb2.trans (hb3.mono hb2.size)).mono HB1.out.size))
 have HO3 := Lib.hid (OwMs.nil W3 W3.heap.size)
 have HBW := Lib.hid (Nat.le_refl W3.heap.size)
 have HW3 := Lib.hid HW3
 clear hoD hyD hb2 hb3
 have z0' := (HX.out _ HB3.out).1
 go_wp2_with fail
 rw [← HW3.out, ← hgm]
 clear HW3 hgm
 clear HW3 z0'
 refine wp_loop_rounds 3 ?_
 rw [rounds_succ]
 have x0 := (HX.out _ HB3.out).1
 go_wp2_with fail
 refine wp_loop_rounds 3 ?_
 have HX00 := Lib.hid (Below.refl W3.heap.size W3)
 rw [rounds_succ]
 have y0 := (HX.out _ (HB3.out.trans (HX00.out.mono HB3.out.size))).2.2.1
 go_wp2_with fail
 refine (rIOf_any z0 (by have := HBZ.out.1; omega) (by have := HBZ.out.1; omega) W3).mono ?_
 rintro _ P00 ⟨s00, A00, n00, c00, yy, rfl, ho, hy, hbp⟩
 obtain rfl := hy.out.symm
 obtain ⟨EE, hE, hEl, hEn⟩ := (OwZs.nil P00 W3.heap.size)
 have HEE := Lib.hid (And.intro hE (And.intro hEl hEn))
 have HOZ := Lib.hid (ho.base (b' := W3.heap.size) HX00.out.size)
 have HPP := Lib.hid (HX00.out.trans (hbp.mono HX00.out.size))
 clear hE hEl hEn ho hy hbp y0
 go_wp2_with (at_builtin; refine wpList_append_own _ rfl _ _ 65 rfl W3.heap.size 25 i0 (.agg #[.bool false, .slice none 0 0]) 2 32 Tryz.underlying65 hi hz0 hz1 hz2 rfl (by decide) _ _ _ rfl (HEE.out.1.alloc _) ⟨P00.heap.size, 0, none⟩ 1 1 [.bool s00, .slice A00 n00 c00] rfl rfl (zcell_new _ _ _ _) (by simp [Value.oneCell']) (by decide) (by decide) (by have h1 := HPP.out.size; simp; omega) ?_; intro v' Z00 hown' hgrow _)
 have hba : Below P00.heap.size P00 (P00.alloc (.cells #[.bool s00, .slice A00 n00 c00] 25)) := (Below.refl _ _).alloc (Nat.le_refl _) _
 obtain ⟨B00, d00, rfl, hoz⟩ := zs_more (e := (s00, A00, n00, c00)) HOZ.out rfl (HEE.out.1.alloc _) HEE.out.2.1 HEE.out.2.2 hown' hgrow
 have HX01 := Lib.hid ((HPP.out.alloc HPP.out.size (.cells #[.bool s00, .slice A00 n00 c00] 25)).grown hgrow (by have h1 := HPP.out.size; simp; omega) (own_block HEE.out.1))
 have HR0 := Lib.hid hoz
 clear hown' hgrow hba hoz HEE HOZ HPP
 go_wp2_with fail
 rw [rounds_succ]
 have y0 := (HX.out _ (HB3.out.trans (HX01.out.mono HB3.out.size))).2.2.2.1
 go_wp2_with fail
 refine (rIOf_any z1 (by have := HBZ.out.2.1; omega) (by have := HBZ.out.2.1; omega) Z00).mono ?_
 rintro _ P01 ⟨s01, A01, n01, c01, yy, rfl, ho, hy, hbp⟩
 obtain rfl := hy.out.symm
 obtain ⟨EE, hE, hEl, hEn⟩ := (HR0.out.next hbp)
 have HEE := Lib.hid (And.intro hE (And.intro hEl hEn))
 have HOZ := Lib.hid (ho.base (b' := W3.heap.size) HX01.out.size)
 have HPP := Lib.hid (HX01.out.trans (hbp.mono HX01.out.size))
 clear hE hEl hEn ho hy hbp y0
 go_wp2_with (at_builtin; refine wpList_append_own _ rfl _ _ 65 rfl W3.heap.size 25 i0 (.agg #[.bool false, .slice none 0 0]) 2 32 Tryz.underlying65 hi hz0 hz1 hz2 rfl (by decide) _ _ _ rfl (HEE.out.1.alloc _) ⟨P01.heap.size, 0, none⟩ 1 1 [.bool s01, .slice A01 n01 c01] rfl rfl (zcell_new _ _ _ _) (by simp [Value.oneCell']) (by decide) (by decide) (by have h1 := HPP.out.size; simp; omega) ?_; intro v' Z01 hown' hgrow _)
 have hba : Below P01.heap.size P01 (P01.alloc (.cells #[.bool s01, .slice A01 n01 c01] 25)) := (Below.refl _ _).alloc (Nat.le_refl _) _
 obtain ⟨B01, d01, rfl, hoz⟩ := zs_more (e := (s01, A01, n01, c01)) HOZ.out rfl (HEE.out.1.alloc _) HEE.out.2.1 HEE.out.2.2 hown' hgrow
 have HX02 := Lib.hid ((HPP.out.alloc HPP.out.size (.cells #[.bool s01, .slice A01 n01 c01] 25)).grown hgrow (by have h1 := HPP.out.size; simp; omega) (own_block HEE.out.1))
 have HR0 := Lib.hid hoz
 clear hown' hgrow hba hoz HEE HOZ HPP
 go_wp2_with fail
 rw [rounds_succ]
 have hm := HM3.out.next HX02.out
 have m2 := hm.c2
 have f2 := hm.fz 2
 have hba : Below Z01.heap.size Z01 (Z01.alloc (.cells #[.slice B01 (1 + 1) d01] 65)) := (Below.refl _ _).alloc (Nat.le_refl _) _
 have m2' := (hm.next hba).c2
 obtain ⟨EE, hE, hEl, hEn⟩ := HO3.out.next HX02.out
 have HEE := Lib.hid (And.intro hE (And.intro hEl hEn))
 have HMX := Lib.hid hm
 have HXX := Lib.hid (show Below w.heap.size w Z01 ∧ W3.heap.size ≤ Z01.heap.size from ⟨HB3.out.trans (HX02.out.mono HB3.out.size), Nat.le_trans HBW.out HX02.out.size⟩)
 clear hE hEl hEn hm
 go_wp2_with (at_builtin; refine wpList_append_own _ rfl _ _ 26 rfl W3.heap.size 65 i1 (.slice none 0 0) 1 24 Tryz.underlying26 hjf hy0 hy1 hy2 rfl (by decide) _ _ _ rfl (HEE.out.1.alloc _) ⟨Z01.heap.size, 0, none⟩ 1 1 [.slice B01 (1 + 1) d01] rfl rfl (tcell_new Z01 (.slice B01 (1 + 1) d01) 65) (by simp [Value.oneCell']) (by decide) (by decide) (by have h1 := HXX.out.2; simp; omega) ?_; intro v' Y0 hown' hgrow _; have hmy := (HMX.out.next hba).grown (HEE.out.1.alloc _) hgrow; have my := hmy.c2; have fy := hmy.fz 2; obtain ⟨G0, k0, rfl, hoy⟩ := ms_more (e := (B01, 1 + 1, d01)) (HR0.out.ip.base HBW.out) rfl (HEE.out.1.alloc _) HEE.out.2.1 (HEE.out.2.2.next hba) hown' hgrow)
 have hx5 := (HXX.out.1.alloc HXX.out.1.size (.cells #[.slice B01 (1 + 1) d01] 65)).grown hgrow (by have h1 := HXX.out.1.size; simp; omega) (fun k hk => Nat.le_trans HB3.out.size (own_block HEE.out.1 k hk))
 have hdy : OwZ Y0 W1.heap.size sD AD nD cD 1 := ((HD3.out.next HX02.out).next hba).keep (keepI_grown (HEE.out.1.alloc _) hgrow).1
 have hqy := ((HQ3.out.next HX02.out).next hba).grown (HEE.out.1.alloc _) hgrow
 obtain ⟨V0, HV0⟩ : ∃ W, W = Y0.setCell ⟨gm, 2, none⟩ (.slice G0 (0 + 1) k0) := ⟨_, rfl⟩
 have HM5 := Lib.hid (show MC V0 gm sD AD nD cD G0 (0 + 1) k0 by rw [HV0]; exact hmy.num _ _ _)
 have HD5 := Lib.hid (show OwZ V0 W1.heap.size sD AD nD cD 1 by rw [HV0]; exact hdy.keep (keepI_mc hmy 2 _).1)
 have HQ5 := Lib.hid (show MC V0 gq false none 0 0 none 0 0 by rw [HV0]; exact hqy.far (p := ⟨gm, 2, none⟩) HGM.out.2.2 _)
 have HB5 := Lib.hid (show Below w.heap.size w V0 by rw [HV0]; exact hx5.setCell (p := ⟨gm, 2, none⟩) (Nat.le_trans HB1.out.size HGM.out.1) _)
 have HO5 := Lib.hid (show OwMs V0 W3.heap.size G0 (0 + 1) k0 ([] ++ [[] ++ [z0] ++ [z1]]) by rw [HV0]; exact hoy.num hmy HGM.out.2.1 _)
 have HBW5 := Lib.hid (show W3.heap.size ≤ V0.heap.size by rw [HV0, World.size_setCell]; have h1 := HXX.out.2; have h2 := hgrow.size; simp at h2; omega)
 rw [← HV0]
 clear hdy hqy hmy my fy hx5 hoy HV0 hown' hgrow hba m2 f2 m2' HEE HMX HXX HR0 x0
 go_wp2_with fail
 rw [rounds_succ]
 have x0 := (HX.out _ HB5.out).2.1
 go_wp2_with fail
 refine wp_loop_rounds 3 ?_
 have HX10 := Lib.hid (Below.refl V0.heap.size V0)
 rw [rounds_succ]
 have y0 := (HX.out _ (HB5.out.trans (HX10.out.mono HB5.out.size))).2.2.2.2.1
 go_wp2_with fail
 refine (rIOf_any z2 (by have := HBZ.out.2.2.1; omega) (by have := HBZ.out.2.2.1; omega) V0).mono ?_
 rintro _ P10 ⟨s10, A10, n10, c10, yy, rfl, ho, hy, hbp⟩
 obtain rfl := hy.out.symm
 obtain ⟨EE, hE, hEl, hEn⟩ := (OwZs.nil P10 V0.heap.size)
 have HEE := Lib.hid (And.intro hE (And.intro hEl hEn))
 have HOZ := Lib.hid (ho.base (b' := V0.heap.size) HX10.out.size)
 have HPP := Lib.hid (HX10.out.trans (hbp.mono HX10.out.size))
 clear hE hEl hEn ho hy hbp y0
 go_wp2_with (at_builtin; refine wpList_append_own _ rfl _ _ 65 rfl V0.heap.size 25 i0 (.agg #[.bool false, .slice none 0 0]) 2 32 Tryz.underlying65 hi hz0 hz1 hz2 rfl (by decide) _ _ _ rfl (HEE.out.1.alloc _) ⟨P10.heap.size, 0, none⟩ 1 1 [.bool s10, .slice A10 n10 c10] rfl rfl (zcell_new _ _ _ _) (by simp [Value.oneCell']) (by decide) (by decide) (by have h1 := HPP.out.size; simp; omega) ?_; intro v' Z10 hown' hgrow _)
 have hba : Below P10.heap.size P10 (P10.alloc (.cells #[.bool s10, .slice A10 n10 c10] 25)) := (Below.refl _ _).alloc (Nat.le_refl _) _
 obtain ⟨B10, d10, rfl, hoz⟩ := zs_more (e := (s10, A10, n10, c10)) HOZ.out rfl (HEE.out.1.alloc _) HEE.out.2.1 HEE.out.2.2 hown' hgrow
 have HX11 := Lib.hid ((HPP.out.alloc HPP.out.size (.cells #[.bool s10, .slice A10 n10 c10] 25)).grown hgrow (by have h1 := HPP.out.size; simp; omega) (own_block HEE.out.1))
 have HR1 := Lib.hid hoz
 clear hown' hgrow hba hoz HEE HOZ HPP
 go_wp2_with fail
 rw [rounds_succ]
 have y0 := (HX.out _ (HB5.out.trans (HX11.out.mono HB5.out.size))).2.2.2.2.2
 go_wp2_with fail
 refine (rIOf_any z3 (by have := HBZ.out.2.2.2; omega) (by have := HBZ.out.2.2.2; omega) Z10).mono ?_
 rintro _ P11 ⟨s11, A11, n11, c11, yy, rfl, ho, hy, hbp⟩
 obtain rfl := hy.out.symm
 obtain ⟨EE, hE, hEl, hEn⟩ := (HR1.out.next hbp)
 have HEE := Lib.hid (And.intro hE (And.intro hEl hEn))
 have HOZ := Lib.hid (ho.base (b' := V0.heap.size) HX11.out.size)
 have HPP := Lib.hid (HX11.out.trans (hbp.mono HX11.out.size))
 clear hE hEl hEn ho hy hbp y0
 go_wp2_with (at_builtin; refine wpList_append_own _ rfl _ _ 65 rfl V0.heap.size 25 i0 (.agg #[.bool false, .slice none 0 0]) 2 32 Tryz.underlying65 hi hz0 hz1 hz2 rfl (by decide) _ _ _ rfl (HEE.out.1.alloc _) ⟨P11.heap.size, 0, none⟩ 1 1 [.bool s11, .slice A11 n11 c11] rfl rfl (zcell_new _ _ _ _) (by simp [Value.oneCell']) (by decide) (by decide) (by have h1 := HPP.out.size; simp; omega) ?_; intro v' Z11 hown' hgrow _)
 have hba : Below P11.heap.size P11 (P11.alloc (.cells #[.bool s11, .slice A11 n11 c11] 25)) := (Below.refl _ _).alloc (Nat.le_refl _) _
 obtain ⟨B11, d11, rfl, hoz⟩ := zs_more (e := (s11, A11, n11, c11)) HOZ.out rfl (HEE.out.1.alloc _) HEE.out.2.1 HEE.out.2.2 hown' hgrow
 have HX12 := Lib.hid ((HPP.out.alloc HPP.out.size (.cells #[.bool s11, .slice A11 n11 c11] 25)).grown hgrow (by have h1 := HPP.out.size; simp; omega) (own_block HEE.out.1))
 have HR1 := Lib.hid hoz
 clear hown' hgrow hba hoz HEE HOZ HPP
 go_wp2_with fail
 rw [rounds_succ]
 have hm := HM5.out.next HX12.out
 have m2 := hm.c2
 have f2 := hm.fz 2
 have hba : Below Z11.heap.size Z11 (Z11.alloc (.cells #[.slice B11 (1 + 1) d11] 65)) := (Below.refl _ _).alloc (Nat.le_refl _) _
 have m2' := (hm.next hba).c2
 obtain ⟨EE, hE, hEl, hEn⟩ := HO5.out.next HX12.out
 have HEE := Lib.hid (And.intro hE (And.intro hEl hEn))
 have HMX := Lib.hid hm
 have HXX := Lib.hid (show Below w.heap.size w Z11 ∧ W3.heap.size ≤ Z11.heap.size from ⟨HB5.out.trans (HX12.out.mono HB5.out.size), Nat.le_trans HBW5.out HX12.out.size⟩)
 clear hE hEl hEn hm
 go_wp2_with (at_builtin; refine wpList_append_own _ rfl _ _ 26 rfl W3.heap.size 65 i1 (.slice none 0 0) 1 24 Tryz.underlying26 hjf hy0 hy1 hy2 rfl (by decide) _ _ _ rfl (HEE.out.1.alloc _) ⟨Z11.heap.size, 0, none⟩ 1 1 [.slice B11 (1 + 1) d11] rfl rfl (tcell_new Z11 (.slice B11 (1 + 1) d11) 65) (by simp [Value.oneCell']) (by decide) (by decide) (by have h1 := HXX.out.2; simp; omega) ?_; intro v' Y1 hown' hgrow _; have hmy := (HMX.out.next hba).grown (HEE.out.1.alloc _) hgrow; have my := hmy.c2; have fy := hmy.fz 2; obtain ⟨G1, k1, rfl, hoy⟩ := ms_more (e := (B11, 1 + 1, d11)) (HR1.out.ip.base HBW5.out) rfl (HEE.out.1.alloc _) HEE.out.2.1 (HEE.out.2.2.next hba) hown' hgrow)
 have hx5 := (HXX.out.1.alloc HXX.out.1.size (.cells #[.slice B11 (1 + 1) d11] 65)).grown hgrow (by have h1 := HXX.out.1.size; simp; omega) (fun k hk => Nat.le_trans HB3.out.size (own_block HEE.out.1 k hk))
 have hdy : OwZ Y1 W1.heap.size sD AD nD cD 1 := ((HD5.out.next HX12.out).next hba).keep (keepI_grown (HEE.out.1.alloc _) hgrow).1
 have hqy := ((HQ5.out.next HX12.out).next hba).grown (HEE.out.1.alloc _) hgrow
 obtain ⟨V1, HV1⟩ : ∃ W, W = Y1.setCell ⟨gm, 2, none⟩ (.slice G1 (1 + 1) k1) := ⟨_, rfl⟩
 have HM6 := Lib.hid (show MC V1 gm sD AD nD cD G1 (1 + 1) k1 by rw [HV1]; exact hmy.num _ _ _)
 have HD6 := Lib.hid (show OwZ V1 W1.heap.size sD AD nD cD 1 by rw [HV1]; exact hdy.keep (keepI_mc hmy 2 _).1)
 have HQ6 := Lib.hid (show MC V1 gq false none 0 0 none 0 0 by rw [HV1]; exact hqy.far (p := ⟨gm, 2, none⟩) HGM.out.2.2 _)
 have HB6 := Lib.hid (show Below w.heap.size w V1 by rw [HV1]; exact hx5.setCell (p := ⟨gm, 2, none⟩) (Nat.le_trans HB1.out.size HGM.out.1) _)
 have HO6 := Lib.hid (show OwMs V1 W3.heap.size G1 (1 + 1) k1 ([[z0, z1]] ++ [[] ++ [z2] ++ [z3]]) by rw [HV1]; exact hoy.num hmy HGM.out.2.1 _)
 have HBW6 := Lib.hid (show W3.heap.size ≤ V1.heap.size by rw [HV1, World.size_setCell]; have h1 := HXX.out.2; have h2 := hgrow.size; simp at h2; omega)
 rw [← HV1]
 clear hdy hqy hmy my fy hx5 hoy HV1 hown' hgrow hba m2 f2 m2' HEE HMX HXX HR1 x0
 have hq := HQ6.out
 have hm := HM6.out
 have a0 := hm.c0
 have a1 := hm.c1
 have a2 := hm.c2
 have r0 := hq.c0
 have r1 := hq.c1
 have r2 := hq.c2
 have f0 := hq.fz 0
 have f1 := hq.fz 1
 have f2 := hq.fz 2
 have HSS := Lib.hid (hq.store sD AD nD cD G1 (1 + 1) k1)
 have HU := Lib.hid ((HD6.out.base (b' := w.heap.size) HB1.out.size).keep (keepI_put hq sD AD nD cD G1 (1 + 1) k1).1)
 have HQQ := Lib.hid ((HO6.out.put hq (by have h1 := HQ1.out.lt; have h2 := HGM.out; omega) sD AD nD cD G1 (1 + 1) k1).base (b' := w.heap.size) HB3.out.size)
 have HF := Lib.hid (below_putM HB6.out HGQ.out sD AD nD cD G1 (1 + 1) k1)
 unfold putM at HSS HU HQQ HF
 clear hq hm
 go_wp2_with fail
 rw [rounds_succ]
 go_wp2_with fail
 generalize ((V1.setCell ⟨gq, 0, none⟩ (.bool sD)).setCell ⟨gq, 1, none⟩ (.slice AD nD cD)).setCell ⟨gq, 2, none⟩ (.slice G1 2 k1) = W9 at *
 have w0 := HSS.out.c0
 have w1 := HSS.out.c1
 have w2 := HSS.out.c2
 exact bodyPost_ret (by simp [results, Tryz.results61, go_sem, w0, w1, w2]) rfl ⟨_, _, _, _, _, _, _, rfl, HU.out, HQQ.out, HF.out⟩
end Go.Proofs.YtjnklbfhelbjgaaGreat

/- Are two fractions, two lists of them, the very same? -/
namespace Go.Proofs.YtjnklbfhelbjgaaGreat
open Go.RowKit Go.IntWalk
attribute [local go_sem ↓] Go.wp_at_zero Go.wp_at_succ
theorem q_pair (w : World) (s1 s2 s3 s4 : Bool) (A1 A2 A3 A4 : Option Addr) (n1 c1 n2 c2 n3 c3 n4 c4 : Nat) :
  ∀ W1 : World, W1 = (w.alloc (.cells #[.bool s1, .slice A1 n1 c1, .bool s2, .slice A2 n2 c2] 47)).alloc (.cells #[.bool s3, .slice A3 n3 c3, .bool s4, .slice A4 n4 c4] 47) →
   QC W1 w.heap.size s1 A1 n1 c1 s2 A2 n2 c2 ∧ QC W1 (w.heap.size + 1) s3 A3 n3 c3 s4 A4 n4 c4 ∧ Below w.heap.size w W1 := by
 rintro W1 rfl
 refine ⟨(QC.new w s1 A1 n1 c1 s2 A2 n2 c2).next ((Below.refl _ _).alloc (Nat.le_refl _) _), ?_, ((Below.refl w.heap.size w).alloc (Nat.le_refl _) _).alloc (by simp) _⟩
 simpa using QC.new (w.alloc (.cells #[.bool s1, .slice A1 n1 c1, .bool s2, .slice A2 n2 c2] 47)) s3 A3 n3 c3 s4 A4 n4 c4
set_option maxRecDepth 100000 in
set_option maxHeartbeats 4000000 in
theorem same05_any {s1 s2 s3 s4 : Bool} {A1 A2 A3 A4 : Option Addr} {n1 c1 n2 c2 n3 c3 n4 c4 : Nat} {M1 M2 M3 M4 : List Nat} {w : World} (h1 : RdU w w.heap.size A1 n1 c1 M1) (h2 : RdU w w.heap.size A2 n2 c2 M2) (h3 : RdU w w.heap.size A3 n3 c3 M3) (h4 : RdU w w.heap.size A4 n4 c4 M4) :
  Calls Tryz.prog 156 #[.agg #[.bool s1, .slice A1 n1 c1, .bool s2, .slice A2 n2 c2], .agg #[.bool s3, .slice A3 n3 c3, .bool s4, .slice A4 n4 c4]] w (RetBo (((s1, M1), (s2, M2)) = ((s3, M3), (s4, M4))) w) := by
 obtain ⟨W1, HW1⟩ : ∃ W, W = (w.alloc (.cells #[.bool s1, .slice A1 n1 c1, .bool s2, .slice A2 n2 c2] 47)).alloc (.cells #[.bool s3, .slice A3 n3 c3, .bool s4, .slice A4 n4 c4] 47) := ⟨_, rfl⟩
 obtain ⟨hX, hY, hB⟩ := q_pair w s1 s2 s3 s4 A1 A2 A3 A4 n1 c1 n2 c2 n3 c3 n4 c4 W1 HW1
 have a0 := hX.c0
 have a1 := hX.c1
 have b0 := hY.c0
 have b1 := hY.c1
 rw [HW1] at a0 a1 b0 b1
 have HX := Lib.hid hX
 have HY := Lib.hid hY
 have HB := Lib.hid hB
 have HR := Lib.hid (And.intro (And.intro (h1.next hB) (h3.next hB)) (And.intro (h2.next hB) (h4.next hB)))
 have HW1 := Lib.hid HW1
 clear hX hY hB h1 h2 h3 h4
 go_enter Tryz.func156, Tryz.ntmps156
 go_wp2_with fail
 rw [← HW1.out]
 clear HW1 a0 a1 b0 b1
 clear HW1
 refine (same03_any (s := s1) (s' := s3) HR.out.1.1 HR.out.1.2).mono ?_
 rintro _ W2 ⟨b, rfl, hb, hb2⟩
 have HB2 := Lib.hid (HB.out.trans (hb2.mono HB.out.size))
 cases b
 ·have HNE := Lib.hid (show (s1, M1) ≠ (s3, M3) from fun e => by have := hb.out.2 e; simp at this)
  clear hb2
  go_wp2
  go_ret
  exact ⟨false, rfl, Lib.hid ⟨fun e => by simp at e, fun e => absurd (by injection e) HNE.out⟩, HB2.out⟩
 ·have HEQ := Lib.hid (hb.out.1 rfl)
  have a2 := (HX.out.next hb2).c2
  have a3 := (HX.out.next hb2).c3
  have b2 := (HY.out.next hb2).c2
  have b3 := (HY.out.next hb2).c3
  have HR2 := Lib.hid (And.intro (HR.out.2.1.next hb2) (HR.out.2.2.next hb2))
  clear hb2
  go_wp2_with fail
  clear a2 a3 b2 b3
  refine (same03_any (s := s2) (s' := s4) HR2.out.1 HR2.out.2).mono ?_
  rintro _ W3 ⟨b, rfl, hb3, hb4⟩
  go_wp2
  go_ret
  exact ⟨b, rfl, Lib.hid ⟨fun e => by rw [HEQ.out, hb3.out.1 e], fun e => hb3.out.2 (by injection e)⟩, HB2.out.trans (hb4.mono HB2.out.size)⟩
theorem rq_at {w : World} {B : Nat} {A : Option Addr} {n c : Nat} {R : List RawQ} (h : RdRQ w B A n c R) {j : Nat} (hj : j < n) :
  ∃ (ad : Addr) (s : Bool) (M : List Nat) (s' : Bool) (M' : List Nat) (A1 : Option Addr) (n1 c1 : Nat) (A1' : Option Addr) (n1' c1' : Nat), A = some ad ∧ ad.block < B ∧ w.cell? (ad.add (j * 4)) = some (.bool s) ∧ w.cell? ⟨(ad.add (j * 4)).block, (ad.add (j * 4)).off + 1, none⟩ = some (.slice A1 n1 c1) ∧ w.cell? ⟨(ad.add (j * 4)).block, (ad.add (j * 4)).off + 2, none⟩ = some (.bool s') ∧ w.cell? ⟨(ad.add (j * 4)).block, (ad.add (j * 4)).off + 3, none⟩ = some (.slice A1' n1' c1') ∧ RdU w B A1 n1 c1 M ∧ RdU w B A1' n1' c1' M' ∧ Hid (R[j]? = some ((s, M), (s', M'))) := by
 have hz : R[j]? = some (R[j]'(by rw [h.len]; exact hj)) := List.getElem?_eq_getElem _
 obtain ⟨ad, A1, n1, c1, A1', n1', c1', h1, h2, h3, h4, h5, h6, h7, h8⟩ := h.at_ j _ hz
 exact ⟨ad, _, _, _, _, A1, n1, c1, A1', n1', c1', h1, h2, h3, h4, h5, h6, h7, h8, Lib.hid hz⟩
set_option maxRecDepth 100000 in
set_option maxHeartbeats 4000000 in
theorem sameAll05_any {A A' : Option Addr} {n c n' c' : Nat} {R R' : List RawQ} {w : World} (h : RdRQ w w.heap.size A n c R) (h' : RdRQ w w.heap.size A' n' c' R') :
  Calls Tryz.prog 104 #[.slice A n c, .slice A' n' c'] w (RetBo (R = R') w) := by
 have hlen := Lib.hid (And.intro h.len h'.len)
 have hn : n ≤ 9223372036854775807 := by
  have h1 := h.mx
  have h2 := h.le
  unfold maxLen at h1
  omega
 go_enter Tryz.func104, Tryz.ntmps104
 by_cases hne : n = n'
 ·subst hne
  go_wp2_with fail
  go_loopw [13] (fun iv wr => ∃ i : Nat, iv = .int .i64 i ∧ i ≤ n ∧ Hid (∀ t, t < i → R[t]? = R'[t]?) ∧ Below w.heap.size w wr) (fun iv _ => n - (intOf iv).toNat)
  case atStart => exact ⟨0, rfl, Nat.zero_le _, Lib.hid fun t ht => by omega, Below.refl _ _⟩
  case round =>
   obtain ⟨i, rfl, hi, hE, hB⟩ := hrel
   by_cases hin : i = n
   ·have hni := hin.symm
    subst hni
    clear hin
    go_wp2
    go_ret
    exact ⟨true, rfl, Lib.hid ⟨fun _ => by
     apply List.ext_getElem?
     intro t
     rcases Nat.lt_or_ge t n with ht | ht
     ·exact hE.out t ht
     ·rw [List.getElem?_eq_none (by rw [hlen.out.1]; exact ht), List.getElem?_eq_none (by rw [hlen.out.2]; exact ht)], fun _ => rfl⟩, hB⟩
   ·have hil : i < n := by omega
    clear hin
    have hili : (i : Int) < (n : Int) := by omega
    obtain ⟨ad, s, M, t, N, A1, n1, c1, A2, n2, c2, rfl, hbk, hx0, hx1, hx2, hx3, hrx, hrx', hx⟩ := rq_at h hil
    obtain ⟨ad', s', M', t', N', A3, n3, c3, A4, n4, c4, rfl, hbk', hy0, hy1, hy2, hy3, hry, hry', hy⟩ := rq_at h' hil
    obtain ⟨k0, k1, k2, k3⟩ := qs_cells hB hbk hx0 hx1 hx2 hx3
    obtain ⟨l0, l1, l2, l3⟩ := qs_cells hB hbk' hy0 hy1 hy2 hy3
    have HBD := Lib.hid (Below.refl wr.heap.size wr).drew
    have HSA := Lib.hid (same05_any (s1 := s) (s2 := t) (s3 := s') (s4 := t') ((hrx.next hB).next HBD.out) ((hrx'.next hB).next HBD.out) ((hry.next hB).next HBD.out) ((hry'.next hB).next HBD.out))
    have HCX := Lib.hid (show ∀ W : World, Below wr.heap.size wr W → _ from fun W hb => qs_cells (hB.trans (hb.mono hB.size)) hbk hx0 hx1 hx2 hx3)
    have HCY := Lib.hid (show ∀ W : World, Below wr.heap.size wr W → _ from fun W hb => qs_cells (hB.trans (hb.mono hB.size)) hbk' hy0 hy1 hy2 hy3)
    clear hx0 hx1 hx2 hx3 hy0 hy1 hy2 hy3 hrx hry hrx' hry'
    go_upto_region 6 with fail
    go_region_held3 (fun w' => (w'.cell? (ad.add (i * 4)) = some (.bool s) ∧ w'.cell? ⟨(ad.add (i * 4)).block, (ad.add (i * 4)).off + 1, none⟩ = some (.slice A1 n1 c1) ∧ w'.cell? ⟨(ad.add (i * 4)).block, (ad.add (i * 4)).off + 2, none⟩ = some (.bool t) ∧ w'.cell? ⟨(ad.add (i * 4)).block, (ad.add (i * 4)).off + 3, none⟩ = some (.slice A2 n2 c2)) ∧ w'.cell? (ad'.add (i * 4)) = some (.bool s') ∧ w'.cell? ⟨(ad'.add (i * 4)).block, (ad'.add (i * 4)).off + 1, none⟩ = some (.slice A3 n3 c3) ∧ w'.cell? ⟨(ad'.add (i * 4)).block, (ad'.add (i * 4)).off + 2, none⟩ = some (.bool t') ∧ w'.cell? ⟨(ad'.add (i * 4)).block, (ad'.add (i * 4)).off + 3, none⟩ = some (.slice A4 n4 c4))
     (first | exact ⟨HCX.out _ HB2.out, HCY.out _ HB2.out⟩ | exact ⟨HCX.out _ HBD.out, HCY.out _ HBD.out⟩ | exact ⟨HCX.out _ (Below.refl _ _), HCY.out _ (Below.refl _ _)⟩)
     (first
      | (go_at_call 156; refine HSA.out.mono ?_; rintro _ W2 ⟨b, rfl, hb, hb2⟩; have HB2 := Lib.hid (HBD.out.trans hb2); obtain ⟨a0, a1, a2, a3⟩ := HCX.out W2 HB2.out; obtain ⟨b0, b1, b2, b3⟩ := HCY.out W2 HB2.out))
    have hB2 := hB.trans (HB2.out.mono hB.size)
    clear k0 k1 k2 k3 l0 l1 l2 l3 a0 a1 a2 a3 b0 b1 b2 b3 hb2
    cases b
    ·have HNE := Lib.hid (show ((s, M), (t, N)) ≠ ((s', M'), (t', N')) from fun e => by have := hb.out.2 e; simp at this)
     go_wp2
     go_ret
     exact ⟨false, rfl, Lib.hid ⟨fun e => by simp at e, fun e => absurd (by
      have e1 := hx.out
      rw [e, hy.out] at e1
      injection e1 with e1
      exact e1.symm) HNE.out⟩, hB2⟩
    ·have HEQ := Lib.hid (hb.out.1 rfl)
     go_wp2
     go_roundw
     case rel => exact ⟨i + 1, by go_num, by omega, Lib.hid fun t ht => by
      rcases Nat.lt_or_ge t i with h1 | h1
      ·exact hE.out t h1
      ·rw [show t = i by omega, hx.out, hy.out, HEQ.out], hB2⟩
     case measure => simp [intOf]; omega
 ·have hb : ((n : Int) != (n' : Int)) = true := by simp; omega
  have HNE := Lib.hid hne
  clear hne
  go_wp2
  go_ret
  exact ⟨false, rfl, Lib.hid ⟨fun e => by simp at e, fun e => absurd (by rw [← hlen.out.1, ← hlen.out.2, e]) HNE.out⟩, Below.refl _ _⟩
set_option maxHeartbeats 400000 in
theorem same09_any {A A' : Option Addr} {n c n' c' : Nat} {R R' : List RawQ} {w : World} (h : RdRQ w w.heap.size A n c R) (h' : RdRQ w w.heap.size A' n' c' R') :
  Calls Tryz.prog 58 #[.slice A n c, .slice A' n' c'] w (RetBo (R = R') w) := by
 go_enter Tryz.func58, Tryz.ntmps58
 go_wp2_with fail
 refine (sameAll05_any h h').mono ?_
 rintro _ W2 ⟨b, rfl, hb, hb2⟩
 go_wp2
 go_ret
 exact ⟨b, rfl, hb, hb2⟩
def ofQ (x : Rat) : RawQ := (ofZ x.num, ofZ (x.den : Int))
theorem OwQp.rq {w : World} {b : Nat} {A : Option Addr} {n c : Nat} {L : List Rat} (h : OwQp w b A n c L) : RdRQ w w.heap.size A n c (L.map ofQ) := by
 refine ⟨by rw [List.length_map, h.len], h.le.1, h.le.2, fun j p hp => ?_⟩
 rw [List.getElem?_map] at hp
 rcases Nat.lt_or_ge j L.length with hj | hj
 ·obtain ⟨ad, s, A1, n1, c1, s', A1', n1', c1', x, e1, e2, a0, a1, a2, a3, hx, hL⟩ := op_at h (show j < n by rw [← h.len]; exact hj)
  rw [hL.out] at hp
  simp at hp
  subst hp
  have hs : s = (ofQ x).1.1 := hx.num.sgn
  have hs' : s' = (ofQ x).2.1 := hx.den.sgn
  exact ⟨ad, A1, n1, c1, A1', n1', c1', e1, e2, by rw [← hs]; exact a0, a1, by rw [← hs']; exact a2, a3, hx.num.own.rd, hx.den.own.rd⟩
 ·rw [List.getElem?_eq_none hj] at hp
  simp at hp
end Go.Proofs.YtjnklbfhelbjgaaGreat
