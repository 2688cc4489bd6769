/- similelaw09.lives: the document's examples are as it says. -/
import Derived.Test.YtipbpdiahemmpaaGreatQ38
import Derived.Test.YtipbpdiahemmpaaGreatQ39
import Derived.Test.YtipbpdiahemmpaaGreatQ28
namespace Go.Proofs.YtipbpdiahemmpaaGreat
open Go.RowKit Go.IntWalk
attribute [local go_sem ↓] Go.wp_at_zero Go.wp_at_succ

/-- It says yes, and leaves what was there. -/
def RetYes (w : World) (e : Ending) (w' : World) : Prop := e = .returned (.bool true) ∧ Below w.heap.size w w'
/-- The first example's chain. -/
def exD : Nat → List Int
  | 0 => []
  | 1 => [-1, 0, 1]
  | _ => [-1, 1]
theorem exD_ok : ∀ (j : Nat) (Z : List Int), [[-1, 0, 1], [-2, 2]][j]? = some Z → GcdOK (exD j) Z (exD (j + 1))
  | 0, Z, h => by
    obtain rfl : [-1, 0, 1] = Z := by simpa using h
    exact gok1
  | 1, Z, h => by
    obtain rfl : [-2, 2] = Z := by simpa using h
    exact gok2
  | j + 2, Z, h => by simp at h
set_option maxRecDepth 100000 in
set_option maxHeartbeats 4000000 in
theorem lives_any (w : World) : Calls Tryz.prog 32 #[] w (RetYes w) := by
  go_enter Tryz.func32, Tryz.ntmps32
  go_wp2_with fail
  refine (lof09_any (RdK.new w _ [-1, 0, 1] (by decide) (by decide) rfl rfl) (by decide)).mono ?_
  rintro _ W1 ⟨A1, n1, c1, M1, rfl, ho1, hM1, hb1⟩
  obtain rfl := hM1.out
  obtain rfl : n1 = 3 := ho1.len.symm
  have HB1 := Lib.hid (((Below.refl w.heap.size w).alloc (Nat.le_refl _) _).trans (hb1.mono (by simp)))
  have HO1 := Lib.hid (ho1.base (b' := w.heap.size) (by simp))
  clear hM1 hb1 ho1
  go_wp2_with fail
  refine (lof09_any (RdK.new W1 _ [-2, 2] (by decide) (by decide) rfl rfl) (by decide)).mono ?_
  rintro _ W2 ⟨A2, n2, c2, M2, rfl, ho2, hM2, hb2⟩
  obtain rfl := hM2.out
  obtain rfl : n2 = 2 := ho2.len.symm
  have hb2' := ((Below.refl W1.heap.size W1).alloc (Nat.le_refl _) _).trans (hb2.mono (by simp))
  have HB2 := Lib.hid (HB1.out.trans (hb2'.mono HB1.out.size))
  have hr1 := (HO1.out.next hb2').rd (N := 1) (show Sm [-1, 0, 1] by decide).qs
  have hr2 := ho2.rd (N := 1) (show Sm [-2, 2] by decide).qs
  obtain ⟨W3, HW3⟩ : ∃ W, W = W2.alloc (.cells #[.slice A1 3 c1, .slice A2 2 c2] 38) := ⟨_, rfl⟩
  have HPS := Lib.hid (ps_two (K := 3) hr1 hr2 (Nat.le_refl _) (by decide) HW3)
  have HB3 := Lib.hid (HB2.out.trans ((show Below W2.heap.size W2 W3 by rw [HW3]; exact (Below.refl _ _).alloc (Nat.le_refl _) _).mono HB2.out.size))
  have HW3 := Lib.hid HW3
  clear hM2 hb2 hb2' ho2 hr1 hr2 HO1
  go_wp2_with fail
  rw [← HW3.out]
  clear HW3
  clear HW3
  refine (qGcd_run (Zs := [[-1, 0, 1], [-2, 2]]) exD HPS.out rfl exD_ok (by decide) (by decide)).mono ?_
  rintro _ W4 ⟨A4, n4, c4, M4, k4, rfl, ho4, hM4, hb4⟩
  obtain ⟨rfl, rfl⟩ := hM4.out
  have HB4 := Lib.hid (HB3.out.trans (hb4.mono HB3.out.size))
  have HO4 := Lib.hid ho4
  clear hM4 hb4 ho4
  go_wp2_with fail
  refine (lof09_any (RdK.new W4 _ [0, 0, -2, 2] (by decide) (by decide) rfl rfl) (by decide)).mono ?_
  rintro _ W5 ⟨A5, n5, c5, M5, rfl, ho5, hM5, hb5⟩
  obtain rfl := hM5.out
  have hb5' := ((Below.refl W4.heap.size W4).alloc (Nat.le_refl _) _).trans (hb5.mono (by simp))
  have HB5 := Lib.hid (HB4.out.trans (hb5'.mono HB4.out.size))
  have HO5 := Lib.hid (HO4.out.next hb5')
  have hr5 := ho5.rd (N := 1) (show Sm [0, 0, -2, 2] by decide).qs
  clear hM5 hb5 hb5' ho5
  go_wp2_with fail
  refine (sq_run hr5).mono ?_
  rintro _ W6 ⟨s1, A6, n6, c6, s2, A7, n7, c7, gl, cl, rfl, ho6, hg6, hb6⟩
  have hb06 := HB5.out.trans (hb6.mono HB5.out.size)
  have hb7 : Below W6.heap.size W6 (W6.alloc (.cells #[.bool s1, .slice A6 n6 c6, .bool s2, .slice A7 n7 c7] 56)) := (Below.refl _ _).alloc (Nat.le_refl _) _
  have hb07 := hb06.trans (hb7.mono hb06.size)
  have HO7 := Lib.hid (And.intro ((HO5.out.next hb6).next hb7) (And.intro (ho6.next hb7) (QC.new W6 s1 A6 n6 c6 s2 A7 n7 c7)))
  have HG7 := Lib.hid (show gl < (W6.alloc (.cells #[.bool s1, .slice A6 n6 c6, .bool s2, .slice A7 n7 c7] 56)).heap.size ∧ 2 ≤ cl ∧ (W6.alloc (.cells #[.bool s1, .slice A6 n6 c6, .bool s2, .slice A7 n7 c7] 56)).cell? ⟨gl, 3, none⟩ = some (.int .i64 2) from ⟨Nat.lt_of_lt_of_le hg6.out.1 hb7.size, hg6.out.2.1, (hb7.cell (p := ⟨gl, 3, none⟩) hg6.out.1).trans hg6.out.2.2⟩)
  have HB7 := Lib.hid hb07
  clear hb06 hb7 hb07 hb6 ho6 hg6 hr5
  go_upto_region 3 with fail
  generalize W6.alloc (.cells #[.bool s1, .slice A6 n6 c6, .bool s2, .slice A7 n7 c7] 56) = V at *
  have HALL := Lib.hid (show ∀ W, Below V.heap.size V W → OwQp W W3.heap.size A4 n4 c4 (qz [-1, 1]) ∧ OwQ W W5.heap.size s1 A6 n6 c6 s2 A7 n7 c7 2 ∧ QC W W6.heap.size s1 A6 n6 c6 s2 A7 n7 c7 ∧ W.cell? ⟨gl, 3, none⟩ = some (.int .i64 2) from fun W hb => ⟨HO7.out.1.next hb, HO7.out.2.1.next hb, HO7.out.2.2.next hb, (hb.cell (p := ⟨gl, 3, none⟩) HG7.out.1).trans HG7.out.2.2⟩)
  have HBD := Lib.hid (Below.refl V.heap.size V).drew
  have HCX := Lib.hid (show ∀ W, Below V.heap.size V W → W.cell? ⟨W6.heap.size, 0, none⟩ = some (.bool s1) ∧ W.cell? ⟨W6.heap.size, 1, none⟩ = some (.slice A6 n6 c6) ∧ W.cell? ⟨W6.heap.size, 2, none⟩ = some (.bool s2) ∧ W.cell? ⟨W6.heap.size, 3, none⟩ = some (.slice A7 n7 c7) ∧ W.cell? ⟨gl, 3, none⟩ = some (.int .i64 2) from fun W hb => ⟨(HALL.out W hb).2.2.1.c0, (HALL.out W hb).2.2.1.c1, (HALL.out W hb).2.2.1.c2, (HALL.out W hb).2.2.1.c3, (HALL.out W hb).2.2.2⟩)
  have hcl : 2 ≤ cl := HG7.out.2.1
  have HBA := Lib.hid (show ∀ o, Below V.heap.size V (V.alloc o).drew from fun o => ((Below.refl V.heap.size V).alloc (Nat.le_refl _) _).drew)
  have HRK := Lib.hid (show ∀ t, RdK (V.alloc (.cells #[.int .i64 (-1), .int .i64 1] t)).drew (V.alloc (.cells #[.int .i64 (-1), .int .i64 1] t)).drew.heap.size (some ⟨V.heap.size, 0, none⟩) 2 2 [-1, 1] from fun t => (RdK.new V t [-1, 1] (by decide) (by decide) rfl rfl).next (Below.refl _ _).drew)
  go_region_held3 (fun w' => w'.cell? ⟨W6.heap.size, 0, none⟩ = some (.bool s1) ∧ w'.cell? ⟨W6.heap.size, 1, none⟩ = some (.slice A6 n6 c6) ∧ w'.cell? ⟨W6.heap.size, 2, none⟩ = some (.bool s2) ∧ w'.cell? ⟨W6.heap.size, 3, none⟩ = some (.slice A7 n7 c7) ∧ w'.cell? ⟨gl, 3, none⟩ = some (.int .i64 2))
    (first | exact HCX.out _ HB11.out | exact HCX.out _ HB10.out | exact HCX.out _ HB9.out | exact HCX.out _ HB8.out | exact HCX.out _ HBD.out | exact HCX.out _ (HBA.out _))
    (first
      | (go_at_call 109; refine (lof09_any (HRK.out _) (by decide)).mono ?_; rintro _ W8 ⟨A8, n8, c8, M8, rfl, ho8, hM8, hb8⟩; obtain rfl := hM8.out; have HB8 : Hid (Below V.heap.size V W8) := Lib.hid ((HBA.out _).trans (hb8.mono (HBA.out _).size)); have HO8 := Lib.hid ho8; clear hM8 hb8 ho8)
      | (go_at_call 36; refine (lsame09_any (HALL.out _ HB8.out).1.rq HO8.out.rq).mono ?_; rintro _ W9 ⟨b9, rfl, hv9, hb9⟩; obtain rfl : b9 = true := hv9.out.2 rfl; have HB9 := Lib.hid (HB8.out.trans (hb9.mono HB8.out.size)); clear hv9 hb9)
      | (go_at_call 111; refine (rQOf_any 2 (by decide) (by decide) _).mono ?_; rintro _ W10 ⟨s3, A10, n10, c10, s4, A11, n11, c11, y, rfl, ho10, hy10, hb10⟩; obtain rfl := hy10.out; have HB10 : Hid (Below V.heap.size V W10) := Lib.hid (HB9.out.trans (hb10.mono HB9.out.size)); have HO10 := Lib.hid ho10; clear hy10 hb10 ho10)
      | (go_at_call 53; refine (same05_any (HALL.out _ HB10.out).2.1.num.own.rd (HALL.out _ HB10.out).2.1.den.own.rd HO10.out.num.own.rd HO10.out.den.own.rd).mono ?_; rintro _ W11 ⟨b11, rfl, hv11, hb11⟩; obtain rfl : b11 = true := hv11.out.2 (by rw [(HALL.out _ HB10.out).2.1.num.sgn, (HALL.out _ HB10.out).2.1.den.sgn, HO10.out.num.sgn, HO10.out.den.sgn]; rfl); have HB11 := Lib.hid (HB10.out.trans (hb11.mono HB10.out.size)); clear hv11 hb11))
  all_goals
    have HBE := Lib.hid (HB7.out.trans (HB11.out.mono HB7.out.size))
    go_wp2
    go_ret
    exact ⟨rfl, HBE.out⟩
end Go.Proofs.YtipbpdiahemmpaaGreat
