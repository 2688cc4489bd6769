/- The law's examples. -/
import Derived.Test.YtipbpdiahemmpaaO24
import Derived.Test.YtipbpdiahemmpaaQp
namespace Go.Proofs.Ytipbpdiahemmpaa
open Go.RowKit Go.IntWalk
attribute [local go_sem ↓] Go.wp_at_zero Go.wp_at_succ

theorem ex_zl' {L : List Int} (h : ∀ z ∈ L, z.natAbs < 4294967296) : ∀ z ∈ L, Zz.zl z ≤ 1 := fun z hz => Zz.zl_small (h z hz)
theorem ex_zl (L : List Int) (h : ∀ z ∈ L, z.natAbs < 4294967296) (i : Nat) : Zz.zl (Pz.co L i) ≤ 1 := by
  rcases Nat.lt_or_ge i L.length with hi | hi
  · exact ex_zl' h _ (List.mem_of_getElem? (Pz.get_co hi))
  · rw [Pz.co_ge hi, Zz.zl_zero]
    exact Nat.zero_le _
/-- It says yes, and leaves what was there. -/
def RetYes (w : World) (e : Ending) (w' : World) : Prop := e = .returned (.bool true) ∧ Below w.heap.size w w'
theorem sylF_ex : ∀ i, i < 3 → ∀ j, j < 3 → sylF [1, 0, 1] [-2, 1] 2 1 i j = Pz.exT 0 i j := by decide +kernel

set_option maxRecDepth 100000 in
set_option maxHeartbeats 2000000 in
theorem res_ex {N N' n c n' c' : Nat} {A A' : Option Addr} {w : World} (h : RdZs w w.heap.size N A n c [1, 0, 1]) (h' : RdZs w w.heap.size N' A' n' c' [-2, 1]) (hN : N ≤ 1048576) (hN' : N' ≤ 1048576) :
    Calls Try.prog 32 #[.slice A n c, .slice A' n' c'] w (RetI 5 w) := by
  have hn : n = 3 := h.len.symm
  have hn' : n' = 2 := h'.len.symm
  subst hn hn'
  have hR := ZC.new w false none 0 0
  have hB1 : Below w.heap.size w (w.alloc (.cells #[.bool false, .slice none 0 0] 40)) := (Below.refl _ _).alloc (Nat.le_refl _) _
  have h1 := h.next hB1
  have h1' := h'.next hB1
  clear h h'
  go_enter Try.func32, Try.ntmps32
  go_wp2_with fail
  generalize w.alloc (.cells #[.bool false, .slice none 0 0] 40) = W1 at *
  refine (znorm_any h1 (by omega) (by omega)).mono ?_
  rintro _ W2 ⟨A2, n2, c2, M2, rfl, ho2, hM2, hb2⟩
  obtain rfl := hM2.out.unique (Pz.IsP.self Pz.nz_ex5)
  have h2' := h1'.next hb2
  go_wp2_with fail
  refine (znorm_any h2' (by omega) (by omega)).mono ?_
  rintro _ W3 ⟨A3, n3, c3, M3, rfl, ho3, hM3, hb3⟩
  obtain rfl := hM3.out.unique (Pz.IsP.self Pz.nz_ex6)
  have hn2 : n2 = 3 := ho2.len.symm
  have hn3 : n3 = 2 := ho3.len.symm
  subst hn2 hn3
  have hB2 := hB1.trans (hb2.mono hB1.size)
  have hB3 := hB2.trans (hb3.mono hB2.size)
  have hR3 := (hR.next hb2).next hb3
  have hp := (ho2.next hb3).base (b' := w.heap.size) hB1.size
  have hq := ho3.base (b' := w.heap.size) hB2.size
  clear h1 h1' h2' hM2 hM3 hb2 hb3 ho2 ho3
  go_wp2_with fail
  refine (sylv_any (m := 2) (n := 1) (N := 3) hp hq rfl rfl rfl (by omega)).mono ?_
  rintro _ W4 ⟨A4, c4, B, G, EE, F, rfl, hM, hBl, hBh, hF, hb4⟩
  have hR4 := hR3.next hb4
  have hB4 := hB3.trans (hb4.mono hB3.size)
  have HBL := Lib.hid (Nat.le_trans (Nat.le_of_lt hR3.lt) hBl)
  have HRB := Lib.hid (Nat.lt_of_lt_of_le hR3.lt hBl)
  go_wp2_with fail
  refine (det_any (Z := 1) hM Pz.exT Pz.exL (fun i j hi hj => by rw [hF.out i hi]; exact sylF_ex i hi j hj) rfl Pz.exT_step Pz.exL_step Pz.exT_ne (fun k hk i hi j hj => Zz.zl_small (Pz.exT_small k hk i hi j hj)) (by omega) (by omega) hBh HBL.out).mono ?_
  rintro _ W5 ⟨s5, A5, n5, c5, y5, rfl, ho5, hy5, hb5⟩
  obtain rfl : y5 = 5 := hy5.out
  have hR5 := hR4.below hb5 HRB.out
  have hB5 := hB4.trans (hb5.mono HBL.out)
  have f0 := hR5.fz 0
  have f1 := hR5.fz 1
  have k0 := hR5.c0
  have k1 := hR5.c1
  have hZ6 := hR5.store s5 A5 n5 c5
  have HO6 := Lib.hid (ho5.keep (keep_store hR5 (.bool s5) (.slice A5 n5 c5)))
  have HB6 := Lib.hid ((hB5.setCell (p := ⟨w.heap.size, 0, none⟩) (Nat.le_refl _) (.bool s5)).setCell (p := ⟨w.heap.size, 1, none⟩) (Nat.le_refl _) (.slice A5 n5 c5))
  clear hM hF hb4 hb5 ho5 hy5 hR4 hR3 hR5 hp hq hB1 hB2 hB3 hB4 hB5 hR
  go_wp2_with fail
  generalize (W5.setCell ⟨w.heap.size, 0, none⟩ (.bool s5)).setCell ⟨w.heap.size, 1, none⟩ (.slice A5 n5 c5) = W6 at *
  exact bodyPost_ret (by simp [results, Try.results32, go_sem, hZ6.c0, hZ6.c1]) rfl ⟨_, _, _, _, _, rfl, HO6.out, Lib.hid rfl, HB6.out⟩

set_option maxRecDepth 100000 in
set_option maxHeartbeats 2000000 in
theorem lives_any (w : World) : Calls Try.prog 8 #[] w (RetYes w) := by
  go_enter Try.func8, Try.ntmps8
  go_wp2_with fail
  refine (lof_any (RdK.new w _ [0, 0, 1] (by decide) (by decide) rfl rfl) (by decide)).mono ?_
  rintro _ W1 ⟨A1, n1, c1, M1, rfl, ho1, hM1, hb1⟩
  obtain rfl := hM1.out
  obtain rfl : n1 = 3 := ho1.len.symm
  have hB1 := ((Below.refl w.heap.size w).alloc (Nat.le_refl _) _).trans (hb1.mono (by simp))
  go_wp2_with fail
  refine (lof_any (RdK.new W1 _ [1, 2] (by decide) (by decide) rfl rfl) (by decide)).mono ?_
  rintro _ W2 ⟨A2, n2, c2, M2, rfl, ho2, hM2, hb2⟩
  obtain rfl := hM2.out
  obtain rfl : n2 = 2 := ho2.len.symm
  have hb2' := ((Below.refl W1.heap.size W1).alloc (Nat.le_refl _) _).trans (hb2.mono (by simp))
  have hB2 := hB1.trans (hb2'.mono hB1.size)
  have hr1 := rd_st (N := 1) (ho1.next hb2') (fun i => ex_zl [0, 0, 1] (by decide) i)
  have hr2 := rd_st (N := 1) ho2 (fun i => ex_zl [1, 2] (by decide) i)
  go_wp2_with fail
  refine (zpseudo_any hr1 hr2 (Pz.IsP.self Pz.nz_ex1) (Pz.IsP.self Pz.nz_ex2) (m := 1) rfl (by decide) (by decide) (by decide)).mono ?_
  rintro _ W3 ⟨A3, n3, c3, Q, A4, n4, c4, R, rfl, hoq, hor, hP, hb3⟩
  obtain ⟨p1, p2, p3, p4, p5, p6, p7⟩ := hP.out
  obtain ⟨rfl, rfl⟩ := Pz.psd_ex_unique p1 p2 p3 p4
  have hB3 := hB2.trans (hb3.mono hB2.size)
  clear hP p1 p2 p3 p4 p5 p6 p7 hr1 hr2 hb1 hb2 hb2' hb3 hM1 hM2 ho1 ho2 hB1 hB2
  go_wp2_with fail
  refine (lof_any (RdK.new W3 _ [-1, 2] (by decide) (by decide) rfl rfl) (by decide)).mono ?_
  rintro _ W4 ⟨A5, n5, c5, M5, rfl, ho5, hM5, hb4⟩
  obtain rfl := hM5.out
  have hb4' := ((Below.refl W3.heap.size W3).alloc (Nat.le_refl _) _).trans (hb4.mono (by simp))
  have hB4 := hB3.trans (hb4'.mono hB3.size)
  have hoq4 := hoq.next hb4'
  have hor4 := hor.next hb4'
  go_wp2_with fail
  refine (same_any (hoq4.rs (N := 1) (ex_zl' (by decide))) (ho5.rs (N := 1) (ex_zl' (by decide)))).mono ?_
  rintro _ W5 ⟨b5, rfl, hb5, hbb5⟩
  obtain rfl : b5 = true := hb5.out.2 rfl
  have hB5 := hB4.trans (hbb5.mono hB4.size)
  have hor5 := hor4.next hbb5
  clear hM5 ho5 hb4 hb4' hoq hor hoq4 hor4 hb5 hbb5 hB3 hB4
  go_wp2_with fail
  refine (lof_any (RdK.new W5 _ [1] (by decide) (by decide) rfl rfl) (by decide)).mono ?_
  rintro _ W6 ⟨A6, n6, c6, M6, rfl, ho6, hM6, hb6⟩
  obtain rfl := hM6.out
  have hb6' := ((Below.refl W5.heap.size W5).alloc (Nat.le_refl _) _).trans (hb6.mono (by simp))
  have hB6 := hB5.trans (hb6'.mono hB5.size)
  have hor6 := hor5.next hb6'
  go_wp2_with fail
  refine (same_any (hor6.rs (N := 1) (ex_zl' (by decide))) (ho6.rs (N := 1) (ex_zl' (by decide)))).mono ?_
  rintro _ W7 ⟨b7, rfl, hb7, hbb7⟩
  obtain rfl : b7 = true := hb7.out.2 rfl
  have hB7 := hB6.trans (hbb7.mono hB6.size)
  clear hM6 ho6 hb6 hb6' hor5 hor6 hb7 hbb7 hB5 hB6
  go_wp2_with fail
  refine (lof_any (RdK.new W7 _ [1, 0, 1] (by decide) (by decide) rfl rfl) (by decide)).mono ?_
  rintro _ W8 ⟨A8, n8, c8, M8, rfl, ho8, hM8, hb8⟩
  obtain rfl := hM8.out
  have hb8' := ((Below.refl W7.heap.size W7).alloc (Nat.le_refl _) _).trans (hb8.mono (by simp))
  have hB8 := hB7.trans (hb8'.mono hB7.size)
  go_wp2_with fail
  refine (lof_any (RdK.new W8 _ [-2, 1] (by decide) (by decide) rfl rfl) (by decide)).mono ?_
  rintro _ W9 ⟨A9, n9, c9, M9, rfl, ho9, hM9, hb9⟩
  obtain rfl := hM9.out
  have hb9' := ((Below.refl W8.heap.size W8).alloc (Nat.le_refl _) _).trans (hb9.mono (by simp))
  have hB9 := hB8.trans (hb9'.mono hB8.size)
  have hr8 := (ho8.next hb9').rd (N := 1) (ex_zl' (by decide))
  have hr9 := ho9.rd (N := 1) (ex_zl' (by decide))
  go_wp2_with fail
  refine (res_ex hr8 hr9 (by decide) (by decide)).mono ?_
  rintro _ W10 ⟨s10, A10, n10, c10, y10, rfl, ho10, hy10, hb10⟩
  obtain rfl : y10 = 5 := hy10.out
  have hB10 := hB9.trans (hb10.mono hB9.size)
  clear hM8 hM9 ho8 ho9 hb8 hb8' hb9 hb9' hr8 hr9 hb10 hB7 hB8 hB9 hy10
  go_wp2_with fail
  refine (rIOf_any 5 (by decide) (by decide) W10).mono ?_
  rintro _ W11 ⟨s11, A11, n11, c11, y11, rfl, ho11, hy11, hb11⟩
  obtain rfl : y11 = 5 := hy11.out
  have hB11 := hB10.trans (hb11.mono hB10.size)
  have ho10' := ho10.next hb11
  go_wp2_with fail
  refine (same03_any ho10'.own.rd ho11.own.rd).mono ?_
  rintro _ W12 ⟨b12, rfl, hb12, hbb12⟩
  obtain rfl : b12 = true := hb12.out.2 (by rw [ho10'.sgn, ho11.sgn])
  have hB12 := hB11.trans (hbb12.mono hB11.size)
  clear ho10 ho10' ho11 hb11 hy11 hb12 hbb12 hB10 hB11
  go_wp2
  go_ret
  exact ⟨rfl, hB12⟩
end Go.Proofs.Ytipbpdiahemmpaa
