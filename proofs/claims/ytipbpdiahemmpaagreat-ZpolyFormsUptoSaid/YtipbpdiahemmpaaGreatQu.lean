/- The law's examples. -/
import Derived.Test.YtipbpdiahemmpaaGreatO24
import Derived.Test.YtipbpdiahemmpaaGreatQp
import Derived.Test.YtipbpdiahemmpaaGreatQt
import Derived.Test.YtipbpdiahemmpaaGreatQn
namespace Go.Proofs.YtipbpdiahemmpaaGreat
open Go.RowKit Go.IntWalk
attribute [local go_sem ↓] Go.wp_at_zero Go.wp_at_succ

theorem ex_zl' {L : List Int} (h : ∀ z ∈ L, z.natAbs < 4294967296) : ∀ z ∈ L, Zz.zl z ≤ 1 := fun z hz => Zz.zl_small (h z hz)
theorem ex_zl (L : List Int) (h : ∀ z ∈ L, z.natAbs < 4294967296) (i : Nat) : Zz.zl (Pz.co L i) ≤ 1 := by
  rcases Nat.lt_or_ge i L.length with hi | hi
  · exact ex_zl' h _ (List.mem_of_getElem? (Pz.get_co hi))
  · rw [Pz.co_ge hi, Zz.zl_zero]
    exact Nat.zero_le _
/-- It says yes, and leaves what was there. -/
def RetYes (w : World) (e : Ending) (w' : World) : Prop := e = .returned (.bool true) ∧ Below w.heap.size w w'
theorem sylF_ex : ∀ i, i < 3 → ∀ j, j < 3 → sylF [1, 0, 1] [-2, 1] 2 1 i j = Pz.exT 0 i j := by decide +kernel

set_option maxRecDepth 100000 in
set_option maxHeartbeats 2000000 in
theorem res_ex {N N' n c n' c' : Nat} {A A' : Option Addr} {w : World} (h : RdZs w w.heap.size N A n c [1, 0, 1]) (h' : RdZs w w.heap.size N' A' n' c' [-2, 1]) (hN : N ≤ 1048576) (hN' : N' ≤ 1048576) :
    Calls Tryz.prog 100 #[.slice A n c, .slice A' n' c'] w (RetI 5 w) := by
  have hn : n = 3 := h.len.symm
  have hn' : n' = 2 := h'.len.symm
  subst hn hn'
  have hR := ZC.new w false none 0 0
  have hB1 : Below w.heap.size w (w.alloc (.cells #[.bool false, .slice none 0 0] 28)) := (Below.refl _ _).alloc (Nat.le_refl _) _
  have h1 := h.next hB1
  have h1' := h'.next hB1
  clear h h'
  go_enter Tryz.func100, Tryz.ntmps100
  go_wp2_with fail
  generalize w.alloc (.cells #[.bool false, .slice none 0 0] 28) = W1 at *
  refine (znorm_any h1 (by omega) (by omega)).mono ?_
  rintro _ W2 ⟨A2, n2, c2, M2, rfl, ho2, hM2, hb2⟩
  obtain rfl := hM2.out.unique (Pz.IsP.self Pz.nz_ex5)
  have h2' := h1'.next hb2
  go_wp2_with fail
  refine (znorm_any h2' (by omega) (by omega)).mono ?_
  rintro _ W3 ⟨A3, n3, c3, M3, rfl, ho3, hM3, hb3⟩
  obtain rfl := hM3.out.unique (Pz.IsP.self Pz.nz_ex6)
  have hn2 : n2 = 3 := ho2.len.symm
  have hn3 : n3 = 2 := ho3.len.symm
  subst hn2 hn3
  have hB2 := hB1.trans (hb2.mono hB1.size)
  have hB3 := hB2.trans (hb3.mono hB2.size)
  have hR3 := (hR.next hb2).next hb3
  have hp := (ho2.next hb3).base (b' := w.heap.size) hB1.size
  have hq := ho3.base (b' := w.heap.size) hB2.size
  clear h1 h1' h2' hM2 hM3 hb2 hb3 ho2 ho3
  go_wp2_with fail
  refine (sylv_any (m := 2) (n := 1) (N := 3) hp hq rfl rfl rfl (by omega)).mono ?_
  rintro _ W4 ⟨A4, c4, B, G, EE, F, rfl, hM, hBl, hBh, hF, hb4⟩
  have hR4 := hR3.next hb4
  have hB4 := hB3.trans (hb4.mono hB3.size)
  have HBL := Lib.hid (Nat.le_trans (Nat.le_of_lt hR3.lt) hBl)
  have HRB := Lib.hid (Nat.lt_of_lt_of_le hR3.lt hBl)
  go_wp2_with fail
  refine (det_any (Z := 1) hM Pz.exT Pz.exL (fun i j hi hj => by rw [hF.out i hi]; exact sylF_ex i hi j hj) rfl Pz.exT_step Pz.exL_step Pz.exT_ne (fun k hk i hi j hj => Zz.zl_small (Pz.exT_small k hk i hi j hj)) (by omega) (by omega) hBh HBL.out).mono ?_
  rintro _ W5 ⟨s5, A5, n5, c5, y5, rfl, ho5, hy5, hb5⟩
  obtain rfl : y5 = 5 := hy5.out
  have hR5 := hR4.below hb5 HRB.out
  have hB5 := hB4.trans (hb5.mono HBL.out)
  have f0 := hR5.fz 0
  have f1 := hR5.fz 1
  have k0 := hR5.c0
  have k1 := hR5.c1
  have hZ6 := hR5.store s5 A5 n5 c5
  have HO6 := Lib.hid (ho5.keep (keep_store hR5 (.bool s5) (.slice A5 n5 c5)))
  have HB6 := Lib.hid ((hB5.setCell (p := ⟨w.heap.size, 0, none⟩) (Nat.le_refl _) (.bool s5)).setCell (p := ⟨w.heap.size, 1, none⟩) (Nat.le_refl _) (.slice A5 n5 c5))
  clear hM hF hb4 hb5 ho5 hy5 hR4 hR3 hR5 hp hq hB1 hB2 hB3 hB4 hB5 hR
  go_wp2_with fail
  generalize (W5.setCell ⟨w.heap.size, 0, none⟩ (.bool s5)).setCell ⟨w.heap.size, 1, none⟩ (.slice A5 n5 c5) = W6 at *
  exact bodyPost_ret (by simp [results, Tryz.results100, go_sem, hZ6.c0, hZ6.c1]) rfl ⟨_, _, _, _, _, rfl, HO6.out, Lib.hid rfl, HB6.out⟩

set_option maxRecDepth 100000 in
set_option maxHeartbeats 2000000 in
theorem lives_any (w : World) : Calls Tryz.prog 27 #[] w (RetYes w) := by
  go_enter Tryz.func27, Tryz.ntmps27
  go_wp2_with fail
  refine (lof_any (RdK.new w _ [0, 0, 1] (by decide) (by decide) rfl rfl) (by decide)).mono ?_
  rintro _ W1 ⟨A1, n1, c1, M1, rfl, ho1, hM1, hb1⟩
  obtain rfl := hM1.out
  obtain rfl : n1 = 3 := ho1.len.symm
  have hB1 := ((Below.refl w.heap.size w).alloc (Nat.le_refl _) _).trans (hb1.mono (by simp))
  go_wp2_with fail
  refine (lof_any (RdK.new W1 _ [1, 2] (by decide) (by decide) rfl rfl) (by decide)).mono ?_
  rintro _ W2 ⟨A2, n2, c2, M2, rfl, ho2, hM2, hb2⟩
  obtain rfl := hM2.out
  obtain rfl : n2 = 2 := ho2.len.symm
  have hb2' := ((Below.refl W1.heap.size W1).alloc (Nat.le_refl _) _).trans (hb2.mono (by simp))
  have hB2 := hB1.trans (hb2'.mono hB1.size)
  have hr1 := rd_st (N := 1) (ho1.next hb2') (fun i => ex_zl [0, 0, 1] (by decide) i)
  have hr2 := rd_st (N := 1) ho2 (fun i => ex_zl [1, 2] (by decide) i)
  go_wp2_with fail
  refine (zpseudo_any hr1 hr2 (Pz.IsP.self Pz.nz_ex1) (Pz.IsP.self Pz.nz_ex2) (m := 1) rfl (by decide) (by decide) (by decide)).mono ?_
  rintro _ W3 ⟨A3, n3, c3, Q, A4, n4, c4, R, rfl, hoq, hor, hP, hb3⟩
  obtain ⟨p1, p2, p3, p4, p5, p6, p7⟩ := hP.out
  obtain ⟨rfl, rfl⟩ := Pz.psd_ex_unique p1 p2 p3 p4
  have hB3 := hB2.trans (hb3.mono hB2.size)
  clear hP p1 p2 p3 p4 p5 p6 p7 hr1 hr2 hb1 hb2 hb2' hb3 hM1 hM2 ho1 ho2 hB1 hB2
  go_wp2_with fail
  refine (lof_any (RdK.new W3 _ [-1, 2] (by decide) (by decide) rfl rfl) (by decide)).mono ?_
  rintro _ W4 ⟨A5, n5, c5, M5, rfl, ho5, hM5, hb4⟩
  obtain rfl := hM5.out
  have hb4' := ((Below.refl W3.heap.size W3).alloc (Nat.le_refl _) _).trans (hb4.mono (by simp))
  have hB4 := hB3.trans (hb4'.mono hB3.size)
  have hoq4 := hoq.next hb4'
  have hor4 := hor.next hb4'
  go_wp2_with fail
  refine (same_any (hoq4.rs (N := 1) (ex_zl' (by decide))) (ho5.rs (N := 1) (ex_zl' (by decide)))).mono ?_
  rintro _ W5 ⟨b5, rfl, hb5, hbb5⟩
  obtain rfl : b5 = true := hb5.out.2 rfl
  have hB5 := hB4.trans (hbb5.mono hB4.size)
  have hor5 := hor4.next hbb5
  clear hM5 ho5 hb4 hb4' hoq hor hoq4 hor4 hb5 hbb5 hB3 hB4
  go_wp2_with fail
  refine (lof_any (RdK.new W5 _ [1] (by decide) (by decide) rfl rfl) (by decide)).mono ?_
  rintro _ W6 ⟨A6, n6, c6, M6, rfl, ho6, hM6, hb6⟩
  obtain rfl := hM6.out
  have hb6' := ((Below.refl W5.heap.size W5).alloc (Nat.le_refl _) _).trans (hb6.mono (by simp))
  have hB6 := hB5.trans (hb6'.mono hB5.size)
  have hor6 := hor5.next hb6'
  go_wp2_with fail
  refine (same_any (hor6.rs (N := 1) (ex_zl' (by decide))) (ho6.rs (N := 1) (ex_zl' (by decide)))).mono ?_
  rintro _ W7 ⟨b7, rfl, hb7, hbb7⟩
  obtain rfl : b7 = true := hb7.out.2 rfl
  have hB7 := hB6.trans (hbb7.mono hB6.size)
  clear hM6 ho6 hb6 hb6' hor5 hor6 hb7 hbb7 hB5 hB6
  go_wp2_with fail
  refine (lof_any (RdK.new W7 _ [1, 0, 1] (by decide) (by decide) rfl rfl) (by decide)).mono ?_
  rintro _ W8 ⟨A8, n8, c8, M8, rfl, ho8, hM8, hb8⟩
  obtain rfl := hM8.out
  have hb8' := ((Below.refl W7.heap.size W7).alloc (Nat.le_refl _) _).trans (hb8.mono (by simp))
  have hB8 := hB7.trans (hb8'.mono hB7.size)
  go_wp2_with fail
  refine (lof_any (RdK.new W8 _ [-2, 1] (by decide) (by decide) rfl rfl) (by decide)).mono ?_
  rintro _ W9 ⟨A9, n9, c9, M9, rfl, ho9, hM9, hb9⟩
  obtain rfl := hM9.out
  have hb9' := ((Below.refl W8.heap.size W8).alloc (Nat.le_refl _) _).trans (hb9.mono (by simp))
  have hB9 := hB8.trans (hb9'.mono hB8.size)
  have hr8 := (ho8.next hb9').rd (N := 1) (ex_zl' (by decide))
  have hr9 := ho9.rd (N := 1) (ex_zl' (by decide))
  go_wp2_with fail
  refine (res_ex hr8 hr9 (by decide) (by decide)).mono ?_
  rintro _ W10 ⟨s10, A10, n10, c10, y10, rfl, ho10, hy10, hb10⟩
  obtain rfl : y10 = 5 := hy10.out
  have hB10 := hB9.trans (hb10.mono hB9.size)
  clear hM8 hM9 ho8 ho9 hb8 hb8' hb9 hb9' hr8 hr9 hb10 hB7 hB8 hB9 hy10
  go_wp2_with fail
  refine (rIOf_any 5 (by decide) (by decide) W10).mono ?_
  rintro _ W11 ⟨s11, A11, n11, c11, y11, rfl, ho11, hy11, hb11⟩
  obtain rfl : y11 = 5 := hy11.out
  have hB11 := hB10.trans (hb11.mono hB10.size)
  have ho10' := ho10.next hb11
  go_wp2_with fail
  refine (same03_any ho10'.own.rd ho11.own.rd).mono ?_
  rintro _ W12 ⟨b12, rfl, hb12, hbb12⟩
  obtain rfl : b12 = true := hb12.out.2 (by rw [ho10'.sgn, ho11.sgn])
  have hB12 := hB11.trans (hbb12.mono hB11.size)
  clear ho10 ho10' ho11 hb11 hy11 hb12 hbb12 hB10 hB11
  go_wp2
  go_ret
  exact ⟨rfl, hB12⟩
end Go.Proofs.YtipbpdiahemmpaaGreat

/- The law ZpolyForms. -/
namespace Go.Proofs.YtipbpdiahemmpaaGreat
open Go.RowKit Go.IntWalk
attribute [local go_sem ↓] Go.wp_at_zero Go.wp_at_succ

theorem Wr.below {w w' : World} {b B n : Nat} {A : Option Addr} (h : Wr w b B A n) (hb : Below B w w') : Wr w' b B A n := by
  rcases h with h0 | ⟨g, ds, h1, h2, h3, h4, h5⟩
  · exact .inl h0
  · exact .inr ⟨g, ds, h1, h2, h3, (hb.block g h3).trans h4, h5⟩
theorem Shp.below {w w' : World} {b B g n : Nat} {cs : Array Value} (h : Shp w b B g cs n) (hb : Below B w w') : Shp w' b B g cs n :=
  ⟨h.lo, h.hi, (hb.block g h.hi).trans h.row, fun j hj => by
    obtain ⟨h0, A', n', c', h1, h2, h3⟩ := h.ent j hj
    exact ⟨h0, A', n', c', h1, h2, h3.below hb⟩⟩
theorem ofZ_map {L M : List Int} : L.map ofZ = M.map ofZ ↔ L = M := by
  constructor
  · intro h
    exact (List.map_inj_right fun _ _ e => ofZ_inj e).1 h
  · rintro rfl; rfl
theorem bool_same {b b' : Bool} {P Q : Prop} (h : b = true ↔ P) (h' : b' = true ↔ Q) (e : P ↔ Q) : b = b' := by
  cases b <;> cases b' <;> simp_all

set_option maxRecDepth 100000 in
set_option maxHeartbeats 16000000 in
theorem walk_ZpolyForms {A0 A1 : Option Addr} {n0 c0 n1 c1 : Nat} {R0 R1 : List (Bool × List Nat)} {w : World} (h0 : RdRs w w.heap.size 1048576 A0 n0 c0 R0) (_ : A0 = none → n0 = 0 ∧ c0 = 0) (k0 : n0 ≤ 349525) (h1 : RdRs w w.heap.size 1048576 A1 n1 c1 R1) (_ : A1 = none → n1 = 0 ∧ c1 = 0) (k1 : n1 ≤ 349525) :
    Calls Tryz.prog 3 #[.slice A0 n0 c0, .slice A1 n1 c1] w (RetYes w) := by
  go_enter Tryz.func3, Tryz.ntmps3
  go_wp2_with fail
  refine (rCopy_any h0 (by omega) (by omega)).mono ?_
  rintro _ W1 ⟨Ap, np, cp, rfl, hp, hb1⟩
  obtain rfl : np = n0 := by rw [← hp.len, h0.len]
  obtain ⟨L0, hL0⟩ : ∃ L, L = R0.map toZ := ⟨_, rfl⟩
  obtain ⟨L1, hL1⟩ : ∃ L, L = R1.map toZ := ⟨_, rfl⟩
  have HZ := Lib.hid (show (∀ i, Zz.zl (Pz.co L0 i) ≤ 1048576) ∧ (∀ i, Zz.zl (Pz.co L1 i) ≤ 1048576) ∧ L0.length = np from ⟨fun i => by rw [hL0]; exact zl_co h0.zs i, fun i => by rw [hL1]; exact zl_co h1.zs i, by rw [hL0, List.length_map]; exact h0.len⟩)
  have HP1 := Lib.hid (show ∀ W : World, Below W1.heap.size W1 W → RdRs W w.heap.size 1048576 A0 np c0 R0 ∧ RdRs W w.heap.size 1048576 A1 n1 c1 R1 ∧ RdRs W W1.heap.size 1048576 Ap np cp R0 from fun W hb => ⟨h0.below (hb1.trans (hb.mono hb1.size)), h1.below (hb1.trans (hb.mono hb1.size)), hp.below hb⟩)
  have HB1 := Lib.hid hb1
  have HZ1 := Lib.hid (show ∀ W : World, Below W1.heap.size W1 W → RdZs W W.heap.size 1048576 A0 np c0 L0 ∧ RdZs W W.heap.size 1048576 A1 n1 c1 L1 ∧ RdZs W W.heap.size 1048576 Ap np cp L0 from fun W hb => by
    rw [hL0, hL1]
    obtain ⟨e1, e2, e3⟩ := HP1.out W hb
    exact ⟨(e1.more (Nat.le_trans HB1.out.size hb.size)).zs, (e2.more (Nat.le_trans HB1.out.size hb.size)).zs, (e3.more hb.size).zs⟩)
  have HK := Lib.hid (show np ≤ 1048576 ∧ n1 ≤ 1048576 by omega)
  clear h0 h1 hp hb1 hL0 hL1 k0 k1
  go_wp2_with fail
  refine (znorm_any (HZ1.out _ (Below.refl _ _)).2.2 (Nat.le_trans HK.out.1 (by decide)) (by decide)).mono ?_
  rintro _ W2 ⟨An, nn, cn, M0, rfl, hon, hM0, hb2⟩
  go_wp2_with fail
  refine (znorm_any (HZ1.out _ hb2).2.2 (Nat.le_trans HK.out.1 (by decide)) (by decide)).mono ?_
  rintro _ W3 ⟨Ag, ng, cg, Mg, rfl, hog, hMg, hb3⟩
  obtain rfl := hM0.out.unique hMg.out
  have hb13 := hb2.trans (hb3.mono hb2.size)
  go_wp2_with fail
  refine (rzNorm_any (HZ1.out _ hb13).1 (Nat.le_trans HK.out.1 (by decide)) (by decide)).mono ?_
  rintro _ W4 ⟨Aw, nw, cw, Mw, rfl, how, hMw, hb4⟩
  obtain rfl := hM0.out.unique hMw.out
  have HB14 := Lib.hid (hb13.trans (hb4.mono hb13.size))
  have HLM := Lib.hid (And.intro hon.len (And.intro hog.len how.len))
  have HMZ := Lib.hid (show ∀ z ∈ M0, Zz.zl z ≤ 1048576 from fun z hz => by
    obtain ⟨i, _, rfl⟩ := Pz.mem_co hz
    rw [hM0.out.2]; exact HZ.out.1 i)
  have HN := Lib.hid (show ∀ W : World, Below W4.heap.size W4 W → OwZs W W1.heap.size An nn cn M0 ∧ OwZs W W2.heap.size Ag ng cg M0 ∧ OwZs W W3.heap.size Aw nw cw M0 from fun W hb => ⟨hon.next (hb3.trans ((hb4.trans (hb.mono hb4.size)).mono hb3.size)), hog.next (hb4.trans (hb.mono hb4.size)), how.next hb⟩)
  have HSH := Lib.hid (show ∀ W : World, Below W4.heap.size W4 W → nn = 0 ∨ ∃ (g : Nat) (cs : Array Value), An = some ⟨g, 0, none⟩ ∧ Shp W W1.heap.size W2.heap.size g cs nn from fun W hb => by
    rcases Shp.of hon HMZ.out with e | ⟨g, cs, e, hs⟩
    · exact .inl e
    · exact .inr ⟨g, cs, e, hs.below (hb3.trans ((hb4.trans (hb.mono hb4.size)).mono hb3.size))⟩)
  have HRN := Lib.hid (show ∀ W : World, Below W4.heap.size W4 W → RdRs W W.heap.size 1048576 An nn cn (M0.map ofZ) ∧ RdRs W W.heap.size 1048576 Ag ng cg (M0.map ofZ) ∧ RdRs W W.heap.size 1048576 Aw nw cw (M0.map ofZ) from fun W hb => ⟨(HN.out W hb).1.rs HMZ.out, (HN.out W hb).2.1.rs HMZ.out, (HN.out W hb).2.2.rs HMZ.out⟩)
  have HZ4 := Lib.hid (show ∀ W : World, Below W4.heap.size W4 W → RdZs W W.heap.size 1048576 A0 np c0 L0 ∧ RdZs W W.heap.size 1048576 A1 n1 c1 L1 ∧ RdZs W W.heap.size 1048576 Ap np cp L0 from fun W hb => HZ1.out W (HB14.out.trans (hb.mono HB14.out.size)))
  have HS := Lib.hid (And.intro HB1.out.size (And.intro hb2.size (And.intro hb3.size hb4.size)))
  obtain ⟨M1, hM1, _⟩ := Pz.norm_exists L1
  have HM1 := Lib.hid hM1
  have HNL := Lib.hid (show nn ≤ 1048576 by
    rw [← HLM.out.1]
    exact Nat.le_trans (hM0.out.len fun i hi => Pz.co_ge (by rw [HZ.out.2.2]; exact hi)) HK.out.1)
  clear hon hog how hb2 hb3 hb4 hb13 hMg hMw hM1
  go_wp2_with fail
  refine (zprim_any (HZ4.out _ (Below.refl _ _)).2.2 hM0.out (Nat.le_trans HK.out.1 (by decide)) (by decide)).mono ?_
  rintro _ W5 ⟨s5, A5, n5, c5, y5, A6, n6, c6, Q6, rfl, ho5, ho6, hv5, hb5⟩
  obtain ⟨rfl, rfl⟩ := hv5.out
  obtain ⟨W6, HW6⟩ : ∃ W, W = W5.alloc (.cells #[.bool s5, .slice A5 n5 c5] 28) := ⟨_, rfl⟩
  have hb6 : Below W5.heap.size W5 W6 := by rw [HW6]; exact (Below.refl W5.heap.size W5).alloc (Nat.le_refl _) _
  have hX6 : ZC W6 W5.heap.size s5 A5 n5 c5 := by rw [HW6]; exact ZC.new W5 s5 A5 n5 c5
  have hb46 := hb5.trans (hb6.mono hb5.size)
  have ho5 := ho5.next hb6
  have ho6 := ho6.next hb6
  have HW6 := Lib.hid HW6
  clear hb5 hb6
  go_wp2_with fail
  rw [← HW6.out]
  clear HW6
  clear HW6
  generalize W5.heap.size = gc at *
  refine (rzPrim_any (HZ4.out _ hb46).1 hM0.out (Nat.le_trans HK.out.1 (by decide)) (by decide)).mono ?_
  rintro _ W7 ⟨s7, A7, n7, c7, y7, A8, n8, c8, Q8, rfl, ho7, ho8, hv7, hb7⟩
  obtain ⟨rfl, rfl⟩ := hv7.out
  obtain ⟨W8, HW8⟩ : ∃ W, W = W7.alloc (.cells #[.bool s7, .slice A7 n7 c7] 28) := ⟨_, rfl⟩
  have hb8 : Below W7.heap.size W7 W8 := by rw [HW8]; exact (Below.refl W7.heap.size W7).alloc (Nat.le_refl _) _
  have hX8 : ZC W8 W7.heap.size s7 A7 n7 c7 := by rw [HW8]; exact ZC.new W7 s7 A7 n7 c7
  have hb68 := hb7.trans (hb8.mono hb7.size)
  have hX68 := hX6.next hb68
  have HB48 := Lib.hid (hb46.trans (hb68.mono hb46.size))
  have HQZ := Lib.hid (show ∀ z ∈ M0.map (fun z => z.tdiv (prC M0)), Zz.zl z ≤ 1048576 from fun z hz => by
    obtain ⟨x, hx, rfl⟩ := List.mem_map.1 hz
    exact Nat.le_trans (Zz.zl_tdiv _ _) (HMZ.out x hx))
  have HC8 := Lib.hid (show ∀ W : World, Below W8.heap.size W8 W → ZC W gc s5 A5 n5 c5 ∧ ZC W W7.heap.size s7 A7 n7 c7 from fun W hb => ⟨hX68.next hb, hX8.next hb⟩)
  have HQ8 := Lib.hid (show ∀ W : World, Below W8.heap.size W8 W → RdRs W W.heap.size 1048576 A6 n6 c6 ((M0.map fun z => z.tdiv (prC M0)).map ofZ) ∧ RdRs W W.heap.size 1048576 A8 n8 c8 ((M0.map fun z => z.tdiv (prC M0)).map ofZ) ∧ OwZ W W4.heap.size s5 A5 n5 c5 (prC M0) ∧ OwZ W W6.heap.size s7 A7 n7 c7 (prC M0) from fun W hb => ⟨(ho6.next (hb68.trans (hb.mono hb68.size))).rs HQZ.out, (ho8.next (hb8.trans (hb.mono hb8.size))).rs HQZ.out, ho5.next (hb68.trans (hb.mono hb68.size)), ho7.next (hb8.trans (hb.mono hb8.size))⟩)
  have HN8 := Lib.hid (show ∀ W : World, Below W8.heap.size W8 W → Below W4.heap.size W4 W from fun W hb => HB48.out.trans (hb.mono HB48.out.size))
  have HD0 := Lib.hid (Below.refl W8.heap.size W8)
  have HW8 := Lib.hid HW8
  clear hX6 hX8 hX68 hb46 hb68 hb7 hb8 ho5 ho6 ho7 ho8 hv5 hv7
  go_wp2_with fail
  rw [← HW8.out]
  clear HW8
  clear HW8
  generalize W7.heap.size = gd at *
  refine (same_any (HRN.out _ (HN8.out _ HD0.out)).1 (HRN.out _ (HN8.out _ HD0.out)).2.2).mono ?_
  rintro _ V1 ⟨t1, rfl, ht1, hb100⟩
  have HD1 := Lib.hid (HD0.out.trans (hb100.mono HD0.out.size))
  obtain rfl : t1 = true := ht1.out.2 rfl
  clear hb100
  go_wp2_with fail
  refine (zdegree_any (HZ4.out _ (HN8.out _ HD1.out)).2.2 hM0.out (Nat.le_trans HK.out.1 (by decide)) (by decide)).mono ?_
  rintro _ V2 ⟨d1, rfl, hd1, hb101⟩
  have HD2 := Lib.hid (HD1.out.trans (hb101.mono HD1.out.size))
  clear hb101
  go_wp2_with fail
  refine (rzDegree_any (HZ4.out _ (HN8.out _ HD2.out)).1 hM0.out (Nat.le_trans HK.out.1 (by decide)) (by decide)).mono ?_
  rintro _ V3 ⟨d2, rfl, hd2, hb102⟩
  have HD3 := Lib.hid (HD2.out.trans (hb102.mono HD2.out.size))
  obtain rfl : d2 = d1 := by rw [hd1.out, hd2.out]
  clear hb102
  go_wp2_with fail
  refine (zlead_any (HZ4.out _ (HN8.out _ HD3.out)).2.2 hM0.out (Nat.le_trans HK.out.1 (by decide)) (by decide)).mono ?_
  rintro _ V4 ⟨sa, Aa, na, ca, ya, rfl, hoa, hya, hb103⟩
  have HD4 := Lib.hid (HD3.out.trans (hb103.mono HD3.out.size))
  clear hb103
  go_wp2_with fail
  refine (rzLead_ri (HZ4.out _ (HN8.out _ HD4.out)).1 hM0.out (Nat.le_trans HK.out.1 (by decide)) (by decide)).mono ?_
  rintro _ V5 ⟨sb, Ab, nb, cb, yb, rfl, hob, hyb, hb104⟩
  have HD5 := Lib.hid (HD4.out.trans (hb104.mono HD4.out.size))
  have hoa := hoa.next hb104
  clear hb104
  go_wp2_with fail
  refine (same03_any hoa.own.rd hob.own.rd).mono ?_
  rintro _ V6 ⟨t2, rfl, ht2, hb105⟩
  have HD6 := Lib.hid (HD5.out.trans (hb105.mono HD5.out.size))
  obtain rfl : t2 = true := ht2.out.2 (by rw [hoa.sgn, hob.sgn, hya.out, hyb.out])
  clear hoa hob
  clear hb105
  go_wp2_with fail
  refine (zequal_any (HZ4.out _ (HN8.out _ HD6.out)).2.2 (HZ4.out _ (HN8.out _ HD6.out)).2.1 hM0.out HM1.out (Nat.le_trans HK.out.1 (by decide)) (Nat.le_trans HK.out.2 (by decide)) (by decide) (by decide)).mono ?_
  rintro _ V7 ⟨t3, rfl, ht3, hb106⟩
  have HD7 := Lib.hid (HD6.out.trans (hb106.mono HD6.out.size))
  clear hb106
  go_wp2_with fail
  refine (rzNorm_any (HZ4.out _ (HN8.out _ HD7.out)).2.1 (Nat.le_trans HK.out.2 (by decide)) (by decide)).mono ?_
  rintro _ V8 ⟨Ae, ne, ce, Me, rfl, hoe, hMe, hb107⟩
  have HD8 := Lib.hid (HD7.out.trans (hb107.mono HD7.out.size))
  obtain rfl := HM1.out.unique hMe.out
  have hre := hoe.rs (N := 1048576) (fun z hz => by
    obtain ⟨i, _, rfl⟩ := Pz.mem_co hz
    rw [HM1.out.2]; exact HZ.out.2.1 i)
  clear hb107
  go_wp2_with fail
  refine (same_any (HRN.out _ (HN8.out _ HD8.out)).2.2 hre).mono ?_
  rintro _ V9 ⟨t4, rfl, ht4, hb108⟩
  have HD9 := Lib.hid (HD8.out.trans (hb108.mono HD8.out.size))
  obtain rfl : t3 = t4 := bool_same ht3.out ht4.out ofZ_map.symm
  clear hoe hre ht3 ht4
  clear hb108
  go_wp2_with fail
  refine (zheight_any (HZ4.out _ (HN8.out _ HD9.out)).2.2 (by decide)).mono ?_
  rintro _ V10 ⟨sf, Af, nf, cf, yf, rfl, hof, hyf, hb109⟩
  have HD10 := Lib.hid (HD9.out.trans (hb109.mono HD9.out.size))
  clear hb109
  go_wp2_with fail
  refine (rzHeight_any (HZ4.out _ (HN8.out _ HD10.out)).1 (by decide)).mono ?_
  rintro _ V11 ⟨sg, Ah, nh, ch, yg, rfl, hog, hyg, hb110⟩
  have HD11 := Lib.hid (HD10.out.trans (hb110.mono HD10.out.size))
  have hof := hof.next hb110
  clear hb110
  go_wp2_with fail
  refine (same03_any hof.own.rd hog.own.rd).mono ?_
  rintro _ V12 ⟨t5, rfl, ht5, hb111⟩
  have HD12 := Lib.hid (HD11.out.trans (hb111.mono HD11.out.size))
  obtain rfl : t5 = true := ht5.out.2 (by rw [hof.sgn, hog.sgn, hyf.out, hyg.out])
  clear hof hog
  clear hb111
  go_wp2_with fail
  refine (zcontent_any (HZ4.out _ (HN8.out _ HD12.out)).2.2 (by decide)).mono ?_
  rintro _ V13 ⟨sf2, Af2, nf2, cf2, yf2, rfl, hof, hyf2, hb112⟩
  have HD13 := Lib.hid (HD12.out.trans (hb112.mono HD12.out.size))
  clear hb112
  go_wp2_with fail
  refine (rzContent_any (HZ4.out _ (HN8.out _ HD13.out)).1 (by decide)).mono ?_
  rintro _ V14 ⟨sg2, Ah2, nh2, ch2, yg2, rfl, hog, hyg2, hb113⟩
  have HD14 := Lib.hid (HD13.out.trans (hb113.mono HD13.out.size))
  have hof := hof.next hb113
  clear hb113
  go_wp2_with fail
  refine (same03_any hof.own.rd hog.own.rd).mono ?_
  rintro _ V15 ⟨t6, rfl, ht6, hb114⟩
  have HD15 := Lib.hid (HD14.out.trans (hb114.mono HD14.out.size))
  obtain rfl : t6 = true := ht6.out.2 (by rw [hof.sgn, hog.sgn, hyf2.out, hyg2.out])
  clear hof hog
  have x0 := (HC8.out _ HD15.out).1.c0
  have x1 := (HC8.out _ HD15.out).1.c1
  have x2 := (HC8.out _ HD15.out).2.c0
  have x3 := (HC8.out _ HD15.out).2.c1
  clear hb114
  go_wp2_with fail
  refine (same03_any (HQ8.out _ HD15.out).2.2.1.own.rd (HQ8.out _ HD15.out).2.2.2.own.rd).mono ?_
  rintro _ V16 ⟨t7, rfl, ht7, hb115⟩
  have HD16 := Lib.hid (HD15.out.trans (hb115.mono HD15.out.size))
  obtain rfl : t7 = true := ht7.out.2 (by rw [(HQ8.out _ HD0.out).2.2.1.sgn, (HQ8.out _ HD0.out).2.2.2.sgn])
  clear x0 x1 x2 x3
  clear hb115
  go_wp2_with fail
  refine (same_any (HQ8.out _ HD16.out).1 (HQ8.out _ HD16.out).2.1).mono ?_
  rintro _ V17 ⟨t8, rfl, ht8, hb116⟩
  have HD17 := Lib.hid (HD16.out.trans (hb116.mono HD16.out.size))
  obtain rfl : t8 = true := ht8.out.2 rfl
  clear hb116
  have HDL := Lib.hid (HN8.out _ HD17.out)
  generalize V17 = Ws at *
  go_wp2_with fail
  go_loopw [13, 14, 90] (fun xv kv iv wr => ∃ (i : Nat), iv = .int .i64 i ∧ i ≤ nn ∧ (nn = 0 ∨ ∃ (g : Nat) (cs : Array Value), An = some ⟨g, 0, none⟩ ∧ Shp wr W1.heap.size W2.heap.size g cs nn) ∧ Spd W1.heap.size W2.heap.size Ws wr) (fun _ _ iv _ => nn - (intOf iv).toNat)
  case atStart => exact ⟨0, rfl, Nat.zero_le _, HSH.out _ HDL.out, Spd.refl _ _ _⟩
  case round =>
    obtain ⟨i, rfl, hi, hS, hsp⟩ := hrel
    by_cases hin : i = nn
    · subst hin
      have HSP := Lib.hid hsp
      have HSZ := Lib.hid (show Ws.heap.size = wr.heap.size from hsp.size.symm)
      have HBW := Lib.hid (HB1.out.trans ((HB14.out.trans (HDL.out.mono HB14.out.size)).mono HB1.out.size))
      have HBF := Lib.hid (HBW.out.trans (hsp.below.mono HS.out.1))
      have HP := Lib.hid (HP1.out _ (HB14.out.trans (HDL.out.mono HB14.out.size)))
      have hg := (hsp.zs (HN.out _ HDL.out).2.1 (Nat.le_refl _)).rs HMZ.out
      have hw := (hsp.zs (HN.out _ HDL.out).2.2 HS.out.2.2.1).rs HMZ.out
      have hpp := (HP.out.2.2.below hsp.below).more (B' := wr.heap.size) (Nat.le_trans HS.out.2.1 (Nat.le_trans HS.out.2.2.1 (Nat.le_trans HS.out.2.2.2 (Nat.le_trans HDL.out.size (Nat.le_of_eq HSZ.out)))))
      have hpa := (HP.out.1.below (hsp.below.mono HS.out.1)).more (B' := wr.heap.size) (Nat.le_trans HBW.out.size (Nat.le_of_eq HSZ.out))
      clear hS hsp
      go_wp2_with fail
      refine (same_any hg hw).mono ?_
      rintro _ X1 ⟨u1, rfl, hu1, hx1⟩
      obtain rfl : u1 = true := hu1.out.2 rfl
      have hpp := hpp.next hx1
      have hpa := hpa.next hx1
      have HX1 := Lib.hid (HBF.out.trans (hx1.mono HBF.out.size))
      clear hg hw hx1
      go_wp2_with fail
      refine (same_any hpp hpa).mono ?_
      rintro _ X2 ⟨u2, rfl, hu2, hx2⟩
      obtain rfl : u2 = true := hu2.out.2 rfl
      have HX2 := Lib.hid (HX1.out.trans (hx2.mono HX1.out.size))
      clear hpp hpa hx2
      go_wp2_with fail
      refine (lives_any _).mono ?_
      rintro _ X3 ⟨rfl, hx3⟩
      have HX3 := Lib.hid (HX2.out.trans (hx3.mono HX2.out.size))
      clear hx3
      go_wp2
      go_ret
      exact ⟨rfl, HX3.out⟩
    · have hil : i < nn := by omega
      clear hin
      have hili : (i : Int) < (nn : Int) := by omega
      have hnb : nn ≤ 1048576 := HNL.out
      rcases hS with h0 | ⟨g, cs, rfl, hsh⟩
      · omega
      obtain ⟨hlt, A', n', c', he, hn', hwr⟩ := hsh.ent i hil
      have hadd : (⟨g, 0, none⟩ : Addr).add (i * 2) = ⟨g, i * 2, none⟩ := add_base g _
      have hv0 : wr.cell? ⟨g, i * 2, none⟩ = some cs[i * 2] := by rw [cell_of_row wr g _ cs _ _ hsh.row, Array.getElem?_eq_getElem hlt]
      have hv1 : wr.cell? ⟨g, i * 2 + 1, none⟩ = some (.slice A' n' c') := by rw [cell_of_row wr g _ cs _ _ hsh.row]; exact he
      have hf0 := frozen_of_row wr g (i * 2) cs _ hsh.row
      have HSH1 := Lib.hid (hsh.neg i (.bool true))
      have HWR1 := Lib.hid (hwr.int (i := i * 2) hsh.row (.bool true))
      have HSP1 := Lib.hid (hsp.set (i := i * 2) hsh.lo hsh.hi (.bool true))
      have HE1 := Lib.hid (show (cs.setIfInBounds (i * 2) (.bool true))[i * 2 + 1]? = some (.slice A' n' c') by rw [Array.getElem?_setIfInBounds_ne (by omega)]; exact he)
      have hv2 : (wr.setCell ⟨g, i * 2, none⟩ (.bool true)).cell? ⟨g, i * 2 + 1, none⟩ = some (.slice A' n' c') := by rw [cell_of_row _ g _ _ _ _ HSH1.out.row]; exact HE1.out
      clear hsh hwr hsp he
      go_wp2_with fail
      generalize wr.setCell ⟨g, i * 2, none⟩ (.bool true) = W9 at *
      generalize cs.setIfInBounds (i * 2) (.bool true) = cs' at *
      clear hv0 hv1 hv2 hf0 hlt
      go_loopw [14, 103] (fun kv jv wr => ∃ (k : Nat), jv = .int .i64 k ∧ k ≤ n' ∧ Shp wr W1.heap.size W2.heap.size g cs' nn ∧ Wr wr W1.heap.size W2.heap.size A' n' ∧ Spd W1.heap.size W2.heap.size Ws wr) (fun _ jv _ => n' - (intOf jv).toNat)
      case atStart => exact ⟨0, rfl, Nat.zero_le _, HSH1.out, HWR1.out, HSP1.out⟩
      case round =>
        obtain ⟨k, rfl, hk, hsh, hwr, hsp⟩ := hrel
        by_cases hkn : k = n'
        · subst hkn
          have HALL := Lib.hid (And.intro hsh hsp)
          clear hsh hsp hwr
          go_wp2
          go_roundw
          case rel => exact ⟨i + 1, by go_num, by omega, .inr ⟨g, cs', rfl, HALL.out.1⟩, HALL.out.2⟩
          case measure => simp [intOf]; omega
        · have hkl : k < n' := by omega
          clear hkn
          have hkli : (k : Int) < (n' : Int) := by omega
          rcases hwr with h0 | ⟨g', ds, rfl, hlo, hhi, hrow, hsz⟩
          · omega
          have hadd2 : (⟨g', 0, none⟩ : Addr).add k = ⟨g', k, none⟩ := by unfold Addr.add; by_cases h : k = 0 <;> simp [h]
          have hv1 : wr.cell? ⟨g, i * 2 + 1, none⟩ = some (.slice (some ⟨g', 0, none⟩) n' c') := by rw [cell_of_row wr g _ cs' _ _ hsh.row]; exact HE1.out
          have hv3 : wr.cell? ⟨g', k, none⟩ = some ds[k] := by rw [cell_of_row wr g' _ ds _ _ hrow, Array.getElem?_eq_getElem (by omega)]
          have hf3 := frozen_of_row wr g' k ds _ hrow
          have HSH2 := Lib.hid (hsh.word hrow k (.int .u32 3))
          have HWR2 := Lib.hid (Wr.word (i := k) (.inr ⟨g', ds, rfl, hlo, hhi, hrow, hsz⟩ : Wr wr W1.heap.size W2.heap.size (some ⟨g', 0, none⟩) n') hrow (.int .u32 3))
          have HSP2 := Lib.hid (hsp.set (i := k) hlo hhi (.int .u32 3))
          clear hsh hsp hrow
          go_wp2
          go_roundw
          case rel => exact ⟨k + 1, by go_num, by omega, HSH2.out, HWR2.out, HSP2.out⟩
          case measure => simp [intOf]; omega
end Go.Proofs.YtipbpdiahemmpaaGreat
