/- The law ZpolyDivides. -/
import Derived.Test.YtipbpdiahemmpaaO25
import Derived.Test.YtipbpdiahemmpaaQs
namespace Go.Proofs.Ytipbpdiahemmpaa
open Go.RowKit Go.IntWalk
attribute [local go_sem ↓] Go.wp_at_zero Go.wp_at_succ

theorem rs_at_ {w : World} {b N : Nat} {A : Option Addr} {n c : Nat} {M : List Int} (h : OwZs w b A n c M) (hf : ∀ i, Zz.zl (Pz.co M i) ≤ N) : RdRs w w.heap.size N A n c (M.map ofZ) := h.rs fun z hz => by
  obtain ⟨i, _, rfl⟩ := Pz.mem_co hz
  exact hf i
theorem psd_short {l : Int} {a b : Nat → Int} {Q R M : List Int} {m : Nat} (hQ : Pz.Nz Q) (hR : Pz.Nz R) (h : Pz.Psd l 0 a b (Pz.co Q) (Pz.co R)) (hu : Pz.Up (Pz.co R) m) (hM : Pz.IsP a M) (hl : M.length ≤ m) (hb : Pz.Up b (m + 1)) (ht : b m ≠ 0) : Q = [] ∧ R = M := by
  have h0 : Pz.Psd l 0 a b (Pz.co []) (Pz.co M) := fun t => by rw [hM.2]; exact Pz.psd_zero l a b t
  obtain ⟨e1, e2⟩ := Pz.psd_unique h h0 hb ht (Pz.up_co Q) (Pz.up_co []) hu ((Pz.up_co M).mono hl)
  exact ⟨Pz.nz_ext hQ Pz.nz_nil e1, Pz.nz_ext hR hM.1 e2⟩

set_option maxRecDepth 100000 in
set_option maxHeartbeats 8000000 in
theorem walk_ZpolyDivides {A0 A1 : Option Addr} {n0 c0 n1 c1 : Nat} {R0 R1 : List (Bool × List Nat)} {w : World} (h0 : RdRs w w.heap.size 1048576 A0 n0 c0 R0) (_ : A0 = none → n0 = 0 ∧ c0 = 0) (k0 : n0 ≤ 349525) (h1 : RdRs w w.heap.size 1048576 A1 n1 c1 R1) (_ : A1 = none → n1 = 0 ∧ c1 = 0) (k1 : n1 ≤ 349525) :
    Calls Try.prog 3 #[.slice A0 n0 c0, .slice A1 n1 c1] w (RetYes w) := by
  obtain ⟨L0, hL0⟩ : ∃ L, L = R0.map toZ := ⟨_, rfl⟩
  obtain ⟨L1, hL1⟩ : ∃ L, L = R1.map toZ := ⟨_, rfl⟩
  have HZS := Lib.hid (show ∀ W : World, Below w.heap.size w W → (RdZs W W.heap.size 1048576 A0 n0 c0 L0 ∧ RdZs W W.heap.size 1048576 A1 n1 c1 L1) from fun W hb => by
    rw [hL0, hL1]
    exact ⟨(h0.next hb).zs, (h1.next hb).zs⟩)
  have HK := Lib.hid (And.intro k0 k1)
  have HLN := Lib.hid (show L0.length = n0 ∧ L1.length = n1 from ⟨by rw [hL0, List.length_map]; exact h0.len, by rw [hL1, List.length_map]; exact h1.len⟩)
  clear h0 h1 hL0 hL1
  obtain ⟨M1, hM1, hl1⟩ := Pz.norm_exists L0
  obtain ⟨M2, hM2, hl2⟩ := Pz.norm_exists L1
  have HM := Lib.hid (And.intro hM1 hM2)
  have HMB := Lib.hid (show M1.length ≤ 349525 ∧ M2.length ≤ 349525 by have := HK.out; have := HLN.out; omega)
  have hk0 : n0 ≤ 1048576 := by omega
  have hk1 : n1 ≤ 1048576 := by omega
  clear hl1 hl2 hM1 hM2 k0 k1
  have HBD := Lib.hid (show 1048576 + (n0 + 1) * (1048576 + 1) ≤ 400000000000 from by have := HK.out; omega)
  go_enter Try.func3, Try.ntmps3
  go_wp2_with fail
  rcases Nat.eq_zero_or_pos M2.length with hz | hz
  · obtain rfl := List.eq_nil_of_length_eq_zero hz
    clear hz
    refine (zpseudo_zero (HZS.out w (Below.refl _ _)).1 (HZS.out w (Below.refl _ _)).2 HM.out.2 hk0 hk1 (by decide) (by decide)).mono ?_
    rintro _ W1 ⟨rfl, hb1⟩
    go_wp2_with fail
    refine (zexact_zero (HZS.out W1 hb1).1 (HZS.out W1 hb1).2 HM.out.2 hk0 hk1 (by decide) (by decide)).mono ?_
    rintro _ W2 ⟨rfl, hb2⟩
    have hB2 := hb1.trans (hb2.mono hb1.size)
    go_wp2_with fail
    refine (rzDegree_any (HZS.out W2 hB2).2 HM.out.2 (by omega) (by decide)).mono ?_
    rintro _ W3 ⟨y, rfl, hy, hb3⟩
    have hy0 : y < 0 := by rw [hy.out]; decide
    have HB3 := Lib.hid (hB2.trans (hb3.mono hB2.size))
    clear hb1 hb2 hb3 hB2 hy
    go_wp2_with fail
    refine (lives_any _).mono ?_
    rintro _ W4 ⟨rfl, hb4⟩
    have HB4 := Lib.hid (HB3.out.trans (hb4.mono HB3.out.size))
    clear hb4
    go_wp2
    go_ret
    exact ⟨rfl, HB4.out⟩
  · obtain ⟨m, hm⟩ : ∃ m, M2.length = m + 1 := ⟨M2.length - 1, by omega⟩
    have HMM := Lib.hid hm
    have HUP := Lib.hid (show Pz.Up (Pz.co L1) (m + 1) ∧ Pz.co L1 m ≠ 0 from ⟨HM.out.2.up1 hm, HM.out.2.top hm⟩)
    clear hz hm
    refine (zpseudo_any (HZS.out w (Below.refl _ _)).1 (HZS.out w (Below.refl _ _)).2 HM.out.1 HM.out.2 HMM.out hk0 hk1 (Nat.le_trans HBD.out (by decide))).mono ?_
    rintro _ W1 ⟨Aq, nq, cq, Q, Ar, nr, cr, R, rfl, hoq, hor, hP, hb1⟩
    have HP := Lib.hid (show (∀ i, Zz.zl (Pz.co Q i) ≤ 1048576 + (n0 + 1) * (1048576 + 1)) ∧ (∀ i, Zz.zl (Pz.co R i) ≤ 1048576 + (n0 + 1) * (1048576 + 1)) ∧ Pz.Nz Q ∧ Pz.Nz R from ⟨hP.out.2.2.2.2.2.1, hP.out.2.2.2.2.2.2, hP.out.1, hP.out.2.1⟩)
    have HOQ := Lib.hid (And.intro hoq hor)
    have HLQ := Lib.hid (show nq ≤ 4398046511103 ∧ nr ≤ 4398046511103 by
      have e1 := hoq.len
      have e2 := hor.len
      have e3 := Pz.nz_len hP.out.1 hP.out.2.2.2.2.1
      have e4 := Pz.nz_len hP.out.2.1 hP.out.2.2.2.1
      have := HMB.out
      have := HMM.out
      omega)
    go_wp2_with fail
    refine (zexact_any (HZS.out W1 hb1).1 (HZS.out W1 hb1).2 HM.out.1 HM.out.2 HMM.out hk0 hk1 (Nat.le_trans HBD.out (by decide))).mono ?_
    rintro _ W2 ⟨Ax, nx, cx, X, f, rfl, hox, hX, hb2⟩
    have HOX := Lib.hid hox
    have HB1 := Lib.hid hb1
    have HB2 := Lib.hid (hb1.trans (hb2.mono hb1.size))
    have HB12 := Lib.hid hb2
    clear hoq hor hox hb1 hb2
    go_wp2_with fail
    refine (rzDegree_any (HZS.out W2 HB2.out).2 HM.out.2 (by omega) (by decide)).mono ?_
    rintro _ W3 ⟨y, rfl, hy, hb3⟩
    have hy0 : (0 : Int) ≤ y := by rw [hy.out, HMM.out]; omega
    have HB23 := Lib.hid hb3
    have HB3 := Lib.hid (HB2.out.trans (hb3.mono HB2.out.size))
    clear hb3 hy
    go_wp2_with fail
    refine (rzPseudo_any (HZS.out W3 HB3.out).1 (HZS.out W3 HB3.out).2 HM.out.1 HM.out.2 HMM.out hk0 hk1 (Nat.le_trans HBD.out (by decide))).mono ?_
    rintro _ W4 ⟨Aq2, nq2, cq2, Q2, Ar2, nr2, cr2, R2, rfl, hoq2, hor2, hP2, hb4⟩
    have HEQ := Lib.hid (show Q2 = Q ∧ R2 = R by
      obtain ⟨p1, p2, p3, p4, _⟩ := hP.out
      obtain ⟨q1, q2, q3, q4, _⟩ := hP2.out
      obtain ⟨e1, e2⟩ := Pz.psd_unique q3 p3 HUP.out.1 HUP.out.2 (Pz.up_co Q2) (Pz.up_co Q) q4 p4
      exact ⟨Pz.nz_ext q1 p1 e1, Pz.nz_ext q2 p2 e2⟩)
    have HB4 := Lib.hid (HB3.out.trans (hb4.mono HB3.out.size))
    have HB24 := Lib.hid (HB23.out.trans (hb4.mono HB23.out.size))
    have HO2 := Lib.hid (show OwZs W4 w.heap.size Aq2 nq2 cq2 Q ∧ OwZs W4 w.heap.size Ar2 nr2 cr2 R by
      have h1 := hoq2.base HB3.out.size
      have h2 := hor2.base HB3.out.size
      rw [HEQ.out.1] at h1
      rw [HEQ.out.2] at h2
      exact ⟨h1, h2⟩)
    clear hoq2 hor2 hb4 hP2
    go_wp2_with fail
    refine (rzDegree_any (HZS.out W4 HB4.out).1 HM.out.1 (by omega) (by decide)).mono ?_
    rintro _ W5 ⟨ya, rfl, hya, hb5⟩
    have HB5 := Lib.hid (HB4.out.trans (hb5.mono HB4.out.size))
    go_wp2_with fail
    refine (rzDegree_any (HZS.out W5 HB5.out).2 HM.out.2 (by omega) (by decide)).mono ?_
    rintro _ W6 ⟨yb, rfl, hyb, hb6⟩
    have hb56 := hb5.trans (hb6.mono hb5.size)
    have HB6 := Lib.hid (HB5.out.trans (hb6.mono HB5.out.size))
    have HB26 := Lib.hid (HB24.out.trans (hb56.mono HB24.out.size))
    have HO6 := Lib.hid (And.intro (HO2.out.1.next hb56) (HO2.out.2.next hb56))
    have HXX := hX
    clear hb5 hb6 hb56 hX
    by_cases hlt : M1.length < M2.length
    · have hyy : ya < yb := by rw [hya.out, hyb.out]; omega
      have HSH := Lib.hid (show Q = [] ∧ R = M1 by
        obtain ⟨p1, p2, p3, p4, _⟩ := hP.out
        rw [show M1.length - m = 0 by have := HMM.out; omega] at p3
        exact psd_short p1 p2 p3 p4 HM.out.1 (by have := HMM.out; omega) HUP.out.1 HUP.out.2)
      clear hya hyb hP hlt
      go_wp2_with fail
      refine (rzNorm_any (HZS.out W6 HB6.out).1 (by omega) (by decide)).mono ?_
      rintro _ W7 ⟨A7, n7, c7, M7, rfl, ho7, hM7, hb7⟩
      have HB7 := Lib.hid (HB6.out.trans (hb7.mono HB6.out.size))
      have HB27 := Lib.hid (HB26.out.trans (hb7.mono HB26.out.size))
      have HO7 := Lib.hid (show OwZs W7 w.heap.size none 0 0 Q ∧ OwZs W7 w.heap.size A7 n7 c7 R by
        have h2 := ho7.base HB6.out.size
        rw [hM7.out.unique HM.out.1, ← HSH.out.2] at h2
        rw [HSH.out.1]
        exact ⟨OwZs.nil _ _, h2⟩)
      clear ho7 hb7 hM7
      go_wp2_with fail
      refine (rzExact_any (HZS.out W7 HB7.out).1 (HZS.out W7 HB7.out).2 HM.out.1 HM.out.2 HMM.out hk0 hk1 (Nat.le_trans HBD.out (by decide))).mono ?_
      rintro _ W8 ⟨A8, n8, c8, X8, ok, rfl, ho8, hX8, hb8⟩
      have HB8 := Lib.hid (HB7.out.trans (hb8.mono HB7.out.size))
      have HB28 := Lib.hid (HB27.out.trans (hb8.mono HB27.out.size))
      have HO8 := Lib.hid (And.intro (HO7.out.1.next hb8) (HO7.out.2.next hb8))
      have HX8 := Lib.hid ho8
      clear ho8 hb8
      go_wp2_with fail
      refine (rzNorm_any (rd_st HO8.out.1 HP.out.1) (by have h1 := HO8.out.1.len; have h2 := HOQ.out.1.len; have h3 := HLQ.out.1; omega) (Nat.le_trans HBD.out (by decide))).mono ?_
      rintro _ W9 ⟨A9, n9, c9, M9, rfl, ho9, hM9, hb9⟩
      obtain rfl := hM9.out.unique (Pz.IsP.self HP.out.2.2.1)
      have HB9 := Lib.hid (HB8.out.trans (hb9.mono HB8.out.size))
      have HB29 := Lib.hid (HB28.out.trans (hb9.mono HB28.out.size))
      go_wp2_with fail
      refine (same_any (rs_at_ (HOQ.out.1.next (HB12.out.trans (HB29.out.mono HB12.out.size))) HP.out.1) (rs_at_ ho9 HP.out.1)).mono ?_
      rintro _ W10 ⟨b10, rfl, hb10, hbb10⟩
      obtain rfl : b10 = true := hb10.out.2 rfl
      have HB10 := Lib.hid (HB9.out.trans (hbb10.mono HB9.out.size))
      have HB210 := Lib.hid (HB29.out.trans (hbb10.mono HB29.out.size))
      have hb810 := hb9.trans (hbb10.mono hb9.size)
      go_wp2_with fail
      refine (rzNorm_any (rd_st (HO8.out.2.next hb810) HP.out.2.1) (by have h1 := HO8.out.2.len; have h2 := HOQ.out.2.len; have h3 := HLQ.out.2; omega) (Nat.le_trans HBD.out (by decide))).mono ?_
      rintro _ W11 ⟨A11, n11, c11, M11, rfl, ho11, hM11, hb11⟩
      obtain rfl := hM11.out.unique (Pz.IsP.self HP.out.2.2.2)
      have HB11 := Lib.hid (HB10.out.trans (hb11.mono HB10.out.size))
      have HB211 := Lib.hid (HB210.out.trans (hb11.mono HB210.out.size))
      go_wp2_with fail
      refine (same_any (rs_at_ (HOQ.out.2.next (HB12.out.trans (HB211.out.mono HB12.out.size))) HP.out.2.1) (rs_at_ ho11 HP.out.2.1)).mono ?_
      rintro _ W12 ⟨b12, rfl, hb12, hbb12⟩
      obtain rfl : b12 = true := hb12.out.2 rfl
      have HB12' := Lib.hid (HB11.out.trans (hbb12.mono HB11.out.size))
      have HB212 := Lib.hid (HB211.out.trans (hbb12.mono HB211.out.size))
      have HB812 := Lib.hid (hb810.trans ((hb11.trans (hbb12.mono hb11.size)).mono hb810.size))
      clear ho9 hM9 hb9 hbb10 hb10 hb810 ho11 hM11 hb11 hb12 hbb12
      rcases hX8.out with ⟨rfl, x1, x2, x3⟩ | ⟨rfl, x1⟩
      · rcases HXX.out with ⟨rfl, y1, y2, y3⟩ | ⟨rfl, _, y1⟩
        · have HXE := Lib.hid (show X8 = X from Pz.nz_ext x1 y1 (Pz.dvs_unique HUP.out.1 HUP.out.2 (Pz.up_co X8) (Pz.up_co X) x2 y2))
          have HXZ := Lib.hid (And.intro y1 y3)
          have hl8 : n8 ≤ 4398046511103 := by
            have h8 := HX8.out.len
            have h9 := Pz.no_mul (p := M1.length) HUP.out.1 HUP.out.2 (d := Pz.co X8) (b := Pz.co L1) (fun t ht => by rw [← x2, ← HM.out.1.2]; exact Pz.co_ge (by omega)) _ (Pz.up_co X8)
            have h10 := Pz.nz_len x1 h9
            have := HMB.out
            omega
          clear hX8 HXX x1 x2 x3 y1 y2 y3
          go_wp2_with fail
          have hx8 := HX8.out.next HB812.out
          rw [HXE.out] at hx8
          refine (rzNorm_any (rd_st hx8 HXZ.out.2) hl8 (Nat.le_trans HBD.out (by decide))).mono ?_
          rintro _ W13 ⟨A13, n13, c13, M13, rfl, ho13, hM13, hb13⟩
          obtain rfl := hM13.out.unique (Pz.IsP.self HXZ.out.1)
          have HB13 := Lib.hid (HB12'.out.trans (hb13.mono HB12'.out.size))
          have HB213 := Lib.hid (HB212.out.trans (hb13.mono HB212.out.size))
          go_wp2_with fail
          refine (same_any (rs_at_ (HOX.out.next HB213.out) HXZ.out.2) (rs_at_ ho13 HXZ.out.2)).mono ?_
          rintro _ W14 ⟨b14, rfl, hb14, hbb14⟩
          obtain rfl : b14 = true := hb14.out.2 rfl
          have HB14 := Lib.hid (HB13.out.trans (hbb14.mono HB13.out.size))
          clear ho13 hM13 hb13 hb14 hbb14 hx8
          go_wp2_with fail
          refine (lives_any _).mono ?_
          rintro _ W15 ⟨rfl, hb15⟩
          have HB15 := Lib.hid (HB14.out.trans (hb15.mono HB14.out.size))
          clear hb15
          go_wp2
          go_ret
          exact ⟨rfl, HB15.out⟩
        · exact absurd ⟨Pz.co X8, _, Pz.up_co X8, x2⟩ y1
      · rcases HXX.out with ⟨rfl, y1, y2, y3⟩ | ⟨rfl, rfl, y1⟩
        · exact absurd ⟨Pz.co X, _, Pz.up_co X, y2⟩ x1
        · clear hX8 HXX x1 y1
          go_wp2_with fail
          refine (lives_any _).mono ?_
          rintro _ W15 ⟨rfl, hb15⟩
          have HB15 := Lib.hid (HB12'.out.trans (hb15.mono HB12'.out.size))
          clear hb15
          go_wp2
          go_ret
          exact ⟨rfl, HB15.out⟩
    · have hyy : yb ≤ ya := by rw [hya.out, hyb.out]; omega
      have HB7 := HB6
      have HB27 := HB26
      have HO7 := HO6
      clear hya hyb hP hlt
      go_wp2_with fail
      refine (rzExact_any (HZS.out W6 HB7.out).1 (HZS.out W6 HB7.out).2 HM.out.1 HM.out.2 HMM.out hk0 hk1 (Nat.le_trans HBD.out (by decide))).mono ?_
      rintro _ W8 ⟨A8, n8, c8, X8, ok, rfl, ho8, hX8, hb8⟩
      have HB8 := Lib.hid (HB7.out.trans (hb8.mono HB7.out.size))
      have HB28 := Lib.hid (HB27.out.trans (hb8.mono HB27.out.size))
      have HO8 := Lib.hid (And.intro (HO7.out.1.next hb8) (HO7.out.2.next hb8))
      have HX8 := Lib.hid ho8
      clear ho8 hb8
      go_wp2_with fail
      refine (rzNorm_any (rd_st HO8.out.1 HP.out.1) (by have h1 := HO8.out.1.len; have h2 := HOQ.out.1.len; have h3 := HLQ.out.1; omega) (Nat.le_trans HBD.out (by decide))).mono ?_
      rintro _ W9 ⟨A9, n9, c9, M9, rfl, ho9, hM9, hb9⟩
      obtain rfl := hM9.out.unique (Pz.IsP.self HP.out.2.2.1)
      have HB9 := Lib.hid (HB8.out.trans (hb9.mono HB8.out.size))
      have HB29 := Lib.hid (HB28.out.trans (hb9.mono HB28.out.size))
      go_wp2_with fail
      refine (same_any (rs_at_ (HOQ.out.1.next (HB12.out.trans (HB29.out.mono HB12.out.size))) HP.out.1) (rs_at_ ho9 HP.out.1)).mono ?_
      rintro _ W10 ⟨b10, rfl, hb10, hbb10⟩
      obtain rfl : b10 = true := hb10.out.2 rfl
      have HB10 := Lib.hid (HB9.out.trans (hbb10.mono HB9.out.size))
      have HB210 := Lib.hid (HB29.out.trans (hbb10.mono HB29.out.size))
      have hb810 := hb9.trans (hbb10.mono hb9.size)
      go_wp2_with fail
      refine (rzNorm_any (rd_st (HO8.out.2.next hb810) HP.out.2.1) (by have h1 := HO8.out.2.len; have h2 := HOQ.out.2.len; have h3 := HLQ.out.2; omega) (Nat.le_trans HBD.out (by decide))).mono ?_
      rintro _ W11 ⟨A11, n11, c11, M11, rfl, ho11, hM11, hb11⟩
      obtain rfl := hM11.out.unique (Pz.IsP.self HP.out.2.2.2)
      have HB11 := Lib.hid (HB10.out.trans (hb11.mono HB10.out.size))
      have HB211 := Lib.hid (HB210.out.trans (hb11.mono HB210.out.size))
      go_wp2_with fail
      refine (same_any (rs_at_ (HOQ.out.2.next (HB12.out.trans (HB211.out.mono HB12.out.size))) HP.out.2.1) (rs_at_ ho11 HP.out.2.1)).mono ?_
      rintro _ W12 ⟨b12, rfl, hb12, hbb12⟩
      obtain rfl : b12 = true := hb12.out.2 rfl
      have HB12' := Lib.hid (HB11.out.trans (hbb12.mono HB11.out.size))
      have HB212 := Lib.hid (HB211.out.trans (hbb12.mono HB211.out.size))
      have HB812 := Lib.hid (hb810.trans ((hb11.trans (hbb12.mono hb11.size)).mono hb810.size))
      clear ho9 hM9 hb9 hbb10 hb10 hb810 ho11 hM11 hb11 hb12 hbb12
      rcases hX8.out with ⟨rfl, x1, x2, x3⟩ | ⟨rfl, x1⟩
      · rcases HXX.out with ⟨rfl, y1, y2, y3⟩ | ⟨rfl, _, y1⟩
        · have HXE := Lib.hid (show X8 = X from Pz.nz_ext x1 y1 (Pz.dvs_unique HUP.out.1 HUP.out.2 (Pz.up_co X8) (Pz.up_co X) x2 y2))
          have HXZ := Lib.hid (And.intro y1 y3)
          have hl8 : n8 ≤ 4398046511103 := by
            have h8 := HX8.out.len
            have h9 := Pz.no_mul (p := M1.length) HUP.out.1 HUP.out.2 (d := Pz.co X8) (b := Pz.co L1) (fun t ht => by rw [← x2, ← HM.out.1.2]; exact Pz.co_ge (by omega)) _ (Pz.up_co X8)
            have h10 := Pz.nz_len x1 h9
            have := HMB.out
            omega
          clear hX8 HXX x1 x2 x3 y1 y2 y3
          go_wp2_with fail
          have hx8 := HX8.out.next HB812.out
          rw [HXE.out] at hx8
          refine (rzNorm_any (rd_st hx8 HXZ.out.2) hl8 (Nat.le_trans HBD.out (by decide))).mono ?_
          rintro _ W13 ⟨A13, n13, c13, M13, rfl, ho13, hM13, hb13⟩
          obtain rfl := hM13.out.unique (Pz.IsP.self HXZ.out.1)
          have HB13 := Lib.hid (HB12'.out.trans (hb13.mono HB12'.out.size))
          have HB213 := Lib.hid (HB212.out.trans (hb13.mono HB212.out.size))
          go_wp2_with fail
          refine (same_any (rs_at_ (HOX.out.next HB213.out) HXZ.out.2) (rs_at_ ho13 HXZ.out.2)).mono ?_
          rintro _ W14 ⟨b14, rfl, hb14, hbb14⟩
          obtain rfl : b14 = true := hb14.out.2 rfl
          have HB14 := Lib.hid (HB13.out.trans (hbb14.mono HB13.out.size))
          clear ho13 hM13 hb13 hb14 hbb14 hx8
          go_wp2_with fail
          refine (lives_any _).mono ?_
          rintro _ W15 ⟨rfl, hb15⟩
          have HB15 := Lib.hid (HB14.out.trans (hb15.mono HB14.out.size))
          clear hb15
          go_wp2
          go_ret
          exact ⟨rfl, HB15.out⟩
        · exact absurd ⟨Pz.co X8, _, Pz.up_co X8, x2⟩ y1
      · rcases HXX.out with ⟨rfl, y1, y2, y3⟩ | ⟨rfl, rfl, y1⟩
        · exact absurd ⟨Pz.co X, _, Pz.up_co X, y2⟩ x1
        · clear hX8 HXX x1 y1
          go_wp2_with fail
          refine (lives_any _).mono ?_
          rintro _ W15 ⟨rfl, hb15⟩
          have HB15 := Lib.hid (HB12'.out.trans (hb15.mono HB12'.out.size))
          clear hb15
          go_wp2
          go_ret
          exact ⟨rfl, HB15.out⟩
end Go.Proofs.Ytipbpdiahemmpaa
