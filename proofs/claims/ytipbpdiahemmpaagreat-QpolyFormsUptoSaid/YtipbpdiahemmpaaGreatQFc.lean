/- The law QpolyForms. -/
import Derived.Test.YtipbpdiahemmpaaGreatQFa
import Derived.Test.YtipbpdiahemmpaaGreatQFb
import Derived.Test.YtipbpdiahemmpaaGreatQ13
namespace Go.Proofs.YtipbpdiahemmpaaGreat
open Go.RowKit Go.IntWalk
attribute [local go_sem ↓] Go.wp_at_zero Go.wp_at_succ

theorem all_nil {ok : Prop} {f : Nat → Rat} {M : List Rat} {kk : Int} (h : Hid ((ok ∧ Pq.IsP f M ∧ kk = 0) ∨ (¬ok ∧ M = [] ∧ kk = 6))) (hn : ¬ok) : M = [] ∧ kk = 6 := h.out.elim (fun e => absurd e.1 hn) (fun e => e.2)
theorem all_ok {ok : Prop} {f : Nat → Rat} {M : List Rat} {kk : Int} (h : Hid ((ok ∧ Pq.IsP f M ∧ kk = 0) ∨ (¬ok ∧ M = [] ∧ kk = 6))) (hy : ok) : Pq.IsP f M ∧ kk = 0 := h.out.elim (fun e => e.2) (fun e => absurd hy e.1)
theorem two_ok {ok P Q : Prop} (h : Hid ((ok ∧ P) ∨ (¬ok ∧ Q))) (hy : ok) : P := h.out.elim (fun e => e.2) (fun e => absurd hy e.1)
theorem two_no {ok P Q : Prop} (h : Hid ((ok ∧ P) ∨ (¬ok ∧ Q))) (hn : ¬ok) : Q := h.out.elim (fun e => absurd e.1 hn) (fun e => e.2)
theorem bo_true {P : Prop} {b : Bool} (h : Hid (b = true ↔ P)) (hp : P) : b = true := h.out.2 hp
theorem bo_false {P : Prop} {b : Bool} (h : Hid (b = true ↔ P)) (hp : ¬P) : b = false := by
  cases b
  · rfl
  · exact absurd (h.out.1 rfl) hp

set_option maxRecDepth 100000 in
set_option maxHeartbeats 16000000 in
theorem walk_QpolyForms {A0 A1 A2 : Option Addr} {n0 c0 n1 c1 n2 c2 : Nat} {R0 R1 : List RawQ} {R2 : List (Bool × List Nat)} {w : World} (h0 : RdRQ w w.heap.size A0 n0 c0 R0) (h1 : RdRQ w w.heap.size A1 n1 c1 R1) (h2 : RdRs w w.heap.size 1048576 A2 n2 c2 R2) (_ : A2 = none → n2 = 0 ∧ c2 = 0) (k2 : n2 ≤ 349525) (hk : 5 * n0 + rsz R0 + (5 * n1 + rsz R1) ≤ 1048576) :
    Calls Tryz.prog 5 #[.slice A0 n0 c0, .slice A1 n1 c1, .slice A2 n2 c2] w (RetYes w) := by
  have HN := Lib.hid (show n0 ≤ 1048576 ∧ n1 ≤ 1048576 ∧ n2 ≤ 1048576 ∧ rsz R0 ≤ 1048576 ∧ rsz R1 ≤ 1048576 from by omega)
  obtain ⟨L0, hL0⟩ : ∃ L, L = R0.map toQ := ⟨_, rfl⟩
  obtain ⟨L1, hL1⟩ : ∃ L, L = R1.map toQ := ⟨_, rfl⟩
  obtain ⟨Z2, hZ2⟩ : ∃ L, L = R2.map toZ := ⟨_, rfl⟩
  have RD0 := Lib.hid (show ∀ (W : World) (A : Option Addr) (n c : Nat), RdRQ W W.heap.size A n c R0 → RdQs W W.heap.size 1048576 A n c L0 from fun W A n c h => by rw [hL0]; exact h.rd HN.out.2.2.2.1)
  have RD1 := Lib.hid (show ∀ (W : World) (A : Option Addr) (n c : Nat), RdRQ W W.heap.size A n c R1 → RdQs W W.heap.size 1048576 A n c L1 from fun W A n c h => by rw [hL1]; exact h.rd HN.out.2.2.2.2)
  have HG := Lib.hid (show ∀ W : World, Below w.heap.size w W → RdRQ W W.heap.size A0 n0 c0 R0 ∧ RdRQ W W.heap.size A1 n1 c1 R1 ∧ RdZs W W.heap.size 1048576 A2 n2 c2 Z2 from fun W hb => ⟨h0.next hb, h1.next hb, by rw [hZ2]; exact (h2.next hb).zs⟩)
  have HLA := Lib.hid h0.len
  have HLR := Lib.hid (show L0.length = n0 by rw [hL0, List.length_map]; exact h0.len)
  have HNL := Lib.hid (show (nq L0).length ≤ 1048576 from Nat.le_trans (nq_len L0) (by rw [HLR.out]; exact HN.out.1))
  clear h0 h1 h2 hL0 hL1 hZ2 hk k2
  go_enter Tryz.func5, Tryz.ntmps5
  go_wp2_with fail
  refine (rPCopy_any (HG.out _ (Below.refl _ _)).1 (by have := HN.out; omega) (by have := HN.out; omega)).mono ?_
  rintro _ W1 ⟨Ap, np, cp, rfl, hp, hb1⟩
  obtain rfl : np = n0 := by rw [← hp.len, HLA.out]
  have HB1 := Lib.hid hb1
  clear hb1
  go_wp2_with fail
  refine (qpnorm_all (RD0.out _ _ _ _ hp) HN.out.1 (by decide) (by decide)).mono ?_
  rintro _ W2 ⟨An, nn, cn, M0, kn, rfl, hon, hMn, hb2⟩
  have hp := hp.next hb2
  have HS2 := Lib.hid (show W1.heap.size ≤ W2.heap.size from hb2.size)
  have HSH0 := Lib.hid hon
  have HB2 := Lib.hid (HB1.out.trans (hb2.mono HB1.out.size))
  clear hb2
  go_wp2_with fail
  refine (qpnorm_all (RD0.out _ _ _ _ hp) HN.out.1 (by decide) (by decide)).mono ?_
  rintro _ W3 ⟨Ag, ng, cg, Mg, kg, rfl, hog, hMg, hb3⟩
  have hp := hp.next hb3
  have hon := hon.next hb3
  have hb23 := hb3
  have HB3 := Lib.hid (HB2.out.trans (hb3.mono HB2.out.size))
  clear hb3
  go_wp2_with fail
  refine (qDegree_any (RD0.out _ _ _ _ hp) HN.out.1 (by decide) (by decide)).mono ?_
  rintro _ W4 ⟨v4, k4, rfl, hM4, hb4⟩
  have hp := hp.next hb4
  have hon := hon.next hb4
  have hog := hog.next hb4
  have hb24 := hb23.trans (hb4.mono hb23.size)
  have HB4 := Lib.hid (HB3.out.trans (hb4.mono HB3.out.size))
  clear hb4 hb23
  go_wp2_with fail
  refine (qEqual_any (RD0.out _ _ _ _ hp) (RD1.out _ _ _ _ (HG.out _ HB4.out).2.1) HN.out.1 HN.out.2.1 (by decide) (by decide)).mono ?_
  rintro _ W5 ⟨v5, k5, rfl, hM5, hb5⟩
  have hp := hp.next hb5
  have hon := hon.next hb5
  have hog := hog.next hb5
  have hb25 := hb24.trans (hb5.mono hb24.size)
  have HB5 := Lib.hid (HB4.out.trans (hb5.mono HB4.out.size))
  clear hb5 hb24
  go_wp2_with fail
  refine (qMonic_any (RD0.out _ _ _ _ hp) HN.out.1 (by decide) (by decide)).mono ?_
  intro e V hpost
  obtain ⟨A6, m6, d6, M6, k6, rfl, ho6, hM6, hb6⟩ := hpost.all
  clear hpost
  have hp := hp.next hb6
  have hon := hon.next hb6
  have hog := hog.next hb6
  have hb26 := hb25.trans (hb6.mono hb25.size)
  have HBV := Lib.hid (HB5.out.trans (hb6.mono HB5.out.size))
  have HSV := Lib.hid (show W1.heap.size ≤ W2.heap.size ∧ W2.heap.size ≤ V.heap.size ∧ w.heap.size ≤ W1.heap.size from ⟨HS2.out, hb26.size, HB1.out.size⟩)
  have HB26 := Lib.hid hb26
  have HA := Lib.hid (show ∀ W : World, Below V.heap.size V W → RdRQ W W.heap.size A0 np c0 R0 ∧ RdRQ W W.heap.size A1 n1 c1 R1 ∧ RdZs W W.heap.size 1048576 A2 n2 c2 Z2 ∧ RdRQ W W.heap.size Ap np cp R0 from fun W hb => by
    obtain ⟨e1, e2, e3⟩ := HG.out W (HBV.out.trans (hb.mono HBV.out.size))
    exact ⟨e1, e2, e3, hp.next hb⟩)
  have HM := Lib.hid (show ∀ W : World, Below V.heap.size V W → OwQp W W1.heap.size An nn cn M0 ∧ OwQp W W2.heap.size Ag ng cg Mg ∧ OwQp W W5.heap.size A6 m6 d6 M6 from fun W hb => ⟨hon.next hb, hog.next hb, ho6.next hb⟩)
  have HLN := Lib.hid (And.intro hon.len ho6.len)
  have HD0 := Lib.hid (Below.refl V.heap.size V)
  clear hp hon hog ho6 hb6 hb25 hb26
  go_wp2_with fail
  refine (qFromInt_any (HA.out _ HD0.out).2.2.1 HN.out.2.2.1 (by decide) (by decide)).mono ?_
  rintro _ V1 ⟨B1, p1, q1, P1, rfl, hp1, hP1, hl1⟩
  have HD1 := Lib.hid (HD0.out.trans (hl1.mono HD0.out.size))
  have HP1 := Lib.hid hp1
  clear hp1 hl1
  go_wp2_with fail
  refine (rqFromInt_any (HA.out _ HD1.out).2.2.1 HN.out.2.2.1 (by decide) (by decide)).mono ?_
  rintro _ V2 ⟨B2, p2, q2, P2, rfl, hp2, hP2, hl2⟩
  have HD2 := Lib.hid (HD1.out.trans (hl2.mono HD1.out.size))
  have HP1r := Lib.hid (HP1.out.next hl2).rq
  have HP2r := Lib.hid hp2.rq
  clear hp2 hl2 HP1
  go_wp2_with fail
  refine (lsame09_any HP1r.out HP2r.out).mono ?_
  rintro _ V3 ⟨b3, rfl, hq3, hl3⟩
  have HD3 := Lib.hid (HD2.out.trans (hl3.mono HD2.out.size))
  obtain rfl : b3 = true := bo_true hq3 (congrArg (List.map ofQ) (hP1.out.unique hP2.out))
  clear hq3 hl3
  clear HP1r HP2r
  go_wp2_with fail
  refine (lsame09_any (HA.out _ HD3.out).2.2.2 (HA.out _ HD3.out).1).mono ?_
  rintro _ V4 ⟨b4, rfl, hq4, hl4⟩
  have HD4 := Lib.hid (HD3.out.trans (hl4.mono HD3.out.size))
  obtain rfl : b4 = true := bo_true hq4 rfl
  clear hq4 hl4
  by_cases hA : okD L0
  · have HAK := Lib.hid hA
    have HEn := Lib.hid (two_ok hMn hA).1
    have HEg := Lib.hid (two_ok hMg hA).1
    obtain rfl : kn = 0 := (two_ok hMn hA).2
    obtain rfl : k4 = 0 := (two_ok hM4 hA).2
    have HF6 := Lib.hid (all_ok hM6 hA).1
    obtain rfl : k6 = 0 := (all_ok hM6 hA).2
    have HE4 := Lib.hid (two_ok hM4 hA).1
    go_wp2_with fail
    refine (rPMay_any (RD0.out _ _ _ _ (HA.out _ HD4.out).1) (by have := HN.out; omega) (by decide)).mono ?_
    rintro _ V5 ⟨b5, rfl, hq5, hl5⟩
    have HD5 := Lib.hid (HD4.out.trans (hl5.mono HD4.out.size))
    obtain rfl : b5 = true := bo_true hq5 hA
    clear hq5 hl5
    go_wp2_with fail
    refine (rqnorm_any (RD0.out _ _ _ _ (HA.out _ HD5.out).1) hA HN.out.1 (by decide)).mono ?_
    rintro _ V6 ⟨B6, p6, q6, P6, rfl, hp6, hP6, hl6⟩
    have HD6 := Lib.hid (HD5.out.trans (hl6.mono HD5.out.size))
    have HP6 := Lib.hid hp6
    clear hp6 hl6
    have HW := Lib.hid (show P6 = nq L0 from hP6.out.nrm)
    have HLW := Lib.hid (show p6 = nn by rw [← HP6.out.len, HW.out, ← HLN.out.1, HEn.out])
    have HWN := Lib.hid (show ∀ W : World, Below V6.heap.size V6 W → OwQp W V5.heap.size B6 nn q6 (nq L0) from fun W hb => by
      have h5 := HP6.out.next hb
      rw [HW.out, HLW.out] at h5
      exact h5)
    have HDW := Lib.hid (Below.refl V6.heap.size V6)
    have HSWB := Lib.hid (show V.heap.size ≤ V5.heap.size from HD5.out.size)
    obtain rfl : p6 = nn := HLW.out
    obtain rfl : v4 = (p6 : Int) - 1 := by rw [HE4.out, ← HEn.out, HLN.out.1]
    have hpn : p6 ≤ 1048576 := by rw [← HLN.out.1, HEn.out]; exact HNL.out
    have hw : IntKind.i64.wrap ((p6 : Int) - 1) = (p6 : Int) - 1 := by rw [IntWalk.i64_in _ (by omega)]
    have HE0 := Lib.hid HD6.out
    have HX6 := HDW
    go_wp2_with fail
    refine (lsame09_any (HM.out _ HD6.out).1.rq (HWN.out _ HX6.out).rq).mono ?_
    rintro _ V7 ⟨b7, rfl, hq7, hl7⟩
    have HD7 := Lib.hid (HD6.out.trans (hl7.mono HD6.out.size))
    have HX7 := Lib.hid (HX6.out.trans (hl7.mono HX6.out.size))
    obtain rfl : b7 = true := bo_true hq7 (by rw [HEn.out])
    clear hq7 hl7
    go_wp2_with fail
    refine (rqMonic_any (RD0.out _ _ _ _ (HA.out _ HD7.out).1) hA HN.out.1 (by decide) (by decide)).mono ?_
    rintro _ V8 ⟨B8, p8, q8, P8, rfl, hp8, hP8, hl8⟩
    have HD8 := Lib.hid (HD7.out.trans (hl8.mono HD7.out.size))
    have HX8 := Lib.hid (HX7.out.trans (hl8.mono HX7.out.size))
    have HP8 := Lib.hid hp8.rq
    clear hp8 hl8
    go_wp2_with fail
    refine (lsame09_any (HM.out _ HD8.out).2.2.rq HP8.out).mono ?_
    rintro _ V9 ⟨b9, rfl, hq9, hl9⟩
    have HD9 := Lib.hid (HD8.out.trans (hl9.mono HD8.out.size))
    have HX9 := Lib.hid (HX8.out.trans (hl9.mono HX8.out.size))
    obtain rfl : b9 = true := bo_true hq9 (congrArg (List.map ofQ) (HF6.out.unique hP8.out))
    clear hq9 hl9
    have HSH := Lib.hid (show p6 = 0 ∨ ∃ (g : Nat) (cs : Array Value), An = some ⟨g, 0, none⟩ ∧ ShpQ V9 W1.heap.size W2.heap.size g cs p6 from by
      rcases ShpQ.of HSH0.out (fun x hx => by
        rw [HEn.out] at hx
        exact (nq_qs (RD0.out _ _ _ _ (HA.out _ HD0.out).1) hA (by decide) x hx).1) with e | ⟨g, cs, e, hs⟩
      · exact .inl e
      · exact .inr ⟨g, cs, e, hs.below (HB26.out.trans (HD9.out.mono HB26.out.size))⟩)
    have HNB := Lib.hid hpn
    generalize V9 = Ws at *
    go_wp2_with fail
    clear hw hpn
    go_loopw [19, 20, 131] (fun xv kv iv wr => ∃ (i : Nat), iv = .int .i64 i ∧ i ≤ p6 ∧ (p6 = 0 ∨ ∃ (g : Nat) (cs : Array Value), An = some ⟨g, 0, none⟩ ∧ ShpQ wr W1.heap.size W2.heap.size g cs p6) ∧ Spd W1.heap.size W2.heap.size Ws wr) (fun _ _ iv _ => p6 - (intOf iv).toNat)
    case atStart => exact ⟨0, rfl, Nat.zero_le _, HSH.out, Spd.refl _ _ _⟩
    case round =>
      obtain ⟨i, rfl, hi, hS, hsp⟩ := hrel
      by_cases hin : i = p6
      · subst hin
        have HSP := Lib.hid hsp
        have HUW := Lib.hid (show Below w.heap.size w Ws from HBV.out.trans (HD9.out.mono HBV.out.size))
        have HU := Lib.hid (show Below w.heap.size w wr from HUW.out.trans (hsp.below.mono HSV.out.2.2))
        have HGB := Lib.hid (show ∀ W : World, Below wr.heap.size wr W → RdRQ W W.heap.size A1 n1 c1 R1 from fun W hb => (HG.out W (HU.out.trans (hb.mono HU.out.size))).2.1)
        have hg := hsp.qp (HM.out _ HD9.out).2.1 (Nat.le_refl _)
        have hw := hsp.qp (HWN.out _ HX9.out) (Nat.le_trans HSV.out.2.1 (Nat.le_trans HSWB.out (Nat.le_refl _)))
        have HGW := Lib.hid (show ∀ W : World, Below wr.heap.size wr W → RdRQ W W.heap.size Ag ng cg (Mg.map ofQ) ∧ RdRQ W W.heap.size B6 i q6 ((nq L0).map ofQ) from fun W hb => ⟨(hg.next hb).rq, (hw.next hb).rq⟩)
        have HY0 := Lib.hid (Below.refl wr.heap.size wr)
        clear hS hsp hg hw
        go_wp2_with fail
        refine (lsame09_any (HGW.out _ HY0.out).1 (HGW.out _ HY0.out).2).mono ?_
        rintro _ Y1 ⟨b1, rfl, hq1, hl1⟩
        have HY1 := Lib.hid (HY0.out.trans (hl1.mono HY0.out.size))
        obtain rfl : b1 = true := bo_true hq1 (by rw [HEg.out])
        clear hq1 hl1
        by_cases hBb : okD L1
        · have HBK := Lib.hid hBb
          obtain rfl : k5 = 0 := (two_ok hM5 ⟨hA, hBb⟩).2
          have HE5 := Lib.hid (two_ok hM5 ⟨hA, hBb⟩).1
          go_wp2_with fail
          refine (rPMay_any (RD1.out _ _ _ _ (HGB.out _ HY1.out)) (by have := HN.out; omega) (by decide)).mono ?_
          rintro _ Y2 ⟨b2, rfl, hq2, hl2⟩
          have HY2 := Lib.hid (HY1.out.trans (hl2.mono HY1.out.size))
          obtain rfl : b2 = true := bo_true hq2 hBb
          clear hq2 hl2
          go_wp2_with fail
          refine (rqnorm_any (RD1.out _ _ _ _ (HGB.out _ HY2.out)) hBb HN.out.2.1 (by decide)).mono ?_
          rintro _ Y3 ⟨B3, p3, q3, P3, rfl, hp3, hP3, hl3⟩
          have HY3 := Lib.hid (HY2.out.trans (hl3.mono HY2.out.size))
          have HP3 := Lib.hid hp3
          clear hp3 hl3
          have HPB := Lib.hid (show P3 = nq L1 from hP3.out.nrm)
          go_wp2_with fail
          refine (lsame09_any (HGW.out _ HY3.out).2 HP3.out.rq).mono ?_
          rintro _ Y4 ⟨b4, rfl, hq4, hl4⟩
          have HY4 := Lib.hid (HY3.out.trans (hl4.mono HY3.out.size))
          obtain rfl : b4 = v5 := bool_same hq4.out HE5.out (by rw [HPB.out]; exact ofQ_map)
          clear hq4 hl4
          go_wp2_with fail
          refine (lives_any _).mono ?_
          rintro _ Y5 ⟨rfl, hl5⟩
          have HF := Lib.hid (HU.out.trans ((HY4.out.trans (hl5.mono HY4.out.size)).mono HU.out.size))
          clear hl5
          go_wp2
          go_ret
          exact ⟨rfl, HF.out⟩
        · have HBK := Lib.hid hBb
          have HNO := Lib.hid (show ¬(okD L0 ∧ okD L1) from fun e => hBb e.2)
          obtain rfl : k5 = 6 := (two_no hM5 HNO.out).2
          obtain rfl : v5 = false := (two_no hM5 HNO.out).1
          go_wp2_with fail
          refine (rPMay_any (RD1.out _ _ _ _ (HGB.out _ HY1.out)) (by have := HN.out; omega) (by decide)).mono ?_
          rintro _ Y2 ⟨b2, rfl, hq2, hl2⟩
          have HY2 := Lib.hid (HY1.out.trans (hl2.mono HY1.out.size))
          obtain rfl : b2 = false := bo_false hq2 hBb
          clear hq2 hl2
          go_wp2_with fail
          refine (lives_any _).mono ?_
          rintro _ Y3 ⟨rfl, hl3⟩
          have HF := Lib.hid (HU.out.trans ((HY2.out.trans (hl3.mono HY2.out.size)).mono HU.out.size))
          clear hl3
          go_wp2
          go_ret
          exact ⟨rfl, HF.out⟩
      · have hil : i < p6 := by omega
        clear hin
        have hili : (i : Int) < (p6 : Int) := by omega
        have hnb : p6 ≤ 1048576 := HNB.out
        rcases hS with h0 | ⟨g, cs, rfl, hsh⟩
        · omega
        obtain ⟨hlt, A', n', c', he, hn', hwr⟩ := hsh.ent i hil
        have hadd : (⟨g, 0, none⟩ : Addr).add (i * 4) = ⟨g, i * 4, none⟩ := add_base g _
        have hv0 : wr.cell? ⟨g, i * 4, none⟩ = some cs[i * 4] := by rw [cell_of_row wr g _ cs _ _ hsh.row, Array.getElem?_eq_getElem hlt]
        have hv1 : wr.cell? ⟨g, i * 4 + 1, none⟩ = some (.slice A' n' c') := by rw [cell_of_row wr g _ cs _ _ hsh.row]; exact he
        have hf0 := frozen_of_row wr g (i * 4) cs _ hsh.row
        have HSH1 := Lib.hid (hsh.neg i (.bool true))
        have HWR1 := Lib.hid (hwr.rat (i := i * 4) hsh.row (.bool true))
        have HSP1 := Lib.hid (hsp.set (i := i * 4) hsh.lo hsh.hi (.bool true))
        have HE1 := Lib.hid (show (cs.setIfInBounds (i * 4) (.bool true))[i * 4 + 1]? = some (.slice A' n' c') by rw [Array.getElem?_setIfInBounds_ne (by omega)]; exact he)
        have hv2 : (wr.setCell ⟨g, i * 4, none⟩ (.bool true)).cell? ⟨g, i * 4 + 1, none⟩ = some (.slice A' n' c') := by rw [cell_of_row _ g _ _ _ _ HSH1.out.row]; exact HE1.out
        clear hsh hwr hsp he
        go_wp2_with fail
        generalize wr.setCell ⟨g, i * 4, none⟩ (.bool true) = W9 at *
        generalize cs.setIfInBounds (i * 4) (.bool true) = cs' at *
        clear hv0 hv1 hv2 hf0 hlt
        go_loopw [20, 146] (fun kv jv wr => ∃ (k : Nat), jv = .int .i64 k ∧ k ≤ n' ∧ ShpQ wr W1.heap.size W2.heap.size g cs' p6 ∧ Wr wr W1.heap.size W2.heap.size A' n' ∧ Spd W1.heap.size W2.heap.size Ws wr) (fun _ jv _ => n' - (intOf jv).toNat)
        case atStart => exact ⟨0, rfl, Nat.zero_le _, HSH1.out, HWR1.out, HSP1.out⟩
        case round =>
          obtain ⟨k, rfl, hk, hsh, hwr, hsp⟩ := hrel
          by_cases hkn : k = n'
          · subst hkn
            have HALL := Lib.hid (And.intro hsh hsp)
            clear hsh hsp hwr
            go_wp2
            go_roundw
            case rel => exact ⟨i + 1, by go_num, by omega, .inr ⟨g, cs', rfl, HALL.out.1⟩, HALL.out.2⟩
            case measure => simp [intOf]; omega
          · have hkl : k < n' := by omega
            clear hkn
            have hkli : (k : Int) < (n' : Int) := by omega
            rcases hwr with h0 | ⟨g', ds, rfl, hlo, hhi, hrow, hsz⟩
            · omega
            have hadd2 : (⟨g', 0, none⟩ : Addr).add k = ⟨g', k, none⟩ := by unfold Addr.add; by_cases h : k = 0 <;> simp [h]
            have hv1 : wr.cell? ⟨g, i * 4 + 1, none⟩ = some (.slice (some ⟨g', 0, none⟩) n' c') := by rw [cell_of_row wr g _ cs' _ _ hsh.row]; exact HE1.out
            have hv3 : wr.cell? ⟨g', k, none⟩ = some ds[k] := by rw [cell_of_row wr g' _ ds _ _ hrow, Array.getElem?_eq_getElem (by omega)]
            have hf3 := frozen_of_row wr g' k ds _ hrow
            have HSH2 := Lib.hid (hsh.word hrow k (.int .u32 3))
            have HWR2 := Lib.hid (Wr.word (i := k) (.inr ⟨g', ds, rfl, hlo, hhi, hrow, hsz⟩ : Wr wr W1.heap.size W2.heap.size (some ⟨g', 0, none⟩) n') hrow (.int .u32 3))
            have HSP2 := Lib.hid (hsp.set (i := k) hlo hhi (.int .u32 3))
            clear hsh hsp hrow
            go_wp2
            go_roundw
            case rel => exact ⟨k + 1, by go_num, by omega, HSH2.out, HWR2.out, HSP2.out⟩
            case measure => simp [intOf]; omega
  · have HAK := Lib.hid hA
    have HNO := Lib.hid (show ¬(okD L0 ∧ okD L1) from fun e => hA e.1)
    have HEn := Lib.hid (two_no hMn hA).1
    have HE6 := Lib.hid (all_nil hM6 hA).1
    obtain rfl : kn = 6 := (two_no hMn hA).2
    obtain rfl : k4 = 6 := (two_no hM4 hA).2
    obtain rfl : v4 = 0 := (two_no hM4 hA).1
    obtain rfl : k6 = 6 := (all_nil hM6 hA).2
    obtain rfl : k5 = 6 := (two_no hM5 HNO.out).2
    obtain rfl : v5 = false := (two_no hM5 HNO.out).1
    go_wp2_with fail
    refine (rPMay_any (RD0.out _ _ _ _ (HA.out _ HD4.out).1) (by have := HN.out; omega) (by decide)).mono ?_
    rintro _ V5 ⟨b5, rfl, hq5, hl5⟩
    have HD5 := Lib.hid (HD4.out.trans (hl5.mono HD4.out.size))
    obtain rfl : b5 = false := bo_false hq5 hA
    clear hq5 hl5
    go_wp2_with fail
    refine (lnone_any).mono ?_
    rintro _ V6 ⟨b6, rfl, hq6, hl6⟩
    have HD6 := Lib.hid (HD5.out.trans (hl6.mono HD5.out.size))
    obtain rfl : b6 = true := bo_true hq6 (by rw [← HLN.out.1, HEn.out]; rfl)
    clear hq6 hl6
    go_wp2_with fail
    refine (lnone_any).mono ?_
    rintro _ V7 ⟨b7, rfl, hq7, hl7⟩
    have HD7 := Lib.hid (HD6.out.trans (hl7.mono HD6.out.size))
    obtain rfl : b7 = true := bo_true hq7 (by rw [← HLN.out.2, HE6.out]; rfl)
    clear hq7 hl7
    go_wp2_with fail
    refine (lives_any _).mono ?_
    rintro _ V8 ⟨rfl, hl8⟩
    have HF := Lib.hid (HBV.out.trans ((HD7.out.trans (hl8.mono HD7.out.size)).mono HBV.out.size))
    clear hl8
    go_wp2
    go_ret
    exact ⟨rfl, HF.out⟩
end Go.Proofs.YtipbpdiahemmpaaGreat
