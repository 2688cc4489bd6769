/- The law ZpolySums. -/
import Derived.Test.YtipbpdiahemmpaaO25
import Derived.Test.YtipbpdiahemmpaaQn
import Derived.Test.YtipbpdiahemmpaaQk
import Derived.Test.YtipbpdiahemmpaaQm
import Derived.Deep.RegionHeld3
namespace Go.Proofs.Ytipbpdiahemmpaa
open Go.RowKit Go.IntWalk
attribute [local go_sem ↓] Go.wp_at_zero Go.wp_at_succ

theorem rs_zl {w : World} {B N : Nat} {A : Option Addr} {n c : Nat} {R : List (Bool × List Nat)} (h : RdRs w B N A n c R) (i : Nat) : Zz.zl (Pz.co (R.map toZ) i) ≤ N := zl_co h.zs i
theorem der_zl {L : List Int} {N n : Nat} (h : ∀ i, Zz.zl (Pz.co L i) ≤ N) (hl : L.length = n) (hn : n ≤ 1048576) (t : Nat) : Zz.zl (Pz.co L (t + 1) * ((t : Int) + 1)) ≤ N + 1 := by
  rcases Nat.lt_or_ge t n with ht | ht
  · have e1 := Zz.zl_mul (Pz.co L (t + 1)) ((t : Int) + 1)
    have e2 := h (t + 1)
    have e3 : Zz.zl ((t : Int) + 1) ≤ 1 := Zz.zl_small (by omega)
    omega
  · rw [Pz.co_ge (by omega), Int.zero_mul, Zz.zl_zero]
    exact Nat.zero_le _
/-- A list of the call's own, word by word, from here on. -/
theorem rs_on {w : World} {b N : Nat} {A : Option Addr} {n c : Nat} {M : List Int} {f : Nat → Int} (h : OwZs w b A n c M) (hM : Pz.IsP f M) (hf : ∀ i, Zz.zl (f i) ≤ N) : ∀ W : World, Below w.heap.size w W → RdRs W W.heap.size N A n c (M.map ofZ) := fun _ hb => (h.rs (isp_zl hM hf)).next hb

set_option maxRecDepth 100000 in
set_option maxHeartbeats 8000000 in
theorem walk_ZpolySums {A0 A1 A2 : Option Addr} {n0 c0 n1 c1 n2 c2 : Nat} {R0 R1 : List (Bool × List Nat)} {s2 : Bool} {z : Int} {w : World} (h0 : RdRs w w.heap.size 1048576 A0 n0 c0 R0) (_ : A0 = none → n0 = 0 ∧ c0 = 0) (k0 : n0 ≤ 349525) (h1 : RdRs w w.heap.size 1048576 A1 n1 c1 R1) (_ : A1 = none → n1 = 0 ∧ c1 = 0) (k1 : n1 ≤ 349525) (h2 : RdZ w w.heap.size s2 A2 n2 c2 z) (k2 : n2 ≤ 1048576) :
    Calls Try.prog 4 #[.slice A0 n0 c0, .slice A1 n1 c1, .agg #[.bool s2, .slice A2 n2 c2]] w (RetYes w) := by
  have hC := ZC.new w s2 A2 n2 c2
  have hB0 : Below w.heap.size w (w.alloc (.cells #[.bool s2, .slice A2 n2 c2] 40)) := (Below.refl _ _).alloc (Nat.le_refl _) _
  have h0 := h0.next hB0
  have h1 := h1.next hB0
  have h2 := h2.next hB0
  go_enter Try.func4, Try.ntmps4
  go_wp2_with fail
  obtain ⟨g, hg⟩ : ∃ g, g = w.heap.size := ⟨_, rfl⟩
  rw [← hg] at hC ⊢
  have HG := Lib.hid hg
  clear hg
  generalize w.alloc (.cells #[.bool s2, .slice A2 n2 c2] 40) = W1 at *
  refine (rCopy_any h0 (by omega) (by omega)).mono ?_
  rintro _ W2 ⟨Ap, np, cp, rfl, hp, hb2⟩
  obtain rfl : np = n0 := by rw [← hp.len, h0.len]
  have h0 := h0.next hb2
  have h1 := h1.next hb2
  have h2 := h2.next hb2
  have hC := hC.next hb2
  have hB2 := hB0.trans (hb2.mono hB0.size)
  go_wp2_with fail
  refine (rCopy_any h1 (by omega) (by omega)).mono ?_
  rintro _ W3 ⟨Aq, nq, cq, rfl, hq, hb3⟩
  obtain rfl : nq = n1 := by rw [← hq.len, h1.len]
  have h0 := h0.next hb3
  have h1 := h1.next hb3
  have h2 := h2.next hb3
  have hp := hp.next hb3
  have hC := hC.next hb3
  have hB3 := hB2.trans (hb3.mono hB2.size)
  have HP := Lib.hid (show ∀ W : World, Below W3.heap.size W3 W → (RdRs W W.heap.size 1048576 A0 np c0 R0 ∧ RdRs W W.heap.size 1048576 A1 nq c1 R1 ∧ RdRs W W.heap.size 1048576 Ap np cp R0 ∧ RdRs W W.heap.size 1048576 Aq nq cq R1 ∧ RdZ W W.heap.size s2 A2 n2 c2 z) from fun W hb => ⟨h0.next hb, h1.next hb, hp.next hb, hq.next hb, h2.next hb⟩)
  have HCE := Lib.hid (show ∀ W : World, Below W3.heap.size W3 W → (W.cell? ⟨g, 0, none⟩ = some (.bool s2) ∧ W.cell? ⟨g, 1, none⟩ = some (.slice A2 n2 c2)) from fun W hb => ⟨(hC.next hb).c0, (hC.next hb).c1⟩)
  obtain ⟨L0, hL0⟩ : ∃ L, L = R0.map toZ := ⟨_, rfl⟩
  obtain ⟨L1, hL1⟩ : ∃ L, L = R1.map toZ := ⟨_, rfl⟩
  have HZ := Lib.hid (show (∀ i, Zz.zl (Pz.co L0 i) ≤ 1048576) ∧ (∀ i, Zz.zl (Pz.co L1 i) ≤ 1048576) ∧ Zz.zl z ≤ 1048576 ∧ L0.length = np from ⟨fun i => by rw [hL0]; exact rs_zl h0 i, fun i => by rw [hL1]; exact rs_zl h1 i, Nat.le_trans h2.len k2, by rw [hL0, List.length_map]; exact h0.len⟩)
  have HZS := Lib.hid (show ∀ W : World, Below W3.heap.size W3 W → (RdZs W W.heap.size 1048576 A0 np c0 L0 ∧ RdZs W W.heap.size 1048576 A1 nq c1 L1 ∧ RdZs W W.heap.size 1048576 Ap np cp L0 ∧ RdZs W W.heap.size 1048576 Aq nq cq L1 ∧ RdZ W W.heap.size s2 A2 n2 c2 z) from fun W hb => by
    rw [hL0, hL1]
    obtain ⟨e1, e2, e3, e4, e5⟩ := HP.out W hb
    exact ⟨e1.zs, e2.zs, e3.zs, e4.zs, e5⟩)
  have HA := Lib.hid (show ∀ i, Zz.zl (Pz.co L0 i + Pz.co L1 i) ≤ 4398046511103 from fun i => by
    have e1 := Zz.zl_add (Pz.co L0 i) (Pz.co L1 i); have e2 := HZ.out.1 i; have e3 := HZ.out.2.1 i; omega)
  have HS := Lib.hid (show ∀ i, Zz.zl (Pz.co L0 i - Pz.co L1 i) ≤ 4398046511103 from fun i => by
    have e1 := Zz.zl_sub (Pz.co L0 i) (Pz.co L1 i); have e2 := HZ.out.1 i; have e3 := HZ.out.2.1 i; omega)
  have HM := Lib.hid (show ∀ i, Zz.zl (Pz.cvp (Pz.co L0) (Pz.co L1) np i) ≤ 4398046511103 from fun i => by
    have e1 := Pz.cvp_zl HZ.out.1 HZ.out.2.1 (i := np) (by omega) i; omega)
  have HK := Lib.hid (show ∀ i, Zz.zl (Pz.co L0 i * z) ≤ 4398046511103 from fun i => by
    have e1 := Zz.zl_mul (Pz.co L0 i) z; have e2 := HZ.out.1 i; have e3 := HZ.out.2.2.1; omega)
  have HDR := Lib.hid (show ∀ i : Nat, Zz.zl (Pz.co L0 (i + 1) * ((i : Int) + 1)) ≤ 4398046511103 from fun i => Nat.le_trans (der_zl HZ.out.1 HZ.out.2.2.2 (by omega) i) (by omega))
  have HB := Lib.hid hB3
  have HN := Lib.hid (And.intro k0 (And.intro k1 k2))
  have HD0 := Lib.hid (Below.refl W3.heap.size W3).drew
  obtain ⟨x0, y0⟩ := HCE.out W3 (Below.refl _ _)
  clear h0 h1 h2 hp hq hC hB0 hB2 hB3 hb2 hb3 hL0 hL1
  go_upto_region 2 with fail
  go_region_held3 (fun w' => w'.cell? ⟨g, 0, none⟩ = some (.bool s2) ∧ w'.cell? ⟨g, 1, none⟩ = some (.slice A2 n2 c2)) (first | exact ⟨x12, y12⟩ | exact ⟨x11, y11⟩ | exact ⟨x10, y10⟩ | exact ⟨x9, y9⟩ | exact ⟨x8, y8⟩ | exact ⟨x7, y7⟩ | exact ⟨x6, y6⟩ | exact ⟨x5, y5⟩ | exact ⟨x4, y4⟩ | exact ⟨x3, y3⟩ | exact ⟨x2, y2⟩ | exact ⟨x1, y1⟩ | exact ⟨x0, y0⟩)
    (first
      | (have hx := HD11.out; clear hx; go_at_call 12; refine (same_any (HO10.out _ hb11) (HO11.out _ HW11.out)).mono ?_; rintro _ V12 ⟨b12, rfl, hbb12, hb12⟩; have HD12 := Lib.hid (HD11.out.trans (hb12.mono HD11.out.size)); obtain ⟨x12, y12⟩ := HCE.out V12 HD12.out; obtain rfl : b12 = true := hbb12.out.2 (by rw [hM10.out.unique hM11.out]))
      | (have hx := HD10.out; clear hx; go_at_call 21; refine (rzScale_any (HZS.out _ HD10.out).1 (HZS.out _ HD10.out).2.2.2.2 (Nat.le_trans HN.out.1 (by decide)) HN.out.2.2 (by decide) (by decide)).mono ?_; rintro _ V11 ⟨A11', m11, d11, M11, rfl, ho11, hM11, hb11⟩; have HD11 := Lib.hid (HD10.out.trans (hb11.mono HD10.out.size)); obtain ⟨x11, y11⟩ := HCE.out V11 HD11.out; have HO11 := Lib.hid (rs_on ho11 hM11.out HK.out); have HW11 := Lib.hid (Below.refl V11.heap.size V11))
      | (have hx := HD9.out; clear hx; go_at_call 20; refine (zscale_any (HZS.out _ HD9.out).2.2.1 (HZS.out _ HD9.out).2.2.2.2 (Nat.le_trans HN.out.1 (by decide)) HN.out.2.2 (by decide) (by decide)).mono ?_; rintro _ V10 ⟨A10', m10, d10, M10, rfl, ho10, hM10, hb10⟩; have HD10 := Lib.hid (HD9.out.trans (hb10.mono HD9.out.size)); obtain ⟨x10, y10⟩ := HCE.out V10 HD10.out; have HO10 := Lib.hid (rs_on ho10 hM10.out HK.out); have HW10 := Lib.hid (Below.refl V10.heap.size V10))
      | (have hx := HD8.out; clear hx; go_at_call 12; refine (same_any (HO7.out _ hb8) (HO8.out _ HW8.out)).mono ?_; rintro _ V9 ⟨b9, rfl, hbb9, hb9⟩; have HD9 := Lib.hid (HD8.out.trans (hb9.mono HD8.out.size)); obtain ⟨x9, y9⟩ := HCE.out V9 HD9.out; obtain rfl : b9 = true := hbb9.out.2 (by rw [hM7.out.unique hM8.out]))
      | (have hx := HD7.out; clear hx; go_at_call 19; refine (rzMul_any (HZS.out _ HD7.out).1 (HZS.out _ HD7.out).2.1 (Nat.le_trans HN.out.1 (by decide)) (Nat.le_trans HN.out.2.1 (by decide)) (by decide) (by decide)).mono ?_; rintro _ V8 ⟨A8', m8, d8, M8, rfl, ho8, hM8, hb8⟩; have HD8 := Lib.hid (HD7.out.trans (hb8.mono HD7.out.size)); obtain ⟨x8, y8⟩ := HCE.out V8 HD8.out; have HO8 := Lib.hid (rs_on ho8 hM8.out HM.out); have HW8 := Lib.hid (Below.refl V8.heap.size V8))
      | (have hx := HD6.out; clear hx; go_at_call 18; refine (zmul_any (HZS.out _ HD6.out).2.2.1 (HZS.out _ HD6.out).2.2.2.1 (Nat.le_trans HN.out.1 (by decide)) (Nat.le_trans HN.out.2.1 (by decide)) (by decide) (by decide)).mono ?_; rintro _ V7 ⟨A7', m7, d7, M7, rfl, ho7, hM7, hb7⟩; have HD7 := Lib.hid (HD6.out.trans (hb7.mono HD6.out.size)); obtain ⟨x7, y7⟩ := HCE.out V7 HD7.out; have HO7 := Lib.hid (rs_on ho7 hM7.out HM.out); have HW7 := Lib.hid (Below.refl V7.heap.size V7))
      | (have hx := HD5.out; clear hx; go_at_call 12; refine (same_any (HO4.out _ hb5) (HO5.out _ HW5.out)).mono ?_; rintro _ V6 ⟨b6, rfl, hbb6, hb6⟩; have HD6 := Lib.hid (HD5.out.trans (hb6.mono HD5.out.size)); obtain ⟨x6, y6⟩ := HCE.out V6 HD6.out; obtain rfl : b6 = true := hbb6.out.2 (by rw [hM4.out.unique hM5.out]))
      | (have hx := HD4.out; clear hx; go_at_call 17; refine (rzSub_any (HZS.out _ HD4.out).1 (HZS.out _ HD4.out).2.1 (Nat.le_trans HN.out.1 (by decide)) (Nat.le_trans HN.out.2.1 (by decide)) (by decide) (by decide)).mono ?_; rintro _ V5 ⟨A5', m5, d5, M5, rfl, ho5, hM5, hb5⟩; have HD5 := Lib.hid (HD4.out.trans (hb5.mono HD4.out.size)); obtain ⟨x5, y5⟩ := HCE.out V5 HD5.out; have HO5 := Lib.hid (rs_on ho5 hM5.out HS.out); have HW5 := Lib.hid (Below.refl V5.heap.size V5))
      | (have hx := HD3.out; clear hx; go_at_call 16; refine (zsub_any (HZS.out _ HD3.out).2.2.1 (HZS.out _ HD3.out).2.2.2.1 (Nat.le_trans HN.out.1 (by decide)) (Nat.le_trans HN.out.2.1 (by decide)) (by decide) (by decide)).mono ?_; rintro _ V4 ⟨A4', m4, d4, M4, rfl, ho4, hM4, hb4⟩; have HD4 := Lib.hid (HD3.out.trans (hb4.mono HD3.out.size)); obtain ⟨x4, y4⟩ := HCE.out V4 HD4.out; have HO4 := Lib.hid (rs_on ho4 hM4.out HS.out); have HW4 := Lib.hid (Below.refl V4.heap.size V4))
      | (have hx := HD2.out; clear hx; go_at_call 12; refine (same_any (HO1.out _ hb2) (HO2.out _ HW2.out)).mono ?_; rintro _ V3 ⟨b3, rfl, hbb3, hb3⟩; have HD3 := Lib.hid (HD2.out.trans (hb3.mono HD2.out.size)); obtain ⟨x3, y3⟩ := HCE.out V3 HD3.out; obtain rfl : b3 = true := hbb3.out.2 (by rw [hM1.out.unique hM2.out]))
      | (have hx := HD1.out; clear hx; go_at_call 15; refine (rzAdd_any (HZS.out _ HD1.out).1 (HZS.out _ HD1.out).2.1 (Nat.le_trans HN.out.1 (by decide)) (Nat.le_trans HN.out.2.1 (by decide)) (by decide) (by decide)).mono ?_; rintro _ V2 ⟨A2', m2, d2, M2, rfl, ho2, hM2, hb2⟩; have HD2 := Lib.hid (HD1.out.trans (hb2.mono HD1.out.size)); obtain ⟨x2, y2⟩ := HCE.out V2 HD2.out; have HO2 := Lib.hid (rs_on ho2 hM2.out HA.out); have HW2 := Lib.hid (Below.refl V2.heap.size V2))
      | (go_at_call 14; refine (zadd_any (HZS.out _ HD0.out).2.2.1 (HZS.out _ HD0.out).2.2.2.1 (Nat.le_trans HN.out.1 (by decide)) (Nat.le_trans HN.out.2.1 (by decide)) (by decide) (by decide)).mono ?_; rintro _ V1 ⟨A1', m1, d1, M1, rfl, ho1, hM1, hb1⟩; have HD1 := Lib.hid (HD0.out.trans (hb1.mono HD0.out.size)); obtain ⟨x1, y1⟩ := HCE.out V1 HD1.out; have HO1 := Lib.hid (rs_on ho1 hM1.out HA.out); have HW1 := Lib.hid (Below.refl V1.heap.size V1)))
  clear x0 y0 x1 y1 x2 y2 x3 y3 x4 y4 x5 y5 x6 y6 x7 y7 x8 y8 x9 y9 x10 y10 x11 y11
  clear hb1 hb2 hb3 hb4 hb5 hb6 hb7 hb8 hb9 hb10 hb11 hb12
  clear ho1 ho2 ho4 ho5 ho7 ho8 ho10 ho11
  have HDD := Lib.hid HD12.out.drew
  go_upto_region 4 with fail
  go_region_held3 (fun w' => w'.cell? ⟨g, 0, none⟩ = some (.bool s2) ∧ w'.cell? ⟨g, 1, none⟩ = some (.slice A2 n2 c2)) (first | exact ⟨x21, y21⟩ | exact ⟨x20, y20⟩ | exact ⟨x19, y19⟩ | exact ⟨x18, y18⟩ | exact ⟨x17, y17⟩ | exact ⟨x16, y16⟩ | exact ⟨x15, y15⟩ | exact ⟨x14, y14⟩ | exact ⟨x13, y13⟩ | exact ⟨x12, y12⟩)
    (first
      | (have hx := HD20.out; clear hx; go_at_call 8; refine (lives_any _).mono ?_; rintro _ V21 ⟨rfl, hb21⟩; have HD21 := Lib.hid (HD20.out.trans (hb21.mono HD20.out.size)); obtain ⟨x21, y21⟩ := HCE.out V21 HD21.out; skip)
      | (have hx := HD19.out; clear hx; go_at_call 12; refine (same_any (HP.out _ HD19.out).2.2.2.1 (HP.out _ HD19.out).2.1).mono ?_; rintro _ V20 ⟨b20, rfl, hbb20, hb20⟩; have HD20 := Lib.hid (HD19.out.trans (hb20.mono HD19.out.size)); obtain ⟨x20, y20⟩ := HCE.out V20 HD20.out; obtain rfl : b20 = true := hbb20.out.2 rfl)
      | (have hx := HD18.out; clear hx; go_at_call 12; refine (same_any (HP.out _ HD18.out).2.2.1 (HP.out _ HD18.out).1).mono ?_; rintro _ V19 ⟨b19, rfl, hbb19, hb19⟩; have HD19 := Lib.hid (HD18.out.trans (hb19.mono HD18.out.size)); obtain ⟨x19, y19⟩ := HCE.out V19 HD19.out; obtain rfl : b19 = true := hbb19.out.2 rfl)
      | (have hx := HD17.out; clear hx; go_at_call 12; refine (same_any (HO16.out _ hb17) (HO17.out _ HW17.out)).mono ?_; rintro _ V18 ⟨b18, rfl, hbb18, hb18⟩; have HD18 := Lib.hid (HD17.out.trans (hb18.mono HD17.out.size)); obtain ⟨x18, y18⟩ := HCE.out V18 HD18.out; obtain rfl : b18 = true := hbb18.out.2 (by rw [hM16.out.unique hM17.out]))
      | (have hx := HD16.out; clear hx; go_at_call 26; refine (rzDerive_any (HZS.out _ HD16.out).1 (Nat.le_trans HN.out.1 (by decide)) (by decide)).mono ?_; rintro _ V17 ⟨A17', m17, d17, M17, rfl, ho17, hM17, hb17⟩; have HD17 := Lib.hid (HD16.out.trans (hb17.mono HD16.out.size)); obtain ⟨x17, y17⟩ := HCE.out V17 HD17.out; have HO17 := Lib.hid (rs_on ho17 hM17.out HDR.out); have HW17 := Lib.hid (Below.refl V17.heap.size V17))
      | (have hx := HD15.out; clear hx; go_at_call 25; refine (zderive_any (HZS.out _ HD15.out).2.2.1 (Nat.le_trans HN.out.1 (by decide)) (by decide)).mono ?_; rintro _ V16 ⟨A16', m16, d16, M16, rfl, ho16, hM16, hb16⟩; have HD16 := Lib.hid (HD15.out.trans (hb16.mono HD15.out.size)); obtain ⟨x16, y16⟩ := HCE.out V16 HD16.out; have HO16 := Lib.hid (rs_on ho16 hM16.out HDR.out); have HW16 := Lib.hid (Below.refl V16.heap.size V16))
      | (have hx := HD14.out; clear hx; go_at_call 22; refine (same03_any HW14.out.own.rd HX14.out.own.rd).mono ?_; rintro _ V15 ⟨b15, rfl, hbb15, hb15⟩; have HD15 := Lib.hid (HD14.out.trans (hb15.mono HD14.out.size)); obtain ⟨x15, y15⟩ := HCE.out V15 HD15.out; obtain rfl : b15 = true := hbb15.out.2 (by rw [HW14.out.sgn, HX14.out.sgn, hM13.out, hM14.out]))
      | (have hx := HD13.out; clear hx; go_at_call 24; refine (rzEval_any (HZS.out _ HD13.out).1 (HZS.out _ HD13.out).2.2.2.2 (Nat.le_trans HN.out.1 (by decide)) HN.out.2.2 (by have := HN.out.1; omega) (by decide)).mono ?_; rintro _ V14 ⟨s14', A14', m14, d14, z14, rfl, ho14, hM14, hb14⟩; have HD14 := Lib.hid (HD13.out.trans (hb14.mono HD13.out.size)); obtain ⟨x14, y14⟩ := HCE.out V14 HD14.out; have HW14 := Lib.hid (HW13.out.next hb14); have HX14 := Lib.hid ho14)
      | (go_at_call 23; refine (zeval_any (HZS.out _ HDD.out).2.2.1 (HZS.out _ HDD.out).2.2.2.2 (Nat.le_trans HN.out.1 (by decide)) HN.out.2.2 (Nat.le_trans (Nat.add_le_add_left (Nat.mul_le_mul_right _ HN.out.1) _) (by decide)) (by decide)).mono ?_; rintro _ V13 ⟨s13', A13', m13, d13, z13, rfl, ho13, hM13, hb13⟩; have HD13 := Lib.hid (HDD.out.trans (hb13.mono HDD.out.size)); obtain ⟨x13, y13⟩ := HCE.out V13 HD13.out; have HW13 := Lib.hid ho13))
  have HF := Lib.hid (HB.out.trans (HD21.out.mono HB.out.size))
  clear x12 y12 x13 y13 x14 y14 x15 y15 x16 y16 x17 y17 x18 y18 x19 y19 x20 y20 x21 y21 hb13 hb14 hb15 hb16 hb17 hb18 hb19 hb20 hb21
  go_wp2
  go_ret
  exact ⟨rfl, HF.out⟩
end Go.Proofs.Ytipbpdiahemmpaa
