/- The reference's integers, fourth part: Euclid's division. -/
import Derived.Test.YtipbpdiahemmpaaDoorQi
import Derived.Test.YtipbpdiahemmpaaDoorQh
namespace Go.Proofs.YtipbpdiahemmpaaDoor
open Go.RowKit Go.IntWalk
attribute [local go_sem ↓] Go.wp_at_zero Go.wp_at_succ

theorem two_set {v w W : World} {g g' b0 b1 b2 : Nat} {s s' t t' : Bool} {A A' A1 A2 : Option Addr} {n c n' c' k m k' m' : Nat} {z z' y y' : Int} (h : ZC w g s A n c) (h' : ZC w g' s' A' n' c') (hne : g ≠ g') (hB : Below v.heap.size v w) (hg : v.heap.size ≤ g) (hg' : v.heap.size ≤ g')
    (ho : OwZ w b1 t A1 k m y) (ho' : OwZ w b2 t' A2 k' m' y') (hb1 : g < b1 ∧ g' < b1) (hb2 : g < b2 ∧ g' < b2) (h1 : b0 ≤ b1) (h2 : b0 ≤ b2) (hy : y = z) (hy' : y' = z')
    (hW : W = (((w.setCell ⟨g, 0, none⟩ (.bool t)).setCell ⟨g, 1, none⟩ (.slice A1 k m)).setCell ⟨g', 0, none⟩ (.bool t')).setCell ⟨g', 1, none⟩ (.slice A2 k' m') ∨
      W = (((w.setCell ⟨g', 0, none⟩ (.bool t')).setCell ⟨g', 1, none⟩ (.slice A2 k' m')).setCell ⟨g, 0, none⟩ (.bool t)).setCell ⟨g, 1, none⟩ (.slice A1 k m)) : Two v b0 g g' z z' W := by
  rcases hW with hW | hW
  · obtain ⟨h1, h2, h3, h4, h5⟩ := put_two h h' hne hB hg hg' ho ho' hb1 hb2 hW
    exact ⟨t, t', A1, A2, k, m, k', m', y, y', h1, h2, h3.base (by assumption), h4.base (by assumption), Lib.hid ⟨hy, hy'⟩, h5⟩
  · obtain ⟨h1, h2, h3, h4, h5⟩ := put_two h' h (Ne.symm hne) hB hg' hg ho' ho ⟨hb2.2, hb2.1⟩ ⟨hb1.2, hb1.1⟩ hW
    exact ⟨t, t', A1, A2, k, m, k', m', y, y', h2, h1, h4.base (by assumption), h3.base (by assumption), Lib.hid ⟨hy, hy'⟩, h5⟩

/-- A row of words and an integer's cell are two blocks. -/
theorem own_put {w : World} {b g k m : Nat} {s t : Bool} {A A' : Option Addr} {n c n' c' : Nat} {L : List Nat} (h : OwU w b A k m L) (hz : ZC w g s A' n c) (B : Option Addr) : OwU ((w.setCell ⟨g, 0, none⟩ (.bool t)).setCell ⟨g, 1, none⟩ (.slice B n' c')) b A k m L := by
  refine ⟨⟨h.own.1, ?_⟩, h.wd⟩
  rcases h.own.2 with h0 | ⟨g2, cap, cur, h1, h2, h3, h4⟩
  · exact .inl h0
  · have hne : g2 ≠ g := by
      rintro rfl
      unfold ZC at hz
      rw [hz] at h3
      simp at h3
    exact .inr ⟨g2, cap, cur, h1, h2, (Below.heap_setCell _ (⟨g, 1, none⟩ : Addr) _ g2 hne).trans ((Below.heap_setCell _ (⟨g, 0, none⟩ : Addr) _ g2 hne).trans h3), h4⟩
theorem OwZ.put {w : World} {b g k m : Nat} {s t u : Bool} {A A' : Option Addr} {n c n' c' : Nat} {z : Int} (h : OwZ w b u A k m z) (hz : ZC w g s A' n c) (B : Option Addr) : OwZ ((w.setCell ⟨g, 0, none⟩ (.bool t)).setCell ⟨g, 1, none⟩ (.slice B n' c')) b u A k m z := ⟨own_put h.own hz B, h.sgn⟩

/-- Quotient and rest of the sizes, turned by the first number's sign. -/
def Part (z z' X Y : Int) : Prop := z'.natAbs * X + Y = z ∧ 0 ≤ Y ∧ Y < z'.natAbs
theorem part_up {z z' : Int} (h : 0 ≤ z) (h0 : z' ≠ 0) : Part z z' ((z.natAbs / z'.natAbs : Nat) : Int) ((z.natAbs % z'.natAbs : Nat) : Int) := by
  have e := Nat.div_add_mod z.natAbs z'.natAbs
  have e2 := Nat.mod_lt z.natAbs (show 0 < z'.natAbs by omega)
  refine ⟨?_, by omega, by omega⟩
  rw [← Int.natCast_mul, ← Int.natCast_add, e]
  omega
theorem part_zero {z z' : Int} (h : z < 0) (h0 : z' ≠ 0) (hY : 0 ≤ -((z.natAbs % z'.natAbs : Nat) : Int)) : Part z z' (-((z.natAbs / z'.natAbs : Nat) : Int)) (-((z.natAbs % z'.natAbs : Nat) : Int)) := by
  have e := Nat.div_add_mod z.natAbs z'.natAbs
  refine ⟨?_, hY, by omega⟩
  rw [Int.mul_neg, ← Int.neg_add, ← Int.natCast_mul, ← Int.natCast_add, e]
  omega
theorem part_down {z z' : Int} (h : z < 0) (h0 : z' ≠ 0) (hY : -((z.natAbs % z'.natAbs : Nat) : Int) < 0) : Part z z' (-((z.natAbs / z'.natAbs : Nat) : Int) - 1) (-((z.natAbs % z'.natAbs : Nat) : Int) + z'.natAbs) := by
  have e := Nat.div_add_mod z.natAbs z'.natAbs
  have e2 := Nat.mod_lt z.natAbs (show 0 < z'.natAbs by omega)
  have e3 : (z'.natAbs : Int) * ((z.natAbs / z'.natAbs : Nat) : Int) + ((z.natAbs % z'.natAbs : Nat) : Int) = z.natAbs := by rw [← Int.natCast_mul, ← Int.natCast_add, e]
  refine ⟨?_, by omega, by omega⟩
  rw [Int.mul_sub, Int.mul_neg, Int.mul_one]
  omega
theorem part_pos {z z' X Y : Int} (h : Part z z' X Y) (h0 : 0 ≤ z') : X = z / z' ∧ Y = z % z' :=
  euclid_unique h.2.1 h.2.2 (by have e := h.1; rw [show (z'.natAbs : Int) = z' by omega] at e; exact e.symm)
theorem part_neg {z z' X Y : Int} (h : Part z z' X Y) (h0 : z' < 0) : -X = z / z' ∧ Y = z % z' :=
  euclid_unique h.2.1 h.2.2 (by have e := h.1; rw [show (z'.natAbs : Int) = -z' by omega, Int.neg_mul, ← Int.mul_neg] at e; exact e.symm)
theorem part_len {z z' X Y : Int} (h : Part z z' X Y) : Zz.zl Y ≤ Zz.zl z' := Zz.zl_of_le (by have := h.2; omega)
theorem part_all (z : Int) {z' : Int} (h0 : z' ≠ 0) : Part z z' (if 0 ≤ z' then z / z' else -(z / z')) (z % z') := by
  have h := Int.mul_ediv_add_emod z z'
  refine ⟨?_, Int.emod_nonneg z h0, Int.emod_lt z h0⟩
  split
  · rw [show (z'.natAbs : Int) = z' by omega]; exact h
  · rw [show (z'.natAbs : Int) = -z' by omega, Int.neg_mul_neg]; exact h
theorem part_abs {z z' X Y : Int} (h : Part z z' X Y) : Zz.zl X ≤ Zz.zl z + 1 := by
  by_cases h0 : 0 ≤ z'
  · rw [(part_pos h h0).1]; exact zl_ediv _ _
  · rw [← Zz.zl_neg, (part_neg h (by omega)).1]; exact zl_ediv _ _

set_option maxRecDepth 100000 in
set_option maxHeartbeats 8000000 in
theorem rIEuclid_any {s s' : Bool} {A A' : Option Addr} {n c n' c' : Nat} {z z' : Int} {w : World} (h : RdZ w w.heap.size s A n c z) (h' : RdZ w w.heap.size s' A' n' c' z') (hn : n ≤ 4398046511103) (hn' : n' ≤ 4398046511103) (h0 : z' ≠ 0) :
    Calls Tryd.prog 57 #[.agg #[.bool s, .slice A n c], .agg #[.bool s', .slice A' n' c']] w (RetIP (z / z') (z % z') w) := by
  have H0 := Lib.hid h0
  clear h0
  obtain ⟨W1, HW1, hZ, hY, hR, hS, hB⟩ := boxed22 w s A n c s' A' n' c'
  have HW1 := Lib.hid HW1
  have h1 := h.next hB
  have h1' := h'.next hB
  have HL := Lib.hid (And.intro h1.len h1'.len)
  have HSZ := Lib.hid (show w.heap.size < W1.heap.size from hZ.lt)
  have HS1 := Lib.hid (And.intro hR.lt hS.lt)
  go_enter Tryd.func57, Tryd.ntmps57
  go_upto_region 1 with fail
  rw [← HW1.out]
  clear HW1
  clear HW1
  go_cut [] from 10 to 13 (fun wr => Two w W1.heap.size w.heap.size (w.heap.size + 1) z z' wr ∧ ZC wr (w.heap.size + 1 + 1) false none 0 0 ∧ ZC wr (w.heap.size + 1 + 1 + 1) false none 0 0 ∧ Hid (W1.heap.size ≤ wr.heap.size))
  case first =>
    have HBD := Lib.hid (Below.refl W1.heap.size W1).drew
    have hc0 := hZ.c0
    have hc1 := hZ.c1
    have hd0 := hY.c0
    have hd1 := hY.c1
    have HZ := Lib.hid hZ
    have HY := Lib.hid hY
    have HR := Lib.hid hR
    have HS := Lib.hid hS
    go_region_with (first
      | (go_at_call 75; have hx := HB2.out; clear hx; refine (rINorm_any (h1'.next HB2.out) (by omega)).mono ?_; rintro _ W3 ⟨s3, A3, m3, c3, z3, rfl, ho3, hz3, hb3⟩; have HB3 := Lib.hid (HB2.out.trans (hb3.mono HB2.out.size)); have ha0 := (HZ.out.next HB3.out).c0; have ha1 := (HZ.out.next HB3.out).c1; have ha2 := (HY.out.next HB3.out).c0; have ha3 := (HY.out.next HB3.out).c1; have hf0 := (HZ.out.next HB3.out).fz 0; have hf1 := (HZ.out.next HB3.out).fz 1; have hf2 := (HY.out.next HB3.out).fz 0; have hf3 := (HY.out.next HB3.out).fz 1)
      | (go_at_call 75; refine (rINorm_any (h1.next HBD.out) (by omega)).mono ?_; rintro _ W2 ⟨s2, A2, m2, c2, z2, rfl, ho2, hz2, hb2⟩; have HB2 := Lib.hid (HBD.out.trans hb2); have he2 := (HY.out.next HB2.out).c0; have he3 := (HY.out.next HB2.out).c1))
    all_goals
      have HP := Lib.hid fun W => two_put (W := W) (z := z) (z' := z') (HZ.out.next HB3.out) (HY.out.next HB3.out) (by omega) (hB.trans (HB3.out.mono hB.size)) (Nat.le_refl _) (Nat.le_succ _) (ho2.next hb3) ho3 (b := W1.heap.size) ⟨HZ.out.lt, HY.out.lt⟩ HBD.out.size HB2.out.size hz2.out hz3.out
      have HRN := Lib.hid (HR.out.next HB3.out)
      have HSN := Lib.hid (HS.out.next HB3.out)
      clear ha0 ha1 ha2 ha3 hf0 hf1 hf2 hf3 he2 he3 hc0 hc1 hd0 hd1
      go_wp2
      go_meet
      refine ⟨?_, ?_, ?_, Lib.hid (by simpa using HB3.out.size)⟩
      · first
        | exact HP.out _ (.inl rfl)
        | exact HP.out _ (.inr rfl)
      · exact (((HRN.out.far (by simp <;> omega) _).far (by simp <;> omega) _).far (by simp <;> omega) _).far (by simp <;> omega) _
      · exact (((HSN.out.far (by simp <;> omega) _).far (by simp <;> omega) _).far (by simp <;> omega) _).far (by simp <;> omega) _
  case rest =>
    clear hZ hY hR hS hB h1 h1' h h'
    obtain ⟨⟨s1, s2, A1, A2, m1, c1, m2, c2, y1, y2, hZ, hY, ho1, ho2, hy, hB⟩, hR, hS, HBC⟩ := hcut
    obtain ⟨rfl, rfl⟩ := hy.out
    clear hy
    have HO1 := Lib.hid ho1
    have HO2 := Lib.hid ho2
    have HM := Lib.hid (show m1 ≤ 4398046511103 ∧ m2 ≤ 4398046511103 from ⟨by rw [ho1.len]; have := HL.out; omega, by rw [ho2.len]; have := HL.out; omega⟩)
    have HG := Lib.hid (And.intro ho1.sgn ho2.sgn)
    clear ho1 ho2
    have hc0 := hZ.c0
    have hc1 := hZ.c1
    have hd0 := hY.c0
    have hd1 := hY.c1
    go_wp2_with fail
    refine (refNDiv_any HO1.out.own.rd HO2.out.own.rd HM.out.1 HM.out.2 (by rw [Dg.val_dg]; have := H0.out; omega)).mono ?_
    rintro _ Wd ⟨A3, A4, m3, c3, m4, c4, x3, x4, rfl, ho3, ho4, hx, hbd⟩
    rw [Dg.val_dg, Dg.val_dg] at hx
    have hZ2 := hZ.next hbd
    have hY2 := hY.next hbd
    have hR2 := hR.next hbd
    have hS2 := hS.next hbd
    have hB2 := hB.trans (hbd.mono hB.size)
    have HO12 := Lib.hid (HO1.out.next hbd)
    have HO22 := Lib.hid (HO2.out.next hbd)
    obtain ⟨We, HWe⟩ : ∃ W, W = (Wd.alloc (.cells #[.bool false, .slice A3 m3 c3] 25)).alloc (.cells #[.bool false, .slice A4 m4 c4] 25) := ⟨_, rfl⟩
    have hbe : Below Wd.heap.size Wd We := by rw [HWe]; exact ((Below.refl Wd.heap.size Wd).alloc (Nat.le_refl _) _).alloc (by simp) _
    have hT : Two Wd W1.heap.size Wd.heap.size (Wd.heap.size + 1) ((y1.natAbs / y2.natAbs : Nat) : Int) ((y1.natAbs % y2.natAbs : Nat) : Int) We := by
      have HB1 : W1.heap.size ≤ wc.heap.size := HBC.out
      refine ⟨false, false, A3, A4, m3, c3, m4, c4, x3, x4, ?_, ?_, (OwZ.nonneg (ho3.next hbe)).base HB1, (OwZ.nonneg (ho4.next hbe)).base HB1, Lib.hid ⟨by rw [hx.out.1], by rw [hx.out.2]⟩, hbe⟩
      · rw [HWe]; exact (ZC.new Wd false A3 m3 c3).alloc _
      · rw [HWe]; simpa using ZC.new (Wd.alloc (.cells #[.bool false, .slice A3 m3 c3] 25)) false A4 m4 c4
    have hZe := hZ2.next hbe
    have hYe := hY2.next hbe
    have hze := hZe.c0
    rw [HWe] at hze
    have HWe := Lib.hid HWe
    have HBS := Lib.hid (show W1.heap.size ≤ Wd.heap.size from Nat.le_trans HBC.out hbd.size)
    clear hc0 hc1 hd0 hd1 hZ hY hR hS hB hbd ho3 ho4 hx
    go_upto_if 27 with fail
    rw [← HWe.out]
    clear HWe
    clear hze
    clear HWe
    go_cut [] from 28 to 41 (fun wr => ∃ X Y : Int, Two Wd W1.heap.size Wd.heap.size (Wd.heap.size + 1) X Y wr ∧ Hid (Part y1 y2 X Y))
    case first =>
      have HG1 := HG.out.1
      cases s1
      · have HY1 := Lib.hid (show 0 ≤ y1 by have e := HG1; simp at e; omega)
        clear HG1
        go_wp2
        go_meet
        exact ⟨_, _, hT, Lib.hid (part_up HY1.out H0.out)⟩
      · have HY1 := Lib.hid (show y1 < 0 by have e := HG1; simp at e; omega)
        clear HG1
        go_upto_region 5 with fail
        obtain ⟨q, hq⟩ : ∃ q, q = y1.natAbs / y2.natAbs := ⟨_, rfl⟩
        obtain ⟨r, hr⟩ : ∃ r, r = y1.natAbs % y2.natAbs := ⟨_, rfl⟩
        rw [← hq, ← hr] at hT
        have HQR := Lib.hid (And.intro hq hr)
        have HLN := Lib.hid (show Zz.zl (q : Int) ≤ n ∧ Zz.zl (r : Int) ≤ n from ⟨Nat.le_trans (Zz.zl_of_le (by rw [hq, Int.natAbs_natCast]; exact Nat.div_le_self _ _)) HL.out.1, Nat.le_trans (Zz.zl_of_le (by rw [hr, Int.natAbs_natCast]; exact Nat.mod_le _ _)) HL.out.1⟩)
        clear hq hr
        go_cut [] from 28 to 31 (fun wr => Two Wd W1.heap.size Wd.heap.size (Wd.heap.size + 1) (-(q : Int)) (-(r : Int)) wr)
        case first =>
          obtain ⟨sx, sy, Ax, Ay, mx, cx, my, cy, x, y, hX, hY, hox, hoy, hxy, hbx⟩ := hT
          have HX := Lib.hid hX
          have HY := Lib.hid hY
          have HBX := Lib.hid hbx
          have HBD := Lib.hid (Below.refl We.heap.size We).drew
          have HOX := Lib.hid hox
          have HOY := Lib.hid hoy
          have HMX := Lib.hid (show mx ≤ 4398046511103 ∧ my ≤ 4398046511103 from ⟨by rw [hox.len, hxy.out.1]; have := HLN.out; omega, by rw [hoy.len, hxy.out.2]; have := HLN.out; omega⟩)
          have hc0 := hX.c0
          have hc1 := hX.c1
          have hd0 := hY.c0
          have hd1 := hY.c1
          clear hbe hZe hYe hox hoy
          go_region_with (first
            | (go_at_call 77; have hx := HB2.out; clear hx; refine (rINeg_any (HOY.out.next HB2.out).rd (by have := HMX.out; omega)).mono ?_; rintro _ W3 ⟨s3, A3, m3, c3, z3, rfl, ho3, hz3, hb3⟩; have HB3 := Lib.hid (HB2.out.trans (hb3.mono HB2.out.size)); have ha0 := (HX.out.next HB3.out).c0; have ha1 := (HX.out.next HB3.out).c1; have ha2 := (HY.out.next HB3.out).c0; have ha3 := (HY.out.next HB3.out).c1; have hf0 := (HX.out.next HB3.out).fz 0; have hf1 := (HX.out.next HB3.out).fz 1; have hf2 := (HY.out.next HB3.out).fz 0; have hf3 := (HY.out.next HB3.out).fz 1)
            | (go_at_call 77; refine (rINeg_any (HOX.out.next HBD.out).rd (by have := HMX.out; omega)).mono ?_; rintro _ W2 ⟨s2, A2, m2, c2, z2, rfl, ho2, hz2, hb2⟩; have HB2 := Lib.hid (HBD.out.trans hb2); have he2 := (HY.out.next HB2.out).c0; have he3 := (HY.out.next HB2.out).c1))
          all_goals
            have HSX := Lib.hid (show Wd.heap.size + 1 < We.heap.size from HY.out.lt)
            have HSZ2 := Lib.hid (show We.heap.size ≤ W2.heap.size from HB2.out.size)
            have HP := Lib.hid fun W => two_set (W := W) (b0 := W1.heap.size) (z := -(q : Int)) (z' := -(r : Int)) (HX.out.next HB3.out) (HY.out.next HB3.out) (by omega) (HBX.out.trans (HB3.out.mono HBX.out.size)) (Nat.le_refl _) (Nat.le_succ _) (ho2.next hb3) ho3 (by have := HSX.out; simp; omega) (by have := HSX.out; have := HSZ2.out; omega) (by have := HBS.out; have := HSX.out; simp; omega) (by have := HBS.out; have := HSX.out; have := HSZ2.out; omega) (by rw [hz2.out, hxy.out.1]) (by rw [hz3.out, hxy.out.2])
            clear ha0 ha1 ha2 ha3 hf0 hf1 hf2 hf3 he2 he3 hc0 hc1 hd0 hd1
            go_wp2
            go_meet
            first
              | exact HP.out _ (.inl rfl)
              | exact HP.out _ (.inr rfl)
        case rest =>
          obtain ⟨sx, sy, Ax, Ay, mx, cx, my, cy, x, y, hX, hY, hox, hoy, hxy, hbx⟩ := hcut
          have hd0 := hY.c0
          have hd1 := hY.c1
          have HMX := Lib.hid (show mx ≤ 4398046511103 ∧ my ≤ 4398046511103 from ⟨by rw [hox.len, hxy.out.1, Zz.zl_neg]; have := HLN.out; omega, by rw [hoy.len, hxy.out.2, Zz.zl_neg]; have := HLN.out; omega⟩)
          go_wp2_with fail
          refine (rISign_any hoy.rd (by have := HMX.out; omega)).mono ?_
          rintro _ V ⟨k, rfl, hk, hbv⟩
          have HBV := Lib.hid (hbx.trans (hbv.mono hbx.size))
          have HX := Lib.hid (hX.next hbv)
          have HY := Lib.hid (hY.next hbv)
          have HOX := Lib.hid (hox.next hbv)
          have HOY := Lib.hid (hoy.next hbv)
          have HKB : Hid (decide (k < 0) = decide (-(r : Int) < 0)) := Lib.hid (by rw [hk.out, decide_eq_decide, hxy.out.2]; exact Int.sign_neg_iff)
          clear hd0 hd1 hX hY hox hoy hbv hbx hT hbe hZe hYe hk
          by_cases hk0 : k < 0
          · have HT : Hid (-(r : Int) < 0) := Lib.hid (by have e := HKB.out; rw [decide_eq_true hk0] at e; exact of_decide_eq_true e.symm)
            have HZ3 := Lib.hid (hY2.next HBV.out)
            have HO3 := Lib.hid (HO22.out.next HBV.out)
            have HBD := Lib.hid (Below.refl V.heap.size V).drew
            have hc0 := HX.out.c0
            have hc1 := HX.out.c1
            have hd0 := HY.out.c0
            have hd1 := HY.out.c1
            have he0 := HZ3.out.c0
            have he1 := HZ3.out.c1
            have HS3 := Lib.hid (show w.heap.size + 1 < Wd.heap.size from hY2.lt)
            have hq1 : ¬ (Wd.heap.size = w.heap.size + 1) := by have := HS3.out; omega
            have hq2 : ¬ (Wd.heap.size = w.heap.size) := by have := HS3.out; omega
            go_wp2_with fail
            go_region_with (first
              | (go_at_call 58; refine (rIOf_any 1 (by omega) (by omega) V.drew).mono ?_; rintro _ W7 ⟨s7, A7, m7, c7, z7, rfl, ho7, hz7, hb7⟩; have HB7 := Lib.hid (HBD.out.trans hb7); have hg0 := (HX.out.next HB7.out).c0; have hg1 := (HX.out.next HB7.out).c1; have hg2 := (HY.out.next HB7.out).c0; have hg3 := (HY.out.next HB7.out).c1; have hg4 := (HZ3.out.next HB7.out).c0; have hg5 := (HZ3.out.next HB7.out).c1)
              | (go_at_call 78; refine (rISub_any (HOX.out.next HB7.out).rd ho7.rd (by have := HMX.out; omega) (by rw [ho7.len, hz7.out]; exact Nat.le_trans (Zz.zl_small (by decide)) (by omega))).mono ?_; rintro _ W8 ⟨s8, A8, m8, c8, z8, rfl, ho8, hz8, hb8⟩; have HB8 := Lib.hid (HB7.out.trans (hb8.mono HB7.out.size)); have hh2 := (HY.out.next HB8.out).c0; have hh3 := (HY.out.next HB8.out).c1; have hh4 := (HZ3.out.next HB8.out).c0; have hh5 := (HZ3.out.next HB8.out).c1)
              | (go_at_call 80; refine (rIAbs_any (HO3.out.next HB8.out).rd (by have := HM.out; omega)).mono ?_; rintro _ W9 ⟨s9, A9, m9, c9, z9, rfl, ho9, hz9, hb9⟩; have HB9 := Lib.hid (HB8.out.trans (hb9.mono HB8.out.size)); have hi2 := (HY.out.next HB9.out).c0; have hi3 := (HY.out.next HB9.out).c1; have hi4 := (HZ3.out.next HB9.out).c0; have hi5 := (HZ3.out.next HB9.out).c1)
              | (go_at_call 79; refine (rIAdd_any (HOY.out.next HB9.out).rd ho9.rd (by have := HMX.out; omega) (by rw [ho9.len, hz9.out, Zz.zl_abs]; have := HL.out; omega)).mono ?_; rintro _ W10 ⟨s10, A10, m10, c10, z10, rfl, ho10, hz10, hb10⟩; have HB10 := Lib.hid (HB9.out.trans (hb10.mono HB9.out.size)); have hj0 := (HX.out.next HB10.out).c0; have hj1 := (HX.out.next HB10.out).c1; have hj2 := (HY.out.next HB10.out).c0; have hj3 := (HY.out.next HB10.out).c1; have hj4 := (HZ3.out.next HB10.out).c0; have hj5 := (HZ3.out.next HB10.out).c1; have hj6 := (HX.out.next HB10.out).fz 0; have hj7 := (HX.out.next HB10.out).fz 1; have hj8 := (HY.out.next HB10.out).fz 0; have hj9 := (HY.out.next HB10.out).fz 1))
            all_goals
              have HSX := Lib.hid (show Wd.heap.size + 1 < V.heap.size from HY.out.lt)
              have HSZ2 := Lib.hid (show V.heap.size ≤ W7.heap.size ∧ V.heap.size ≤ W9.heap.size from ⟨HB7.out.size, HB9.out.size⟩)
              have HB810 := Lib.hid (hb9.trans (hb10.mono hb9.size))
              have HP := Lib.hid fun W => two_set (W := W) (b0 := W1.heap.size) (z := -(q : Int) - 1) (z' := -(r : Int) + y2.natAbs) (HX.out.next HB10.out) (HY.out.next HB10.out) (by omega) (HBV.out.trans (HB10.out.mono HBV.out.size)) (Nat.le_refl _) (Nat.le_succ _) (ho8.next HB810.out) ho10 (by have := HSX.out; have := HSZ2.out; omega) (by have := HSX.out; have := HSZ2.out; omega) (by have := HBS.out; have := HSX.out; have := HSZ2.out; omega) (by have := HBS.out; have := HSX.out; have := HSZ2.out; omega) (by rw [hz8.out, hz7.out, hxy.out.1]) (by rw [hz10.out, hz9.out, hxy.out.2])
              clear hc0 hc1 hd0 hd1 he0 he1 hg0 hg1 hg2 hg3 hg4 hg5 hh2 hh3 hh4 hh5 hi2 hi3 hi4 hi5 hj0 hj1 hj2 hj3 hj4 hj5 hj6 hj7 hj8 hj9 hq1 hq2
              go_wp2
              go_meet
              refine ⟨-(q : Int) - 1, -(r : Int) + y2.natAbs, ?_, Lib.hid (by have e := HT.out; rw [HQR.out.2] at e; rw [HQR.out.1, HQR.out.2]; exact part_down HY1.out H0.out e)⟩
              first
                | exact HP.out _ (.inl rfl)
                | exact HP.out _ (.inr rfl)
          · have HT : Hid (0 ≤ -(r : Int)) := Lib.hid (by have e := HKB.out; rw [decide_eq_false hk0] at e; have := of_decide_eq_false e.symm; omega)
            have hk1 : 0 ≤ k := by omega
            clear hk0
            go_wp2
            go_meet
            exact ⟨-(q : Int), -(r : Int), ⟨sx, sy, Ax, Ay, mx, cx, my, cy, x, y, HX.out, HY.out, HOX.out, HOY.out, hxy, HBV.out⟩, Lib.hid (by have e := HT.out; rw [HQR.out.2] at e; rw [HQR.out.1, HQR.out.2]; exact part_zero HY1.out H0.out e)⟩
    case rest =>
      clear hT hbe hZe hYe
      obtain ⟨X, Y, hT, hPA⟩ := hcut
      obtain ⟨sx, sy, Ax, Ay, mx, cx, my, cy, x, y, hX, hY, hox, hoy, hxy, hbx⟩ := hT
      obtain ⟨rfl, rfl⟩ := hxy.out
      clear hxy
      have hYz := (hY2.next hbx)
      have hd0 := hYz.c0
      have HMX := Lib.hid (show mx ≤ 4398046511104 ∧ my ≤ 4398046511103 from ⟨by rw [hox.len]; have := part_abs hPA.out; have := HL.out; omega, by rw [hoy.len]; have := part_len hPA.out; have := HL.out; omega⟩)
      go_upto_if 43 with fail
      go_cut [] from 44 to 45 (fun wr => Two Wd W1.heap.size Wd.heap.size (Wd.heap.size + 1) (y1 / y2) (y1 % y2) wr)
      case first =>
        have HG1 := HG.out.2
        cases s2
        · have HY1 := Lib.hid (show 0 ≤ y2 by have e := HG1; simp at e; omega)
          clear HG1
          go_wp2
          go_meet
          exact ⟨sx, sy, Ax, Ay, mx, cx, my, cy, x, y, hX, hY, hox, hoy, Lib.hid (part_pos hPA.out HY1.out), hbx⟩
        · have HY1 := Lib.hid (show y2 < 0 by have e := HG1; simp at e; omega)
          clear HG1 hd0
          have hc0 := hX.c0
          have hc1 := hX.c1
          go_wp2_with fail
          refine (rINeg_any hox.rd (by have := HMX.out; omega)).mono ?_
          rintro _ V ⟨s3, A3, m3, c3, z3, rfl, ho3, hz3, hbv⟩
          have hX2 := hX.next hbv
          have hb2 := hbx.trans (hbv.mono hbx.size)
          have HS4 := Lib.hid hX.lt
          have HOY := Lib.hid (hoy.next hbv)
          have HY2 := Lib.hid (hY.next hbv)
          have HP := Lib.hid (put_int hX2 hb2 (Nat.le_refl _) ho3 HS4.out)
          have hd0 := hX2.c0
          have hd1 := hX2.c1
          have hf0 := hX2.fz 0
          have hf1 := hX2.fz 1
          clear hc0 hc1
          go_wp2
          go_meet
          have e := part_neg hPA.out HY1.out
          exact ⟨s3, sy, A3, Ay, m3, c3, my, cy, z3, y, HP.out.1, (HY2.out.far (by simp) _).far (by simp) _, HP.out.2.1.base (Nat.le_trans HBS.out hbx.size), HOY.out.put hX2 A3, Lib.hid ⟨hz3.out.trans e.1, e.2⟩, HP.out.2.2⟩
      case rest =>
        have HLX := Lib.hid (part_abs hPA.out)
        have HLY := Lib.hid (part_len hPA.out)
        clear hX hY hox hoy hbx hYz hd0 HMX
        obtain ⟨sx, sy, Ax, Ay, mx, cx, my, cy, p, q, hX, hY, hox, hoy, hxy, hbx⟩ := hcut
        have HMX := Lib.hid (show mx ≤ 4398046511104 ∧ my ≤ 4398046511103 from ⟨by rw [hox.len, hxy.out.1]; have := zl_ediv y1 y2; have := HL.out; omega, by rw [hoy.len, hxy.out.2]; have e := (part_len (part_all y1 H0.out)); have := HL.out; omega⟩)
        have HX := Lib.hid hX
        have HY := Lib.hid hY
        have HOX := Lib.hid hox
        have HOY := Lib.hid hoy
        have HR := Lib.hid (hR2.next hbx)
        have HS := Lib.hid (hS2.next hbx)
        have HB := Lib.hid (hB2.trans (hbx.mono hB2.size))
        have HSD := Lib.hid (show w.heap.size + 1 + 1 + 1 < Wd.heap.size from hS2.lt)
        have hq1 : ¬ (w.heap.size + 1 + 1 = Wd.heap.size) := by have := HSD.out; omega
        have hq2 : ¬ (w.heap.size + 1 + 1 + 1 = Wd.heap.size) := by have := HSD.out; omega
        have hq3 : ¬ (w.heap.size + 1 = Wd.heap.size) := by have := HSD.out; omega
        have HBD := Lib.hid (Below.refl wc.heap.size wc).drew
        have hc0 := hX.c0
        have hc1 := hX.c1
        have hd0 := hY.c0
        have hd1 := hY.c1
        clear hX hY hox hoy
        go_wp2_with fail
        go_region_held3 (fun w' => w'.cell? ⟨Wd.heap.size, 0, none⟩ = some (.bool sx) ∧ w'.cell? ⟨Wd.heap.size, 1, none⟩ = some (.slice Ax mx cx) ∧ w'.cell? ⟨Wd.heap.size + 1, 0, none⟩ = some (.bool sy) ∧ w'.cell? ⟨Wd.heap.size + 1, 1, none⟩ = some (.slice Ay my cy)) (go_keep) (first
          | (go_at_call 75; have hx := HB2.out; clear hx; refine (rINorm_any (HOY.out.next HB2.out).rd (by have := HMX.out; omega)).mono ?_; rintro _ W3 ⟨s3, A3, m3, c3, z3, rfl, ho3, hz3, hb3⟩; have HB3 := Lib.hid (HB2.out.trans (hb3.mono HB2.out.size)); have ha0 := (HX.out.next HB3.out).c0; have ha1 := (HX.out.next HB3.out).c1; have ha2 := (HY.out.next HB3.out).c0; have ha3 := (HY.out.next HB3.out).c1; have hf0 := (HR.out.next HB3.out).fz 0; have hf1 := (HR.out.next HB3.out).fz 1; have hf2 := (HS.out.next HB3.out).fz 0; have hf3 := (HS.out.next HB3.out).fz 1; have hf4 := (HR.out.next HB3.out).c0; have hf5 := (HR.out.next HB3.out).c1; have hf6 := (HS.out.next HB3.out).c0; have hf7 := (HS.out.next HB3.out).c1)
          | (go_at_call 75; refine (rINorm_any (HOX.out.next HBD.out).rd (by have := HMX.out; omega)).mono ?_; rintro _ W2 ⟨s2, A2, m2, c2, z2, rfl, ho2, hz2, hb2⟩; have HB2 := Lib.hid (HBD.out.trans hb2); have he0 := (HX.out.next HB2.out).c0; have he1 := (HX.out.next HB2.out).c1; have he2 := (HY.out.next HB2.out).c0; have he3 := (HY.out.next HB2.out).c1))
        all_goals
          obtain ⟨V9, HV⟩ : ∃ W, W = (((W3.setCell ⟨w.heap.size + 1 + 1, 0, none⟩ (.bool s2)).setCell ⟨w.heap.size + 1 + 1, 1, none⟩ (.slice A2 m2 c2)).setCell ⟨w.heap.size + 1 + 1 + 1, 0, none⟩ (.bool s3)).setCell ⟨w.heap.size + 1 + 1 + 1, 1, none⟩ (.slice A3 m3 c3) := ⟨_, rfl⟩
          have HSX := Lib.hid (show w.heap.size + 1 + 1 + 1 < wc.heap.size ∧ wc.heap.size ≤ W2.heap.size ∧ w.heap.size ≤ wc.heap.size from ⟨HS.out.lt, HB2.out.size, HB.out.size⟩)
          obtain ⟨hZ9, hY9, ho9, ho10, hB9⟩ := put_two (HR.out.next HB3.out) (HS.out.next HB3.out) (by omega) (HB.out.trans (HB3.out.mono HB.out.size)) (by omega) (by omega) (ho2.next hb3) ho3 (by have := HSX.out; simp; omega) (by have := HSX.out; omega) HV
          rw [← HV]
          clear HV hc0 hc1 hd0 hd1 ha0 ha1 ha2 ha3 hf0 hf1 hf2 hf3 hf4 hf5 hf6 hf7 he0 he1 he2 he3 hq1 hq2 hq3 hb2 hb3 ho2 ho3
          go_wp2
          exact bodyPost_ret (by simp [results, Tryd.results57, go_sem, hZ9.c0, hZ9.c1, hY9.c0, hY9.c1]) rfl ⟨_, _, _, _, _, _, _, _, _, _, rfl, ho9.base (by have := HSX.out; simp; omega), ho10.base (by have := HSX.out; omega), Lib.hid ⟨hz2.out.trans hxy.out.1, hz3.out.trans hxy.out.2⟩, hB9⟩
end Go.Proofs.YtipbpdiahemmpaaDoor
