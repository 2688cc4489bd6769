/- The reference's natural numbers, eighth part: quotient and what is left. -/
import Derived.Test.YtipbpdiahemmpaaGreatN16
namespace Go.Proofs.YtipbpdiahemmpaaGreat
open Go.RowKit Go.IntWalk

/-- What the bits of a digit keep: j bits are left. -/
def DivBit (b r d j : Nat) : Prop := 2 ^ j ∣ d ∧ d * b ≤ r ∧ r < (d + 2 ^ j) * b ∧ d + 2 ^ j ≤ 4294967296
theorem DivBit.start {b x z : Nat} (hx : x < b) (hz : z < 4294967296) : DivBit b (z + 4294967296 * x) 0 32 := by
  refine ⟨Nat.dvd_zero _, by omega, ?_, by decide⟩
  have := Nat.mul_le_mul_left 4294967296 (show x + 1 ≤ b by omega)
  rw [show (0 + 2 ^ 32) * b = 4294967296 * b by rw [Nat.zero_add]]
  omega
theorem DivBit.yes {b r d k : Nat} (h : DivBit b r d (k + 1)) (hle : (d + 2 ^ k) * b ≤ r) : DivBit b r (d + 2 ^ k) k := by
  obtain ⟨h1, h2, h3, h4⟩ := h
  rw [Nat.pow_succ] at h1 h3 h4
  have e : d + 2 ^ k + 2 ^ k = d + 2 ^ k * 2 := by omega
  exact ⟨(Nat.dvd_add_iff_left (Nat.dvd_refl _)).1 (Nat.dvd_trans (Nat.dvd_mul_right _ _) h1), hle, by rw [e]; exact h3, by rw [e]; exact h4⟩
theorem DivBit.no {b r d k : Nat} (h : DivBit b r d (k + 1)) (hle : r < (d + 2 ^ k) * b) : DivBit b r d k := by
  obtain ⟨h1, h2, h3, h4⟩ := h
  rw [Nat.pow_succ] at h1 h4
  exact ⟨Nat.dvd_trans (Nat.dvd_mul_right _ _) h1, h2, hle, by omega⟩
theorem DivBit.join {b r d k : Nat} (h : DivBit b r d (k + 1)) : d + 2 ^ k < 4294967296 ∧ d ||| 2 ^ k = d + 2 ^ k := by
  obtain ⟨h1, _, _, h4⟩ := h
  have hp := Nat.two_pow_pos k
  rw [Nat.pow_succ] at h4
  refine ⟨by omega, nat_join (k + 1) _ _ ?_ (by rw [Nat.pow_succ]; omega)⟩
  exact Nat.mod_eq_zero_of_dvd h1
theorem DivBit.fin {b r d : Nat} (h : DivBit b r d 0) : d = r / b ∧ d * b ≤ r ∧ r - d * b < b ∧ d < 4294967296 := by
  obtain ⟨_, h2, h3, h4⟩ := h
  rw [Nat.pow_zero] at h3 h4
  have e : (d + 1) * b = d * b + b := by grind
  refine ⟨?_, h2, by omega, by omega⟩
  exact (Nat.div_eq_of_lt_le h2 h3).symm
theorem OwU.far {w : World} {b : Nat} {A : Option Addr} {n c : Nat} {L : List Nat} (h : OwU w b A n c L) {p : Addr} (hp : p.block < b) (u : Value) : OwU (w.setCell p u) b A n c L := by
  refine ⟨⟨h.own.1, ?_⟩, h.wd⟩
  rcases h.own.2 with h0 | ⟨g, cap, cur, h1, h2, h3, h4⟩
  · exact .inl h0
  · exact .inr ⟨g, cap, cur, h1, h2, (Below.heap_setCell w p u g (by omega)).trans h3, h4⟩
theorem or_bit {b r d i : Nat} (h : DivBit b r d (i + 1)) (hi : i < 32) : bits .or .u32 (d : Int) ((2 : Int) ^ i % 4294967296) = ((d + 2 ^ i : Nat) : Int) := by
  have h31 := pow_le31 hi
  have e : (2 : Int) ^ i % 4294967296 = ((2 ^ i : Nat) : Int) := by
    have : ((2 ^ i : Nat) : Int) = (2 : Int) ^ i := by simp
    rw [← this]
    generalize 2 ^ i = y at *
    omega
  have hj := h.join
  rw [e, u32_or_nat _ _ (by omega) (by omega), hj.2]
theorem skip_step {L O : List Nat} {t b x : Nat} (hL : t < L.length) (hO : t < O.length) (h0 : Dg.ld O t = 0) (hI : Dg.val (O.drop (t + 1)) * b + x = Dg.val (L.drop (t + 1))) :
    Dg.val (O.drop t) * b + (Dg.ld L t + 4294967296 * x) = Dg.val (L.drop t) := by
  rw [Dg.val_drop hL, Dg.val_drop hO, h0, ← hI]
  grind
theorem dig_step {L O : List Nat} {t b x r d : Nat} (hL : t < L.length) (hO : t < O.length) (hr : r = Dg.ld L t + 4294967296 * x) (hd : d = r / b) (hI : Dg.val (O.drop (t + 1)) * b + x = Dg.val (L.drop (t + 1))) :
    Dg.val ((O.set t d).drop t) * b + (r - d * b) = Dg.val (L.drop t) := by
  have e : x * 4294967296 + Dg.ld L t = r := by omega
  have hs := Dg.short_step hL hO hI (q := d) (by rw [e, hd])
  rw [e] at hs
  have h := Nat.div_add_mod r b
  have e2 : r - d * b = r % b := by
    rw [hd, Nat.mul_comm (r / b) b]
    omega
  rw [e2]
  exact hs
theorem div_mod_of {q b x a : Nat} (h : q * b + x = a) (hx : x < b) : q = a / b ∧ x = a % b := by
  subst h
  have hb : 0 < b := by omega
  exact ⟨by rw [Nat.add_comm, Nat.add_mul_div_right _ _ hb, Nat.div_eq_of_lt hx, Nat.zero_add], by rw [Nat.add_comm, Nat.add_mul_mod_self_right, Nat.mod_eq_of_lt hx]⟩

/-- Quotient and what is left, both in own memory. -/
def RetND (q r : Nat) (w : World) (e : Ending) (w' : World) : Prop :=
  ∃ (A A' : Option Addr) (m c m' c' x y : Nat), e = .returned (.tuple #[.slice A m c, .slice A' m' c']) ∧ OwU w' w.heap.size A m c (Dg.dg x) ∧ OwU w' w.heap.size A' m' c' (Dg.dg y) ∧ Hid (x = q ∧ y = r) ∧ Below w.heap.size w w'

set_option maxRecDepth 100000 in
set_option maxHeartbeats 2000000 in
theorem refNDiv_any {A A' : Option Addr} {n c n' c' : Nat} {L L' : List Nat} {w : World} (h : RdU w w.heap.size A n c L) (h' : RdU w w.heap.size A' n' c' L') (hn : n ≤ 4398046511103) (hn' : n' ≤ 4398046511103) (hpos : 0 < Dg.val L') :
    Calls Tryz.prog 243 #[.slice A n c, .slice A' n' c'] w (RetND (Dg.val L / Dg.val L') (Dg.val L % Dg.val L') w) := by
  have HLEN := Lib.hid h.len
  have HLEN' := Lib.hid h'.len
  go_enter Tryz.func243, Tryz.ntmps243
  go_wp2_with fail
  refine (refNorm_any h (by omega)).mono ?_
  rintro _ W1 ⟨A1, m1, c1, x1, rfl, ho1, hx1, hb1⟩
  go_wp2_with fail
  refine (refNorm_any (h'.next hb1) (by omega)).mono ?_
  rintro _ W2 ⟨A2, m2, c2, x2, rfl, ho2, hx2, hb2⟩
  have hr1 := (ho1.next hb2).rd
  have hr2 := ho2.rd
  have hm1 : m1 ≤ n := by
    rw [← ho1.len, hx1.out, Dg.dg_len_lt, ← HLEN.out]; exact Dg.val_lt h.wd
  have hm2 : m2 ≤ n' := by
    rw [← ho2.len, hx2.out, Dg.dg_len_lt, ← HLEN'.out]; exact Dg.val_lt h'.wd
  have HV := Lib.hid (show Dg.val (Dg.dg x1) = Dg.val L ∧ Dg.val (Dg.dg x2) = Dg.val L' from ⟨by rw [Dg.val_dg, hx1.out], by rw [Dg.val_dg, hx2.out]⟩)
  have hB := hb1.trans (hb2.mono hb1.size)
  have hf1 := (ho1.next hb2).form
  clear ho1 ho2 hx1 hx2 hb1 hb2
  generalize Dg.dg x1 = M1 at hr1 HV hf1
  generalize Dg.dg x2 = M2 at hr2 HV
  obtain ⟨b, hb⟩ : ∃ b, b = Dg.val M2 := ⟨_, rfl⟩
  have HBV := Lib.hid hb
  have hb0 : 0 < b := by rw [hb, HV.out.2]; exact hpos
  clear hb
  have HL1 := Lib.hid hr1.len
  have HL2 := Lib.hid hr2.len
  have hmk := make_nat m1 (by omega)
  have hB0 := (Below.refl W2.heap.size W2).alloc (Nat.le_refl _) (.cells (madeCells #[.int .u32 0] m1) 35)
  have hU0 := UB.made W2 m1
  go_wp2_with fail
  generalize W2.alloc (.cells (madeCells #[.int .u32 0] m1) 35) = W3 at hB0 hU0 ⊢
  clear hmk
  obtain ⟨g, hg⟩ : ∃ g, g = W2.heap.size := ⟨_, rfl⟩
  rw [← hg] at hU0 ⊢
  have HG := Lib.hid hg
  clear hg
  have hgW := hU0.lt
  go_wp2_with fail
  go_loopw [7, 8] (fun ov iv wr => ∃ (k m c x : Nat) (A : Option Addr) (O : List Nat), iv = .int .i64 ((k : Int) - 1) ∧ ov = .slice A m c ∧ k ≤ m1 ∧ OwU wr W3.heap.size A m c (Dg.dg x) ∧ x < b ∧ UB wr g O ∧ Hid (O.length = m1 ∧ Dg.Wd O ∧ (∀ z, z < k → Dg.ld O z = 0) ∧ Dg.val (O.drop k) * b + x = Dg.val (M1.drop k)) ∧ Below W2.heap.size W2 wr ∧ W3.heap.size ≤ wr.heap.size) (fun _ iv _ => (intOf iv + 1).toNat)
  case atStart => exact ⟨m1, 0, 0, 0, none, _, rfl, rfl, Nat.le_refl _, by rw [Dg.dg_zero]; exact OwU.nil _ _, hb0, hU0, Lib.hid ⟨by simp, Dg.Wd.zeros _, fun z _ => Dg.ld_replicate _ _, by rw [List.drop_of_length_le (by simp), List.drop_of_length_le (by rw [HL1.out]; exact Nat.le_refl _)]; simp [Dg.val]⟩, hB0, Nat.le_refl _⟩
  case round =>
    obtain ⟨k, m, c0, x, A0, O, rfl, rfl, hk, ho, hxb, hU, hO, hbr, hs3⟩ := hrel
    have hm : m ≤ m2 := by
      rw [← ho.len, Dg.dg_len_lt, ← HL2.out]
      have := Dg.val_lt hr2.wd
      have := HBV.out
      omega
    rcases Nat.eq_zero_or_pos k with h0 | h0
    · subst h0
      have hO3 := hU.rd hO.out.2.1 hU.lt (k := m1) (by rw [hO.out.1]; exact Nat.le_refl _) (by rw [hO.out.1]; unfold maxLen; omega)
      rw [hO.out.1, List.take_of_length_le (by rw [hO.out.1]; exact Nat.le_refl _)] at hO3
      go_wp2_with fail
      refine (refNorm_any hO3 (by omega)).mono ?_
      rintro _ W4 ⟨A4, m4, c4, x4, rfl, ho4, hx4, hb4⟩
      go_wp2
      go_ret2
      have hO4 := hO.out.2.2.2
      rw [List.drop_zero, List.drop_zero] at hO4
      have hdm := div_mod_of hO4 hxb
      exact ⟨_, _, _, _, _, _, _, _, rfl, ho4.base (Nat.le_trans hB.size hbr.size), (ho.next hb4).base (Nat.le_trans hB.size hB0.size), Lib.hid ⟨by rw [hx4.out, hdm.1, HBV.out, HV.out.1, HV.out.2], by rw [hdm.2, HBV.out, HV.out.1, HV.out.2]⟩, (hB.trans (hbr.mono hB.size)).trans (hb4.mono (Nat.le_trans hB.size hbr.size))⟩
    · obtain ⟨t, rfl⟩ : ∃ t, k = t + 1 := ⟨k - 1, by omega⟩
      rcases hf1 with ⟨_, h2, _⟩ | ⟨g1, rfl, _, hgl, hc1, _⟩
      · omega
      obtain ⟨_, ad, e, _, hcell⟩ := hr1.at_ t (Dg.ld M1 t) (Dg.get_of_ld (by rw [HL1.out]; omega))
      injection e with e
      subst e
      have hzl : Dg.ld M1 t < 4294967296 := Dg.ld_word hr1.wd t
      obtain ⟨z, hz⟩ : ∃ z, z = Dg.ld M1 t := ⟨_, rfl⟩
      rw [← hz] at hcell hzl
      have HZ := Lib.hid hz
      clear hz
      rw [add_base] at hcell
      have hcellr := (hbr.cell (p := ⟨g1, t, none⟩) hgl).trans hcell
      go_wp2_with fail
      refine (shift_any z ho.rd ho.nilOk (by omega) hzl).mono ?_
      rintro _ W4 ⟨A4, m4, c4, r, rfl, ho4, hr, hb4⟩
      have hrb : r < 4294967296 * b := by
        have e := hr.out
        rw [Dg.val_dg] at e
        have := Nat.mul_le_mul_left 4294967296 (show x + 1 ≤ b by omega)
        omega
      have hm4 : m4 ≤ m2 + 1 := ho4.short (Nat.lt_of_lt_of_le hrb (Nat.le_of_lt (shift_lt (by rw [HBV.out, ← HL2.out]; exact Dg.val_lt hr2.wd))))
      have hbr4 := hbr.trans (hb4.mono hbr.size)
      go_wp2_with fail
      refine (refCmp_any ho4.rd (hr2.next hbr4) (by omega) (by omega)).mono ?_
      rintro _ _ ⟨cv, rfl, hcv, rfl⟩
      rcases Nat.lt_or_ge r b with hlt | hge
      · have ecv : cv = -1 := by rw [hcv.out, Dg.val_dg, ← HBV.out, Dg.cmp_lt hlt]
        subst ecv
        go_wp2
        go_roundw
        case rel =>
          have hO4 := hO.out
          exact ⟨t, m4, c4, r, A4, O, by go_num, rfl, by omega, ho4.base hs3, hlt, hU.below hb4 hU.lt, Lib.hid ⟨hO4.1, hO4.2.1, fun z hz => hO4.2.2.1 z (by omega), by rw [hr.out, Dg.val_dg, HZ.out]; exact skip_step (by rw [HL1.out]; omega) (by rw [hO4.1]; omega) (hO4.2.2.1 t (by omega)) hO4.2.2.2⟩, hbr4, Nat.le_trans hs3 hb4.size⟩
        case measure => simp [intOf]
      · have ecv : ¬ cv < 0 := by
          rw [hcv.out, Dg.val_dg, ← HBV.out]
          unfold Dg.cmp
          rw [if_neg (by omega)]
          split <;> omega
        clear hcv
        go_wp2_with fail
        go_loopw [9, 10] (fun dv jv wi => ∃ (d j : Nat), dv = .int .u32 d ∧ jv = .int .i64 ((j : Int) - 1) ∧ j ≤ 32 ∧ Hid (DivBit b r d j) ∧ Below W4.heap.size W4 wi) (fun _ jv _ => (intOf jv + 1).toNat)
        case atStart => exact ⟨0, 32, rfl, rfl, Nat.le_refl _, Lib.hid (by rw [hr.out, Dg.val_dg]; exact DivBit.start hxb hzl), Below.refl _ _⟩
        case round =>
          obtain ⟨d, j, rfl, rfl, hj, hD, hbi⟩ := hrel
          rcases Nat.eq_zero_or_pos j with h1 | h1
          · subst h1
            have hfin := hD.out.fin
            have hdl := hfin.2.2.2
            have HFIN := Lib.hid hfin
            clear hfin
            have hU4 := hU.below hb4 hU.lt
            have hUi := hU4.below hbi hU4.lt
            have hcello := hUi.cell (Dg.get_of_ld (L := O) (i := t) (by rw [hO.out.1]; omega))
            have hfz := hUi.frozen t
            have hU5 := hUi.set t d
            have hbr5 := (hbr4.trans (hbi.mono hbr4.size)).setCell (p := ⟨g, t, none⟩) (by show W2.heap.size ≤ g; have := HG.out; omega) (.int .u32 d)
            have ho5 := ((ho4.next hbi).base hs3).far (p := ⟨g, t, none⟩) (by show g < _; exact hgW) (.int .u32 d)
            have hsz : W4.heap.size ≤ (wr.setCell ⟨g, t, none⟩ (.int .u32 d)).heap.size := by
              have := hbi.size
              simp [World.setCell]
              exact this
            go_wp2_with fail
            generalize wr.setCell ⟨g, t, none⟩ (.int .u32 d) = W5 at hU5 hbr5 ho5 hsz ⊢
            refine (refSmall_any d (hr2.next hbr5) (by omega) hdl).mono ?_
            rintro _ W6 ⟨A6, m6, c6, x6, rfl, ho6, hx6, hb6⟩
            go_wp2_with fail
            refine (refNSub_any (ho5.next hb6).rd ho6.rd (by omega) (by rw [Dg.val_dg, Dg.val_dg, hx6.out, ← HBV.out, Nat.mul_comm]; exact HFIN.out.2.1)).mono ?_
            rintro _ W7 ⟨A7, m7, c7, x7, rfl, ho7, hx7, hb7⟩
            have hx7' : x7 = r - d * b := by rw [hx7.out, Dg.val_dg, Dg.val_dg, hx6.out, ← HBV.out, Nat.mul_comm]
            have hbb := hb6.trans (hb7.mono hb6.size)
            go_wp2
            go_roundw
            case rel =>
              have hO4 := hO.out
              have hW5 : W3.heap.size ≤ W5.heap.size := Nat.le_trans hs3 (Nat.le_trans hb4.size hsz)
              have hr' : r = Dg.ld M1 t + 4294967296 * x := by rw [hr.out, Dg.val_dg, HZ.out]
              exact ⟨t, m7, c7, x7, A7, O.set t d, by go_num, rfl, by omega, ho7.base (Nat.le_trans hW5 hb6.size), by rw [hx7']; exact HFIN.out.2.2.1, hU5.below hbb hU5.lt, Lib.hid ⟨by rw [List.length_set]; exact hO4.1, hO4.2.1.set t hdl, fun z hz => by rw [Dg.ld_set_other d (by omega)]; exact hO4.2.2.1 z (by omega), by rw [hx7']; exact dig_step (by rw [HL1.out]; omega) (by rw [hO4.1]; omega) hr' HFIN.out.1 hO4.2.2.2⟩, hbr5.trans (hbb.mono hbr5.size), Nat.le_trans hW5 hbb.size⟩
            case measure => simp [intOf]
          · obtain ⟨i, rfl⟩ : ∃ i, j = i + 1 := ⟨j - 1, by omega⟩
            have hor := or_bit hD.out (show i < 32 by omega)
            have hjn := hD.out.join.1
            have hbr5 := hbr4.trans (hbi.mono hbr4.size)
            obtain ⟨y, hy⟩ : ∃ y, y = d + 2 ^ i := ⟨_, rfl⟩
            rw [← hy] at hor hjn
            have HY := Lib.hid hy
            clear hy
            go_wp2_with fail
            refine (refSmall_any y (hr2.next hbr5) (by omega) hjn).mono ?_
            rintro _ W6 ⟨A6, m6, c6, x6, rfl, ho6, hx6, hb6⟩
            have hm6 : m6 ≤ m2 + 1 := ho6.short (by rw [hx6.out]; exact Nat.mul_lt_mul'' (HL2.out ▸ Dg.val_lt hr2.wd) hjn)
            go_wp2_with fail
            refine (refCmp_any ho6.rd ((ho4.next hbi).next hb6).rd (by omega) (by omega)).mono ?_
            rintro _ _ ⟨cw, rfl, hcw, rfl⟩
            have hbi6 := hbi.trans (hb6.mono hbi.size)
            rcases Nat.lt_or_ge r (y * b) with hgt | hle
            · have ecw : cw = 1 := by rw [hcw.out, Dg.val_dg, Dg.val_dg, hx6.out, ← HBV.out, Nat.mul_comm, Dg.cmp_gt hgt]
              subst ecw
              go_wp2
              go_roundw
              case rel => exact ⟨d, i, rfl, by go_num, by omega, Lib.hid (hD.out.no (by rw [← HY.out]; exact hgt)), hbi6⟩
              case measure => simp [intOf]
            · have ecw : cw ≤ 0 := by
                rw [hcw.out, Dg.val_dg, Dg.val_dg, hx6.out, ← HBV.out, Nat.mul_comm]
                unfold Dg.cmp
                split
                · omega
                · rw [if_pos (by omega)]; omega
              clear hcw
              go_wp2
              go_roundw
              case rel => exact ⟨y, i, rfl, by go_num, by omega, Lib.hid (by rw [HY.out]; exact hD.out.yes (by rw [← HY.out]; exact hle)), hbi6⟩
              case measure => simp [intOf]
end Go.Proofs.YtipbpdiahemmpaaGreat
