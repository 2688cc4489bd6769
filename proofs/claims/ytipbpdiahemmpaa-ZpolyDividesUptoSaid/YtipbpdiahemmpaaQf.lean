/- The reference's natural numbers, eighth part: quotient and what is left. -/
import Derived.Test.YtipbpdiahemmpaaQe
import Derived.Test.YtipbpdiahemmpaaQc
import Derived.Deep.LoopGhost
import Derived.Test.YtipbpdiahemmpaaQb
import Derived.Deep.CutBlock
import Derived.Deep.CutRange
namespace Go.Proofs.Ytipbpdiahemmpaa
open Go.RowKit Go.IntWalk

/-- What the bits of a digit keep: j bits are left. -/
def DivBit (b r d j : Nat) : Prop := 2 ^ j ∣ d ∧ d * b ≤ r ∧ r < (d + 2 ^ j) * b ∧ d + 2 ^ j ≤ 4294967296
theorem DivBit.start {b x z : Nat} (hx : x < b) (hz : z < 4294967296) : DivBit b (z + 4294967296 * x) 0 32 := by
  refine ⟨Nat.dvd_zero _, by omega, ?_, by decide⟩
  have := Nat.mul_le_mul_left 4294967296 (show x + 1 ≤ b by omega)
  rw [show (0 + 2 ^ 32) * b = 4294967296 * b by rw [Nat.zero_add]]
  omega
theorem DivBit.yes {b r d k : Nat} (h : DivBit b r d (k + 1)) (hle : (d + 2 ^ k) * b ≤ r) : DivBit b r (d + 2 ^ k) k := by
  obtain ⟨h1, h2, h3, h4⟩ := h
  rw [Nat.pow_succ] at h1 h3 h4
  have e : d + 2 ^ k + 2 ^ k = d + 2 ^ k * 2 := by omega
  exact ⟨(Nat.dvd_add_iff_left (Nat.dvd_refl _)).1 (Nat.dvd_trans (Nat.dvd_mul_right _ _) h1), hle, by rw [e]; exact h3, by rw [e]; exact h4⟩
theorem DivBit.no {b r d k : Nat} (h : DivBit b r d (k + 1)) (hle : r < (d + 2 ^ k) * b) : DivBit b r d k := by
  obtain ⟨h1, h2, h3, h4⟩ := h
  rw [Nat.pow_succ] at h1 h4
  exact ⟨Nat.dvd_trans (Nat.dvd_mul_right _ _) h1, h2, hle, by omega⟩
theorem DivBit.join {b r d k : Nat} (h : DivBit b r d (k + 1)) : d + 2 ^ k < 4294967296 ∧ d ||| 2 ^ k = d + 2 ^ k := by
  obtain ⟨h1, _, _, h4⟩ := h
  have hp := Nat.two_pow_pos k
  rw [Nat.pow_succ] at h4
  refine ⟨by omega, nat_join (k + 1) _ _ ?_ (by rw [Nat.pow_succ]; omega)⟩
  exact Nat.mod_eq_zero_of_dvd h1
theorem DivBit.fin {b r d : Nat} (h : DivBit b r d 0) : d = r / b ∧ d * b ≤ r ∧ r - d * b < b ∧ d < 4294967296 := by
  obtain ⟨_, h2, h3, h4⟩ := h
  rw [Nat.pow_zero] at h3 h4
  have e : (d + 1) * b = d * b + b := by grind
  refine ⟨?_, h2, by omega, by omega⟩
  exact (Nat.div_eq_of_lt_le h2 h3).symm
theorem OwU.far {w : World} {b : Nat} {A : Option Addr} {n c : Nat} {L : List Nat} (h : OwU w b A n c L) {p : Addr} (hp : p.block < b) (u : Value) : OwU (w.setCell p u) b A n c L := by
  refine ⟨⟨h.own.1, ?_⟩, h.wd⟩
  rcases h.own.2 with h0 | ⟨g, cap, cur, h1, h2, h3, h4⟩
  · exact .inl h0
  · exact .inr ⟨g, cap, cur, h1, h2, (Below.heap_setCell w p u g (by omega)).trans h3, h4⟩
theorem or_bit {b r d i : Nat} (h : DivBit b r d (i + 1)) (hi : i < 32) : bits .or .u32 (d : Int) ((2 : Int) ^ i % 4294967296) = ((d + 2 ^ i : Nat) : Int) := by
  have h31 := pow_le31 hi
  have e : (2 : Int) ^ i % 4294967296 = ((2 ^ i : Nat) : Int) := by
    have : ((2 ^ i : Nat) : Int) = (2 : Int) ^ i := by simp
    rw [← this]
    generalize 2 ^ i = y at *
    omega
  have hj := h.join
  rw [e, u32_or_nat _ _ (by omega) (by omega), hj.2]
theorem skip_step {L O : List Nat} {t b x : Nat} (hL : t < L.length) (hO : t < O.length) (h0 : Dg.ld O t = 0) (hI : Dg.val (O.drop (t + 1)) * b + x = Dg.val (L.drop (t + 1))) :
    Dg.val (O.drop t) * b + (Dg.ld L t + 4294967296 * x) = Dg.val (L.drop t) := by
  rw [Dg.val_drop hL, Dg.val_drop hO, h0, ← hI]
  grind
theorem dig_step {L O : List Nat} {t b x r d : Nat} (hL : t < L.length) (hO : t < O.length) (hr : r = Dg.ld L t + 4294967296 * x) (hd : d = r / b) (hI : Dg.val (O.drop (t + 1)) * b + x = Dg.val (L.drop (t + 1))) :
    Dg.val ((O.set t d).drop t) * b + (r - d * b) = Dg.val (L.drop t) := by
  have e : x * 4294967296 + Dg.ld L t = r := by omega
  have hs := Dg.short_step hL hO hI (q := d) (by rw [e, hd])
  rw [e] at hs
  have h := Nat.div_add_mod r b
  have e2 : r - d * b = r % b := by
    rw [hd, Nat.mul_comm (r / b) b]
    omega
  rw [e2]
  exact hs
theorem div_mod_of {q b x a : Nat} (h : q * b + x = a) (hx : x < b) : q = a / b ∧ x = a % b := by
  subst h
  have hb : 0 < b := by omega
  exact ⟨by rw [Nat.add_comm, Nat.add_mul_div_right _ _ hb, Nat.div_eq_of_lt hx, Nat.zero_add], by rw [Nat.add_comm, Nat.add_mul_mod_self_right, Nat.mod_eq_of_lt hx]⟩

/-- Quotient and what is left, both in own memory. -/
def RetND (q r : Nat) (w : World) (e : Ending) (w' : World) : Prop :=
  ∃ (A A' : Option Addr) (m c m' c' x y : Nat), e = .returned (.tuple #[.slice A m c, .slice A' m' c']) ∧ OwU w' w.heap.size A m c (Dg.dg x) ∧ OwU w' w.heap.size A' m' c' (Dg.dg y) ∧ Hid (x = q ∧ y = r) ∧ Below w.heap.size w w'

set_option maxRecDepth 100000 in
set_option maxHeartbeats 2000000 in
theorem refNDiv_any {A A' : Option Addr} {n c n' c' : Nat} {L L' : List Nat} {w : World} (h : RdU w w.heap.size A n c L) (h' : RdU w w.heap.size A' n' c' L') (hn : n ≤ 4398046511103) (hn' : n' ≤ 4398046511103) (hpos : 0 < Dg.val L') :
    Calls Try.prog 78 #[.slice A n c, .slice A' n' c'] w (RetND (Dg.val L / Dg.val L') (Dg.val L % Dg.val L') w) := by
  have HLEN := Lib.hid h.len
  have HLEN' := Lib.hid h'.len
  go_enter Try.func78, Try.ntmps78
  go_wp2_with fail
  refine (refNorm_any h (by omega)).mono ?_
  rintro _ W1 ⟨A1, m1, c1, x1, rfl, ho1, hx1, hb1⟩
  go_wp2_with fail
  refine (refNorm_any (h'.next hb1) (by omega)).mono ?_
  rintro _ W2 ⟨A2, m2, c2, x2, rfl, ho2, hx2, hb2⟩
  have hr1 := (ho1.next hb2).rd
  have hr2 := ho2.rd
  have hm1 : m1 ≤ n := by
    rw [← ho1.len, hx1.out, Dg.dg_len_lt, ← HLEN.out]; exact Dg.val_lt h.wd
  have hm2 : m2 ≤ n' := by
    rw [← ho2.len, hx2.out, Dg.dg_len_lt, ← HLEN'.out]; exact Dg.val_lt h'.wd
  have HV := Lib.hid (show Dg.val (Dg.dg x1) = Dg.val L ∧ Dg.val (Dg.dg x2) = Dg.val L' from ⟨by rw [Dg.val_dg, hx1.out], by rw [Dg.val_dg, hx2.out]⟩)
  have hB := hb1.trans (hb2.mono hb1.size)
  have hf1 := (ho1.next hb2).form
  clear ho1 ho2 hx1 hx2 hb1 hb2
  generalize Dg.dg x1 = M1 at hr1 HV hf1
  generalize Dg.dg x2 = M2 at hr2 HV
  obtain ⟨b, hb⟩ : ∃ b, b = Dg.val M2 := ⟨_, rfl⟩
  have HBV := Lib.hid hb
  have hb0 : 0 < b := by rw [hb, HV.out.2]; exact hpos
  clear hb
  have HL1 := Lib.hid hr1.len
  have HL2 := Lib.hid hr2.len
  have hmk := make_nat m1 (by omega)
  have hB0 := (Below.refl W2.heap.size W2).alloc (Nat.le_refl _) (.cells (madeCells #[.int .u32 0] m1) 80)
  have hU0 := UB.made W2 m1
  go_wp2_with fail
  generalize W2.alloc (.cells (madeCells #[.int .u32 0] m1) 80) = W3 at hB0 hU0 ⊢
  clear hmk
  obtain ⟨g, hg⟩ : ∃ g, g = W2.heap.size := ⟨_, rfl⟩
  rw [← hg] at hU0 ⊢
  have HG := Lib.hid hg
  clear hg
  have hgW := hU0.lt
  go_wp2_with fail
  go_loopw [7, 8] (fun ov iv wr => ∃ (k m c x : Nat) (A : Option Addr) (O : List Nat), iv = .int .i64 ((k : Int) - 1) ∧ ov = .slice A m c ∧ k ≤ m1 ∧ OwU wr W3.heap.size A m c (Dg.dg x) ∧ x < b ∧ UB wr g O ∧ Hid (O.length = m1 ∧ Dg.Wd O ∧ (∀ z, z < k → Dg.ld O z = 0) ∧ Dg.val (O.drop k) * b + x = Dg.val (M1.drop k)) ∧ Below W2.heap.size W2 wr ∧ W3.heap.size ≤ wr.heap.size) (fun _ iv _ => (intOf iv + 1).toNat)
  case atStart => exact ⟨m1, 0, 0, 0, none, _, rfl, rfl, Nat.le_refl _, by rw [Dg.dg_zero]; exact OwU.nil _ _, hb0, hU0, Lib.hid ⟨by simp, Dg.Wd.zeros _, fun z _ => Dg.ld_replicate _ _, by rw [List.drop_of_length_le (by simp), List.drop_of_length_le (by rw [HL1.out]; exact Nat.le_refl _)]; simp [Dg.val]⟩, hB0, Nat.le_refl _⟩
  case round =>
    obtain ⟨k, m, c0, x, A0, O, rfl, rfl, hk, ho, hxb, hU, hO, hbr, hs3⟩ := hrel
    have hm : m ≤ m2 := by
      rw [← ho.len, Dg.dg_len_lt, ← HL2.out]
      have := Dg.val_lt hr2.wd
      have := HBV.out
      omega
    rcases Nat.eq_zero_or_pos k with h0 | h0
    · subst h0
      have hO3 := hU.rd hO.out.2.1 hU.lt (k := m1) (by rw [hO.out.1]; exact Nat.le_refl _) (by rw [hO.out.1]; unfold maxLen; omega)
      rw [hO.out.1, List.take_of_length_le (by rw [hO.out.1]; exact Nat.le_refl _)] at hO3
      go_wp2_with fail
      refine (refNorm_any hO3 (by omega)).mono ?_
      rintro _ W4 ⟨A4, m4, c4, x4, rfl, ho4, hx4, hb4⟩
      go_wp2
      go_ret2
      have hO4 := hO.out.2.2.2
      rw [List.drop_zero, List.drop_zero] at hO4
      have hdm := div_mod_of hO4 hxb
      exact ⟨_, _, _, _, _, _, _, _, rfl, ho4.base (Nat.le_trans hB.size hbr.size), (ho.next hb4).base (Nat.le_trans hB.size hB0.size), Lib.hid ⟨by rw [hx4.out, hdm.1, HBV.out, HV.out.1, HV.out.2], by rw [hdm.2, HBV.out, HV.out.1, HV.out.2]⟩, (hB.trans (hbr.mono hB.size)).trans (hb4.mono (Nat.le_trans hB.size hbr.size))⟩
    · obtain ⟨t, rfl⟩ : ∃ t, k = t + 1 := ⟨k - 1, by omega⟩
      rcases hf1 with ⟨_, h2, _⟩ | ⟨g1, rfl, _, hgl, hc1, _⟩
      · omega
      obtain ⟨_, ad, e, _, hcell⟩ := hr1.at_ t (Dg.ld M1 t) (Dg.get_of_ld (by rw [HL1.out]; omega))
      injection e with e
      subst e
      have hzl : Dg.ld M1 t < 4294967296 := Dg.ld_word hr1.wd t
      obtain ⟨z, hz⟩ : ∃ z, z = Dg.ld M1 t := ⟨_, rfl⟩
      rw [← hz] at hcell hzl
      have HZ := Lib.hid hz
      clear hz
      rw [add_base] at hcell
      have hcellr := (hbr.cell (p := ⟨g1, t, none⟩) hgl).trans hcell
      go_wp2_with fail
      refine (shift_any z ho.rd ho.nilOk (by omega) hzl).mono ?_
      rintro _ W4 ⟨A4, m4, c4, r, rfl, ho4, hr, hb4⟩
      have hrb : r < 4294967296 * b := by
        have e := hr.out
        rw [Dg.val_dg] at e
        have := Nat.mul_le_mul_left 4294967296 (show x + 1 ≤ b by omega)
        omega
      have hm4 : m4 ≤ m2 + 1 := ho4.short (Nat.lt_of_lt_of_le hrb (Nat.le_of_lt (shift_lt (by rw [HBV.out, ← HL2.out]; exact Dg.val_lt hr2.wd))))
      have hbr4 := hbr.trans (hb4.mono hbr.size)
      go_wp2_with fail
      refine (refCmp_any ho4.rd (hr2.next hbr4) (by omega) (by omega)).mono ?_
      rintro _ _ ⟨cv, rfl, hcv, rfl⟩
      rcases Nat.lt_or_ge r b with hlt | hge
      · have ecv : cv = -1 := by rw [hcv.out, Dg.val_dg, ← HBV.out, Dg.cmp_lt hlt]
        subst ecv
        go_wp2
        go_roundw
        case rel =>
          have hO4 := hO.out
          exact ⟨t, m4, c4, r, A4, O, by go_num, rfl, by omega, ho4.base hs3, hlt, hU.below hb4 hU.lt, Lib.hid ⟨hO4.1, hO4.2.1, fun z hz => hO4.2.2.1 z (by omega), by rw [hr.out, Dg.val_dg, HZ.out]; exact skip_step (by rw [HL1.out]; omega) (by rw [hO4.1]; omega) (hO4.2.2.1 t (by omega)) hO4.2.2.2⟩, hbr4, Nat.le_trans hs3 hb4.size⟩
        case measure => simp [intOf]
      · have ecv : ¬ cv < 0 := by
          rw [hcv.out, Dg.val_dg, ← HBV.out]
          unfold Dg.cmp
          rw [if_neg (by omega)]
          split <;> omega
        clear hcv
        go_wp2_with fail
        go_loopw [9, 10] (fun dv jv wi => ∃ (d j : Nat), dv = .int .u32 d ∧ jv = .int .i64 ((j : Int) - 1) ∧ j ≤ 32 ∧ Hid (DivBit b r d j) ∧ Below W4.heap.size W4 wi) (fun _ jv _ => (intOf jv + 1).toNat)
        case atStart => exact ⟨0, 32, rfl, rfl, Nat.le_refl _, Lib.hid (by rw [hr.out, Dg.val_dg]; exact DivBit.start hxb hzl), Below.refl _ _⟩
        case round =>
          obtain ⟨d, j, rfl, rfl, hj, hD, hbi⟩ := hrel
          rcases Nat.eq_zero_or_pos j with h1 | h1
          · subst h1
            have hfin := hD.out.fin
            have hdl := hfin.2.2.2
            have HFIN := Lib.hid hfin
            clear hfin
            have hU4 := hU.below hb4 hU.lt
            have hUi := hU4.below hbi hU4.lt
            have hcello := hUi.cell (Dg.get_of_ld (L := O) (i := t) (by rw [hO.out.1]; omega))
            have hfz := hUi.frozen t
            have hU5 := hUi.set t d
            have hbr5 := (hbr4.trans (hbi.mono hbr4.size)).setCell (p := ⟨g, t, none⟩) (by show W2.heap.size ≤ g; have := HG.out; omega) (.int .u32 d)
            have ho5 := ((ho4.next hbi).base hs3).far (p := ⟨g, t, none⟩) (by show g < _; exact hgW) (.int .u32 d)
            have hsz : W4.heap.size ≤ (wr.setCell ⟨g, t, none⟩ (.int .u32 d)).heap.size := by
              have := hbi.size
              simp [World.setCell]
              exact this
            go_wp2_with fail
            generalize wr.setCell ⟨g, t, none⟩ (.int .u32 d) = W5 at hU5 hbr5 ho5 hsz ⊢
            refine (refSmall_any d (hr2.next hbr5) (by omega) hdl).mono ?_
            rintro _ W6 ⟨A6, m6, c6, x6, rfl, ho6, hx6, hb6⟩
            go_wp2_with fail
            refine (refNSub_any (ho5.next hb6).rd ho6.rd (by omega) (by rw [Dg.val_dg, Dg.val_dg, hx6.out, ← HBV.out, Nat.mul_comm]; exact HFIN.out.2.1)).mono ?_
            rintro _ W7 ⟨A7, m7, c7, x7, rfl, ho7, hx7, hb7⟩
            have hx7' : x7 = r - d * b := by rw [hx7.out, Dg.val_dg, Dg.val_dg, hx6.out, ← HBV.out, Nat.mul_comm]
            have hbb := hb6.trans (hb7.mono hb6.size)
            go_wp2
            go_roundw
            case rel =>
              have hO4 := hO.out
              have hW5 : W3.heap.size ≤ W5.heap.size := Nat.le_trans hs3 (Nat.le_trans hb4.size hsz)
              have hr' : r = Dg.ld M1 t + 4294967296 * x := by rw [hr.out, Dg.val_dg, HZ.out]
              exact ⟨t, m7, c7, x7, A7, O.set t d, by go_num, rfl, by omega, ho7.base (Nat.le_trans hW5 hb6.size), by rw [hx7']; exact HFIN.out.2.2.1, hU5.below hbb hU5.lt, Lib.hid ⟨by rw [List.length_set]; exact hO4.1, hO4.2.1.set t hdl, fun z hz => by rw [Dg.ld_set_other d (by omega)]; exact hO4.2.2.1 z (by omega), by rw [hx7']; exact dig_step (by rw [HL1.out]; omega) (by rw [hO4.1]; omega) hr' HFIN.out.1 hO4.2.2.2⟩, hbr5.trans (hbb.mono hbr5.size), Nat.le_trans hW5 hbb.size⟩
            case measure => simp [intOf]
          · obtain ⟨i, rfl⟩ : ∃ i, j = i + 1 := ⟨j - 1, by omega⟩
            have hor := or_bit hD.out (show i < 32 by omega)
            have hjn := hD.out.join.1
            have hbr5 := hbr4.trans (hbi.mono hbr4.size)
            obtain ⟨y, hy⟩ : ∃ y, y = d + 2 ^ i := ⟨_, rfl⟩
            rw [← hy] at hor hjn
            have HY := Lib.hid hy
            clear hy
            go_wp2_with fail
            refine (refSmall_any y (hr2.next hbr5) (by omega) hjn).mono ?_
            rintro _ W6 ⟨A6, m6, c6, x6, rfl, ho6, hx6, hb6⟩
            have hm6 : m6 ≤ m2 + 1 := ho6.short (by rw [hx6.out]; exact Nat.mul_lt_mul'' (HL2.out ▸ Dg.val_lt hr2.wd) hjn)
            go_wp2_with fail
            refine (refCmp_any ho6.rd ((ho4.next hbi).next hb6).rd (by omega) (by omega)).mono ?_
            rintro _ _ ⟨cw, rfl, hcw, rfl⟩
            have hbi6 := hbi.trans (hb6.mono hbi.size)
            rcases Nat.lt_or_ge r (y * b) with hgt | hle
            · have ecw : cw = 1 := by rw [hcw.out, Dg.val_dg, Dg.val_dg, hx6.out, ← HBV.out, Nat.mul_comm, Dg.cmp_gt hgt]
              subst ecw
              go_wp2
              go_roundw
              case rel => exact ⟨d, i, rfl, by go_num, by omega, Lib.hid (hD.out.no (by rw [← HY.out]; exact hgt)), hbi6⟩
              case measure => simp [intOf]
            · have ecw : cw ≤ 0 := by
                rw [hcw.out, Dg.val_dg, Dg.val_dg, hx6.out, ← HBV.out, Nat.mul_comm]
                unfold Dg.cmp
                split
                · omega
                · rw [if_pos (by omega)]; omega
              clear hcw
              go_wp2
              go_roundw
              case rel => exact ⟨y, i, rfl, by go_num, by omega, Lib.hid (by rw [HY.out]; exact hD.out.yes (by rw [← HY.out]; exact hle)), hbi6⟩
              case measure => simp [intOf]
end Go.Proofs.Ytipbpdiahemmpaa

/- nat: the quotient and the rest; the greatest common divisor. -/
namespace Go.Proofs.Ytipbpdiahemmpaa
open Go.RowKit Go.IntWalk

/-- Quotient, rest and no error come back. -/
def RetNE (q r : Nat) (w : World) (e : Ending) (w' : World) : Prop :=
  ∃ (A A' : Option Addr) (m c m' c' x y : Nat), e = .returned (.tuple #[.slice A m c, .slice A' m' c', .int .i64 0]) ∧ OwU w' w.heap.size A m c (Dg.dg x) ∧ OwU w' w.heap.size A' m' c' (Dg.dg y) ∧ Hid (x = q ∧ y = r) ∧ Below w.heap.size w w'
theorem drewN_below (w : World) (d : Nat) : Below w.heap.size w (w.drewN d) := by
  have h := Below.refl w.heap.size w
  exact ⟨h.os, h.tape, h.output, h.size, h.block⟩
theorem dg_len_mono {x y : Nat} (h : x ≤ y) : (Dg.dg x).length ≤ (Dg.dg y).length := Dg.dg_len_lt.2 (Nat.lt_of_le_of_lt h (Dg.dg_len_lt.1 (Nat.le_refl _)))

set_option maxHeartbeats 2000000 in
theorem nDiv_zero {A A' : Option Addr} {n c n' c' : Nat} {L L' : List Nat} {w : World} (h : RdU w w.heap.size A n c L) (h' : RdU w w.heap.size A' n' c' L') (hn : n ≤ 1000000000000) (hn' : n' ≤ 1000000000000) (hp : Dg.val L' = 0) :
    Calls Try.prog 76 #[.slice A n c, .slice A' n' c'] w fun e w' => e = .returned (.tuple #[.slice none 0 0, .slice none 0 0, .int .i64 5]) ∧ w = w' := by
  go_enter Try.func76, Try.ntmps76
  go_wp2_with fail
  refine (trim_any h (by omega)).mono ?_
  rintro _ _ ⟨k, rfl, hk, rfl⟩
  go_wp2_with fail
  refine (trim_any h' (by omega)).mono ?_
  rintro _ _ ⟨k', rfl, hk', rfl⟩
  have e : k' = 0 := by
    have e := hk'.out.2
    rw [hp, Dg.dg_zero] at e
    have e1 := congrArg List.length e
    rw [List.length_take] at e1
    have h2 := hk'.out.1
    rw [show ([] : List Nat).length = 0 from rfl] at e1
    omega
  subst e
  clear hk hk' hp
  go_wp2
  go_ret3
  exact ⟨rfl, rfl⟩

set_option maxRecDepth 100000 in
set_option maxHeartbeats 2000000 in
theorem nDiv_any {A A' : Option Addr} {n c n' c' : Nat} {L L' : List Nat} {w : World} (h : RdU w w.heap.size A n c L) (h' : RdU w w.heap.size A' n' c' L') (hn : n ≤ 1000000000000) (hn' : n' ≤ 1000000000000) (hp : 0 < Dg.val L') :
    Calls Try.prog 76 #[.slice A n c, .slice A' n' c'] w (RetNE (Dg.val L / Dg.val L') (Dg.val L % Dg.val L') w) := by
  have hlen := Lib.hid h.len
  have hlen' := Lib.hid h'.len
  have HP := Lib.hid hp
  clear hp
  go_enter Try.func76, Try.ntmps76
  go_wp2_with fail
  refine (trim_any h (by omega)).mono ?_
  rintro _ _ ⟨k, rfl, hk, rfl⟩
  go_wp2_with fail
  refine (trim_any h' (by omega)).mono ?_
  rintro _ _ ⟨k', rfl, hk', rfl⟩
  have hkn : k ≤ n := by have := hk.out.1; rw [hlen.out] at this; exact this
  have hkn' : k' ≤ n' := by have := hk'.out.1; rw [hlen'.out] at this; exact this
  have hR := h.take hkn
  have hR' := h'.take hkn'
  have HV := Lib.hid (show Dg.val (L.take k) = Dg.val L ∧ Dg.val (L'.take k') = Dg.val L' from ⟨by rw [hk.out.2, Dg.val_dg], by rw [hk'.out.2, Dg.val_dg]⟩)
  have HN := Lib.hid (show L.take k = Dg.dg (Dg.val (L.take k)) ∧ L'.take k' = Dg.dg (Dg.val (L'.take k')) from ⟨by rw [HV.out.1]; exact hk.out.2, by rw [HV.out.2]; exact hk'.out.2⟩)
  clear hk hk' h h' hlen hlen'
  generalize L.take k = M at *
  generalize L'.take k' = M' at *
  have HL := Lib.hid (And.intro hR.len hR'.len)
  have hk0 : 0 < k' := by
    rcases Nat.eq_zero_or_pos k' with e | e
    · exfalso
      have e1 := HL.out.2
      rw [e, List.length_eq_zero_iff] at e1
      have e2 := HP.out
      rw [← HV.out.2, e1] at e2
      exact absurd e2 (by decide)
    · exact e
  have hq0 : ((k' : Int) == 0) = false := by simp; omega
  go_wp2_with fail
  refine (cmp_any hR hR' (by omega) (by omega)).mono ?_
  rintro _ _ ⟨z, rfl, hz, d, rfl⟩
  have hBd := drewN_below w d
  rcases Nat.lt_or_ge (Dg.val M) (Dg.val M') with hlt | hge
  · have e := hz.out.trans (Dg.cmp_lt hlt)
    have HLT := Lib.hid hlt
    clear hlt hz
    subst e
    go_wp2_with fail
    refine (own_any (hR.drewN d) (by omega)).mono ?_
    rintro _ W4 ⟨A4, m4, c4, x4, rfl, ho4, hx4, hb4⟩
    go_wp2
    go_ret3
    exact ⟨_, _, _, _, _, _, 0, x4, rfl, by rw [Dg.dg_zero]; exact OwU.nil _ _, ho4, Lib.hid ⟨by rw [← HV.out.1, ← HV.out.2, Nat.div_eq_of_lt HLT.out], by rw [hx4.out, ← HV.out.1, ← HV.out.2, Nat.mod_eq_of_lt HLT.out]⟩, hBd.trans hb4⟩
  · have HGE := Lib.hid hge
    have hz0 : 0 ≤ z := by
      rw [hz.out]
      rcases Nat.lt_or_eq_of_le hge with h1 | h1
      · rw [Dg.cmp_gt h1]; decide
      · rw [Dg.cmp_eq h1.symm]; decide
    have hzi : decide (z < 0) = false := by simp; omega
    have hkk : k' ≤ k := by
      have e := dg_len_mono hge
      rwa [← HN.out.1, ← HN.out.2, HL.out.1, HL.out.2] at e
    clear hge hz
    by_cases h1 : k' = 1
    · subst h1
      obtain ⟨hx, ad, rfl, hb, hc⟩ := (hR'.drewN d).at_ 0 (Dg.ld M' 0) (Dg.get_of_ld (by rw [HL.out.2]; decide))
      have HX := Lib.hid (show Dg.ld M' 0 = Dg.val M' by
        have e := HL.out.2
        match M', e with
        | [x], _ => simp [Dg.ld, Dg.val])
      have hx0 : 0 < Dg.ld M' 0 := by rw [HX.out, HV.out.2]; exact HP.out
      generalize Dg.ld M' 0 = x at *
      have hc0 : (w.drewN d).cell? ad = some (.int .u32 x) := by simpa [Addr.add] using hc
      clear hc hq0
      go_wp2_with fail
      refine (short_any x (hR.drewN d) (by omega) hx0 hx).mono ?_
      rintro _ W4 ⟨A4, m4, c4, x4, r4, rfl, ho4, hx4, hb4⟩
      have hr4 : r4 < 4294967296 := by rw [hx4.out.2]; exact Nat.lt_trans (Nat.mod_lt _ hx0) hx
      have hr4i : (r4 : Int) < 4294967296 := by omega
      go_wp2_with fail
      refine (nOf_any r4 (by simp) (by omega) W4).mono ?_
      rintro _ W5 ⟨A5, m5, c5, x5, rfl, ho5, hx5, hb5⟩
      go_wp2
      go_ret3
      exact ⟨_, _, _, _, _, _, x4, x5, rfl, ho4.next hb5, ho5.base hb4.size, Lib.hid ⟨by rw [hx4.out.1, HV.out.1, HX.out, HV.out.2], by rw [hx5.out, hx4.out.2, HV.out.1, HX.out, HV.out.2]⟩, hBd.trans (hb4.trans (hb5.mono hb4.size))⟩
    · obtain ⟨p, rfl⟩ : ∃ p, k' = p + 2 := ⟨k' - 2, by omega⟩
      obtain ⟨dd, rfl⟩ : ∃ dd, k = p + 2 + dd := ⟨k - (p + 2), by omega⟩
      have hq1 : (((p + 2 : Nat) : Int) == 1) = false := by simp; omega
      go_wp2_with fail
      refine (long_any p dd (hR.drewN d) (hR'.drewN d) (by omega) HN.out.1 HN.out.2).mono ?_
      rintro _ W4 ⟨A4, A5, m4, c4, m5, c5, x4, x5, rfl, ho4, ho5, hx4, hb4⟩
      go_wp2
      go_ret3
      exact ⟨_, _, _, _, _, _, x4, x5, rfl, ho4, ho5, Lib.hid (by rw [hx4.out.1, hx4.out.2, HV.out.1, HV.out.2]; exact ⟨rfl, rfl⟩), hBd.trans hb4⟩

end Go.Proofs.Ytipbpdiahemmpaa

/- nat: the product. -/
namespace Go.Proofs.Ytipbpdiahemmpaa
open Go.RowKit Go.IntWalk

theorem mul_bound {x y : Nat} (hx : x < 4294967296) (hy : y < 4294967296) : x * y ≤ 18446744065119617025 := by
  have := Nat.mul_le_mul (show x ≤ 4294967295 by omega) (show y ≤ 4294967295 by omega)
  simpa using this
theorem mul_inner {O O0 L' : List Nat} {i j x c T : Nat} (hO : i + j < O.length) (h : Dg.vf (Dg.ld O) (i + j) + c * 4294967296 ^ (i + j) = Dg.vf (Dg.ld O0) (i + j) + x * 4294967296 ^ i * Dg.vf (Dg.ld L') j)
    (he : Dg.ld O (i + j) = Dg.ld O0 (i + j)) (hT : T = x * Dg.ld L' j + Dg.ld O (i + j) + c) :
    Dg.vf (Dg.ld (O.set (i + j) (T % 4294967296))) (i + (j + 1)) + T / 4294967296 * 4294967296 ^ (i + (j + 1)) = Dg.vf (Dg.ld O0) (i + (j + 1)) + x * 4294967296 ^ i * Dg.vf (Dg.ld L') (j + 1) := by
  rw [show i + (j + 1) = i + j + 1 by omega, Dg.vf_succ, Dg.vf_succ, Dg.vf_succ, Dg.vf_set _ (Nat.le_refl _), Dg.ld_set_same _ hO, ← he]
  have hm : T = T % 4294967296 + 4294967296 * (T / 4294967296) := (Nat.mod_add_div T 4294967296).symm
  rw [Nat.pow_succ]
  have hp : 4294967296 ^ (i + j) = 4294967296 ^ i * 4294967296 ^ j := Nat.pow_add _ _ _
  generalize T % 4294967296 = r at *
  generalize T / 4294967296 = q at *
  generalize Dg.vf (Dg.ld O) (i + j) = v at *
  generalize Dg.vf (Dg.ld O0) (i + j) = v0 at *
  generalize Dg.vf (Dg.ld L') j = b at *
  generalize Dg.ld O (i + j) = o at *
  generalize Dg.ld L' j = y at *
  rw [hp] at h ⊢
  generalize 4294967296 ^ i = P at *
  generalize 4294967296 ^ j = R at *
  generalize (4294967296 : Nat) = B at *
  grind
theorem mul_outer {O O0 L L' : List Nat} {i n' c : Nat} (hO : i + n' < O.length) (h0 : Dg.vf (Dg.ld O0) (i + n') = Dg.vf (Dg.ld L) i * Dg.val L')
    (h : Dg.vf (Dg.ld O) (i + n') + c * 4294967296 ^ (i + n') = Dg.vf (Dg.ld O0) (i + n') + Dg.ld L i * 4294967296 ^ i * Dg.val L') :
    Dg.vf (Dg.ld (O.set (i + n') c)) (i + 1 + n') = Dg.vf (Dg.ld L) (i + 1) * Dg.val L' := by
  rw [show i + 1 + n' = i + n' + 1 by omega, Dg.vf_succ, Dg.vf_succ, Dg.vf_set _ (Nat.le_refl _), Dg.ld_set_same _ hO, h, h0]
  generalize Dg.vf (Dg.ld L) i = a
  generalize Dg.ld L i = x
  generalize Dg.val L' = v
  generalize 4294967296 ^ i = P
  grind

set_option maxRecDepth 100000 in
set_option maxHeartbeats 4000000 in
theorem nMul_any {A A' : Option Addr} {n c n' c' : Nat} {L L' : List Nat} {w : World} (h : RdU w w.heap.size A n c L) (h' : RdU w w.heap.size A' n' c' L') (hn : n ≤ 4398046511103) (hn' : n' ≤ 4398046511103) :
    Calls Try.prog 71 #[.slice A n c, .slice A' n' c'] w (RetN (Dg.val L * Dg.val L') w) := by
  have hlen := Lib.hid h.len
  have hlen' := Lib.hid h'.len
  go_enter Try.func71, Try.ntmps71
  go_wp2_with fail
  refine (trim_any h (by omega)).mono ?_
  rintro _ _ ⟨k, rfl, hk, rfl⟩
  go_wp2_with fail
  refine (trim_any h' (by omega)).mono ?_
  rintro _ _ ⟨k', rfl, hk', rfl⟩
  have hkn : k ≤ n := by have := hk.out.1; rw [hlen.out] at this; exact this
  have hkn' : k' ≤ n' := by have := hk'.out.1; rw [hlen'.out] at this; exact this
  have hR := h.take hkn
  have hR' := h'.take hkn'
  have HV := Lib.hid (show Dg.val (L.take k) = Dg.val L ∧ Dg.val (L'.take k') = Dg.val L' from ⟨by rw [hk.out.2, Dg.val_dg], by rw [hk'.out.2, Dg.val_dg]⟩)
  clear hk hk' h h' hlen hlen'
  generalize L.take k = M at *
  generalize L'.take k' = M' at *
  have HL := Lib.hid (And.intro hR.len hR'.len)
  rcases Nat.eq_zero_or_pos k with e | e
  · subst e
    have HZ := Lib.hid (show Dg.val L = 0 by rw [← HV.out.1, List.eq_nil_of_length_eq_zero HL.out.1]; rfl)
    go_wp2
    go_ret
    exact ⟨none, 0, 0, 0, rfl, by rw [Dg.dg_zero]; exact OwU.nil _ _, Lib.hid (by rw [HZ.out, Nat.zero_mul]), Below.refl _ _⟩
  rcases Nat.eq_zero_or_pos k' with e' | e'
  · subst e'
    have HZ := Lib.hid (show Dg.val L' = 0 by rw [← HV.out.2, List.eq_nil_of_length_eq_zero HL.out.2]; rfl)
    have hkb : ((k : Int) == 0) = false := by simp; omega
    go_wp2
    go_ret
    exact ⟨none, 0, 0, 0, rfl, by rw [Dg.dg_zero]; exact OwU.nil _ _, Lib.hid (by rw [HZ.out, Nat.mul_zero]), Below.refl _ _⟩
  have hkb : ((k : Int) == 0) = false := by simp; omega
  have hkb' : ((k' : Int) == 0) = false := by simp; omega
  obtain ⟨m, hm⟩ : ∃ m, m = k + k' := ⟨_, rfl⟩
  have hmi : (k : Int) + k' = m := by omega
  have hmx : m ≤ 8796093022206 := by omega
  have hmk := make_nat m (by omega)
  have hB0 := (Below.refl w.heap.size w).alloc (Nat.le_refl _) (.cells (madeCells #[.int .u32 0] m) 80)
  have hU0 := UB.made w m
  have HM := Lib.hid hm
  clear hm
  go_wp2_with fail
  generalize w.alloc (.cells (madeCells #[.int .u32 0] m) 80) = W1 at hB0 hU0 ⊢
  obtain ⟨g, hg⟩ : ∃ g, g = w.heap.size := ⟨_, rfl⟩
  rw [← hg] at hU0 ⊢
  have HG := Lib.hid hg
  clear hg hmk
  go_loopw [32] (fun iv wr => ∃ (i : Nat) (O : List Nat), iv = .int .i64 i ∧ i ≤ k ∧ UB wr g O ∧ Hid (O.length = m ∧ Dg.Wd O ∧ Dg.vf (Dg.ld O) (i + k') = Dg.vf (Dg.ld M) i * Dg.val M') ∧ Hid (∀ z, i + k' ≤ z → Dg.ld O z = 0) ∧ Below w.heap.size w wr) (fun iv _ => k - (intOf iv).toNat)
  case atStart =>
    refine ⟨0, _, rfl, Nat.zero_le _, hU0, Lib.hid ⟨by simp, Dg.Wd.zeros _, ?_⟩, Lib.hid fun z _ => Dg.ld_replicate _ _, hB0⟩
    rw [show Dg.vf (Dg.ld M) 0 = 0 from rfl, Nat.zero_mul]
    have e : ∀ t, Dg.vf (Dg.ld (List.replicate m 0)) t = 0 := by
      intro t
      induction t with
      | zero => rfl
      | succ t ih => rw [Dg.vf_succ, ih, Dg.ld_replicate]; simp
    exact e _
  case round =>
    clear hU0 hB0
    obtain ⟨i, O, rfl, hi, hU, hO, hZ, hB⟩ := hrel
    by_cases hik : i = k
    · subst hik
      have hO3 := hU.rd hO.out.2.1 hU.lt (k := m) (by rw [hO.out.1]; exact Nat.le_refl _) (by rw [hO.out.1]; unfold maxLen; omega)
      rw [hO.out.1, List.take_of_length_le (by rw [hO.out.1]; exact Nat.le_refl _)] at hO3
      go_wp2_with fail
      refine (own_any hO3 (by omega)).mono ?_
      rintro _ W4 ⟨A4, m4, c4, x4, rfl, ho4, hx4, hb4⟩
      go_wp2
      go_ret
      refine ⟨_, _, _, x4, rfl, ho4.base hB.size, Lib.hid ?_, hB.trans (hb4.mono hB.size)⟩
      have e1 := hO.out.2.2
      rw [Dg.vf_eq_val (by rw [hO.out.1, HM.out]; exact Nat.le_refl _), Dg.vf_eq_val (by rw [HL.out.1]; exact Nat.le_refl _)] at e1
      rw [hx4.out, e1, HV.out.1, HV.out.2]
    · have hil : i < k := by omega
      clear hik
      have hili : (i : Int) < (k : Int) := by omega
      obtain ⟨hx, ad, rfl, hbx, hcx⟩ := hR.at_ i _ (Dg.get_of_ld (by rw [HL.out.1]; exact hil))
      have hcx := (hB.cell (p := ad.add i) (by rw [add_blk]; exact hbx)).trans hcx
      obtain ⟨x, ex⟩ : ∃ x, x = Dg.ld M i := ⟨_, rfl⟩
      rw [← ex] at hx hcx
      have EX := Lib.hid ex
      clear ex
      have hx0 : (0 : Int) ≤ (x : Int) := by omega
      go_wp2_with fail
      go_loopw [8, 39] (fun cv jv wr => ∃ (j cy : Nat) (O' : List Nat), cv = .int .u64 cy ∧ jv = .int .i64 j ∧ j ≤ k' ∧ cy < 4294967296 ∧ UB wr g O' ∧ Hid (O'.length = m ∧ Dg.Wd O' ∧ Dg.vf (Dg.ld O') (i + j) + cy * 4294967296 ^ (i + j) = Dg.vf (Dg.ld O) (i + j) + x * 4294967296 ^ i * Dg.vf (Dg.ld M') j) ∧ Hid (∀ z, i + j ≤ z → Dg.ld O' z = Dg.ld O z) ∧ Below w.heap.size w wr) (fun _ jv _ => k' - (intOf jv).toNat)
      case atStart => exact ⟨0, 0, O, rfl, rfl, Nat.zero_le _, by omega, hU, Lib.hid ⟨hO.out.1, hO.out.2.1, by rw [show Dg.vf (Dg.ld M') 0 = 0 from rfl, Nat.zero_mul, Nat.mul_zero]⟩, Lib.hid fun _ _ => rfl, hB⟩
      case round =>
        clear hU hB hcx
        obtain ⟨j, cy, P, rfl, rfl, hj, hcy, hU, hP, hZP, hB⟩ := hrel
        by_cases hjk : j = k'
        · subst hjk
          obtain ⟨y, hy⟩ : ∃ y, y = i + j := ⟨_, rfl⟩
          have hyi : (i : Int) + j = (y : Int) := by omega
          have hyl : y < m := by rw [HM.out]; omega
          have hfz := hU.frozen y
          have hcell := hU.cell (Dg.get_of_ld (L := P) (i := y) (by rw [hP.out.1]; exact hyl))
          have HY := Lib.hid hy
          generalize Dg.ld P y = o0 at hcell
          have hU1 : UB (wr.setCell ⟨g, y, none⟩ (.int .u32 cy)) g (P.set y cy) := hU.set y cy
          have hB1 := hB.setCell (p := ⟨g, y, none⟩) (by show w.heap.size ≤ g; have := HG.out; omega) (.int .u32 cy)
          have hcyi : (cy : Int) % 4294967296 = (cy : Int) := by omega
          clear hy
          go_wp2
          go_roundw
          case rel => exact ⟨i + 1, _, by go_num, by omega, hU1, Lib.hid ⟨by rw [List.length_set]; exact hP.out.1, hP.out.2.1.set y hcy, by
            rw [HY.out]
            exact mul_outer (O0 := O) (by rw [hP.out.1, HM.out]; omega) hO.out.2.2 (by have e := hP.out.2.2; rw [Dg.vf_eq_val (L := M') (by rw [HL.out.2]; exact Nat.le_refl _)] at e; rw [← EX.out]; exact e)⟩, Lib.hid (fun z hz => by rw [Dg.ld_set_other _ (by have := HY.out; omega), hZP.out z (by omega)]; exact hZ.out z (by omega)), hB1⟩
          case measure => simp [intOf]; omega
        · have hjl : j < k' := by omega
          clear hjk
          have hjli : (j : Int) < (k' : Int) := by omega
          obtain ⟨hv, ad', rfl, hbv, hcv⟩ := hR'.at_ j _ (Dg.get_of_ld (by rw [HL.out.2]; exact hjl))
          have hcv := (hB.cell (p := ad'.add j) (by rw [add_blk]; exact hbv)).trans hcv
          obtain ⟨v, ev⟩ : ∃ v, v = Dg.ld M' j := ⟨_, rfl⟩
          rw [← ev] at hv hcv
          have EV := Lib.hid ev
          obtain ⟨y, hy⟩ : ∃ y, y = i + j := ⟨_, rfl⟩
          have hyi : (i : Int) + j = (y : Int) := by omega
          have hyl : y < m := by rw [HM.out]; omega
          have hfz := hU.frozen y
          have hcell := hU.cell (Dg.get_of_ld (L := P) (i := y) (by rw [hP.out.1]; exact hyl))
          have HY := Lib.hid hy
          obtain ⟨o0, eo⟩ : ∃ o, o = Dg.ld P y := ⟨_, rfl⟩
          rw [← eo] at hcell
          have hol : o0 < 4294967296 := by rw [eo]; exact Dg.ld_word hP.out.2.1 y
          have EO := Lib.hid eo
          obtain ⟨r, er⟩ : ∃ r, r = x * v := ⟨_, rfl⟩
          have hrl : r ≤ 18446744065119617025 := by rw [er]; exact mul_bound hx hv
          have hri : (x : Int) * v = (r : Int) := by rw [er]; simp
          have ER := Lib.hid er
          have HB := Lib.hid hB
          obtain ⟨T, eT⟩ : ∃ T, T = r + o0 + cy := ⟨_, rfl⟩
          have hw : IntKind.u64.wrap (IntKind.u64.wrap (IntKind.u64.wrap (IntKind.u64.wrap (x : Int) * IntKind.u64.wrap (v : Int)) + o0) + cy) = (T : Int) := by
            rw [IntWalk.u64_in (x : Int) (by omega), IntWalk.u64_in (v : Int) (by omega), hri, IntWalk.u64_in (r : Int) (by omega), IntWalk.u64_in ((r : Int) + o0) (by omega), IntWalk.u64_in _ (by omega)]
            omega
          have HW := Lib.hid hw
          have ET := Lib.hid eT
          have hq : ((T : Int) / 4294967296) = ((T / 4294967296 : Nat) : Int) := by simp
          have hr : ((T : Int) % 4294967296) = ((T % 4294967296 : Nat) : Int) := by simp
          have HQR := Lib.hid (And.intro hq hr)
          have hTl : T / 4294967296 < 4294967296 := by omega
          have HU1 := Lib.hid (show UB (wr.setCell ⟨g, y, none⟩ (.int .u32 ((T % 4294967296 : Nat) : Int))) g (P.set y (T % 4294967296)) from hU.set y (T % 4294967296))
          have HB1 := Lib.hid (hB.setCell (p := ⟨g, y, none⟩) (by show w.heap.size ≤ g; have := HG.out; omega) (.int .u32 ((T % 4294967296 : Nat) : Int)))
          have HI := Lib.hid (mul_inner (O := P) (O0 := O) (L' := M') (i := i) (j := j) (x := x) (c := cy) (T := T) (by rw [hP.out.1, HM.out]; omega) hP.out.2.2 (hZP.out _ (Nat.le_refl _)) (by rw [eT, er, ← EV.out, eo, hy]))
          clear ev hy eo er hx hv hri hw hq hr eT
          go_wp2_with fail
          rw [HW.out, HQR.out.1, HQR.out.2]
          go_roundw
          case rel => exact ⟨j + 1, T / 4294967296, P.set y (T % 4294967296), rfl, by go_num, by omega, hTl, HU1.out, Lib.hid ⟨by rw [List.length_set]; exact hP.out.1, hP.out.2.1.set y (Nat.mod_lt _ (by omega)), by rw [HY.out]; exact HI.out⟩, Lib.hid (fun z hz => by rw [Dg.ld_set_other _ (by have := HY.out; omega)]; exact hZP.out z (by omega)), HB1.out⟩
          case measure => simp [intOf]; omega
end Go.Proofs.Ytipbpdiahemmpaa
