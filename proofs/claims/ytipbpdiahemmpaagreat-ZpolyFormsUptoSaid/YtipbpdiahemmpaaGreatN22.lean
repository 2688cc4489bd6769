/- nat: the quotient and the rest; the greatest common divisor. -/
import Derived.Test.YtipbpdiahemmpaaGreatN9
import Derived.Test.YtipbpdiahemmpaaGreatN6
import Derived.Test.YtipbpdiahemmpaaGreatN16
import Derived.Deep.LoopGhost
namespace Go.Proofs.YtipbpdiahemmpaaGreat
open Go.RowKit Go.IntWalk

/-- Quotient, rest and no error come back. -/
def RetNE (q r : Nat) (w : World) (e : Ending) (w' : World) : Prop :=
  ∃ (A A' : Option Addr) (m c m' c' x y : Nat), e = .returned (.tuple #[.slice A m c, .slice A' m' c', .int .i64 0]) ∧ OwU w' w.heap.size A m c (Dg.dg x) ∧ OwU w' w.heap.size A' m' c' (Dg.dg y) ∧ Hid (x = q ∧ y = r) ∧ Below w.heap.size w w'
theorem drewN_below (w : World) (d : Nat) : Below w.heap.size w (w.drewN d) := by
  have h := Below.refl w.heap.size w
  exact ⟨h.os, h.tape, h.output, h.size, h.block⟩
theorem dg_len_mono {x y : Nat} (h : x ≤ y) : (Dg.dg x).length ≤ (Dg.dg y).length := Dg.dg_len_lt.2 (Nat.lt_of_le_of_lt h (Dg.dg_len_lt.1 (Nat.le_refl _)))

set_option maxHeartbeats 2000000 in
theorem nDiv_zero {A A' : Option Addr} {n c n' c' : Nat} {L L' : List Nat} {w : World} (h : RdU w w.heap.size A n c L) (h' : RdU w w.heap.size A' n' c' L') (hn : n ≤ 1000000000000) (hn' : n' ≤ 1000000000000) (hp : Dg.val L' = 0) :
    Calls Tryz.prog 274 #[.slice A n c, .slice A' n' c'] w fun e w' => e = .returned (.tuple #[.slice none 0 0, .slice none 0 0, .int .i64 5]) ∧ w = w' := by
  go_enter Tryz.func274, Tryz.ntmps274
  go_wp2_with fail
  refine (trim_any h (by omega)).mono ?_
  rintro _ _ ⟨k, rfl, hk, rfl⟩
  go_wp2_with fail
  refine (trim_any h' (by omega)).mono ?_
  rintro _ _ ⟨k', rfl, hk', rfl⟩
  have e : k' = 0 := by
    have e := hk'.out.2
    rw [hp, Dg.dg_zero] at e
    have e1 := congrArg List.length e
    rw [List.length_take] at e1
    have h2 := hk'.out.1
    rw [show ([] : List Nat).length = 0 from rfl] at e1
    omega
  subst e
  clear hk hk' hp
  go_wp2
  go_ret3
  exact ⟨rfl, rfl⟩

set_option maxRecDepth 100000 in
set_option maxHeartbeats 2000000 in
theorem nDiv_any {A A' : Option Addr} {n c n' c' : Nat} {L L' : List Nat} {w : World} (h : RdU w w.heap.size A n c L) (h' : RdU w w.heap.size A' n' c' L') (hn : n ≤ 1000000000000) (hn' : n' ≤ 1000000000000) (hp : 0 < Dg.val L') :
    Calls Tryz.prog 274 #[.slice A n c, .slice A' n' c'] w (RetNE (Dg.val L / Dg.val L') (Dg.val L % Dg.val L') w) := by
  have hlen := Lib.hid h.len
  have hlen' := Lib.hid h'.len
  have HP := Lib.hid hp
  clear hp
  go_enter Tryz.func274, Tryz.ntmps274
  go_wp2_with fail
  refine (trim_any h (by omega)).mono ?_
  rintro _ _ ⟨k, rfl, hk, rfl⟩
  go_wp2_with fail
  refine (trim_any h' (by omega)).mono ?_
  rintro _ _ ⟨k', rfl, hk', rfl⟩
  have hkn : k ≤ n := by have := hk.out.1; rw [hlen.out] at this; exact this
  have hkn' : k' ≤ n' := by have := hk'.out.1; rw [hlen'.out] at this; exact this
  have hR := h.take hkn
  have hR' := h'.take hkn'
  have HV := Lib.hid (show Dg.val (L.take k) = Dg.val L ∧ Dg.val (L'.take k') = Dg.val L' from ⟨by rw [hk.out.2, Dg.val_dg], by rw [hk'.out.2, Dg.val_dg]⟩)
  have HN := Lib.hid (show L.take k = Dg.dg (Dg.val (L.take k)) ∧ L'.take k' = Dg.dg (Dg.val (L'.take k')) from ⟨by rw [HV.out.1]; exact hk.out.2, by rw [HV.out.2]; exact hk'.out.2⟩)
  clear hk hk' h h' hlen hlen'
  generalize L.take k = M at *
  generalize L'.take k' = M' at *
  have HL := Lib.hid (And.intro hR.len hR'.len)
  have hk0 : 0 < k' := by
    rcases Nat.eq_zero_or_pos k' with e | e
    · exfalso
      have e1 := HL.out.2
      rw [e, List.length_eq_zero_iff] at e1
      have e2 := HP.out
      rw [← HV.out.2, e1] at e2
      exact absurd e2 (by decide)
    · exact e
  have hq0 : ((k' : Int) == 0) = false := by simp; omega
  go_wp2_with fail
  refine (cmp_any hR hR' (by omega) (by omega)).mono ?_
  rintro _ _ ⟨z, rfl, hz, d, rfl⟩
  have hBd := drewN_below w d
  rcases Nat.lt_or_ge (Dg.val M) (Dg.val M') with hlt | hge
  · have e := hz.out.trans (Dg.cmp_lt hlt)
    have HLT := Lib.hid hlt
    clear hlt hz
    subst e
    go_wp2_with fail
    refine (own_any (hR.drewN d) (by omega)).mono ?_
    rintro _ W4 ⟨A4, m4, c4, x4, rfl, ho4, hx4, hb4⟩
    go_wp2
    go_ret3
    exact ⟨_, _, _, _, _, _, 0, x4, rfl, by rw [Dg.dg_zero]; exact OwU.nil _ _, ho4, Lib.hid ⟨by rw [← HV.out.1, ← HV.out.2, Nat.div_eq_of_lt HLT.out], by rw [hx4.out, ← HV.out.1, ← HV.out.2, Nat.mod_eq_of_lt HLT.out]⟩, hBd.trans hb4⟩
  · have HGE := Lib.hid hge
    have hz0 : 0 ≤ z := by
      rw [hz.out]
      rcases Nat.lt_or_eq_of_le hge with h1 | h1
      · rw [Dg.cmp_gt h1]; decide
      · rw [Dg.cmp_eq h1.symm]; decide
    have hzi : decide (z < 0) = false := by simp; omega
    have hkk : k' ≤ k := by
      have e := dg_len_mono hge
      rwa [← HN.out.1, ← HN.out.2, HL.out.1, HL.out.2] at e
    clear hge hz
    by_cases h1 : k' = 1
    · subst h1
      obtain ⟨hx, ad, rfl, hb, hc⟩ := (hR'.drewN d).at_ 0 (Dg.ld M' 0) (Dg.get_of_ld (by rw [HL.out.2]; decide))
      have HX := Lib.hid (show Dg.ld M' 0 = Dg.val M' by
        have e := HL.out.2
        match M', e with
        | [x], _ => simp [Dg.ld, Dg.val])
      have hx0 : 0 < Dg.ld M' 0 := by rw [HX.out, HV.out.2]; exact HP.out
      generalize Dg.ld M' 0 = x at *
      have hc0 : (w.drewN d).cell? ad = some (.int .u32 x) := by simpa [Addr.add] using hc
      clear hc hq0
      go_wp2_with fail
      refine (short_any x (hR.drewN d) (by omega) hx0 hx).mono ?_
      rintro _ W4 ⟨A4, m4, c4, x4, r4, rfl, ho4, hx4, hb4⟩
      have hr4 : r4 < 4294967296 := by rw [hx4.out.2]; exact Nat.lt_trans (Nat.mod_lt _ hx0) hx
      have hr4i : (r4 : Int) < 4294967296 := by omega
      go_wp2_with fail
      refine (nOf_any r4 (by simp) (by omega) W4).mono ?_
      rintro _ W5 ⟨A5, m5, c5, x5, rfl, ho5, hx5, hb5⟩
      go_wp2
      go_ret3
      exact ⟨_, _, _, _, _, _, x4, x5, rfl, ho4.next hb5, ho5.base hb4.size, Lib.hid ⟨by rw [hx4.out.1, HV.out.1, HX.out, HV.out.2], by rw [hx5.out, hx4.out.2, HV.out.1, HX.out, HV.out.2]⟩, hBd.trans (hb4.trans (hb5.mono hb4.size))⟩
    · obtain ⟨p, rfl⟩ : ∃ p, k' = p + 2 := ⟨k' - 2, by omega⟩
      obtain ⟨dd, rfl⟩ : ∃ dd, k = p + 2 + dd := ⟨k - (p + 2), by omega⟩
      have hq1 : (((p + 2 : Nat) : Int) == 1) = false := by simp; omega
      go_wp2_with fail
      refine (long_any p dd (hR.drewN d) (hR'.drewN d) (by omega) HN.out.1 HN.out.2).mono ?_
      rintro _ W4 ⟨A4, A5, m4, c4, m5, c5, x4, x5, rfl, ho4, ho5, hx4, hb4⟩
      go_wp2
      go_ret3
      exact ⟨_, _, _, _, _, _, x4, x5, rfl, ho4, ho5, Lib.hid (by rw [hx4.out.1, hx4.out.2, HV.out.1, HV.out.2]; exact ⟨rfl, rfl⟩), hBd.trans hb4⟩

set_option maxRecDepth 100000 in
set_option maxHeartbeats 2000000 in
theorem nGcd_any {A A' : Option Addr} {n c n' c' : Nat} {L L' : List Nat} {w : World} (h : RdU w w.heap.size A n c L) (h' : RdU w w.heap.size A' n' c' L') (hn : n ≤ 1000000000000) (hn' : n' ≤ 1000000000000) :
    Calls Tryz.prog 244 #[.slice A n c, .slice A' n' c'] w (RetN (Nat.gcd (Dg.val L) (Dg.val L')) w) := by
  have HLEN := Lib.hid h.len
  have HLEN' := Lib.hid h'.len
  go_enter Tryz.func244, Tryz.ntmps244
  go_wp2_with fail
  refine (own_any h (by omega)).mono ?_
  rintro _ W1 ⟨A1, m1, c1, x1, rfl, ho1, hx1, hb1⟩
  go_wp2_with fail
  refine (own_any (h'.next hb1) (by omega)).mono ?_
  rintro _ W2 ⟨A2, m2, c2, x2, rfl, ho2, hx2, hb2⟩
  obtain ⟨N, hN⟩ : ∃ N, N = max n n' := ⟨_, rfl⟩
  have hm1 : m1 ≤ N := Nat.le_trans (ho1.short (k := n) (by rw [hx1.out, ← HLEN.out]; exact Dg.val_lt h.wd)) (by omega)
  have hm2 : m2 ≤ N := Nat.le_trans (ho2.short (k := n') (by rw [hx2.out, ← HLEN'.out]; exact Dg.val_lt h'.wd)) (by omega)
  have hN' : N ≤ 1000000000000 := by omega
  have hB := hb1.trans (hb2.mono hb1.size)
  have hA1 := (ho1.next hb2)
  have hA2 := ho2.base hb1.size
  have HX := Lib.hid (show Nat.gcd x1 x2 = Nat.gcd (Dg.val L) (Dg.val L') by rw [hx1.out, hx2.out])
  clear ho1 ho2 hb1 hb2 hx1 hx2 h h' HLEN HLEN' hN hn hn'
  go_wp2_with fail
  go_loopg [0, 1] x2 (fun gg av bv wr => ∃ (A A' : Option Addr) (m c x m' c' y : Nat), av = .slice A m c ∧ bv = .slice A' m' c' ∧ y ≤ gg ∧ OwU wr w.heap.size A m c (Dg.dg x) ∧ OwU wr w.heap.size A' m' c' (Dg.dg y) ∧ m ≤ N ∧ m' ≤ N ∧ Hid (Nat.gcd x y = Nat.gcd x1 x2) ∧ Below w.heap.size w wr)
  case atStart => exact ⟨A1, A2, m1, c1, x1, m2, c2, x2, rfl, rfl, Nat.le_refl _, hA1, hA2, hm1, hm2, Lib.hid rfl, hB⟩
  case round =>
    clear hA1 hA2 hB hm1 hm2
    obtain ⟨A, A', m, c, x, m', c', y, rfl, rfl, hxy, hA1, hA2, hm, hm', hg, hB⟩ := hrel
    rcases Nat.eq_zero_or_pos m' with h0 | h0
    · have HY := Lib.hid (show y = 0 by
        have e := hA2.len
        rw [h0, List.length_eq_zero_iff, Dg.dg_nil] at e
        exact e)
      subst h0
      go_wp2_with fail
      refine (own_any hA1.rd (by omega)).mono ?_
      rintro _ W4 ⟨A4, m4, c4, x4, rfl, ho4, hx4, hb4⟩
      go_wp2
      go_ret
      exact ⟨_, _, _, x4, rfl, ho4.base hB.size, Lib.hid (by rw [hx4.out, Dg.val_dg, ← HX.out, ← hg.out, HY.out, Nat.gcd_zero_right]), hB.trans (hb4.mono hB.size)⟩
    · have hy : 0 < y := by
        rcases Nat.eq_zero_or_pos y with e | e
        · exfalso
          have e2 := hA2.len
          rw [e, Dg.dg_zero] at e2
          simp at e2
          omega
        · exact e
      have hmp : (decide ((m' : Int) > 0)) = true := by simp; omega
      go_wp2_with fail
      refine (nDiv_any hA1.rd hA2.rd (by omega) (by omega) (by rw [Dg.val_dg]; exact hy)).mono ?_
      rintro _ W4 ⟨A4, A5, m4, c4, m5, c5, x4, x5, rfl, ho4, ho5, hx4, hb4⟩
      have HX5 := Lib.hid (show x5 = x % y by rw [hx4.out.2, Dg.val_dg, Dg.val_dg])
      go_wp2
      go_roundg x5
      case rel => exact ⟨_, _, m', c', y, m5, c5, x5, rfl, rfl, Nat.le_refl _, hA2.next hb4, ho5.base hB.size, hm', Nat.le_trans (ho5.short (k := m') (by rw [HX5.out]; exact Nat.lt_trans (Nat.mod_lt _ hy) (Dg.dg_len_lt.1 (Nat.le_of_eq hA2.len)))) hm', Lib.hid (by rw [HX5.out, ← hg.out, Nat.gcd_comm y, ← Nat.gcd_rec, Nat.gcd_comm]), hB.trans (hb4.mono hB.size)⟩
      case measure =>
        have := Nat.mod_lt x hy
        have e := HX5.out
        omega
end Go.Proofs.YtipbpdiahemmpaaGreat
