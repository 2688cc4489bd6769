/- The laws' walks: the field where there is none; Fermat. -/
import Derived.Test.YtjnhfakdpnnboaaDoorL3
namespace Go.Proofs.YtjnhfakdpnnboaaDoor
open Go.RowKit Go.IntWalk

set_option maxHeartbeats 4000000 in
theorem field_err (a b q p : Nat) {ai bi qi pi : Int} (hai : ai = a) (hbi : bi = b) (hqi : qi = q) (hpi : pi = p) (ha : a < 4294967296) (hb : b < 4294967296) (hq : q < 4294967296) (hp : p < 4294967296) (hnp : ¬ Nt.Pr q) (hp2 : 2 ≤ p) (w : World) (hT : Tabs w) :
    Calls Tryd.prog 26 #[.int .u32 ai, .int .u32 bi, .int .u32 qi, .int .u32 pi, .int .i64 40] w (RetT w) := by
  subst hai hbi hqi hpi
  have hpp : 0 < p := by omega
  have HNP := Lib.hid hnp
  clear hnp
  go_enter Tryd.func26, Tryd.ntmps26
  go_wp2_with fail
  refine (add_none a b q rfl rfl rfl hq HNP.out _ hT).mono ?_
  rintro _ w1 ⟨s, rfl, hs, hb1⟩
  obtain rfl : s = 0 := hs.out
  have hB1 := hb1
  have hT1 := hT.below hb1
  clear hb1
  go_wp2_with fail
  refine (sub_none a b q rfl rfl rfl hq HNP.out _ hT1).mono ?_
  rintro _ w2 ⟨d, rfl, hd, hb2⟩
  obtain rfl : d = 0 := hd.out
  have hB2 := hB1.trans (hb2.mono hB1.size)
  have hT2 := hT1.below hb2
  clear hb2 hB1 hT1
  go_wp2_with fail
  refine (mul_none a b q rfl rfl rfl hq HNP.out _ hT2).mono ?_
  rintro _ w3 ⟨m, rfl, hm, hb3⟩
  obtain rfl : m = 0 := hm.out
  have hB3 := hB2.trans (hb3.mono hB2.size)
  have hT3 := hT2.below hb3
  clear hb3 hB2 hT2
  go_wp2_with fail
  refine (neg_none a q rfl rfl hq HNP.out _ hT3).mono ?_
  rintro _ w4 ⟨n, rfl, hn, hb4⟩
  obtain rfl : n = 0 := hn.out
  have hB4 := hB3.trans (hb4.mono hB3.size)
  have hT4 := hT3.below hb4
  clear hb4 hB3 hT3
  go_wp2_with fail
  refine (refAdd_any a b p rfl rfl rfl ha hb hp hpp _).mono ?_
  rintro _ _ ⟨v1, rfl, hv1, rfl⟩
  go_wp2_with fail
  refine (told_err (by decide) _).mono ?_
  rintro _ _ ⟨rfl, rfl⟩
  go_wp2_with fail
  refine (refSub_any a b p rfl rfl rfl ha hb hp hpp _).mono ?_
  rintro _ _ ⟨v2, rfl, hv2, j1, rfl⟩
  go_wp2_with fail
  refine (told_err (by decide) _).mono ?_
  rintro _ _ ⟨rfl, rfl⟩
  go_wp2_with fail
  refine (refMul_any a b p rfl rfl rfl ha hb hp hpp _).mono ?_
  rintro _ _ ⟨v3, rfl, hv3, rfl⟩
  go_wp2_with fail
  refine (told_err (by decide) _).mono ?_
  rintro _ _ ⟨rfl, rfl⟩
  go_wp2_with fail
  refine (refSub_any 0 a p rfl rfl rfl (by omega) ha hp hpp _).mono ?_
  rintro _ _ ⟨v4, rfl, hv4, j2, rfl⟩
  go_wp2_with fail
  refine (told_err (by decide) _).mono ?_
  rintro _ _ ⟨rfl, rfl⟩
  go_wp2_with fail
  refine ((inv_none a q rfl rfl hq HNP.out _ (hT4.drewN _)).mono fun _ _ => RetED.toE).mono ?_
  rintro _ w5 ⟨i, rfl, hi, hb5⟩
  obtain rfl : i = 0 := hi.out
  have hB5 := hB4.trans (((below_quiet w4 _).trans hb5).mono hB4.size)
  have hT5 := (hT4.drewN _).below hb5
  clear hb5 hB4 hT4
  go_wp2_with fail
  refine ((quo_none a b q rfl rfl rfl hq HNP.out _ hT5).mono fun _ _ => RetED.toE).mono ?_
  rintro _ w6 ⟨c, rfl, hc, hb6⟩
  obtain rfl : c = 0 := hc.out
  have hB6 := hB5.trans (hb6.mono hB5.size)
  have hT6 := hT5.below hb6
  clear hb6 hB5 hT5
  go_wp2_with fail
  refine (refInv_any a p rfl rfl ha hp hp2 _).mono ?_
  rintro _ _ ⟨v, rfl, hv, rfl⟩
  go_wp2_with fail
  refine (told_err (by decide) _).mono ?_
  rintro _ _ ⟨rfl, rfl⟩
  go_wp2_with fail
  refine (refInv_any b p rfl rfl hb hp hp2 _).mono ?_
  rintro _ _ ⟨u, rfl, hu, rfl⟩
  have hub : u < p := by rw [hu.out]; exact Nat.mod_lt _ hpp
  go_wp2_with fail
  refine (refMul_any a u p rfl rfl rfl ha (by omega) hp hpp _).mono ?_
  rintro _ _ ⟨x, rfl, hx, rfl⟩
  go_wp2_with fail
  refine (told_err (by decide) _).mono ?_
  rintro _ _ ⟨rfl, rfl⟩
  go_wp2_with fail
  refine (awake_any _ hT6).mono ?_
  rintro _ w7 ⟨rfl, hb7⟩
  go_wp2
  go_ret
  exact ⟨rfl, hB6.trans (hb7.mono hB6.size)⟩

theorem np0 : ¬ Nt.Pr 0 := fun h => by have := h.1; omega
set_option maxHeartbeats 1000000 in
theorem walk_PrimeField (a : Nat) (ha : a < 4294967296) (b : Nat) (hb : b < 4294967296) (p : Nat) (hp : p < 4294967296) (w : World) (hT : Tabs w) :
    Calls Tryd.prog 7 #[.int .u32 a, .int .u32 b, .int .u32 p] w (RetT w) := by
  by_cases hpr : Nt.Pr p
  · have HP := Lib.hid hpr
    clear hpr
    go_enter Tryd.func7, Tryd.ntmps7
    go_wp2_with fail
    refine (refIs_true HP.out rfl hp _).mono ?_
    rintro _ _ ⟨rfl, rfl⟩
    go_wp2_with fail
    refine (field_ok a b p rfl rfl rfl rfl ha hb hp HP.out _ hT).mono ?_
    rintro _ w1 ⟨rfl, hb1⟩
    go_wp2
    go_ret
    exact ⟨rfl, hb1⟩
  · have HP := Lib.hid hpr
    clear hpr
    go_enter Tryd.func7, Tryd.ntmps7
    go_wp2_with fail
    refine (refIs_false HP.out rfl hp _).mono ?_
    rintro _ _ ⟨rfl, rfl⟩
    go_wp2_with fail
    refine (field_err a b 0 7 rfl rfl rfl rfl ha hb (by omega) (by omega) np0 (by omega) _ hT).mono ?_
    rintro _ w1 ⟨rfl, hb1⟩
    go_wp2
    go_ret
    exact ⟨rfl, hb1⟩

theorem fermat_zero {a p k : Nat} (h : a % p = 0) (hk : 0 < k) : a ^ k % p = 0 := by
  rw [Nat.pow_mod, h, Nat.zero_pow hk, Nat.zero_mod]
theorem fermat_half {a p : Nat} (hp : Nt.Pr p) (h3 : 3 ≤ p) (h0 : ¬ a % p = 0) :
    (Nt.leg a p = 1 ∧ a ^ ((p - 1) / 2) % p = 1) ∨ (Nt.leg a p = -1 ∧ a ^ ((p - 1) / 2) % p = p - 1) := by
  by_cases h1 : a ^ ((p - 1) / 2) % p = 1
  · exact Or.inl ⟨leg_one h0 h1, h1⟩
  · have hl := leg_neg h0 (by omega) h1
    exact Or.inr ⟨hl, Nt.leg_nonres hp h3 hl⟩
set_option maxHeartbeats 2000000 in
theorem walk_PrimeFermat (a : Nat) (ha : a < 4294967296) (p : Nat) (hp : p < 4294967296) (w : World) (hT : Tabs w) :
    Calls Tryd.prog 6 #[.int .u32 a, .int .u32 p] w (RetT w) := by
  by_cases hpr : Nt.Pr p
  · have HP := Lib.hid hpr
    have hpp := hpr.pos
    have hp2 := hpr.1
    clear hpr
    go_enter Tryd.func6, Tryd.ntmps6
    go_wp2_with fail
    refine (refIs_true HP.out rfl hp _).mono ?_
    rintro _ _ ⟨rfl, rfl⟩
    go_wp2_with fail
    refine (pow_ok a p p rfl rfl rfl ha (by omega) hp HP.out _ hT).mono ?_
    rintro _ w1 ⟨x, rfl, hx, hb1⟩
    have hT1 := hT.below hb1
    go_wp2_with fail
    refine (pow_ok a (p - 1) p rfl (by omega) rfl ha (by omega) hp HP.out _ hT1).mono ?_
    rintro _ w2 ⟨y, rfl, hy, hb2⟩
    have hB2 := hb1.trans (hb2.mono hb1.size)
    have hT2 := hT1.below hb2
    clear hb1 hb2 hT1
    go_wp2_with fail
    refine (Legendre_ok a p rfl rfl ha hp HP.out _ hT2).mono ?_
    rintro _ _ ⟨l, rfl, hl, rfl⟩
    go_wp2_with fail
    refine (pow_ok a ((p - 1) / 2) p rfl (by omega) rfl ha (by omega) hp HP.out _ hT2).mono ?_
    rintro _ w3 ⟨h, rfl, hh, hb3⟩
    have hB3 := hB2.trans (hb3.mono hB2.size)
    have hT3 := hT2.below hb3
    clear hB2 hb3 hT2
    have hxi : (a : Int) % p = (x : Int) := by rw [hx.out, Nt.fermat_all HP.out]; rfl
    by_cases hza : a % p = 0
    · obtain rfl : x = 0 := by rw [hx.out, fermat_zero hza (by omega)]
      obtain rfl : y = 0 := by rw [hy.out, fermat_zero hza (by omega)]
      obtain rfl : l = 0 := by rw [hl.out, leg_zero hza]
      by_cases h2 : p = 2
      · subst h2
        clear hza
        go_wp2_with (go_at_call 15; refine (num_any _ _).mono ?_; rintro _ _ ⟨rfl, rfl⟩)
        refine (awake_any _ hT3).mono ?_
        rintro _ w4 ⟨rfl, hb4⟩
        go_wp2
        go_ret
        exact ⟨rfl, hB3.trans (hb4.mono hB3.size)⟩
      · obtain rfl : h = 0 := by rw [hh.out, fermat_zero hza (by omega)]
        have h2' : ((p : Int) == 2) = false := by simp; omega
        have h3 : 3 ≤ p := by omega
        have hne : ((0 : Int) == (p : Int) - 1) = false := by simp; omega
        clear hza h2
        go_wp2_with (go_at_call 15; refine (num_any _ _).mono ?_; rintro _ _ ⟨rfl, rfl⟩)
        refine (awake_any _ hT3).mono ?_
        rintro _ w4 ⟨rfl, hb4⟩
        go_wp2
        go_ret
        exact ⟨rfl, hB3.trans (hb4.mono hB3.size)⟩
    · obtain rfl : y = 1 := by rw [hy.out, Nt.fermat HP.out (fun hd => hza (Nat.mod_eq_zero_of_dvd hd))]
      have hx0 : ((x : Int) != 0) = true := by
        have : x ≠ 0 := by rw [hx.out, Nt.fermat_all HP.out]; exact hza
        simp; omega
      by_cases h2 : p = 2
      · subst h2
        obtain rfl : x = 1 := by
          have h1 : x = a % 2 := by rw [hx.out, Nt.fermat_all HP.out]
          omega
        have hx1 : (a : Int) % 2 = 1 := by omega
        clear hza hxi hx0
        go_wp2_with (go_at_call 15; refine (num_any _ _).mono ?_; rintro _ _ ⟨rfl, rfl⟩)
        refine (awake_any _ hT3).mono ?_
        rintro _ w4 ⟨rfl, hb4⟩
        go_wp2
        go_ret
        exact ⟨rfl, hB3.trans (hb4.mono hB3.size)⟩
      · have h2' : ((p : Int) == 2) = false := by simp; omega
        have h3 : 3 ≤ p := by omega
        rcases fermat_half HP.out h3 hza with ⟨e1, e2⟩ | ⟨e1, e2⟩
        · obtain rfl : l = 1 := by rw [hl.out, e1]
          obtain rfl : h = 1 := by rw [hh.out, e2]
          have hne : ((1 : Int) == (p : Int) - 1) = false := by simp; omega
          clear hza h2 e1 e2
          go_wp2_with (go_at_call 15; refine (num_any _ _).mono ?_; rintro _ _ ⟨rfl, rfl⟩)
          refine (awake_any _ hT3).mono ?_
          rintro _ w4 ⟨rfl, hb4⟩
          go_wp2
          go_ret
          exact ⟨rfl, hB3.trans (hb4.mono hB3.size)⟩
        · obtain rfl : l = -1 := by rw [hl.out, e1]
          obtain rfl : h = p - 1 := by rw [hh.out, e2]
          have hpe : ((p - 1 : Nat) : Int) = (p : Int) - 1 := by omega
          have hn1 : ((p : Int) - 1 == 1) = false := by simp; omega
          have hn0 : ((p : Int) - 1 == 0) = false := by simp; omega
          clear hza h2 e1 e2
          go_wp2_with (go_at_call 15; refine (num_any _ _).mono ?_; rintro _ _ ⟨rfl, rfl⟩)
          refine (awake_any _ hT3).mono ?_
          rintro _ w4 ⟨rfl, hb4⟩
          go_wp2
          go_ret
          exact ⟨rfl, hB3.trans (hb4.mono hB3.size)⟩
  · have HP := Lib.hid hpr
    clear hpr
    go_enter Tryd.func6, Tryd.ntmps6
    go_wp2_with fail
    refine (refIs_false HP.out rfl hp _).mono ?_
    rintro _ _ ⟨rfl, rfl⟩
    go_wp2_with fail
    refine (awake_any _ hT).mono ?_
    rintro _ w1 ⟨rfl, hb1⟩
    go_wp2
    go_ret
    exact ⟨rfl, hb1⟩
end Go.Proofs.YtjnhfakdpnnboaaDoor
