/- The laws' walks: the field where there is none; Fermat. -/
import Derived.Test.YtipbpdiahemmpaaDoorL3
namespace Go.Proofs.YtipbpdiahemmpaaDoor
open Go.RowKit Go.IntWalk

set_option maxHeartbeats 4000000 in
theorem field_err (a b q p : Nat) {ai bi qi pi : Int} (hai : ai = a) (hbi : bi = b) (hqi : qi = q) (hpi : pi = p) (ha : a < 4294967296) (hb : b < 4294967296) (hq : q < 4294967296) (hp : p < 4294967296) (hnp : ¬ Nt.Pr q) (hp2 : 2 ≤ p) (w : World) (hT : Tabs w) :
    Calls Tryd.prog 13 #[.int .u32 ai, .int .u32 bi, .int .u32 qi, .int .u32 pi, .int .i64 40] w (RetT w) := by
  subst hai hbi hqi hpi
  have hpp : 0 < p := by omega
  have HNP := Lib.hid hnp
  clear hnp
  go_enter Tryd.func13, Tryd.ntmps13
  go_wp2_with fail
  refine (add_none a b q rfl rfl rfl hq HNP.out _ hT).mono ?_
  rintro _ w1 ⟨s, rfl, hs, hb1⟩
  obtain rfl : s = 0 := hs.out
  have hB1 := hb1
  have hT1 := hT.below hb1
  clear hb1
  go_wp2_with fail
  refine (sub_none a b q rfl rfl rfl hq HNP.out _ hT1).mono ?_
  rintro _ w2 ⟨d, rfl, hd, hb2⟩
  obtain rfl : d = 0 := hd.out
  have hB2 := hB1.trans (hb2.mono hB1.size)
  have hT2 := hT1.below hb2
  clear hb2 hB1 hT1
  go_wp2_with fail
  refine (mul_none a b q rfl rfl rfl hq HNP.out _ hT2).mono ?_
  rintro _ w3 ⟨m, rfl, hm, hb3⟩
  obtain rfl : m = 0 := hm.out
  have hB3 := hB2.trans (hb3.mono hB2.size)
  have hT3 := hT2.below hb3
  clear hb3 hB2 hT2
  go_wp2_with fail
  refine (neg_none a q rfl rfl hq HNP.out _ hT3).mono ?_
  rintro _ w4 ⟨n, rfl, hn, hb4⟩
  obtain rfl : n = 0 := hn.out
  have hB4 := hB3.trans (hb4.mono hB3.size)
  have hT4 := hT3.below hb4
  clear hb4 hB3 hT3
  go_wp2_with fail
  refine (refAdd_any a b p rfl rfl rfl ha hb hp hpp _).mono ?_
  rintro _ _ ⟨v1, rfl, hv1, rfl⟩
  go_wp2_with fail
  refine (told_err (by decide) _).mono ?_
  rintro _ _ ⟨rfl, rfl⟩
  go_wp2_with fail
  refine (refSub_any a b p rfl rfl rfl ha hb hp hpp _).mono ?_
  rintro _ _ ⟨v2, rfl, hv2, j1, rfl⟩
  go_wp2_with fail
  refine (told_err (by decide) _).mono ?_
  rintro _ _ ⟨rfl, rfl⟩
  go_wp2_with fail
  refine (refMul_any a b p rfl rfl rfl ha hb hp hpp _).mono ?_
  rintro _ _ ⟨v3, rfl, hv3, rfl⟩
  go_wp2_with fail
  refine (told_err (by decide) _).mono ?_
  rintro _ _ ⟨rfl, rfl⟩
  go_wp2_with fail
  refine (refSub_any 0 a p rfl rfl rfl (by omega) ha hp hpp _).mono ?_
  rintro _ _ ⟨v4, rfl, hv4, j2, rfl⟩
  go_wp2_with fail
  refine (told_err (by decide) _).mono ?_
  rintro _ _ ⟨rfl, rfl⟩
  go_wp2_with fail
  refine ((inv_none a q rfl rfl hq HNP.out _ (hT4.drewN _)).mono fun _ _ => RetED.toE).mono ?_
  rintro _ w5 ⟨i, rfl, hi, hb5⟩
  obtain rfl : i = 0 := hi.out
  have hB5 := hB4.trans (((below_quiet w4 _).trans hb5).mono hB4.size)
  have hT5 := (hT4.drewN _).below hb5
  clear hb5 hB4 hT4
  go_wp2_with fail
  refine ((quo_none a b q rfl rfl rfl hq HNP.out _ hT5).mono fun _ _ => RetED.toE).mono ?_
  rintro _ w6 ⟨c, rfl, hc, hb6⟩
  obtain rfl : c = 0 := hc.out
  have hB6 := hB5.trans (hb6.mono hB5.size)
  have hT6 := hT5.below hb6
  clear hb6 hB5 hT5
  go_wp2_with fail
  refine (refInv_any a p rfl rfl ha hp hp2 _).mono ?_
  rintro _ _ ⟨v, rfl, hv, rfl⟩
  go_wp2_with fail
  refine (told_err (by decide) _).mono ?_
  rintro _ _ ⟨rfl, rfl⟩
  go_wp2_with fail
  refine (refInv_any b p rfl rfl hb hp hp2 _).mono ?_
  rintro _ _ ⟨u, rfl, hu, rfl⟩
  have hub : u < p := by rw [hu.out]; exact Nat.mod_lt _ hpp
  go_wp2_with fail
  refine (refMul_any a u p rfl rfl rfl ha (by omega) hp hpp _).mono ?_
  rintro _ _ ⟨x, rfl, hx, rfl⟩
  go_wp2_with fail
  refine (told_err (by decide) _).mono ?_
  rintro _ _ ⟨rfl, rfl⟩
  go_wp2_with fail
  refine (awake_any _ hT6).mono ?_
  rintro _ w7 ⟨rfl, hb7⟩
  go_wp2
  go_ret
  exact ⟨rfl, hB6.trans (hb7.mono hB6.size)⟩

theorem np0 : ¬ Nt.Pr 0 := fun h => by have := h.1; omega
theorem fermat_zero {a p k : Nat} (h : a % p = 0) (hk : 0 < k) : a ^ k % p = 0 := by
  rw [Nat.pow_mod, h, Nat.zero_pow hk, Nat.zero_mod]
theorem fermat_half {a p : Nat} (hp : Nt.Pr p) (h3 : 3 ≤ p) (h0 : ¬ a % p = 0) :
    (Nt.leg a p = 1 ∧ a ^ ((p - 1) / 2) % p = 1) ∨ (Nt.leg a p = -1 ∧ a ^ ((p - 1) / 2) % p = p - 1) := by
  by_cases h1 : a ^ ((p - 1) / 2) % p = 1
  · exact Or.inl ⟨leg_one h0 h1, h1⟩
  · have hl := leg_neg h0 (by omega) h1
    exact Or.inr ⟨hl, Nt.leg_nonres hp h3 hl⟩
end Go.Proofs.YtipbpdiahemmpaaDoor
