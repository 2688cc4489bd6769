/- The laws' walks: the field. -/
import Derived.Test.YtipbpdiahemmpaaDoorL2
namespace Go.Proofs.YtipbpdiahemmpaaDoor
open Go.RowKit Go.IntWalk

set_option maxHeartbeats 4000000 in
theorem field_ok (a b p : Nat) {ai bi qi pi : Int} (hai : ai = a) (hbi : bi = b) (hqi : qi = p) (hpi : pi = p) (ha : a < 4294967296) (hb : b < 4294967296) (hp : p < 4294967296) (hpr : Nt.Pr p) (w : World) (hT : Tabs w) :
    Calls Tryd.prog 13 #[.int .u32 ai, .int .u32 bi, .int .u32 qi, .int .u32 pi, .int .i64 0] w (RetT w) := by
  subst hai hbi hqi hpi
  have hpp := hpr.pos
  have hp2 := hpr.1
  go_enter Tryd.func13, Tryd.ntmps13
  go_wp2_with fail
  refine (add_ok a b p rfl rfl rfl ha hb hp hpr _ hT).mono ?_
  rintro _ w1 ⟨s, rfl, hs, hb1⟩
  have hT1 := hT.below hb1
  go_wp2_with fail
  refine (sub_ok a b p rfl rfl rfl ha hb hp hpr _ hT1).mono ?_
  rintro _ w2 ⟨d, rfl, hd, hb2⟩
  have hT2 := hT1.below hb2
  have hB2 := hb1.trans (hb2.mono hb1.size)
  clear hb1 hb2 hT1
  go_wp2_with fail
  refine (mul_ok a b p rfl rfl rfl ha hb hp hpr _ hT2).mono ?_
  rintro _ w3 ⟨m, rfl, hm, hb3⟩
  have hT3 := hT2.below hb3
  have hB3 := hB2.trans (hb3.mono hB2.size)
  clear hB2 hb3 hT2
  go_wp2_with fail
  refine (neg_ok a p rfl rfl ha hp hpr _ hT3).mono ?_
  rintro _ w4 ⟨n, rfl, hn, hb4⟩
  have hT4 := hT3.below hb4
  have hB4 := hB3.trans (hb4.mono hB3.size)
  clear hB3 hb4 hT3
  have HA := Lib.hid (show ∀ W : World, Calls Tryd.prog 38 #[.int .u32 a, .int .u32 b, .int .u32 p] W fun e w' => e = .returned (.int .u32 s) ∧ W = w' from fun W =>
    (refAdd_any a b p rfl rfl rfl ha hb hp hpp W).mono fun _ _ ⟨v, h1, h2, h3⟩ => ⟨by rw [h1, h2.out, ← hs.out], h3⟩)
  have HS := Lib.hid (show ∀ W : World, Calls Tryd.prog 39 #[.int .u32 a, .int .u32 b, .int .u32 p] W fun e w' => e = .returned (.int .u32 d) ∧ ∃ j, w' = W.drewN j from fun W =>
    (refSub_any a b p rfl rfl rfl ha hb hp hpp W).mono fun _ _ ⟨v, h1, h2, h3⟩ => ⟨by rw [h1, h2.out, ← hd.out], h3⟩)
  have HM := Lib.hid (show ∀ W : World, Calls Tryd.prog 32 #[.int .u32 a, .int .u32 b, .int .u32 p] W fun e w' => e = .returned (.int .u32 m) ∧ W = w' from fun W =>
    (refMul_any a b p rfl rfl rfl ha hb hp hpp W).mono fun _ _ ⟨v, h1, h2, h3⟩ => ⟨by rw [h1, h2.out, ← hm.out], h3⟩)
  have HN := Lib.hid (show ∀ W : World, Calls Tryd.prog 39 #[.int .u32 0, .int .u32 a, .int .u32 p] W fun e w' => e = .returned (.int .u32 n) ∧ ∃ j, w' = W.drewN j from fun W =>
    (refSub_any 0 a p rfl rfl rfl (by omega) ha hp hpp W).mono fun _ _ ⟨v, h1, h2, h3⟩ => ⟨by rw [h1, h2.out, ← hn.out], h3⟩)
  clear hs hd hm hn
  go_wp2_with fail
  refine (HA.out _).mono ?_
  rintro _ _ ⟨rfl, rfl⟩
  go_wp2_with fail
  refine (told_ok rfl _).mono ?_
  rintro _ _ ⟨rfl, rfl⟩
  go_wp2_with fail
  refine (HS.out _).mono ?_
  rintro _ _ ⟨rfl, j1, rfl⟩
  go_wp2_with fail
  refine (told_ok rfl _).mono ?_
  rintro _ _ ⟨rfl, rfl⟩
  go_wp2_with fail
  refine (HM.out _).mono ?_
  rintro _ _ ⟨rfl, rfl⟩
  go_wp2_with fail
  refine (told_ok rfl _).mono ?_
  rintro _ _ ⟨rfl, rfl⟩
  go_wp2_with fail
  refine (HN.out _).mono ?_
  rintro _ _ ⟨rfl, j2, rfl⟩
  go_wp2_with fail
  refine (told_ok rfl _).mono ?_
  rintro _ _ ⟨rfl, rfl⟩
  clear HA HS HM HN
  go_wp2_with fail
  by_cases hza : a % p = 0
  · have hza' : (a : Int) % p = 0 := emod_zero rfl hza
    have HZA := Lib.hid hza
    clear hza
    by_cases hzb : b % p = 0
    · have hzb' : (b : Int) % p = 0 := emod_zero rfl hzb
      have HZB := Lib.hid hzb
      clear hzb
      refine ((inv_zero a p rfl rfl hp hpr HZA.out _ (hT4.drewN _)).mono fun _ _ => RetED.toE).mono ?_
      rintro _ w5 ⟨i, rfl, hi, hb5⟩
      have hB5 := hB4.trans (((below_quiet w4 _).trans hb5).mono hB4.size)
      have hT5 := (hT4.drewN _).below hb5
      clear hb5 hB4 hT4
      go_wp2_with fail
      refine ((quo_zero a b p rfl rfl rfl hp hpr HZB.out _ hT5).mono fun _ _ => RetED.toE).mono ?_
      rintro _ w6 ⟨c, rfl, hc, hb6⟩
      have hB6 := hB5.trans (hb6.mono hB5.size)
      have hT6 := hT5.below hb6
      clear hb6 hB5 hT5
      obtain rfl : i = 0 := hi.out
      obtain rfl : c = 0 := hc.out
      go_wp2_with fail
      refine (refInv_any a p rfl rfl ha hp hp2 _).mono ?_
      rintro _ _ ⟨v, rfl, hv, rfl⟩
      go_wp2_with fail
      refine (told_err (by decide) _).mono ?_
      rintro _ _ ⟨rfl, rfl⟩
      go_wp2_with fail
      refine (refInv_any b p rfl rfl hb hp hp2 _).mono ?_
      rintro _ _ ⟨u, rfl, hu, rfl⟩
      have hub : u < p := by rw [hu.out]; exact Nat.mod_lt _ hpp
      go_wp2_with fail
      refine (refMul_any a u p rfl rfl rfl ha (by omega) hp hpp _).mono ?_
      rintro _ _ ⟨x, rfl, hx, rfl⟩
      go_wp2_with fail
      refine (told_err (by decide) _).mono ?_
      rintro _ _ ⟨rfl, rfl⟩
      go_wp2_with fail
      refine (awake_any _ hT6).mono ?_
      rintro _ w7 ⟨rfl, hb7⟩
      go_wp2
      go_ret
      exact ⟨rfl, hB6.trans (hb7.mono hB6.size)⟩
    · have hzb' : ((b : Int) % p == 0) = false := emod_ne rfl hzb
      have HZB := Lib.hid hzb
      clear hzb
      refine ((inv_zero a p rfl rfl hp hpr HZA.out _ (hT4.drewN _)).mono fun _ _ => RetED.toE).mono ?_
      rintro _ w5 ⟨i, rfl, hi, hb5⟩
      have hB5 := hB4.trans (((below_quiet w4 _).trans hb5).mono hB4.size)
      have hT5 := (hT4.drewN _).below hb5
      clear hb5 hB4 hT4
      go_wp2_with fail
      refine ((quo_ok a b p rfl rfl rfl ha hb hp hpr HZB.out _ hT5).mono fun _ _ => RetED.toE).mono ?_
      rintro _ w6 ⟨c, rfl, hc, hb6⟩
      have hB6 := hB5.trans (hb6.mono hB5.size)
      have hT6 := hT5.below hb6
      clear hb6 hB5 hT5
      obtain rfl : i = 0 := hi.out
      go_wp2_with fail
      refine (refInv_any a p rfl rfl ha hp hp2 _).mono ?_
      rintro _ _ ⟨v, rfl, hv, rfl⟩
      go_wp2_with fail
      refine (told_err (by decide) _).mono ?_
      rintro _ _ ⟨rfl, rfl⟩
      go_wp2_with fail
      refine (refInv_any b p rfl rfl hb hp hp2 _).mono ?_
      rintro _ _ ⟨u, rfl, hu, rfl⟩
      have hub : u < p := by rw [hu.out]; exact Nat.mod_lt _ hpp
      go_wp2_with fail
      refine (refMul_any a u p rfl rfl rfl ha (by omega) hp hpp _).mono ?_
      rintro _ _ ⟨x, rfl, hx, rfl⟩
      go_wp2_with fail
      refine (told_ok (by rw [hc.out, hx.out, hu.out]) _).mono ?_
      rintro _ _ ⟨rfl, rfl⟩
      go_wp2_with fail
      refine (awake_any _ hT6).mono ?_
      rintro _ w7 ⟨rfl, hb7⟩
      go_wp2
      go_ret
      exact ⟨rfl, hB6.trans (hb7.mono hB6.size)⟩
  · have hza' : ((a : Int) % p == 0) = false := emod_ne rfl hza
    have HZA := Lib.hid hza
    clear hza
    by_cases hzb : b % p = 0
    · have hzb' : (b : Int) % p = 0 := emod_zero rfl hzb
      have HZB := Lib.hid hzb
      clear hzb
      refine ((inv_ok a p rfl rfl ha hp hpr HZA.out _ (hT4.drewN _)).mono fun _ _ => RetED.toE).mono ?_
      rintro _ w5 ⟨i, rfl, hi, hb5⟩
      have hB5 := hB4.trans (((below_quiet w4 _).trans hb5).mono hB4.size)
      have hT5 := (hT4.drewN _).below hb5
      clear hb5 hB4 hT4
      go_wp2_with fail
      refine ((quo_zero a b p rfl rfl rfl hp hpr HZB.out _ hT5).mono fun _ _ => RetED.toE).mono ?_
      rintro _ w6 ⟨c, rfl, hc, hb6⟩
      have hB6 := hB5.trans (hb6.mono hB5.size)
      have hT6 := hT5.below hb6
      clear hb6 hB5 hT5
      obtain rfl : c = 0 := hc.out
      go_wp2_with fail
      refine (refInv_any a p rfl rfl ha hp hp2 _).mono ?_
      rintro _ _ ⟨v, rfl, hv, rfl⟩
      go_wp2_with fail
      refine (told_ok (by rw [hi.out, hv.out]) _).mono ?_
      rintro _ _ ⟨rfl, rfl⟩
      go_wp2_with fail
      refine (refInv_any b p rfl rfl hb hp hp2 _).mono ?_
      rintro _ _ ⟨u, rfl, hu, rfl⟩
      have hub : u < p := by rw [hu.out]; exact Nat.mod_lt _ hpp
      go_wp2_with fail
      refine (refMul_any a u p rfl rfl rfl ha (by omega) hp hpp _).mono ?_
      rintro _ _ ⟨x, rfl, hx, rfl⟩
      go_wp2_with fail
      refine (told_err (by decide) _).mono ?_
      rintro _ _ ⟨rfl, rfl⟩
      go_wp2_with fail
      refine (awake_any _ hT6).mono ?_
      rintro _ w7 ⟨rfl, hb7⟩
      go_wp2
      go_ret
      exact ⟨rfl, hB6.trans (hb7.mono hB6.size)⟩
    · have hzb' : ((b : Int) % p == 0) = false := emod_ne rfl hzb
      have HZB := Lib.hid hzb
      clear hzb
      refine ((inv_ok a p rfl rfl ha hp hpr HZA.out _ (hT4.drewN _)).mono fun _ _ => RetED.toE).mono ?_
      rintro _ w5 ⟨i, rfl, hi, hb5⟩
      have hB5 := hB4.trans (((below_quiet w4 _).trans hb5).mono hB4.size)
      have hT5 := (hT4.drewN _).below hb5
      clear hb5 hB4 hT4
      go_wp2_with fail
      refine ((quo_ok a b p rfl rfl rfl ha hb hp hpr HZB.out _ hT5).mono fun _ _ => RetED.toE).mono ?_
      rintro _ w6 ⟨c, rfl, hc, hb6⟩
      have hB6 := hB5.trans (hb6.mono hB5.size)
      have hT6 := hT5.below hb6
      clear hb6 hB5 hT5
      go_wp2_with fail
      refine (refInv_any a p rfl rfl ha hp hp2 _).mono ?_
      rintro _ _ ⟨v, rfl, hv, rfl⟩
      go_wp2_with fail
      refine (told_ok (by rw [hi.out, hv.out]) _).mono ?_
      rintro _ _ ⟨rfl, rfl⟩
      go_wp2_with fail
      refine (refInv_any b p rfl rfl hb hp hp2 _).mono ?_
      rintro _ _ ⟨u, rfl, hu, rfl⟩
      have hub : u < p := by rw [hu.out]; exact Nat.mod_lt _ hpp
      go_wp2_with fail
      refine (refMul_any a u p rfl rfl rfl ha (by omega) hp hpp _).mono ?_
      rintro _ _ ⟨x, rfl, hx, rfl⟩
      go_wp2_with fail
      refine (told_ok (by rw [hc.out, hx.out, hu.out]) _).mono ?_
      rintro _ _ ⟨rfl, rfl⟩
      go_wp2_with fail
      refine (awake_any _ hT6).mono ?_
      rintro _ w7 ⟨rfl, hb7⟩
      go_wp2
      go_ret
      exact ⟨rfl, hB6.trans (hb7.mono hB6.size)⟩
end Go.Proofs.YtipbpdiahemmpaaDoor
