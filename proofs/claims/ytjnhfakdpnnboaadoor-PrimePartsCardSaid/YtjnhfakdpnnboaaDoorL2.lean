/- The laws' walks: powers, roots, the field. -/
import Derived.Test.YtjnhfakdpnnboaaDoorL1
namespace Go.Proofs.YtjnhfakdpnnboaaDoor
open Go.RowKit Go.IntWalk

theorem RetED.toE {R : Nat → Prop} {code : Int} {w w' : World} {e : Ending} (h : RetED R code w e w') : RetE R code w e w' := by
  obtain ⟨v, h1, h2, j, h3⟩ := h
  exact ⟨v, h1, h2, by rw [h3]; exact below_quiet w j⟩
section
variable {P : Program} {f : FuncId} {args : Array Value} {w : World} {n : Nat} {v : Value}
/-- A call in a region that draws its order: the world as it was. -/
theorem qs (h : Calls P f args (w.drewN n) fun e w' => e = .returned v ∧ w.drewN n = w') : Calls P f args (w.drewN n) fun e w'' => e = .returned v ∧ ∃ m, w'' = w.drewN m :=
  h.mono fun _ _ ⟨he, hm⟩ => ⟨he, n, hm.symm⟩
theorem qq (h : Calls P f args (w.drewN n) fun e w' => e = .returned v ∧ ∃ j, w' = (w.drewN n).drewN j) : Calls P f args (w.drewN n) fun e w'' => e = .returned v ∧ ∃ m, w'' = w.drewN m :=
  h.mono fun _ _ ⟨he, j, hm⟩ => ⟨he, n + j, by rw [hm, World.drewN_drewN]⟩
end
set_option maxHeartbeats 400000 in
theorem told_ok {v u : Int} (h : v = u) (w : World) : Calls Tryd.prog 20 #[.int .u32 v, .int .i64 0, .int .u32 u, .int .i64 0] w fun e w' => e = .returned (.bool true) ∧ w = w' := by
  subst h
  go_enter Tryd.func20, Tryd.ntmps20
  go_wp2_with (go_at_call 15; refine (num_any _ _).mono ?_; rintro _ _ ⟨rfl, rfl⟩)
  go_ret
  exact ⟨rfl, rfl⟩
set_option maxHeartbeats 400000 in
theorem told_err {c u : Int} (hc : (c != 0) = true) (w : World) : Calls Tryd.prog 20 #[.int .u32 0, .int .i64 c, .int .u32 u, .int .i64 c] w fun e w' => e = .returned (.bool true) ∧ w = w' := by
  go_enter Tryd.func20, Tryd.ntmps20
  go_wp2_with (go_at_call 15; refine (num_any _ _).mono ?_; rintro _ _ ⟨rfl, rfl⟩)
  go_ret
  exact ⟨rfl, rfl⟩
theorem refIs_true {n : Nat} (h : Nt.Pr n) {ni : Int} (hni : ni = n) (hn : n < 4294967296) (w : World) :
    Calls Tryd.prog 19 #[.int .u32 ni] w fun e w' => e = .returned (.bool true) ∧ w = w' := by
  have := refIs_any n hni hn w
  rw [Nt.isP_iff.2 h] at this
  exact this
theorem refIs_false {n : Nat} (h : ¬ Nt.Pr n) {ni : Int} (hni : ni = n) (hn : n < 4294967296) (w : World) :
    Calls Tryd.prog 19 #[.int .u32 ni] w fun e w' => e = .returned (.bool false) ∧ w = w' := by
  have := refIs_any n hni hn w
  rw [Nt.isP_false_iff.2 h] at this
  exact this

set_option maxHeartbeats 1000000 in
theorem walk_PrimePowers (a : Nat) (ha : a < 4294967296) (e : Nat) (he : e ≤ 18446744073709551615) (p : Nat) (hp : p < 4294967296) (w : World) (hT : Tabs w) :
    Calls Tryd.prog 5 #[.int .u32 a, .int .u64 e, .int .u32 p] w (RetT w) := by
  by_cases hpr : Nt.Pr p
  · have HP := Lib.hid hpr
    have hpp := hpr.pos
    clear hpr
    go_enter Tryd.func5, Tryd.ntmps5
    go_wp2_with fail
    refine (pow_ok a e p rfl rfl rfl ha he hp HP.out _ hT).mono ?_
    rintro _ w1 ⟨v, rfl, hv, hb1⟩
    have hT1 := hT.below hb1
    go_wp2_with fail
    refine (refIs_true HP.out rfl hp _).mono ?_
    rintro _ _ ⟨rfl, rfl⟩
    go_wp2_with fail
    refine (refPow_any a e p rfl rfl rfl ha he hp hpp _).mono ?_
    rintro _ _ ⟨u, rfl, hu, rfl⟩
    go_wp2_with fail
    refine (told_ok (by rw [hv.out, hu.out]) _).mono ?_
    rintro _ _ ⟨rfl, rfl⟩
    go_wp2_with fail
    refine (awake_any _ hT1).mono ?_
    rintro _ w2 ⟨rfl, hb2⟩
    go_wp2
    go_ret
    exact ⟨rfl, hb1.trans (hb2.mono hb1.size)⟩
  · have HP := Lib.hid hpr
    clear hpr
    go_enter Tryd.func5, Tryd.ntmps5
    go_wp2_with fail
    refine (pow_none a e p rfl rfl rfl hp HP.out _ hT).mono ?_
    rintro _ w1 ⟨v, rfl, hv, hb1⟩
    obtain rfl : v = 0 := hv.out
    have hT1 := hT.below hb1
    go_wp2_with fail
    refine (refIs_false HP.out rfl hp _).mono ?_
    rintro _ _ ⟨rfl, rfl⟩
    go_wp2_with fail
    refine (told_err (by decide) _).mono ?_
    rintro _ _ ⟨rfl, rfl⟩
    go_wp2_with fail
    refine (awake_any _ hT1).mono ?_
    rintro _ w2 ⟨rfl, hb2⟩
    go_wp2
    go_ret
    exact ⟨rfl, hb1.trans (hb2.mono hb1.size)⟩

set_option maxHeartbeats 2000000 in
theorem walk_PrimeRoots (a : Nat) (ha : a < 4294967296) (p : Nat) (hp : p < 4294967296) (w : World) (hT : Tabs w) :
    Calls Tryd.prog 4 #[.int .u32 a, .int .u32 p] w (RetT w) := by
  by_cases hpr : Nt.Pr p
  · have HP := Lib.hid hpr
    have hpp := hpr.pos
    clear hpr
    by_cases hl : Nt.leg a p = -1
    · have HL := Lib.hid hl
      clear hl
      go_enter Tryd.func4, Tryd.ntmps4
      go_wp2_with fail
      refine (Legendre_ok a p rfl rfl ha hp HP.out _ hT).mono ?_
      rintro _ _ ⟨l, rfl, hv, rfl⟩
      obtain rfl : l = -1 := hv.out.trans HL.out
      go_wp2_with fail
      refine ((sqrt_neg a p rfl rfl ha hp HP.out HL.out _ hT).mono fun _ _ => RetED.toE).mono ?_
      rintro _ w1 ⟨s, rfl, hs, hb1⟩
      obtain rfl : s = 0 := hs.out
      have hT1 := hT.below hb1
      go_wp2_with fail
      refine (refIs_true HP.out rfl hp _).mono ?_
      rintro _ _ ⟨rfl, rfl⟩
      go_wp2_with fail
      refine (refLegendre_any a p rfl rfl ha hp hpp _).mono ?_
      rintro _ _ ⟨l, rfl, hv2, rfl⟩
      obtain rfl : l = -1 := hv2.out.trans HL.out
      go_wp2_with (first | (go_at_call 15; refine (num_any _ _).mono ?_; rintro _ _ ⟨rfl, rfl⟩) | (go_at_call 20; refine (told_err (by decide) _).mono ?_; rintro _ _ ⟨rfl, rfl⟩))
      refine (awake_any _ hT1).mono ?_
      rintro _ w2 ⟨rfl, hb2⟩
      go_wp2
      go_ret
      exact ⟨rfl, hb1.trans (hb2.mono hb1.size)⟩
    · have HL := Lib.hid hl
      have h0l : 0 ≤ Nt.leg a p := by
        unfold Nt.leg at hl ⊢
        by_cases c1 : a % p = 0
        · rw [if_pos c1]; omega
        · rw [if_neg c1] at hl ⊢
          by_cases c2 : p = 2 ∨ a ^ ((p - 1) / 2) % p = 1
          · rw [if_pos c2]; omega
          · rw [if_neg c2] at hl; omega
      have H0 := Lib.hid h0l
      clear hl h0l
      go_enter Tryd.func4, Tryd.ntmps4
      go_wp2_with fail
      refine (Legendre_ok a p rfl rfl ha hp HP.out _ hT).mono ?_
      rintro _ _ ⟨l, rfl, hv, rfl⟩
      go_wp2_with fail
      refine ((sqrt_ok a p rfl rfl ha hp HP.out HL.out _ hT).mono fun _ _ => RetED.toE).mono ?_
      rintro _ w1 ⟨s, rfl, hs, hb1⟩
      have hT1 := hT.below hb1
      have hsp := hs.out.1
      go_wp2_with fail
      refine (refIs_true HP.out rfl hp _).mono ?_
      rintro _ _ ⟨rfl, rfl⟩
      go_wp2_with fail
      refine (refLegendre_any a p rfl rfl ha hp hpp _).mono ?_
      rintro _ _ ⟨l2, rfl, hv2, rfl⟩
      obtain rfl : l2 = l := hv2.out.trans hv.out.symm
      have hl0 : 0 ≤ l2 := by rw [hv.out]; exact H0.out
      obtain ⟨n, hn⟩ : ∃ n, n = (0 % p + p - s % p) % p := ⟨_, rfl⟩
      have hsn : s ≤ n := by rw [hn]; exact hs.out.2.2
      have HM := Lib.hid (show ∀ W : World, Calls Tryd.prog 22 #[.int .u32 s, .int .u32 s, .int .u32 p] W fun e w' => e = .returned (.int .u32 ((a : Int) % p)) ∧ W = w' from fun W =>
        (refMul_any s s p rfl rfl rfl (by omega) (by omega) hp hpp W).mono fun _ _ ⟨m, h1, h2, h3⟩ => ⟨by rw [h1, h2.out, hs.out.2.1]; rfl, h3⟩)
      have HS := Lib.hid (show ∀ W : World, Calls Tryd.prog 23 #[.int .u32 0, .int .u32 s, .int .u32 p] W fun e w' => e = .returned (.int .u32 n) ∧ ∃ j, w' = W.drewN j from fun W =>
        (refSub_any 0 s p rfl rfl rfl (by omega) (by omega) hp hpp W).mono fun _ _ ⟨m, h1, h2, h3⟩ => ⟨by rw [h1, h2.out, hn], h3⟩)
      clear hn
      go_wp2_with (go_at_call 15; refine (num_any _ _).mono ?_; rintro _ _ ⟨rfl, rfl⟩)
      go_quiet ((first | (go_at_call 15; exact qs (num_any _ _)) | (go_at_call 22; exact qs (HM.out _)) | (go_at_call 23; exact qq (HS.out _)) | (go_at_call 16; exact qq (awake_q _ (hT1.drewN _)))))
      go_wp2
      go_ret
      exact ⟨rfl, hb1.trans ((below_quiet w1 _).mono hb1.size)⟩
  · have HP := Lib.hid hpr
    clear hpr
    go_enter Tryd.func4, Tryd.ntmps4
    go_wp2_with fail
    refine (Legendre_none a p rfl rfl hp HP.out _ hT).mono ?_
    rintro _ _ ⟨l, rfl, hv, rfl⟩
    obtain rfl : l = 0 := hv.out
    go_wp2_with fail
    refine ((sqrt_none a p rfl rfl hp HP.out _ hT).mono fun _ _ => RetED.toE).mono ?_
    rintro _ w1 ⟨s, rfl, hs, hb1⟩
    obtain rfl : s = 0 := hs.out
    have hT1 := hT.below hb1
    go_wp2_with fail
    refine (refIs_false HP.out rfl hp _).mono ?_
    rintro _ _ ⟨rfl, rfl⟩
    go_wp2_with (first | (go_at_call 15; refine (num_any _ _).mono ?_; rintro _ _ ⟨rfl, rfl⟩) | (go_at_call 20; refine (told_err (by decide) _).mono ?_; rintro _ _ ⟨rfl, rfl⟩))
    refine (awake_any _ hT1).mono ?_
    rintro _ w2 ⟨rfl, hb2⟩
    go_wp2
    go_ret
    exact ⟨rfl, hb1.trans (hb2.mono hb1.size)⟩
end Go.Proofs.YtjnhfakdpnnboaaDoor
