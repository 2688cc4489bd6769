/- The laws' walks: numbers that are no primes. -/
import Derived.Test.YtipbpdiahemmpaaDoorL4
import Derived.Test.YtipbpdiahemmpaaDoorW12
namespace Go.Proofs.YtipbpdiahemmpaaDoor
open Go.RowKit Go.IntWalk

set_option maxHeartbeats 1000000 in
theorem of_none (p : Nat) {pi : Int} (hpi : pi = p) (hp : p < 4294967296) (hnp : ¬ Nt.Pr p) (w : World) (hT : Tabs w) :
    Calls Tryd.prog 5 #[.agg #[.bool false, .slice none 0 0], .int .u32 pi] w (RetE (· = 0) 40 w) := by
  subst hpi
  have HN := Lib.hid hnp
  clear hnp
  go_enter Tryd.func5, Tryd.ntmps5
  go_wp2_with fail
  refine (is_false HN.out rfl hp _ (hT.alloc _)).mono ?_
  rintro _ _ ⟨rfl, rfl⟩
  go_wp2
  go_ret2
  exact ⟨0, rfl, Lib.hid rfl, (Below.refl _ w).alloc (Nat.le_refl _) _⟩
set_option maxHeartbeats 1000000 in
theorem ofRat_none (p : Nat) {pi : Int} (hpi : pi = p) (hp : p < 4294967296) (hnp : ¬ Nt.Pr p) (w : World) (hT : Tabs w) :
    Calls Tryd.prog 6 #[.agg #[.bool false, .slice none 0 0, .bool false, .slice none 0 0], .int .u32 pi] w (RetE (· = 0) 40 w) := by
  subst hpi
  have HN := Lib.hid hnp
  clear hnp
  go_enter Tryd.func6, Tryd.ntmps6
  go_wp2_with fail
  refine (is_false HN.out rfl hp _ (hT.alloc _)).mono ?_
  rintro _ _ ⟨rfl, rfl⟩
  go_wp2
  go_ret2
  exact ⟨0, rfl, Lib.hid rfl, (Below.refl _ w).alloc (Nat.le_refl _) _⟩

set_option maxHeartbeats 4000000 in
theorem walk_PrimeNone (a : Nat) (ha : a < 4294967296) (e : Nat) (he : e ≤ 18446744073709551615) (p : Nat) (hp : p < 4294967296) (w : World) (hT : Tabs w) :
    Calls Tryd.prog 4 #[.int .u32 a, .int .u64 e, .int .u32 p] w (RetT w) := by
  by_cases hpr : Nt.Pr p
  · have HP := Lib.hid hpr
    clear hpr
    go_enter Tryd.func4, Tryd.ntmps4
    go_wp2_with fail
    refine (refIs_true HP.out rfl hp _).mono ?_
    rintro _ _ ⟨rfl, rfl⟩
    go_wp2_with fail
    refine (awake_any _ hT).mono ?_
    rintro _ wz ⟨rfl, hbz⟩
    go_wp2
    go_ret
    exact ⟨rfl, hbz⟩
  · have HN := Lib.hid hpr
    clear hpr
    have hel : e % 4294967296 < 4294967296 := Nat.mod_lt _ (by omega)
    go_enter Tryd.func4, Tryd.ntmps4
    go_wp2_with fail
    refine (refIs_false HN.out rfl hp _).mono ?_
    rintro _ _ ⟨rfl, rfl⟩
    go_wp2_with fail
    refine (field_err a (e % 4294967296) p 7 rfl (by omega) rfl rfl ha hel hp (by omega) HN.out (by omega) _ hT).mono ?_
    rintro _ w0 ⟨rfl, hB0⟩
    have hT0 := hT.below hB0
    go_wp2_with fail
    refine (pow_none a e p rfl rfl rfl hp HN.out _ hT0).mono ?_
    rintro _ w1 ⟨v0, rfl, hv, hb⟩
    obtain rfl : v0 = 0 := hv.out
    have hB1 := hB0.trans (hb.mono hB0.size)
    have hT1 := hT0.below hb
    clear hb hB0 hT0
    go_wp2_with fail
    refine (of_none p rfl hp HN.out _ hT1).mono ?_
    rintro _ w2 ⟨v1, rfl, hv, hb⟩
    obtain rfl : v1 = 0 := hv.out
    have hB2 := hB1.trans (hb.mono hB1.size)
    have hT2 := hT1.below hb
    clear hb hB1 hT1
    go_wp2_with fail
    refine (ofRat_none p rfl hp HN.out _ hT2).mono ?_
    rintro _ w3 ⟨v2, rfl, hv, hb⟩
    obtain rfl : v2 = 0 := hv.out
    have hB3 := hB2.trans (hb.mono hB2.size)
    have hT3 := hT2.below hb
    clear hb hB2 hT2
    go_wp2_with fail
    refine ((Legendre_none a p rfl rfl hp HN.out _ hT3)).mono ?_
    rintro _ _ ⟨z3, rfl, hz, rfl⟩
    obtain rfl : z3 = 0 := hz.out
    have hB4 := hB3
    have hT4 := hT3
    clear hB3 hT3
    go_wp2_with fail
    refine ((sqrt_none a p rfl rfl hp HN.out _ hT4).mono fun _ _ => RetED.toE).mono ?_
    rintro _ w5 ⟨v4, rfl, hv, hb⟩
    obtain rfl : v4 = 0 := hv.out
    have hB5 := hB4.trans (hb.mono hB4.size)
    have hT5 := hT4.below hb
    clear hb hB4 hT4
    go_wp2_with fail
    refine (Order_none a p rfl rfl hp HN.out _ hT5).mono ?_
    rintro _ w6 ⟨v5, rfl, hv, hb⟩
    obtain rfl : v5 = 0 := hv.out
    have hB6 := hB5.trans (hb.mono hB5.size)
    have hT6 := hT5.below hb
    clear hb hB5 hT5
    go_wp2_with fail
    refine (Root_none p rfl hp HN.out _ hT6).mono ?_
    rintro _ w7 ⟨v6, rfl, hv, hb⟩
    obtain rfl : v6 = 0 := hv.out
    have hB7 := hB6.trans (hb.mono hB6.size)
    have hT7 := hT6.below hb
    clear hb hB6 hT6
    go_wp2_with fail
    refine (told_err (by decide) _).mono ?_
    rintro _ _ ⟨rfl, rfl⟩
    go_wp2_with fail
    refine (told_err (by decide) _).mono ?_
    rintro _ _ ⟨rfl, rfl⟩
    go_wp2_with fail
    refine (told_err (by decide) _).mono ?_
    rintro _ _ ⟨rfl, rfl⟩
    go_wp2_with fail
    refine (num_any _ _).mono ?_
    rintro _ _ ⟨rfl, rfl⟩
    go_wp2_with fail
    refine (told_err (by decide) _).mono ?_
    rintro _ _ ⟨rfl, rfl⟩
    go_wp2_with fail
    refine (told_err (by decide) _).mono ?_
    rintro _ _ ⟨rfl, rfl⟩
    go_wp2_with fail
    refine (told_err (by decide) _).mono ?_
    rintro _ _ ⟨rfl, rfl⟩
    go_wp2_with fail
    refine (awake_any _ hT7).mono ?_
    rintro _ wz ⟨rfl, hbz⟩
    go_wp2
    go_ret
    exact ⟨rfl, hB7.trans (hbz.mono hB7.size)⟩
end Go.Proofs.YtipbpdiahemmpaaDoor
