/- The calls with errors: Neg, Quo, Inv, Legendre, Sqrt; the examples that each law holds. -/
import Derived.Test.YtmgacikdgbedfaaGreatDoorW6
namespace Go.Proofs.YtmgacikdgbedfaaGreatDoor
open Go.RowKit Go.IntWalk

set_option maxHeartbeats 1000000 in
theorem neg_none (a p : Nat) {ai pi : Int} (hai : ai = a) (hpi : pi = p) (hp : p < 4294967296) (hnp : ¬ Nt.Pr p) (w : World) (hT : Tabs w) :
    Calls Tryz.prog 58 #[.int .u32 ai, .int .u32 pi] w (RetE (· = 0) 40 w) := by
  subst hai hpi
  go_enter Tryz.func58, Tryz.ntmps58
  go_wp2_with fail
  refine (sub_none 0 a p rfl rfl rfl hp hnp _ hT).mono ?_
  rintro _ _ ⟨v, rfl, hv, hb⟩
  go_wp2
  go_ret2
  exact ⟨v, rfl, hv, hb⟩
set_option maxHeartbeats 1000000 in
theorem neg_ok (a p : Nat) {ai pi : Int} (hai : ai = a) (hpi : pi = p) (ha : a < 4294967296) (hp : p < 4294967296) (hpr : Nt.Pr p) (w : World) (hT : Tabs w) :
    Calls Tryz.prog 58 #[.int .u32 ai, .int .u32 pi] w (RetE (· = (0 % p + p - a % p) % p) 0 w) := by
  subst hai hpi
  go_enter Tryz.func58, Tryz.ntmps58
  go_wp2_with fail
  refine (sub_ok 0 a p rfl rfl rfl (by omega) ha hp hpr _ hT).mono ?_
  rintro _ _ ⟨v, rfl, hv, hb⟩
  go_wp2
  go_ret2
  exact ⟨v, rfl, hv, hb⟩

/-- A number and an error's number come back; at most an order was drawn. -/
def RetED (R : Nat → Prop) (code : Int) (w : World) (e : Ending) (w' : World) : Prop :=
  ∃ v : Nat, e = .returned (.tuple #[.int .u32 v, .int .i64 code]) ∧ Hid (R v) ∧ ∃ j, w' = w.drewN j
set_option maxHeartbeats 1000000 in
theorem quo_none (a b p : Nat) {ai bi pi : Int} (hai : ai = a) (hbi : bi = b) (hpi : pi = p) (hp : p < 4294967296) (hnp : ¬ Nt.Pr p) (w : World) (hT : Tabs w) :
    Calls Tryz.prog 74 #[.int .u32 ai, .int .u32 bi, .int .u32 pi] w (RetED (· = 0) 40 w) := by
  subst hai hbi hpi
  go_enter Tryz.func74, Tryz.ntmps74
  go_wp2_with fail
  refine (is_false hnp rfl hp _ hT).mono ?_
  rintro _ _ ⟨rfl, rfl⟩
  go_wp2
  go_ret2
  exact ⟨0, rfl, Lib.hid rfl, 0, rfl⟩
set_option maxHeartbeats 1000000 in
theorem quo_zero (a b p : Nat) {ai bi pi : Int} (hai : ai = a) (hbi : bi = b) (hpi : pi = p) (hp : p < 4294967296) (hpr : Nt.Pr p) (h0 : b % p = 0) (w : World) (hT : Tabs w) :
    Calls Tryz.prog 74 #[.int .u32 ai, .int .u32 bi, .int .u32 pi] w (RetED (· = 0) 5 w) := by
  subst hai hbi hpi
  have hpp := hpr.pos
  have h0' : (b : Int) % p = 0 := emod_zero rfl h0
  clear h0
  go_enter Tryz.func74, Tryz.ntmps74
  go_wp2_with fail
  refine (is_true hpr rfl hp _ hT).mono ?_
  rintro _ _ ⟨rfl, rfl⟩
  go_wp2
  go_ret2
  exact ⟨0, rfl, Lib.hid rfl, 0, rfl⟩
set_option maxHeartbeats 1000000 in
theorem quo_ok (a b p : Nat) {ai bi pi : Int} (hai : ai = a) (hbi : bi = b) (hpi : pi = p) (ha : a < 4294967296) (hb : b < 4294967296) (hp : p < 4294967296) (hpr : Nt.Pr p) (h0 : ¬ b % p = 0) (w : World) (hT : Tabs w) :
    Calls Tryz.prog 74 #[.int .u32 ai, .int .u32 bi, .int .u32 pi] w (RetED (· = a * (b ^ (p - 2) % p) % p) 0 w) := by
  subst hai hbi hpi
  have hpp := hpr.pos
  have h0' : ((b : Int) % p == 0) = false := emod_ne rfl h0
  have H0 := Lib.hid h0
  clear h0
  go_enter Tryz.func74, Tryz.ntmps74
  go_wp2_with fail
  refine (is_true hpr rfl hp _ hT).mono ?_
  rintro _ _ ⟨rfl, rfl⟩
  go_wp2_with fail
  refine (inverse_any b p rfl rfl hb hp hpr H0.out _).mono ?_
  rintro _ _ ⟨v, rfl, hv, j, rfl⟩
  have hvp := hv.out.1
  go_wp2_with fail
  refine (times_any a v p rfl rfl rfl ha (by omega) hp hpp _).mono ?_
  rintro _ _ ⟨u, rfl, hu, rfl⟩
  go_wp2
  go_ret2
  exact ⟨u, rfl, Lib.hid (by
    rw [hu.out, Nt.inv_unique hpr hv.out.1 (Nat.mod_lt _ hpp) hv.out.2 (Nt.inv_pow hpr H0.out)]), _, rfl⟩

set_option maxHeartbeats 1000000 in
theorem inv_none (a p : Nat) {ai pi : Int} (hai : ai = a) (hpi : pi = p) (hp : p < 4294967296) (hnp : ¬ Nt.Pr p) (w : World) (hT : Tabs w) :
    Calls Tryz.prog 67 #[.int .u32 ai, .int .u32 pi] w (RetED (· = 0) 40 w) := by
  subst hai hpi
  go_enter Tryz.func67, Tryz.ntmps67
  go_wp2_with fail
  refine (quo_none 1 a p rfl rfl rfl hp hnp _ hT).mono ?_
  rintro _ _ ⟨v, rfl, hv, hb⟩
  go_wp2
  go_ret2
  exact ⟨v, rfl, hv, hb⟩
set_option maxHeartbeats 1000000 in
theorem inv_zero (a p : Nat) {ai pi : Int} (hai : ai = a) (hpi : pi = p) (hp : p < 4294967296) (hpr : Nt.Pr p) (h0 : a % p = 0) (w : World) (hT : Tabs w) :
    Calls Tryz.prog 67 #[.int .u32 ai, .int .u32 pi] w (RetED (· = 0) 5 w) := by
  subst hai hpi
  go_enter Tryz.func67, Tryz.ntmps67
  go_wp2_with fail
  refine (quo_zero 1 a p rfl rfl rfl hp hpr h0 _ hT).mono ?_
  rintro _ _ ⟨v, rfl, hv, hb⟩
  go_wp2
  go_ret2
  exact ⟨v, rfl, hv, hb⟩
set_option maxHeartbeats 1000000 in
theorem inv_ok (a p : Nat) {ai pi : Int} (hai : ai = a) (hpi : pi = p) (ha : a < 4294967296) (hp : p < 4294967296) (hpr : Nt.Pr p) (h0 : ¬ a % p = 0) (w : World) (hT : Tabs w) :
    Calls Tryz.prog 67 #[.int .u32 ai, .int .u32 pi] w (RetED (· = a ^ (p - 2) % p) 0 w) := by
  subst hai hpi
  have H0 := Lib.hid h0
  clear h0
  go_enter Tryz.func67, Tryz.ntmps67
  go_wp2_with fail
  refine (quo_ok 1 a p rfl rfl rfl (by omega) ha hp hpr H0.out _ hT).mono ?_
  rintro _ _ ⟨v, rfl, hv, hb⟩
  go_wp2
  go_ret2
  exact ⟨v, rfl, Lib.hid (by rw [hv.out, Nat.one_mul, Nat.mod_mod]), hb⟩

/-- A sign and an error's number come back. -/
def RetEZ (z : Int) (code : Int) (w : World) (e : Ending) (w' : World) : Prop :=
  ∃ v : Int, e = .returned (.tuple #[.int .i64 v, .int .i64 code]) ∧ Hid (v = z) ∧ w = w'
theorem leg_mod (a p : Nat) : Nt.leg (a % p) p = Nt.leg a p := by unfold Nt.leg; rw [Nat.mod_mod, ← Nat.pow_mod]
/-- What a root is told as. -/
def Root (a p r : Nat) : Prop := r < p ∧ r * r % p = a % p ∧ r ≤ (0 % p + p - r % p) % p
end Go.Proofs.YtmgacikdgbedfaaGreatDoor
