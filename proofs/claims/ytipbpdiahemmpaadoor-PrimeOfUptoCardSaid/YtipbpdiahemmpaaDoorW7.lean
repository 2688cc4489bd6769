/- The calls with errors: Neg, Quo, Inv, Legendre, Sqrt; the examples that each law holds. -/
import Derived.Test.YtipbpdiahemmpaaDoorW6
namespace Go.Proofs.YtipbpdiahemmpaaDoor
open Go.RowKit Go.IntWalk

set_option maxHeartbeats 1000000 in
theorem neg_none (a p : Nat) {ai pi : Int} (hai : ai = a) (hpi : pi = p) (hp : p < 4294967296) (hnp : ¬ Nt.Pr p) (w : World) (hT : Tabs w) :
    Calls Tryd.prog 37 #[.int .u32 ai, .int .u32 pi] w (RetE (· = 0) 40 w) := by
  subst hai hpi
  go_enter Tryd.func37, Tryd.ntmps37
  go_wp2_with fail
  refine (sub_none 0 a p rfl rfl rfl hp hnp _ hT).mono ?_
  rintro _ _ ⟨v, rfl, hv, hb⟩
  go_wp2
  go_ret2
  exact ⟨v, rfl, hv, hb⟩
set_option maxHeartbeats 1000000 in
theorem neg_ok (a p : Nat) {ai pi : Int} (hai : ai = a) (hpi : pi = p) (ha : a < 4294967296) (hp : p < 4294967296) (hpr : Nt.Pr p) (w : World) (hT : Tabs w) :
    Calls Tryd.prog 37 #[.int .u32 ai, .int .u32 pi] w (RetE (· = (0 % p + p - a % p) % p) 0 w) := by
  subst hai hpi
  go_enter Tryd.func37, Tryd.ntmps37
  go_wp2_with fail
  refine (sub_ok 0 a p rfl rfl rfl (by omega) ha hp hpr _ hT).mono ?_
  rintro _ _ ⟨v, rfl, hv, hb⟩
  go_wp2
  go_ret2
  exact ⟨v, rfl, hv, hb⟩

/-- A number and an error's number come back; at most an order was drawn. -/
def RetED (R : Nat → Prop) (code : Int) (w : World) (e : Ending) (w' : World) : Prop :=
  ∃ v : Nat, e = .returned (.tuple #[.int .u32 v, .int .i64 code]) ∧ Hid (R v) ∧ ∃ j, w' = w.drewN j
set_option maxHeartbeats 1000000 in
theorem quo_none (a b p : Nat) {ai bi pi : Int} (hai : ai = a) (hbi : bi = b) (hpi : pi = p) (hp : p < 4294967296) (hnp : ¬ Nt.Pr p) (w : World) (hT : Tabs w) :
    Calls Tryd.prog 25 #[.int .u32 ai, .int .u32 bi, .int .u32 pi] w (RetED (· = 0) 40 w) := by
  subst hai hbi hpi
  go_enter Tryd.func25, Tryd.ntmps25
  go_wp2_with fail
  refine (is_false hnp rfl hp _ hT).mono ?_
  rintro _ _ ⟨rfl, rfl⟩
  go_wp2
  go_ret2
  exact ⟨0, rfl, Lib.hid rfl, 0, rfl⟩
set_option maxHeartbeats 1000000 in
theorem quo_zero (a b p : Nat) {ai bi pi : Int} (hai : ai = a) (hbi : bi = b) (hpi : pi = p) (hp : p < 4294967296) (hpr : Nt.Pr p) (h0 : b % p = 0) (w : World) (hT : Tabs w) :
    Calls Tryd.prog 25 #[.int .u32 ai, .int .u32 bi, .int .u32 pi] w (RetED (· = 0) 5 w) := by
  subst hai hbi hpi
  have hpp := hpr.pos
  have h0' : (b : Int) % p = 0 := emod_zero rfl h0
  clear h0
  go_enter Tryd.func25, Tryd.ntmps25
  go_wp2_with fail
  refine (is_true hpr rfl hp _ hT).mono ?_
  rintro _ _ ⟨rfl, rfl⟩
  go_wp2
  go_ret2
  exact ⟨0, rfl, Lib.hid rfl, 0, rfl⟩
set_option maxHeartbeats 1000000 in
theorem quo_ok (a b p : Nat) {ai bi pi : Int} (hai : ai = a) (hbi : bi = b) (hpi : pi = p) (ha : a < 4294967296) (hb : b < 4294967296) (hp : p < 4294967296) (hpr : Nt.Pr p) (h0 : ¬ b % p = 0) (w : World) (hT : Tabs w) :
    Calls Tryd.prog 25 #[.int .u32 ai, .int .u32 bi, .int .u32 pi] w (RetED (· = a * (b ^ (p - 2) % p) % p) 0 w) := by
  subst hai hbi hpi
  have hpp := hpr.pos
  have h0' : ((b : Int) % p == 0) = false := emod_ne rfl h0
  have H0 := Lib.hid h0
  clear h0
  go_enter Tryd.func25, Tryd.ntmps25
  go_wp2_with fail
  refine (is_true hpr rfl hp _ hT).mono ?_
  rintro _ _ ⟨rfl, rfl⟩
  go_wp2_with fail
  refine (inverse_any b p rfl rfl hb hp hpr H0.out _).mono ?_
  rintro _ _ ⟨v, rfl, hv, j, rfl⟩
  have hvp := hv.out.1
  go_wp2_with fail
  refine (times_any a v p rfl rfl rfl ha (by omega) hp hpp _).mono ?_
  rintro _ _ ⟨u, rfl, hu, rfl⟩
  go_wp2
  go_ret2
  exact ⟨u, rfl, Lib.hid (by
    rw [hu.out, Nt.inv_unique hpr hv.out.1 (Nat.mod_lt _ hpp) hv.out.2 (Nt.inv_pow hpr H0.out)]), _, rfl⟩

set_option maxHeartbeats 1000000 in
theorem inv_none (a p : Nat) {ai pi : Int} (hai : ai = a) (hpi : pi = p) (hp : p < 4294967296) (hnp : ¬ Nt.Pr p) (w : World) (hT : Tabs w) :
    Calls Tryd.prog 27 #[.int .u32 ai, .int .u32 pi] w (RetED (· = 0) 40 w) := by
  subst hai hpi
  go_enter Tryd.func27, Tryd.ntmps27
  go_wp2_with fail
  refine (quo_none 1 a p rfl rfl rfl hp hnp _ hT).mono ?_
  rintro _ _ ⟨v, rfl, hv, hb⟩
  go_wp2
  go_ret2
  exact ⟨v, rfl, hv, hb⟩
set_option maxHeartbeats 1000000 in
theorem inv_zero (a p : Nat) {ai pi : Int} (hai : ai = a) (hpi : pi = p) (hp : p < 4294967296) (hpr : Nt.Pr p) (h0 : a % p = 0) (w : World) (hT : Tabs w) :
    Calls Tryd.prog 27 #[.int .u32 ai, .int .u32 pi] w (RetED (· = 0) 5 w) := by
  subst hai hpi
  go_enter Tryd.func27, Tryd.ntmps27
  go_wp2_with fail
  refine (quo_zero 1 a p rfl rfl rfl hp hpr h0 _ hT).mono ?_
  rintro _ _ ⟨v, rfl, hv, hb⟩
  go_wp2
  go_ret2
  exact ⟨v, rfl, hv, hb⟩
set_option maxHeartbeats 1000000 in
theorem inv_ok (a p : Nat) {ai pi : Int} (hai : ai = a) (hpi : pi = p) (ha : a < 4294967296) (hp : p < 4294967296) (hpr : Nt.Pr p) (h0 : ¬ a % p = 0) (w : World) (hT : Tabs w) :
    Calls Tryd.prog 27 #[.int .u32 ai, .int .u32 pi] w (RetED (· = a ^ (p - 2) % p) 0 w) := by
  subst hai hpi
  have H0 := Lib.hid h0
  clear h0
  go_enter Tryd.func27, Tryd.ntmps27
  go_wp2_with fail
  refine (quo_ok 1 a p rfl rfl rfl (by omega) ha hp hpr H0.out _ hT).mono ?_
  rintro _ _ ⟨v, rfl, hv, hb⟩
  go_wp2
  go_ret2
  exact ⟨v, rfl, Lib.hid (by rw [hv.out, Nat.one_mul, Nat.mod_mod]), hb⟩

/-- A sign and an error's number come back. -/
def RetEZ (z : Int) (code : Int) (w : World) (e : Ending) (w' : World) : Prop :=
  ∃ v : Int, e = .returned (.tuple #[.int .i64 v, .int .i64 code]) ∧ Hid (v = z) ∧ w = w'
set_option maxHeartbeats 1000000 in
theorem Legendre_none (a p : Nat) {ai pi : Int} (hai : ai = a) (hpi : pi = p) (hp : p < 4294967296) (hnp : ¬ Nt.Pr p) (w : World) (hT : Tabs w) :
    Calls Tryd.prog 15 #[.int .u32 ai, .int .u32 pi] w (RetEZ 0 40 w) := by
  subst hai hpi
  go_enter Tryd.func15, Tryd.ntmps15
  go_wp2_with fail
  refine (is_false hnp rfl hp _ hT).mono ?_
  rintro _ _ ⟨rfl, rfl⟩
  go_wp2
  go_ret2
  exact ⟨0, rfl, Lib.hid rfl, rfl⟩
set_option maxHeartbeats 1000000 in
theorem Legendre_ok (a p : Nat) {ai pi : Int} (hai : ai = a) (hpi : pi = p) (ha : a < 4294967296) (hp : p < 4294967296) (hpr : Nt.Pr p) (w : World) (hT : Tabs w) :
    Calls Tryd.prog 15 #[.int .u32 ai, .int .u32 pi] w (RetEZ (Nt.leg a p) 0 w) := by
  subst hai hpi
  have hpp := hpr.pos
  go_enter Tryd.func15, Tryd.ntmps15
  go_wp2_with fail
  refine (is_true hpr rfl hp _ hT).mono ?_
  rintro _ _ ⟨rfl, rfl⟩
  go_wp2_with fail
  refine (legendre_any a p rfl rfl ha hp hpp _).mono ?_
  rintro _ _ ⟨v, rfl, hv, rfl⟩
  go_wp2
  go_ret2
  exact ⟨v, rfl, hv, rfl⟩

set_option maxHeartbeats 1000000 in
theorem sqrt_none (a p : Nat) {ai pi : Int} (hai : ai = a) (hpi : pi = p) (hp : p < 4294967296) (hnp : ¬ Nt.Pr p) (w : World) (hT : Tabs w) :
    Calls Tryd.prog 16 #[.int .u32 ai, .int .u32 pi] w (RetED (· = 0) 40 w) := by
  subst hai hpi
  go_enter Tryd.func16, Tryd.ntmps16
  go_wp2_with fail
  refine (is_false hnp rfl hp _ hT).mono ?_
  rintro _ _ ⟨rfl, rfl⟩
  go_wp2
  go_ret2
  exact ⟨0, rfl, Lib.hid rfl, 0, rfl⟩
theorem leg_mod (a p : Nat) : Nt.leg (a % p) p = Nt.leg a p := by unfold Nt.leg; rw [Nat.mod_mod, ← Nat.pow_mod]
/-- What a root is told as. -/
def Root (a p r : Nat) : Prop := r < p ∧ r * r % p = a % p ∧ r ≤ (0 % p + p - r % p) % p
set_option maxHeartbeats 1000000 in
theorem sqrt_neg (a p : Nat) {ai pi : Int} (hai : ai = a) (hpi : pi = p) (ha : a < 4294967296) (hp : p < 4294967296) (hpr : Nt.Pr p) (hl : Nt.leg a p = -1) (w : World) (hT : Tabs w) :
    Calls Tryd.prog 16 #[.int .u32 ai, .int .u32 pi] w (RetED (· = 0) 41 w) := by
  subst hai hpi
  have hpp := hpr.pos
  have HL := Lib.hid hl
  have hm := Nat.mod_lt a hpp
  clear hl
  go_enter Tryd.func16, Tryd.ntmps16
  go_wp2_with fail
  refine (is_true hpr rfl hp _ hT).mono ?_
  rintro _ _ ⟨rfl, rfl⟩
  go_wp2_with fail
  refine (legendre_any (a % p) p rfl rfl (by omega) hp hpp _).mono ?_
  rintro _ _ ⟨v, rfl, hv, rfl⟩
  obtain rfl : v = -1 := by rw [hv.out, leg_mod, HL.out]
  go_wp2
  go_ret2
  exact ⟨0, rfl, Lib.hid rfl, 0, rfl⟩
set_option maxHeartbeats 1000000 in
theorem sqrt_ok (a p : Nat) {ai pi : Int} (hai : ai = a) (hpi : pi = p) (ha : a < 4294967296) (hp : p < 4294967296) (hpr : Nt.Pr p) (hl : ¬ Nt.leg a p = -1) (w : World) (hT : Tabs w) :
    Calls Tryd.prog 16 #[.int .u32 ai, .int .u32 pi] w (RetED (Root a p) 0 w) := by
  subst hai hpi
  have hpp := hpr.pos
  have hp2 := hpr.1
  have HL := Lib.hid hl
  have hm := Nat.mod_lt a hpp
  clear hl
  obtain ⟨b, hb⟩ : ∃ b, b = a % p := ⟨_, rfl⟩
  have hbi : (a : Int) % p = (b : Int) := by rw [hb]; rfl
  have hbp : b < p := by omega
  have HB := Lib.hid hb
  clear hb
  go_enter Tryd.func16, Tryd.ntmps16
  go_wp2_with fail
  refine (is_true hpr rfl hp _ hT).mono ?_
  rintro _ _ ⟨rfl, rfl⟩
  go_wp2_with fail
  refine (legendre_any b p rfl rfl (by omega) hp hpp _).mono ?_
  rintro _ _ ⟨v, rfl, hv, rfl⟩
  have hv0 : ¬ v < 0 := by
    have h1 : ¬ Nt.leg b p = -1 := by rw [HB.out, leg_mod]; exact HL.out
    have h2 : Nt.leg b p = 0 ∨ Nt.leg b p = 1 ∨ Nt.leg b p = -1 := by
      unfold Nt.leg
      by_cases c1 : b % p = 0
      · rw [if_pos c1]; simp
      · rw [if_neg c1]
        by_cases c2 : p = 2 ∨ b ^ ((p - 1) / 2) % p = 1
        · rw [if_pos c2]; simp
        · rw [if_neg c2]; simp
    rw [hv.out]
    omega
  by_cases hb0 : b = 0
  · have HR := Lib.hid (show Root a p 0 from ⟨hpp, by rw [← HB.out, hb0]; simp, by omega⟩)
    subst hb0
    go_wp2
    go_ret2
    exact ⟨0, rfl, HR, 0, rfl⟩
  · have hb0' : ((b : Int) == 0) = false := by simp; omega
    by_cases h2 : p = 2
    · have HR := Lib.hid (show Root a p b by
        subst h2
        have e : b = 1 := by omega
        subst e
        exact ⟨by omega, HB.out, by omega⟩)
      subst h2
      obtain rfl : b = 1 := by omega
      clear hb0 hb0'
      go_wp2
      go_ret2
      exact ⟨1, ret_t (by omega), HR, 0, rfl⟩
    · have h2' : ((p : Int) == 2) = false := by simp; omega
      have hsq := Lib.hid (show b ^ ((p - 1) / 2) % p = 1 by
        have h1 : ¬ Nt.leg b p = -1 := by rw [HB.out, leg_mod]; exact HL.out
        unfold Nt.leg at h1
        rw [if_neg (by rw [Nat.mod_eq_of_lt hbp]; exact hb0)] at h1
        apply Classical.byContradiction
        intro hne
        exact h1 (if_neg (by rintro (e | e) <;> contradiction)))
      have h3 : 3 ≤ p := by omega
      have hb1 : 0 < b := by omega
      have HNZ := Lib.hid (show ¬ a % p = 0 by rw [← HB.out]; exact hb0)
      clear hb0 h2
      go_wp2_with fail
      refine (tonelli_any b p rfl rfl hp hpr h3 hbp hsq _ hT).mono ?_
      rintro _ _ ⟨r, rfl, hr, j, rfl⟩
      have hrp := hr.out.1
      have HR := Lib.hid (Nt.root_min (a := a) hpr h3 HNZ.out hrp (by rw [hr.out.2, HB.out]))
      go_wp2_with fail
      all_goals
        go_ret2
        exact ⟨min r (p - r), ret_t (by omega), HR, _, rfl⟩
end Go.Proofs.YtipbpdiahemmpaaDoor
