/- The field's operations with their errors. -/
import Derived.Test.YtipbpdiahemmpaaDoorW4
namespace Go.Proofs.YtipbpdiahemmpaaDoor
open Go.RowKit Go.IntWalk

theorem below_drewN {B : Nat} {a w : World} (h : Below B a w) (n : Nat) : Below B a (w.drewN n) := ⟨h.os, h.tape, h.output, h.size, h.block⟩
theorem below_quiet (w : World) (n : Nat) : Below w.heap.size w (w.drewN n) := below_drewN (Below.refl _ _) n
theorem Tabs.alloc {w : World} (h : Tabs w) (o : Obj) : Tabs (w.alloc o) := h.below ((Below.refl _ _).alloc (Nat.le_refl _) _)
/-- A number and an error's number come back; what was there is as it was. -/
def RetE (R : Nat → Prop) (code : Int) (w : World) (e : Ending) (w' : World) : Prop :=
  ∃ v : Nat, e = .returned (.tuple #[.int .u32 v, .int .i64 code]) ∧ Hid (R v) ∧ Below w.heap.size w w'

theorem is_true {n : Nat} (h : Nt.Pr n) {ni : Int} (hni : ni = n) (hn : n < 4294967296) (w : World) (hT : Tabs w) :
    Calls Tryd.prog 20 #[.int .u32 ni] w fun e w' => e = .returned (.bool true) ∧ w = w' := by
  have := is_any n hni hn w hT
  rw [Nt.isP_iff.2 h] at this
  exact this
theorem is_false {n : Nat} (h : ¬ Nt.Pr n) {ni : Int} (hni : ni = n) (hn : n < 4294967296) (w : World) (hT : Tabs w) :
    Calls Tryd.prog 20 #[.int .u32 ni] w fun e w' => e = .returned (.bool false) ∧ w = w' := by
  have := is_any n hni hn w hT
  rw [Nt.isP_false_iff.2 h] at this
  exact this

theorem below3 (w : World) (a b c : Obj) : Below w.heap.size w (((w.alloc a).alloc b).alloc c) :=
  (((Below.refl _ _).alloc (Nat.le_refl _) _).alloc (by simp) _).alloc (by simp; omega) _
theorem ret_t {k : IntKind} {a b : Int} {c : Value} (h : a = b) : Ending.returned (.tuple #[.int k a, c]) = .returned (.tuple #[.int k b, c]) := by rw [h]

set_option maxHeartbeats 1000000 in
theorem add_none (a b p : Nat) {ai bi pi : Int} (hai : ai = a) (hbi : bi = b) (hpi : pi = p) (hp : p < 4294967296) (hnp : ¬ Nt.Pr p) (w : World) (hT : Tabs w) :
    Calls Tryd.prog 34 #[.int .u32 ai, .int .u32 bi, .int .u32 pi] w (RetE (· = 0) 40 w) := by
  subst hai hbi hpi
  go_enter Tryd.func34, Tryd.ntmps34
  go_wp2_with (first | (go_at_call 20; refine (is_false hnp rfl hp _ (((hT.alloc _).alloc _).alloc _)).mono ?_; rintro _ _ ⟨rfl, rfl⟩) | go_in)
  go_ret2
  exact ⟨0, rfl, Lib.hid rfl, below3 _ _ _ _⟩
set_option maxHeartbeats 1000000 in
theorem add_ok (a b p : Nat) {ai bi pi : Int} (hai : ai = a) (hbi : bi = b) (hpi : pi = p) (ha : a < 4294967296) (hb : b < 4294967296) (hp : p < 4294967296) (hpr : Nt.Pr p) (w : World) (hT : Tabs w) :
    Calls Tryd.prog 34 #[.int .u32 ai, .int .u32 bi, .int .u32 pi] w (RetE (· = (a + b) % p) 0 w) := by
  subst hai hbi hpi
  have h0 := hpr.pos
  have h1 : (a : Int) % p < p := Int.emod_lt_of_pos _ (by omega)
  have h2 : (b : Int) % p < p := Int.emod_lt_of_pos _ (by omega)
  have h3 : 0 ≤ (a : Int) % p := Int.emod_nonneg _ (by omega)
  have h4 : 0 ≤ (b : Int) % p := Int.emod_nonneg _ (by omega)
  have h5 := Nat.mod_lt a h0
  go_enter Tryd.func34, Tryd.ntmps34
  go_wp2_with (first | (go_at_call 20; refine (is_true hpr rfl hp _ (((hT.alloc _).alloc _).alloc _)).mono ?_; rintro _ _ ⟨rfl, rfl⟩) | go_in)
  go_ret2
  exact ⟨_, ret_t (add_val a b p hp h0), Lib.hid rfl, below3 _ _ _ _⟩
set_option maxHeartbeats 1000000 in
theorem mul_none (a b p : Nat) {ai bi pi : Int} (hai : ai = a) (hbi : bi = b) (hpi : pi = p) (hp : p < 4294967296) (hnp : ¬ Nt.Pr p) (w : World) (hT : Tabs w) :
    Calls Tryd.prog 36 #[.int .u32 ai, .int .u32 bi, .int .u32 pi] w (RetE (· = 0) 40 w) := by
  subst hai hbi hpi
  go_enter Tryd.func36, Tryd.ntmps36
  go_wp2_with (first | (go_at_call 20; refine (is_false hnp rfl hp _ (((hT.alloc _).alloc _).alloc _)).mono ?_; rintro _ _ ⟨rfl, rfl⟩) | go_in)
  go_ret2
  exact ⟨0, rfl, Lib.hid rfl, below3 _ _ _ _⟩
set_option maxHeartbeats 1000000 in
theorem mul_ok (a b p : Nat) {ai bi pi : Int} (hai : ai = a) (hbi : bi = b) (hpi : pi = p) (ha : a < 4294967296) (hb : b < 4294967296) (hp : p < 4294967296) (hpr : Nt.Pr p) (w : World) (hT : Tabs w) :
    Calls Tryd.prog 36 #[.int .u32 ai, .int .u32 bi, .int .u32 pi] w (RetE (· = a * b % p) 0 w) := by
  subst hai hbi hpi
  have h0 := hpr.pos
  have h1 : (a : Int) % p < p := Int.emod_lt_of_pos _ (by omega)
  have h2 : (b : Int) % p < p := Int.emod_lt_of_pos _ (by omega)
  have h3 : 0 ≤ (a : Int) % p := Int.emod_nonneg _ (by omega)
  have h4 : 0 ≤ (b : Int) % p := Int.emod_nonneg _ (by omega)
  have h5 := Nat.mod_lt a h0
  go_enter Tryd.func36, Tryd.ntmps36
  go_wp2_with (first | (go_at_call 20; refine (is_true hpr rfl hp _ (((hT.alloc _).alloc _).alloc _)).mono ?_; rintro _ _ ⟨rfl, rfl⟩) | (go_at_call 47; refine (times_any a b p rfl rfl rfl ha hb hp h0 _).mono ?_; rintro _ _ ⟨v, rfl, hv, rfl⟩) | go_in)
  go_ret2
  exact ⟨v, rfl, Lib.hid (by rw [hv.out]), below3 _ _ _ _⟩
set_option maxHeartbeats 1000000 in
theorem pow_none (a b p : Nat) {ai bi pi : Int} (hai : ai = a) (hbi : bi = b) (hpi : pi = p) (hp : p < 4294967296) (hnp : ¬ Nt.Pr p) (w : World) (hT : Tabs w) :
    Calls Tryd.prog 14 #[.int .u32 ai, .int .u64 bi, .int .u32 pi] w (RetE (· = 0) 40 w) := by
  subst hai hbi hpi
  go_enter Tryd.func14, Tryd.ntmps14
  go_wp2_with (first | (go_at_call 20; refine (is_false hnp rfl hp _ (((hT.alloc _).alloc _).alloc _)).mono ?_; rintro _ _ ⟨rfl, rfl⟩) | go_in)
  go_ret2
  exact ⟨0, rfl, Lib.hid rfl, below3 _ _ _ _⟩
set_option maxHeartbeats 1000000 in
theorem pow_ok (a b p : Nat) {ai bi pi : Int} (hai : ai = a) (hbi : bi = b) (hpi : pi = p) (ha : a < 4294967296) (hb : b ≤ 18446744073709551615) (hp : p < 4294967296) (hpr : Nt.Pr p) (w : World) (hT : Tabs w) :
    Calls Tryd.prog 14 #[.int .u32 ai, .int .u64 bi, .int .u32 pi] w (RetE (· = a ^ b % p) 0 w) := by
  subst hai hbi hpi
  have h0 := hpr.pos
  have h1 : (a : Int) % p < p := Int.emod_lt_of_pos _ (by omega)
  have h2 : (b : Int) % p < p := Int.emod_lt_of_pos _ (by omega)
  have h3 : 0 ≤ (a : Int) % p := Int.emod_nonneg _ (by omega)
  have h4 : 0 ≤ (b : Int) % p := Int.emod_nonneg _ (by omega)
  have h5 := Nat.mod_lt a h0
  obtain ⟨v, hv⟩ : ∃ v, v = (a % p) ^ b % p := ⟨_, rfl⟩
  have HC : ∀ W : World, Calls Tryd.prog 42 #[.int .u32 ((a : Int) % p), .int .u64 b, .int .u32 p] W fun e w' => e = .returned (.int .u32 v) ∧ w' = W := fun W =>
    (power_any (a % p) b p rfl rfl rfl (by omega) hb hp h0 W).mono fun _ _ ⟨u, h1, h2, h3⟩ => ⟨by rw [h1, h2.out, hv], h3.symm⟩
  have HV := Lib.hid (hv.trans (Nat.pow_mod a b p).symm)
  have HH := Lib.hid HC
  clear hv HC
  go_enter Tryd.func14, Tryd.ntmps14
  go_wp2_with (first | (go_at_call 20; refine (is_true hpr rfl hp _ (((hT.alloc _).alloc _).alloc _)).mono ?_; rintro _ _ ⟨rfl, rfl⟩) | go_in)
  go_quiet ((go_at_call 42; exact Calls.quiet_of_same (HH.out _)))
  go_wp2
  go_ret2
  exact ⟨v, rfl, HV, below_drewN (below3 _ _ _ _) _⟩
set_option maxHeartbeats 1000000 in
theorem sub_none (a b p : Nat) {ai bi pi : Int} (hai : ai = a) (hbi : bi = b) (hpi : pi = p) (hp : p < 4294967296) (hnp : ¬ Nt.Pr p) (w : World) (hT : Tabs w) :
    Calls Tryd.prog 35 #[.int .u32 ai, .int .u32 bi, .int .u32 pi] w (RetE (· = 0) 40 w) := by
  subst hai hbi hpi
  go_enter Tryd.func35, Tryd.ntmps35
  go_wp2_with (first | (go_at_call 20; refine (is_false hnp rfl hp _ (((hT.alloc _).alloc _).alloc _)).mono ?_; rintro _ _ ⟨rfl, rfl⟩) | go_in)
  go_ret2
  exact ⟨0, rfl, Lib.hid rfl, below3 _ _ _ _⟩
set_option maxHeartbeats 1000000 in
theorem sub_ok (a b p : Nat) {ai bi pi : Int} (hai : ai = a) (hbi : bi = b) (hpi : pi = p) (ha : a < 4294967296) (hb : b < 4294967296) (hp : p < 4294967296) (hpr : Nt.Pr p) (w : World) (hT : Tabs w) :
    Calls Tryd.prog 35 #[.int .u32 ai, .int .u32 bi, .int .u32 pi] w (RetE (· = (a % p + p - b % p) % p) 0 w) := by
  subst hai hbi hpi
  have h0 := hpr.pos
  have h1 : (a : Int) % p < p := Int.emod_lt_of_pos _ (by omega)
  have h2 : (b : Int) % p < p := Int.emod_lt_of_pos _ (by omega)
  have h3 : 0 ≤ (a : Int) % p := Int.emod_nonneg _ (by omega)
  have h4 : 0 ≤ (b : Int) % p := Int.emod_nonneg _ (by omega)
  have h5 := Nat.mod_lt a h0
  go_enter Tryd.func35, Tryd.ntmps35
  go_wp2_with (first | (go_at_call 20; refine (is_true hpr rfl hp _ (((hT.alloc _).alloc _).alloc _)).mono ?_; rintro _ _ ⟨rfl, rfl⟩) | go_in)
  go_quiet (fail)
  go_wp2
  go_ret2
  exact ⟨_, ret_t (sub_val a b p hp h0), Lib.hid rfl, below_drewN (below3 _ _ _ _) _⟩
end Go.Proofs.YtipbpdiahemmpaaDoor
