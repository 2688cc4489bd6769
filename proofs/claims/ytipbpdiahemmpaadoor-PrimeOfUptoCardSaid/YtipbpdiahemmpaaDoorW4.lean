/- Inverses and Legendre's sign. -/
import Derived.Test.YtipbpdiahemmpaaDoorW3
import Derived.Test.YtipbpdiahemmpaaDoorRz
import Derived.Test.YtipbpdiahemmpaaDoorNt3
namespace Go.Proofs.YtipbpdiahemmpaaDoor
open Go.RowKit Go.IntWalk

def RetRD (k : IntKind) (R : Nat → Prop) (w : World) (e : Ending) (w' : World) : Prop := ∃ v : Nat, e = .returned (.int k v) ∧ Hid (R v) ∧ ∃ j, w' = w.drewN j

set_option maxHeartbeats 1000000 in
theorem inverse_any (a p : Nat) {ai pi : Int} (hai : ai = a) (hpi : pi = p) (ha : a < 4294967296) (hp : p < 4294967296) (hpr : Nt.Pr p) (h0 : ¬ a % p = 0) (w : World) :
    Calls Tryd.prog 56 #[.int .u32 ai, .int .u32 pi] w (RetRD .u32 (fun v => v < p ∧ v * a % p = 1) w) := by
  subst hai hpi
  have hp2 := hpr.1
  have HS := Lib.hid (Nt.Eu.start hpr h0)
  have hm := Nat.mod_lt a (show 0 < p by omega)
  clear h0
  go_enter Tryd.func56, Tryd.ntmps56
  go_wp2_with fail
  go_step3
  go_wp2_with fail
  go_quiet (fail)
  go_wp2_with fail
  go_step3
  go_wp2_with fail
  go_loopg [5, 6, 7, 8] p (fun g r s x y wx => ∃ (r' s' : Nat) (x' y' : Int), s' ≤ g ∧ r = .int .i64 r' ∧ s = .int .i64 s' ∧ x = .int .i64 x' ∧ y = .int .i64 y' ∧ (∃ j, wx = w.drewN j) ∧ r' ≤ p ∧ s' < r' ∧
    -(p : Int) ≤ x' ∧ x' ≤ p ∧ -(p : Int) ≤ y' ∧ y' ≤ p ∧ Hid (Nt.Eu p a r' s' x' y'))
  case atStart => exact ⟨p, a % p, 0, 1, by omega, rfl, rfl, rfl, rfl, ⟨_, rfl⟩, by omega, by omega, by omega, by omega, by omega, by omega, HS⟩
  case round =>
    clear HS
    obtain ⟨r, s, x, y, hg, rfl, rfl, rfl, rfl, ⟨j, rfl⟩, hrp, hsr, hx1, hx2, hy1, hy2, hE⟩ := hrel
    by_cases hs : s = 0
    · subst hs
      obtain ⟨v, hv1, hv2, hv3⟩ := hE.out.done hpr
      have HV := Lib.hid hv1
      have HW := Lib.hid (And.intro hv2 hv3)
      clear hv1 hv2 hv3
      go_wp2
      rw [Exit.noGoto_ret]
      go_ret
      refine ⟨v, ret_i ?_, HW, _, rfl⟩
      have e : x % (p : Int) = (x + p) % p := by simp
      rw [e, HV.out]
      have := HW.out.1
      omega
    · have hs' : 0 < s := by omega
      clear hs
      have hst := hE.out.step hs'
      have hb := hst.bound
      have hq0 : 0 ≤ (r : Int) / s * s := Int.mul_nonneg (Int.ediv_nonneg (by omega) (by omega)) (by omega)
      have hqr : (r : Int) / s * s ≤ r := Int.ediv_mul_le _ (by omega)
      have hdv : ((r / s : Nat) : Int) = (r : Int) / s := rfl
      rw [hdv] at hst hb
      have hy3 : -8589934592 ≤ (r : Int) / s * y := by omega
      have hy4 : (r : Int) / s * y ≤ 8589934592 := by omega
      have hsm := Nat.mod_lt r hs'
      have hrm : (r : Int) - (r : Int) / s * s = ((r % s : Nat) : Int) := by
        have := Int.mul_ediv_add_emod (r : Int) s
        rw [Int.mul_comm] at this
        have e : ((r % s : Nat) : Int) = (r : Int) % s := rfl
        omega
      have HRM := Lib.hid hrm
      have HST := Lib.hid hst
      obtain ⟨g, rfl⟩ : ∃ g, gk = g + 1 := ⟨gk - 1, by omega⟩
      clear hst hrm hdv
      have hsd : (0 : Int) ≤ (r : Int) / s := Int.ediv_nonneg (by omega) (by omega)
      have hsl : (r : Int) / s ≤ r := Int.ediv_le_self _ (by omega)
      go_wp2
      go_roundg g
      case measure => omega
      case rel => exact ⟨s, r % s, y, _, by omega, rfl, int_i HRM.out, rfl, rfl, ⟨_, rfl⟩, by omega, hsm, hb.1, hb.2.1, hb.2.2.1, hb.2.2.2, HST⟩

theorem leg_zero {a p : Nat} (h : a % p = 0) : Nt.leg a p = 0 := by simp [Nt.leg, h]
theorem leg_two {a p : Nat} (h : ¬ a % p = 0) (h2 : p = 2) : Nt.leg a p = 1 := by unfold Nt.leg; rw [if_neg h, if_pos (Or.inl h2)]
theorem leg_one {a p : Nat} (h : ¬ a % p = 0) (h2 : a ^ ((p - 1) / 2) % p = 1) : Nt.leg a p = 1 := by simp [Nt.leg, h, h2]
theorem leg_neg {a p : Nat} (h : ¬ a % p = 0) (h2 : ¬ p = 2) (h3 : ¬ a ^ ((p - 1) / 2) % p = 1) : Nt.leg a p = -1 := by simp [Nt.leg, h, h2, h3]

set_option maxHeartbeats 1000000 in
theorem legendre_any (a p : Nat) {ai pi : Int} (hai : ai = a) (hpi : pi = p) (ha : a < 4294967296) (hp : p < 4294967296) (h1 : 1 ≤ p) (w : World) :
    Calls Tryd.prog 43 #[.int .u32 ai, .int .u32 pi] w (RetZ (Nt.leg a p) w) := by
  subst hai hpi
  by_cases hz : a % p = 0
  · have hz' : (a : Int) % p = 0 := emod_zero rfl hz
    have HZ := Lib.hid (leg_zero hz)
    clear hz
    go_enter Tryd.func43, Tryd.ntmps43
    go_wp2
    go_ret
    exact ⟨0, rfl, Lib.hid HZ.out.symm, rfl⟩
  have hz' : ((a : Int) % p == 0) = false := emod_ne rfl hz
  have hab := Nat.mod_lt a h1
  by_cases h2 : p = 2
  · have HZ := Lib.hid (leg_two hz h2)
    subst h2
    clear hz
    go_enter Tryd.func43, Tryd.ntmps43
    go_wp2_with fail
    go_ret
    exact ⟨1, rfl, Lib.hid HZ.out.symm, rfl⟩
  · have h2' : ((p : Int) == 2) = false := by simp; omega
    have HZ := Lib.hid (And.intro hz h2)
    clear hz h2
    go_enter Tryd.func43, Tryd.ntmps43
    go_wp2_with fail
    refine (power_any (a % p) ((p - 1) / 2) p rfl (by omega) rfl (by omega) (by omega) hp h1 _).mono ?_
    rintro _ _ ⟨v, rfl, hv, rfl⟩
    by_cases hv1 : v = 1
    · have HL := Lib.hid (leg_one HZ.out.1 (by rw [Nat.pow_mod, ← hv.out]; exact hv1))
      subst hv1
      go_wp2
      go_ret
      exact ⟨1, rfl, Lib.hid HL.out.symm, rfl⟩
    · have hv1' : ((v : Int) == 1) = false := by simp; omega
      have HL := Lib.hid (leg_neg HZ.out.1 HZ.out.2 (by rw [Nat.pow_mod, ← hv.out]; exact hv1))
      clear hv1
      go_wp2
      go_ret
      exact ⟨-1, rfl, Lib.hid HL.out.symm, rfl⟩
end Go.Proofs.YtipbpdiahemmpaaDoor
