/- The leaves of prime: times, power, and what the references multiply with. -/
import Derived.Test.YtipbpdiahemmpaaDoorRz
namespace Go.Proofs.YtipbpdiahemmpaaDoor
open Go.RowKit Go.IntWalk

theorem mul_lt (a b : Nat) (ha : a < 4294967296) (hb : b < 4294967296) : a * b ≤ 18446744065119617025 := by
  have := Nat.mul_le_mul (show a ≤ 4294967295 by omega) (show b ≤ 4294967295 by omega)
  omega
theorem times_val (a b n : Nat) (ha : a < 4294967296) (hb : b < 4294967296) (hn : n < 4294967296) (h0 : 0 < n) :
    (IntKind.u64.wrap ((a : Int) * b)).tmod n % 4294967296 = ((a * b % n : Nat) : Int) := by
  have h := mul_lt a b ha hb
  have e : (a : Int) * b = ((a * b : Nat) : Int) := by simp
  rw [e, u64_in _ (by omega), up_tmod rfl rfl]
  have := Nat.mod_lt (a * b) h0
  omega
set_option maxHeartbeats 400000 in
theorem times_any (a b n : Nat) {ai bi ni : Int} (hai : ai = a) (hbi : bi = b) (hni : ni = n) (ha : a < 4294967296) (hb : b < 4294967296) (hn : n < 4294967296) (h0 : 0 < n) (w : World) :
    Calls Tryd.prog 47 #[.int .u32 ai, .int .u32 bi, .int .u32 ni] w (RetU .u32 (a * b % n) w) := by
  subst hai hbi hni
  go_enter Tryd.func47, Tryd.ntmps47
  go_wp2
  go_ret
  exact ⟨_, ret_i (times_val a b n ha hb hn h0), Lib.hid rfl, rfl⟩
set_option maxHeartbeats 400000 in
theorem refMul_any (a b n : Nat) {ai bi ni : Int} (hai : ai = a) (hbi : bi = b) (hni : ni = n) (ha : a < 4294967296) (hb : b < 4294967296) (hn : n < 4294967296) (h0 : 0 < n) (w : World) :
    Calls Tryd.prog 32 #[.int .u32 ai, .int .u32 bi, .int .u32 ni] w (RetU .u32 (a * b % n) w) := by
  subst hai hbi hni
  go_enter Tryd.func32, Tryd.ntmps32
  go_wp2
  go_ret
  exact ⟨_, ret_i (times_val a b n ha hb hn h0), Lib.hid rfl, rfl⟩

theorem add_val (a b n : Nat) (hn : n < 4294967296) (h0 : 0 < n) :
    ((a : Int) + b) % n % 4294967296 = (((a + b) % n : Nat) : Int) := by
  rw [up_add rfl rfl, up_mod rfl rfl]
  have := Nat.mod_lt (a + b) h0
  omega
set_option maxHeartbeats 400000 in
theorem refAdd_any (a b n : Nat) {ai bi ni : Int} (hai : ai = a) (hbi : bi = b) (hni : ni = n) (ha : a < 4294967296) (hb : b < 4294967296) (hn : n < 4294967296) (h0 : 0 < n) (w : World) :
    Calls Tryd.prog 38 #[.int .u32 ai, .int .u32 bi, .int .u32 ni] w (RetU .u32 ((a + b) % n) w) := by
  subst hai hbi hni
  go_enter Tryd.func38, Tryd.ntmps38
  go_wp2
  go_ret
  exact ⟨_, ret_i (add_val a b n hn h0), Lib.hid rfl, rfl⟩

theorem sub_val (a b n : Nat) (hn : n < 4294967296) (h0 : 0 < n) :
    ((a : Int) % n + n - b) % n % 4294967296 = (((a % n + n - b % n) % n : Nat) : Int) := by
  have h1 := Nat.mod_lt a h0
  have h2 := Nat.mod_lt b h0
  have e : (a : Int) % n + n - b % n = ((a % n + n - b % n : Nat) : Int) := up_sub (up_add (up_mod rfl rfl) rfl) (up_mod rfl rfl) (by omega)
  rw [Int.sub_emod, ← Int.emod_emod_of_dvd b (Int.dvd_refl n), ← Int.sub_emod, e, up_mod rfl rfl]
  have := Nat.mod_lt (a % n + n - b % n) h0
  omega
set_option maxHeartbeats 400000 in
theorem refSub_any (a b n : Nat) {ai bi ni : Int} (hai : ai = a) (hbi : bi = b) (hni : ni = n) (ha : a < 4294967296) (hb : b < 4294967296) (hn : n < 4294967296) (h0 : 0 < n) (w : World) :
    Calls Tryd.prog 39 #[.int .u32 ai, .int .u32 bi, .int .u32 ni] w (RetUD .u32 ((a % n + n - b % n) % n) w) := by
  subst hai hbi hni
  have h1 : (a : Int) % n < n := Int.emod_lt_of_pos _ (by omega)
  have h2 : (b : Int) % n < n := Int.emod_lt_of_pos _ (by omega)
  have h3 : 0 ≤ (a : Int) % n := Int.emod_nonneg _ (by omega)
  have h4 : 0 ≤ (b : Int) % n := Int.emod_nonneg _ (by omega)
  go_enter Tryd.func39, Tryd.ntmps39
  go_wp2
  go_quiet (fail)
  go_wp2
  go_ret
  exact ⟨_, ret_i (sub_val a b n hn h0), Lib.hid rfl, _, rfl⟩

theorem power_step (a e n : Nat) (hev : e % 2 ≠ 1) : (a ^ (e / 2) % n) * (a ^ (e / 2) % n) % n = a ^ e % n := by
  rw [← Nat.mul_mod, ← Nat.pow_add]
  congr 2
  omega
theorem power_step1 (a e n : Nat) (hod : e % 2 = 1) : (a ^ (e / 2) % n) * (a ^ (e / 2) % n) % n * (a % n) % n = a ^ e % n := by
  rw [← Nat.mul_mod (a ^ (e / 2)), ← Nat.pow_add, ← Nat.mul_mod, ← Nat.pow_succ]
  congr 2
  omega
set_option maxHeartbeats 400000 in
theorem power_any (a e n : Nat) {ai ei ni : Int} (hai : ai = a) (hei : ei = e) (hni : ni = n) (ha : a < 4294967296) (he : e ≤ 18446744073709551615) (hn : n < 4294967296) (h0 : 0 < n) (w : World) :
    Calls Tryd.prog 42 #[.int .u32 ai, .int .u64 ei, .int .u32 ni] w (RetU .u32 (a ^ e % n) w) := by
  subst hai hei hni
  induction e using Nat.strongRecOn with
  | ind e ih =>
    by_cases hz : e = 0
    · subst hz
      clear ih
      go_enter Tryd.func42, Tryd.ntmps42
      go_wp2
      go_ret
      exact ⟨_, ret_i (up_mod (x := 1) (y := n) rfl rfl), Lib.hid rfl, rfl⟩
    · have hz' : 0 < e := by omega
      have IH := Lib.hid (ih (e / 2) (by omega) (by omega))
      clear hz ih
      go_enter Tryd.func42, Tryd.ntmps42
      go_wp2_with fail
      rw [show (e : Int) / 2 = ((e / 2 : Nat) : Int) from rfl]
      refine IH.out.mono ?_
      rintro _ _ ⟨x, rfl, hx, rfl⟩
      clear IH
      have hxb : x < n := by rw [hx.out]; exact Nat.mod_lt _ h0
      go_wp2_with fail
      refine (times_any x x n rfl rfl rfl (by omega) (by omega) hn h0 _).mono ?_
      rintro _ _ ⟨y, rfl, hy, rfl⟩
      have hyb : y < n := by rw [hy.out]; exact Nat.mod_lt _ h0
      have hab := Nat.mod_lt a h0
      by_cases ho : e % 2 = 1
      · have ho' : (e : Int) % 2 = 1 := by omega
        have HO := Lib.hid ho
        clear ho
        go_wp2_with fail
        refine (times_any y (a % n) n rfl (up_mod rfl rfl) rfl (by omega) (by omega) hn h0 _).mono ?_
        rintro _ _ ⟨z, rfl, hz, rfl⟩
        go_wp2
        go_ret
        exact ⟨z, rfl, Lib.hid (by rw [hz.out, hy.out, hx.out]; exact power_step1 a e n HO.out), rfl⟩
      · have ho' : ((e : Int) % 2 == 1) = false := by simp; omega
        have HO := Lib.hid ho
        clear ho
        go_wp2_with fail
        go_ret
        exact ⟨y, rfl, Lib.hid (by rw [hy.out, hx.out]; exact power_step a e n HO.out), rfl⟩

/-- the reference's loop -/
theorem pow_step1 (a e n out : Nat) (ho : e % 2 = 1) : out * a % n * (a * a % n) ^ (e / 2) % n = out * a ^ e % n := by
  rw [Nat.mul_mod, Nat.mod_mod, ← Nat.pow_mod, ← Nat.mul_mod]
  congr 1
  rw [← Nat.pow_two, ← Nat.pow_mul, Nat.mul_assoc]
  congr 1
  rw [← Nat.pow_succ']
  congr 1
  omega
theorem pow_step0 (a e n out : Nat) (ho : e % 2 = 0) : out * (a * a % n) ^ (e / 2) % n = out * a ^ e % n := by
  rw [Nat.mul_mod, ← Nat.pow_mod, ← Nat.mul_mod]
  congr 1
  rw [← Nat.pow_two, ← Nat.pow_mul]
  congr 2
  omega
set_option maxHeartbeats 400000 in
theorem refPow_any (a e n : Nat) {ai ei ni : Int} (hai : ai = a) (hei : ei = e) (hni : ni = n) (ha : a < 4294967296) (he : e ≤ 18446744073709551615) (hn : n < 4294967296) (h0 : 0 < n) (w : World) :
    Calls Tryd.prog 61 #[.int .u32 ai, .int .u64 ei, .int .u32 ni] w (RetU .u32 (a ^ e % n) w) := by
  subst hai hei hni
  go_enter Tryd.func61, Tryd.ntmps61
  go_wp2
  go_loop [0, 1, 7] (fun x y o => ∃ a' e' o' : Nat, x = .int .u32 a' ∧ y = .int .u64 e' ∧ o = .int .u32 o' ∧ a' < 4294967296 ∧ e' ≤ 18446744073709551615 ∧ o' < n ∧ Hid (o' * a' ^ e' % n = a ^ e % n)) (fun _ y _ => (intOf y).toNat)
  case atStart =>
    exact ⟨a, e, 1 % n, rfl, rfl, int_i (up_mod (x := 1) (y := n) rfl rfl), ha, he, Nat.mod_lt _ h0, Lib.hid (by rw [Nat.mul_mod, Nat.mod_mod, ← Nat.mul_mod, Nat.one_mul])⟩
  case round =>
    obtain ⟨a', e', o', rfl, rfl, rfl, ha', he', ho', hI⟩ := hrel
    clear ha he
    by_cases hz : 0 < e'
    · by_cases hod : e' % 2 = 1
      · have hod' : (e' : Int) % 2 = 1 := by omega
        have HO := Lib.hid hod
        clear hod
        go_wp2_with fail
        refine (refMul_any o' a' n rfl rfl rfl (by omega) (by omega) hn h0 _).mono ?_
        rintro _ _ ⟨x, rfl, hx, rfl⟩
        have hxb : x < n := by rw [hx.out]; exact Nat.mod_lt _ h0
        go_wp2_with fail
        refine (refMul_any a' a' n rfl rfl rfl (by omega) (by omega) hn h0 _).mono ?_
        rintro _ _ ⟨y, rfl, hy, rfl⟩
        have hyb : y < n := by rw [hy.out]; exact Nat.mod_lt _ h0
        go_wp2_with fail
        go_round
        case rel => exact ⟨y, e' / 2, x, rfl, rfl, rfl, by omega, by omega, by omega, Lib.hid (by rw [hx.out, hy.out, pow_step1 a' e' n o' HO.out, hI.out])⟩
        case measure => simp [intOf]; omega
      · have hod' : ((e' : Int) % 2 == 1) = false := by simp; omega
        have HO := Lib.hid (show e' % 2 = 0 by omega)
        clear hod
        go_wp2_with fail
        refine (refMul_any a' a' n rfl rfl rfl (by omega) (by omega) hn h0 _).mono ?_
        rintro _ _ ⟨y, rfl, hy, rfl⟩
        have hyb : y < n := by rw [hy.out]; exact Nat.mod_lt _ h0
        go_wp2_with fail
        go_round
        case rel => exact ⟨y, e' / 2, o', rfl, rfl, rfl, by omega, by omega, by omega, Lib.hid (by rw [hy.out, pow_step0 a' e' n o' HO.out, hI.out])⟩
        case measure => simp [intOf]; omega
    · have hz' : e' = 0 := by omega
      subst hz'
      clear hz
      go_wp2
      go_ret
      exact ⟨o', rfl, Lib.hid (by
        have := hI.out
        rw [Nat.pow_zero, Nat.mul_one, Nat.mod_eq_of_lt ho'] at this
        exact this), rfl⟩
set_option maxHeartbeats 400000 in
theorem refInv_any (a n : Nat) {ai ni : Int} (hai : ai = a) (hni : ni = n) (ha : a < 4294967296) (hn : n < 4294967296) (h0 : 2 ≤ n) (w : World) :
    Calls Tryd.prog 33 #[.int .u32 ai, .int .u32 ni] w (RetU .u32 (a ^ (n - 2) % n) w) := by
  subst hai hni
  go_enter Tryd.func33, Tryd.ntmps33
  go_wp2_with fail
  refine (refPow_any a (n - 2) n rfl (by omega) rfl ha (by omega) hn (by omega) _).mono ?_
  rintro _ _ ⟨v, rfl, hv, rfl⟩
  go_wp2
  go_ret
  exact ⟨v, rfl, hv, rfl⟩
end Go.Proofs.YtipbpdiahemmpaaDoor
