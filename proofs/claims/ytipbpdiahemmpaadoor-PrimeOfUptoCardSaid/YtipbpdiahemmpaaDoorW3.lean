/- The reference's least divisor and its test of a prime. -/
import Derived.Test.YtipbpdiahemmpaaDoorW2
import Derived.Test.YtipbpdiahemmpaaDoorNt2
namespace Go.Proofs.YtipbpdiahemmpaaDoor
open Go.RowKit Go.IntWalk

set_option maxRecDepth 100000 in
theorem two_at (k : Nat) (hk : k < 2) : ∀ w, (Instr.index 76 (.agg #[.int .u64 2, .int .u64 3]) (.int .i64 k)).run Tryd.prog w = .ok (.int .u64 ((k + 2 : Nat) : Int)) w := by
  match k, hk with
  | 0, _ => exact fun _ => by kernel_rfl
  | 1, _ => exact fun _ => by kernel_rfl
def RetR (k : IntKind) (R : Nat → Prop) (w : World) (e : Ending) (w' : World) : Prop := ∃ v : Nat, e = .returned (.int k v) ∧ Hid (R v) ∧ w = w'
theorem emod_zero {n m : Nat} {mi : Int} (h : mi = m) (hd : n % m = 0) : (n : Int) % mi = 0 := by
  subst h
  have e : (n : Int) % (m : Int) = ((n % m : Nat) : Int) := rfl
  rw [e, hd]; rfl
theorem emod_ne {n m : Nat} {mi : Int} (h : mi = m) (hd : ¬ n % m = 0) : ((n : Int) % mi == 0) = false := by
  subst h
  have e : (n : Int) % (m : Int) = ((n % m : Nat) : Int) := rfl
  rw [e, beq_eq_false_iff_ne]
  omega
set_option maxHeartbeats 400000 in
theorem least_any (n : Nat) {ni : Int} (hni : ni = n) (hn : n < 4294967296) (h2 : 2 ≤ n) (w : World) :
    Calls Tryd.prog 26 #[.int .u32 ni] w (RetR .u32 (Nt.IsLpf n) w) := by
  subst hni
  go_enter Tryd.func26, Tryd.ntmps26
  go_wp2_with fail
  go_loopg [7] 2 (fun g i wx => ∃ k : Nat, k + g = 2 ∧ i = .int .i64 k ∧ w = wx ∧ Hid (Nt.NoD n (k + 2)))
  case atStart => exact ⟨0, by omega, rfl, rfl, Lib.hid (Nt.noD_2 n)⟩
  case round =>
    obtain ⟨k, hkg, rfl, rfl, hI⟩ := hrel
    by_cases hk2 : k < 2
    · obtain ⟨g, rfl⟩ : ∃ g, gk = g + 1 := ⟨gk - 1, by omega⟩
      have hix := two_at k hk2
      by_cases hd : n % (k + 2) = 0
      · have hd' : (n : Int) % (k + 2) = 0 := emod_zero (by omega) hd
        have HP := Lib.hid (Nt.noD_lpf hI.out (Nat.dvd_of_mod_eq_zero hd) (by omega))
        clear hd
        go_wp2
        go_ret
        exact ⟨k + 2, ret_i (by omega), HP, rfl⟩
      · have hd' : ((n : Int) % (k + 2) == 0) = false := emod_ne (by omega) hd
        have HP := Lib.hid (Nt.noD_succ hI.out hd)
        clear hd
        go_wp2
        go_roundg g
        case measure => omega
        case rel => exact ⟨k + 1, by omega, by go_num, rfl, HP⟩
    · have hk2' : k = 2 := by omega
      subst hk2'
      clear hk2
      have h4 := hI.out
      have HI5 := Lib.hid (Nt.noD_5 (fun h => h4 2 (by omega) (by omega) (Nat.dvd_of_mod_eq_zero h)) (fun h => h4 3 (by omega) (by omega) (Nat.dvd_of_mod_eq_zero h)))
      clear h4 hI
      go_wp2_with fail
      go_loopg [5] 65536 (fun g i wx => ∃ d : Nat, 65536 - d ≤ g ∧ i = .int .u64 d ∧ w = wx ∧ 5 ≤ d ∧ d ≤ 65541 ∧ d % 6 = 5 ∧ Hid (Nt.NoD n d))
      case atStart => exact ⟨5, by omega, rfl, rfl, by omega, by omega, by omega, HI5⟩
      case round =>
        clear HI5
        obtain ⟨d, hdg, rfl, rfl, h5, hd65, hd6, hI⟩ := hrel
        have hdd : (d : Int) * d ≤ 4295622681 := by
          have := Nat.mul_le_mul hd65 hd65
          have e : (d : Int) * d = ((d * d : Nat) : Int) := by simp
          omega
        have hdd0 : 0 ≤ (d : Int) * d := by
          have e : (d : Int) * d = ((d * d : Nat) : Int) := by simp
          omega
        by_cases hle : (d : Int) * d ≤ n
        · have hds : d ≤ 65535 := by
            apply Classical.byContradiction
            intro hgt
            have := Nat.mul_le_mul (show 65536 ≤ d by omega) (show 65536 ≤ d by omega)
            have e : (d : Int) * d = ((d * d : Nat) : Int) := by simp
            omega
          obtain ⟨g, rfl⟩ : ∃ g, gk = g + 1 := ⟨gk - 1, by omega⟩
          by_cases h1 : n % d = 0
          · have hd' : (n : Int) % d = 0 := by omega
            have HP := Lib.hid (Nt.noD_lpf hI.out (Nat.dvd_of_mod_eq_zero h1) (by omega))
            clear h1
            go_wp2
            go_ret
            exact ⟨d, ret_i (by omega), HP, rfl⟩
          · have hd' : ((n : Int) % d == 0) = false := by simp; omega
            have H1 := Lib.hid h1
            clear h1
            by_cases h2' : n % (d + 2) = 0
            · have hd2 : (n : Int) % (d + 2) = 0 := emod_zero (by omega) h2'
              have HP := Lib.hid (Nt.noD_lpf (d := d + 2) (Nt.noD_succ (Nt.noD_succ hI.out H1.out) (fun h => hI.out 2 (by omega) (by omega) (Nat.dvd_of_mod_eq_zero (by
                have := Nat.dvd_of_mod_eq_zero h
                have h6 : (2 : Nat) ∣ d + 1 := Nat.dvd_of_mod_eq_zero (by omega)
                exact Nat.mod_eq_zero_of_dvd (Nat.dvd_trans h6 this))))) (Nat.dvd_of_mod_eq_zero h2') (by omega))
              clear h2'
              go_wp2
              go_ret
              exact ⟨d + 2, ret_i (by omega), HP, rfl⟩
            · have hd2 : ((n : Int) % (d + 2) == 0) = false := emod_ne (by omega) h2'
              have HP := Lib.hid (Nt.noD_step hI.out h5 hd6 H1.out h2')
              clear h2'
              go_wp2
              go_roundg g
              case measure => omega
              case rel => exact ⟨d + 6, by omega, by go_num, rfl, by omega, by omega, by omega, HP⟩
        · have HP := Lib.hid (Nt.noD_all h2 hI.out (by
            have e : (d : Int) * d = ((d * d : Nat) : Int) := by simp
            omega))
          go_wp2
          go_ret
          exact ⟨n, rfl, HP, rfl⟩

set_option maxHeartbeats 400000 in
theorem refIs_any (n : Nat) {ni : Int} (hni : ni = n) (hn : n < 4294967296) (w : World) :
    Calls Tryd.prog 7 #[.int .u32 ni] w (RetB (Nt.isP n) w) := by
  subst hni
  by_cases h2 : n < 2
  · have HP := Lib.hid (Nt.isP_lt h2)
    have h2' : decide (1 < (n : Int)) = false := by simp; omega
    go_enter Tryd.func7, Tryd.ntmps7
    go_wp2
    go_ret
    exact ⟨ret_b HP.out.symm, rfl⟩
  · have h2' : 2 ≤ n := by omega
    have h3 : 1 < (n : Int) := by omega
    clear h2
    go_enter Tryd.func7, Tryd.ntmps7
    go_wp2_with fail
    refine (least_any n rfl hn h2' _).mono ?_
    rintro _ _ ⟨v, rfl, hv, rfl⟩
    go_wp2
    go_ret
    refine ⟨ret_b ?_, rfl⟩
    rw [nat_beq]
    by_cases e : v = n
    · rw [Nt.isP_iff.2 ((Nt.lpf_prime_iff hv.out).2 e)]
      simp [e]
    · rw [Nt.isP_false_iff.2 (fun hp => e ((Nt.lpf_prime_iff hv.out).1 hp))]
      simp [e]
end Go.Proofs.YtipbpdiahemmpaaDoor
