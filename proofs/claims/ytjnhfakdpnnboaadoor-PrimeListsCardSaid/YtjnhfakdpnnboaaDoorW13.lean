/- The next primes, by the references; the last one by the program. -/
import Derived.Test.YtjnhfakdpnnboaaDoorL2
import Derived.Test.YtjnhfakdpnnboaaDoorNt8
namespace Go.Proofs.YtjnhfakdpnnboaaDoor
open Go.RowKit Go.IntWalk

/-- A number and a truth value come back; nothing has turned. -/
def RetNB (R : Nat → Bool → Prop) (w : World) (e : Ending) (w' : World) : Prop := ∃ (v : Nat) (b : Bool), e = .returned (.tuple #[.int .u32 v, .bool b]) ∧ Hid (R v b) ∧ w = w'
theorem ret_tb {a b : Int} {c : Value} (h : a = b) : Ending.returned (.tuple #[.int .u32 a, c]) = .returned (.tuple #[.int .u32 b, c]) := by rw [h]

set_option maxRecDepth 20000 in
set_option maxHeartbeats 1000000 in
theorem Last_any (n : Nat) {ni : Int} (hni : ni = n) (hn : n < 4294967296) (w : World) (hT : Tabs w) :
    Calls Tryd.prog 33 #[.int .u32 ni] w (RetNB (Nt.IsLast n) w) := by
  subst hni
  go_enter Tryd.func33, Tryd.ntmps33
  go_wp2_with fail
  go_loopg [0] n (fun g m wr => ∃ m' : Nat, m = .int .u32 m' ∧ m' ≤ n ∧ m' ≤ g ∧ Hid (∀ q, m' ≤ q → q < n → ¬ Nt.Pr q) ∧ w = wr)
  case atStart => exact ⟨n, rfl, Nat.le_refl _, Nat.le_refl _, Lib.hid (fun q h1 h2 => by omega), rfl⟩
  case round =>
    obtain ⟨m, rfl, hmn, hmg, hI, rfl⟩ := hrel
    by_cases hc : 2 < m
    · obtain ⟨g, rfl⟩ : ∃ g, gk = g + 1 := ⟨gk - 1, by omega⟩
      go_wp2_with fail
      by_cases hq : Nt.Pr (m - 1)
      · refine (is_true hq (by omega) (by omega) _ hT).mono ?_
        rintro _ _ ⟨rfl, rfl⟩
        go_wp2
        go_ret2
        exact ⟨m - 1, true, ret_tb (by omega), Lib.hid (Or.inl ⟨rfl, hq, by omega, fun q h1 h2 => hI.out q (by omega) h2⟩), rfl⟩
      · have HI := Lib.hid (show ∀ q, m - 1 ≤ q → q < n → ¬ Nt.Pr q from fun q h1 h2 => by
          by_cases e : q = m - 1
          · subst e; exact hq
          · exact hI.out q (by omega) h2)
        refine (is_false hq (by omega) (by omega) _ hT).mono ?_
        rintro _ _ ⟨rfl, rfl⟩
        clear hq
        go_wp2
        go_roundg g
        case measure => omega
        case rel => exact ⟨m - 1, int_i (by omega), by omega, by omega, HI, rfl⟩
    · go_wp2
      go_ret2
      exact ⟨0, false, rfl, Lib.hid (Or.inr ⟨rfl, rfl, fun q h1 hp => by
        by_cases e : q < m
        · have := hp.1
          omega
        · exact hI.out q (by omega) h1 hp⟩), rfl⟩
set_option maxRecDepth 20000 in
set_option maxHeartbeats 1000000 in
theorem refNext_any (n : Nat) {ni : Int} (hni : ni = n) (hn : n < 4294967296) (w : World) :
    Calls Tryd.prog 32 #[.int .u32 ni] w (RetNB (Nt.IsNext n) w) := by
  subst hni
  go_enter Tryd.func32, Tryd.ntmps32
  go_wp2_with fail
  obtain ⟨N, hN1, hN2⟩ : ∃ N : Nat, 4294967295 ≤ N ∧ N ≤ 4294967295 := ⟨4294967295, by omega, by omega⟩
  go_loopg [0] N (fun g m wr => ∃ m' : Nat, m = .int .u32 m' ∧ n ≤ m' ∧ m' ≤ 4294967295 ∧ Hid (4294967295 ≤ m' + g) ∧ Hid (∀ q, n < q → q ≤ m' → ¬ Nt.Pr q) ∧ w = wr)
  case atStart => exact ⟨n, rfl, Nat.le_refl _, by omega, Lib.hid (by omega), Lib.hid (fun q h1 h2 => by omega), rfl⟩
  case round =>
    obtain ⟨m, rfl, hnm, hm4, hmg, hI, rfl⟩ := hrel
    by_cases hc : (m : Int) < 4294967295
    · obtain ⟨g, rfl⟩ : ∃ g, gk = g + 1 := ⟨gk - 1, by have := hmg.out; omega⟩
      go_wp2_with fail
      by_cases hq : Nt.Pr (m + 1)
      · refine (refIs_true hq (by omega) (by omega) _).mono ?_
        rintro _ _ ⟨rfl, rfl⟩
        go_wp2
        go_ret2
        exact ⟨m + 1, true, rfl, Lib.hid (Or.inl ⟨rfl, hq, by omega, by omega, fun q h1 h2 => hI.out q h1 (by omega)⟩), rfl⟩
      · have HI := Lib.hid (show ∀ q, n < q → q ≤ m + 1 → ¬ Nt.Pr q from fun q h1 h2 => by
          by_cases e : q = m + 1
          · subst e; exact hq
          · exact hI.out q h1 (by omega))
        refine (refIs_false hq (by omega) (by omega) _).mono ?_
        rintro _ _ ⟨rfl, rfl⟩
        clear hq
        go_wp2
        go_roundg g
        case measure => omega
        case rel => exact ⟨m + 1, by go_num, by omega, by omega, Lib.hid (by have := hmg.out; omega), HI, rfl⟩
    · go_wp2
      go_ret2
      exact ⟨0, false, rfl, Lib.hid (Or.inr ⟨rfl, rfl, fun q h1 h2 => hI.out q h1 (by omega)⟩), rfl⟩
set_option maxRecDepth 20000 in
set_option maxHeartbeats 1000000 in
theorem refLast_any (n : Nat) {ni : Int} (hni : ni = n) (hn : n < 4294967296) (w : World) :
    Calls Tryd.prog 34 #[.int .u32 ni] w (RetNB (Nt.IsLast n) w) := by
  subst hni
  go_enter Tryd.func34, Tryd.ntmps34
  go_wp2_with fail
  go_loopg [0] n (fun g m wr => ∃ m' : Nat, m = .int .u32 m' ∧ m' ≤ n ∧ m' ≤ g ∧ Hid (∀ q, m' ≤ q → q < n → ¬ Nt.Pr q) ∧ w = wr)
  case atStart => exact ⟨n, rfl, Nat.le_refl _, Nat.le_refl _, Lib.hid (fun q h1 h2 => by omega), rfl⟩
  case round =>
    obtain ⟨m, rfl, hmn, hmg, hI, rfl⟩ := hrel
    by_cases hc : 0 < m
    · obtain ⟨g, rfl⟩ : ∃ g, gk = g + 1 := ⟨gk - 1, by omega⟩
      go_wp2_with fail
      by_cases hq : Nt.Pr (m - 1)
      · refine (refIs_true hq (by omega) (by omega) _).mono ?_
        rintro _ _ ⟨rfl, rfl⟩
        go_wp2
        go_ret2
        exact ⟨m - 1, true, ret_tb (by omega), Lib.hid (Or.inl ⟨rfl, hq, by omega, fun q h1 h2 => hI.out q (by omega) h2⟩), rfl⟩
      · have HI := Lib.hid (show ∀ q, m - 1 ≤ q → q < n → ¬ Nt.Pr q from fun q h1 h2 => by
          by_cases e : q = m - 1
          · subst e; exact hq
          · exact hI.out q (by omega) h2)
        refine (refIs_false hq (by omega) (by omega) _).mono ?_
        rintro _ _ ⟨rfl, rfl⟩
        clear hq
        go_wp2
        go_roundg g
        case measure => omega
        case rel => exact ⟨m - 1, int_i (by omega), by omega, by omega, HI, rfl⟩
    · go_wp2
      go_ret2
      exact ⟨0, false, rfl, Lib.hid (Or.inr ⟨rfl, rfl, fun q h1 hp => by
        by_cases e : q < m
        · have := hp.1
          omega
        · exact hI.out q (by omega) h1 hp⟩), rfl⟩
end Go.Proofs.YtjnhfakdpnnboaaDoor
