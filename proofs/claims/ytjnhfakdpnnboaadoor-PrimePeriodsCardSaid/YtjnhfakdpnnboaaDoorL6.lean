/- The laws' walks: orders. -/
import Derived.Test.YtjnhfakdpnnboaaDoorW12
namespace Go.Proofs.YtjnhfakdpnnboaaDoor
open Go.RowKit Go.IntWalk

theorem emod_zero' {n m : Nat} {ni : Int} (h : ni = n) (hd : n % m = 0) : ni % (m : Int) = 0 := by
  subst h
  exact emod_zero rfl hd
set_option maxHeartbeats 2000000 in
theorem walk_PrimeOrders (a : Nat) (ha : a < 4294967296) (p : Nat) (hp : p < 4294967296) (w : World) (hT : Tabs w) :
    Calls Tryd.prog 12 #[.int .u32 a, .int .u32 p] w (RetT w) := by
  by_cases hpr : Nt.Pr p
  · have HP := Lib.hid hpr
    have hpp := hpr.pos
    clear hpr
    by_cases h0 : a % p = 0
    · have h0' : (a : Int) % p = 0 := emod_zero rfl h0
      have H0 := Lib.hid h0
      clear h0
      go_enter Tryd.func12, Tryd.ntmps12
      go_wp2_with fail
      refine (Order_zero a p rfl rfl hp HP.out H0.out _ hT).mono ?_
      rintro _ w1 ⟨o, rfl, ho, hbw1⟩
      have hBw1 := hbw1
      have hTw1 := hT.below hbw1
      clear hbw1
      obtain rfl : o = 0 := ho.out
      go_wp2_with fail
      refine (Root_ok p rfl hp HP.out _ hTw1).mono ?_
      rintro _ w2 ⟨g, rfl, hg, hbw2⟩
      have hBw2 := hBw1.trans (hbw2.mono hBw1.size)
      have hTw2 := hTw1.below hbw2
      clear hbw2
      go_wp2_with fail
      refine (refIs_true HP.out rfl hp _).mono ?_
      rintro _ _ ⟨rfl, rfl⟩
      go_wp2_with fail
      refine (refRoot_any p rfl hp HP.out _).mono ?_
      rintro _ w3 ⟨g2, rfl, hg2, hbw3⟩
      have hBw3 := hBw2.trans (hbw3.mono hBw2.size)
      have hTw3 := hTw2.below hbw3
      clear hbw3
      go_wp2_with fail
      refine (told_ok (by rw [hg.out.unique hg2.out]) _).mono ?_
      rintro _ _ ⟨rfl, rfl⟩
      go_wp2_with fail
      refine (told_err (by decide) _).mono ?_
      rintro _ _ ⟨rfl, rfl⟩
      go_wp2_with fail
      refine (awake_any _ hTw3).mono ?_
      rintro _ wz ⟨rfl, hbz⟩
      go_wp2
      go_ret
      exact ⟨rfl, hBw3.trans (hbz.mono hBw3.size)⟩
    · have h0' : ((a : Int) % p == 0) = false := emod_ne rfl h0
      have H0 := Lib.hid h0
      clear h0
      go_enter Tryd.func12, Tryd.ntmps12
      go_wp2_with fail
      refine (Order_ok a p rfl rfl ha hp HP.out H0.out _ hT).mono ?_
      rintro _ w1 ⟨o, rfl, ho, hbw1⟩
      have hBw1 := hbw1
      have hTw1 := hT.below hbw1
      clear hbw1
      go_wp2_with fail
      refine (Root_ok p rfl hp HP.out _ hTw1).mono ?_
      rintro _ w2 ⟨g, rfl, hg, hbw2⟩
      have hBw2 := hBw1.trans (hbw2.mono hBw1.size)
      have hTw2 := hTw1.below hbw2
      clear hbw2
      go_wp2_with fail
      refine (refIs_true HP.out rfl hp _).mono ?_
      rintro _ _ ⟨rfl, rfl⟩
      go_wp2_with fail
      refine (refRoot_any p rfl hp HP.out _).mono ?_
      rintro _ w3 ⟨g2, rfl, hg2, hbw3⟩
      have hBw3 := hBw2.trans (hbw3.mono hBw2.size)
      have hTw3 := hTw2.below hbw3
      clear hbw3
      go_wp2_with fail
      refine (told_ok (by rw [hg.out.unique hg2.out]) _).mono ?_
      rintro _ _ ⟨rfl, rfl⟩
      go_wp2_with fail
      refine (refOrder_any a p rfl rfl ha hp HP.out H0.out _).mono ?_
      rintro _ w4 ⟨o2, rfl, ho2, hbw4⟩
      have hBw4 := hBw3.trans (hbw4.mono hBw3.size)
      have hTw4 := hTw3.below hbw4
      clear hbw4
      go_wp2_with fail
      refine (told_ok (by rw [ho.out.unique ho2.out]) _).mono ?_
      rintro _ _ ⟨rfl, rfl⟩
      go_wp2_with fail
      refine (awake_any _ hTw4).mono ?_
      rintro _ wz ⟨rfl, hbz⟩
      go_wp2
      go_ret
      exact ⟨rfl, hBw4.trans (hbz.mono hBw4.size)⟩
  · have HP := Lib.hid hpr
    clear hpr
    go_enter Tryd.func12, Tryd.ntmps12
    go_wp2_with fail
    refine (Order_none a p rfl rfl hp HP.out _ hT).mono ?_
    rintro _ w1 ⟨o, rfl, ho, hbw1⟩
    have hBw1 := hbw1
    have hTw1 := hT.below hbw1
    clear hbw1
    obtain rfl : o = 0 := ho.out
    go_wp2_with fail
    refine (Root_none p rfl hp HP.out _ hTw1).mono ?_
    rintro _ w2 ⟨g, rfl, hg, hbw2⟩
    have hBw2 := hBw1.trans (hbw2.mono hBw1.size)
    have hTw2 := hTw1.below hbw2
    clear hbw2
    obtain rfl : g = 0 := hg.out
    go_wp2_with fail
    refine (refIs_false HP.out rfl hp _).mono ?_
    rintro _ _ ⟨rfl, rfl⟩
    go_wp2_with fail
    refine (told_err (by decide) _).mono ?_
    rintro _ _ ⟨rfl, rfl⟩
    go_wp2_with fail
    refine (told_err (by decide) _).mono ?_
    rintro _ _ ⟨rfl, rfl⟩
    go_wp2_with fail
    refine (awake_any _ hTw2).mono ?_
    rintro _ wz ⟨rfl, hbz⟩
    go_wp2
    go_ret
    exact ⟨rfl, hBw2.trans (hbz.mono hBw2.size)⟩

set_option maxHeartbeats 2000000 in
theorem walk_PrimePeriods (a : Nat) (ha : a < 4294967296) (e : Nat) (he : e ≤ 18446744073709551615) (p : Nat) (hp : p < 4294967296) (w : World) (hT : Tabs w) :
    Calls Tryd.prog 11 #[.int .u32 a, .int .u64 e, .int .u32 p] w (RetT w) := by
  by_cases hpr : Nt.Pr p
  · have HP := Lib.hid hpr
    have hpp := hpr.pos
    have hp2 := hpr.1
    clear hpr
    by_cases h0 : a % p = 0
    · have h0' : (a : Int) % p = 0 := emod_zero rfl h0
      clear h0
      go_enter Tryd.func11, Tryd.ntmps11
      go_wp2_with fail
      refine (refIs_true HP.out rfl hp _).mono ?_
      rintro _ _ ⟨rfl, rfl⟩
      go_wp2_with fail
      refine (awake_any _ hT).mono ?_
      rintro _ wz ⟨rfl, hbz⟩
      go_wp2
      go_ret
      exact ⟨rfl, (Below.refl w.heap.size w).trans (hbz.mono (Below.refl w.heap.size w).size)⟩
    · have h0' : ((a : Int) % p == 0) = false := emod_ne rfl h0
      have H0 := Lib.hid h0
      clear h0
      go_enter Tryd.func11, Tryd.ntmps11
      go_wp2_with fail
      refine (refIs_true HP.out rfl hp _).mono ?_
      rintro _ _ ⟨rfl, rfl⟩
      go_wp2_with fail
      refine (Order_ok a p rfl rfl ha hp HP.out H0.out _ hT).mono ?_
      rintro _ w1 ⟨o, rfl, ho, hbw1⟩
      have hBw1 := hbw1
      have hTw1 := hT.below hbw1
      clear hbw1
      have hop := ho.out.pos
      have hol := ho.out.le HP.out H0.out
      have hon : ((o : Int) == 0) = false := by simp; omega
      have hod : ((p : Int) - 1) % o = 0 := emod_zero' (by omega) (Nat.mod_eq_zero_of_dvd hol.1)
      have hle := hol.2
      clear hol
      go_wp2_with (go_at_call 15; refine (num_any _ _).mono ?_; rintro _ _ ⟨rfl, rfl⟩)
      refine (pow_ok a e p rfl rfl rfl ha he hp HP.out _ hTw1).mono ?_
      rintro _ w2 ⟨x, rfl, hx, hb2⟩
      have hB2 := hBw1.trans (hb2.mono hBw1.size)
      have hT2 := hTw1.below hb2
      clear hb2 hBw1 hTw1
      by_cases hde : e % o = 0
      · obtain rfl : x = 1 := by rw [hx.out]; exact (ho.out.iff hp2).2 (Nat.dvd_of_mod_eq_zero hde)
        have hde' : (e : Int) % o = 0 := emod_zero rfl hde
        clear hde
        go_wp2_with (go_at_call 15; refine (num_any _ _).mono ?_; rintro _ _ ⟨rfl, rfl⟩)
        refine (awake_any _ hT2).mono ?_
        rintro _ wz ⟨rfl, hbz⟩
        go_wp2
        go_ret
        exact ⟨rfl, hB2.trans (hbz.mono hB2.size)⟩
      · have hx1 : ((x : Int) == 1) = false := by
          have : x ≠ 1 := fun e1 => hde (Nat.mod_eq_zero_of_dvd ((ho.out.iff hp2).1 (by rw [← hx.out]; exact e1)))
          simp; omega
        have hde' : ((e : Int) % o == 0) = false := emod_ne rfl hde
        clear hde
        go_wp2_with (go_at_call 15; refine (num_any _ _).mono ?_; rintro _ _ ⟨rfl, rfl⟩)
        refine (awake_any _ hT2).mono ?_
        rintro _ wz ⟨rfl, hbz⟩
        go_wp2
        go_ret
        exact ⟨rfl, hB2.trans (hbz.mono hB2.size)⟩
  · have HP := Lib.hid hpr
    clear hpr
    go_enter Tryd.func11, Tryd.ntmps11
    go_wp2_with fail
    refine (refIs_false HP.out rfl hp _).mono ?_
    rintro _ _ ⟨rfl, rfl⟩
    go_wp2_with fail
    refine (awake_any _ hT).mono ?_
    rintro _ wz ⟨rfl, hbz⟩
    go_wp2
    go_ret
    exact ⟨rfl, (Below.refl w.heap.size w).trans (hbz.mono (Below.refl w.heap.size w).size)⟩
end Go.Proofs.YtjnhfakdpnnboaaDoor
