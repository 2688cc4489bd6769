/- Tonelli's loop. -/
import Derived.Test.YtipbpdiahemmpaaDoorW5
import Derived.Test.YtipbpdiahemmpaaDoorNt5
namespace Go.Proofs.YtipbpdiahemmpaaDoor
open Go.RowKit Go.IntWalk

set_option maxHeartbeats 2000000 in
theorem tonelli_any (a p : Nat) {ai pi : Int} (hai : ai = a) (hpi : pi = p) (hp : p < 4294967296) (hpr : Nt.Pr p) (h3 : 3 ≤ p) (hap : a < p) (hsq : Hid (a ^ ((p - 1) / 2) % p = 1)) (w : World) (hT : Tabs w) :
    Calls Tryd.prog 44 #[.int .u32 ai, .int .u32 pi] w (RetRD .u32 (fun r => r < p ∧ r * r % p = a) w) := by
  subst hai hpi
  go_enter Tryd.func44, Tryd.ntmps44
  go_wp2_with fail
  refine (tz32_any (p - 1) (by omega) (by omega) (by omega) _ hT).mono ?_
  rintro _ _ ⟨s, rfl, hs, rfl⟩
  obtain ⟨q, hd, ho, hs32⟩ := ctz_spec (p - 1) (by omega) (by omega)
  rw [← hs.out] at hd hs32
  have hdi : ((p : Int) - 1) / 2 ^ s = (q : Int) := by
    have e : (p : Int) - 1 = ((q * 2 ^ s : Nat) : Int) := by rw [← hd]; omega
    rw [e, Int.natCast_mul, Int.natCast_pow]
    exact Int.mul_ediv_cancel _ (by have := Nat.two_pow_pos s; omega)
  have hqb : q < 4294967296 := by
    have := Nat.le_mul_of_pos_right q (Nat.two_pow_pos s)
    omega
  have hs1 : 1 ≤ s := by
    rcases Nat.eq_zero_or_pos s with e | e
    · exfalso
      rw [e] at hd
      have hodd : p % 2 = 0 := by omega
      rcases hpr.2 2 (Nat.dvd_of_mod_eq_zero hodd) with h | h <;> omega
    · exact e
  have HD := Lib.hid (And.intro hd ho)
  clear hd ho
  obtain ⟨z0, hz2, hzp, hz⟩ := Nt.some_leg hpr h3
  have HZ := Lib.hid hz
  clear hz
  go_wp2_with fail
  clear hdi
  go_loopg [7] z0 (fun g z wx => ∃ z' : Nat, z' ≤ z0 ∧ z0 - z' ≤ g ∧ z = .int .u32 z' ∧ w = wx)
  case atStart => exact ⟨2, by omega, by omega, rfl, rfl⟩
  case round =>
    obtain ⟨z, hzz, hzg, rfl, rfl⟩ := hrel
    go_wp2_with fail
    refine (legendre_any z p rfl rfl (by omega) hp (by omega) _).mono ?_
    rintro _ _ ⟨v, rfl, hv, rfl⟩
    by_cases hv1 : v = -1
    · subst hv1
      have HN := Lib.hid (Nt.leg_nonres hpr h3 hv.out.symm)
      go_wp2_with fail
      refine (power_any z q p rfl rfl rfl (by omega) (by omega) hp (by omega) _).mono ?_
      rintro _ _ ⟨c, rfl, hc, rfl⟩
      go_wp2_with fail
      refine (power_any a q p rfl rfl rfl (by omega) (by omega) hp (by omega) _).mono ?_
      rintro _ _ ⟨t, rfl, ht, rfl⟩
      go_wp2_with fail
      refine (power_any a ((q + 1) / 2) p rfl (by omega) rfl (by omega) (by omega) hp (by omega) _).mono ?_
      rintro _ _ ⟨r, rfl, hr, rfl⟩
      have HT := Lib.hid (show Nt.To p a s c t r by
        rw [hc.out, ht.out, hr.out]
        exact Nt.To.start hs1 HD.out.1 HD.out.2 hsq.out HN.out)
      have hcb : c < p := by rw [hc.out]; exact Nat.mod_lt _ (by omega)
      have htb : t < p := by rw [ht.out]; exact Nat.mod_lt _ (by omega)
      have hrb : r < p := by rw [hr.out]; exact Nat.mod_lt _ (by omega)
      go_wp2_with fail
      go_loopg [8, 9, 10, 11] s (fun g c t r m wx => ∃ c' t' r' m' : Nat, m' ≤ g ∧ c = .int .u32 c' ∧ t = .int .u32 t' ∧ r = .int .u32 r' ∧ m = .int .i64 m' ∧ c' < p ∧ t' < p ∧ r' < p ∧ m' ≤ s ∧ w = wx ∧ Hid (Nt.To p a m' c' t' r'))
      case atStart => exact ⟨c, t, r, s, by omega, rfl, rfl, rfl, rfl, hcb, htb, hrb, by omega, rfl, HT⟩
      case round =>
        clear HT hcb htb hrb hc ht hr HN
        obtain ⟨c, t, r, m, hmg, rfl, rfl, rfl, rfl, hcb, htb, hrb, hms, rfl, HT⟩ := hrel
        have hm1 := HT.out.m1
        by_cases ht1 : t = 1
        · have HR := Lib.hid (show r < p ∧ r * r % p = a from ⟨hrb, by rw [HT.out.sq, ht1, Nat.mul_one]; exact Nat.mod_eq_of_lt hap⟩)
          subst ht1
          go_wp2
          go_ret
          exact ⟨r, rfl, HR, 0, rfl⟩
        · have ht1' : ((t : Int) != 1) = true := by simp; omega
          have HT1 := Lib.hid ht1
          clear ht1
          obtain ⟨g1, rfl⟩ : ∃ g, gk = g + 1 := ⟨gk - 1, by omega⟩
          go_wp2_with fail
          go_loopg [12, 13] m (fun g i u wx => ∃ i' u' : Nat, m - i' ≤ g ∧ i = .int .i64 i' ∧ u = .int .u32 u' ∧ i' ≤ m - 1 ∧ u' < p ∧ w = wx ∧ Hid (u' = t ^ 2 ^ i' % p ∧ (1 ≤ i' → t ^ 2 ^ (i' - 1) % p ≠ 1)))
          case atStart => exact ⟨0, t, by omega, rfl, rfl, by omega, htb, rfl, Lib.hid ⟨by simp [Nat.mod_eq_of_lt htb], by omega⟩⟩
          case round =>
            obtain ⟨i, u, hig, rfl, rfl, him, hub, rfl, hI⟩ := hrel
            by_cases hu1 : u = 1
            · have hi1 : 1 ≤ i := by
                apply Classical.byContradiction
                intro h0
                have e : i = 0 := by omega
                have h5 := hI.out.1
                rw [e] at h5
                rw [Nat.pow_zero, Nat.pow_one, Nat.mod_eq_of_lt htb] at h5
                exact HT1.out (by omega)
              have HST := Lib.hid (Nt.To.step hpr HT.out (hI.out.1.symm.trans hu1) hi1 him (hI.out.2 hi1))
              subst hu1
              clear hI HT HT1 ht1'
              go_wp2_with fail
              go_loopg [14, 60] (m - i - 1) (fun g b j wx => ∃ b' j' : Nat, j' + g = m - i - 1 ∧ b = .int .u32 b' ∧ j = .int .i64 j' ∧ b' < p ∧ w = wx ∧ Hid (b' = c ^ 2 ^ j' % p))
              case atStart => exact ⟨c, 0, by omega, rfl, rfl, hcb, rfl, Lib.hid (by simp [Nat.mod_eq_of_lt hcb])⟩
              case round =>
                obtain ⟨b, j, hjg, rfl, rfl, hbb, rfl, hB⟩ := hrel
                by_cases hj : (j : Int) < (m : Int) - i - 1
                · obtain ⟨g3, rfl⟩ : ∃ g, gk = g + 1 := ⟨gk - 1, by omega⟩
                  go_wp2_with fail
                  refine (times_any b b p rfl rfl rfl (by omega) (by omega) hp (by omega) _).mono ?_
                  rintro _ _ ⟨b2, rfl, hb2, rfl⟩
                  have hb2b : b2 < p := by rw [hb2.out]; exact Nat.mod_lt _ (by omega)
                  go_wp2_with fail
                  go_roundg g3
                  case measure => omega
                  case rel => exact ⟨b2, j + 1, by omega, rfl, by go_num, hb2b, rfl, Lib.hid (by rw [hb2.out]; exact Nt.sq_pow hB.out)⟩
                · have hje : j = m - i - 1 := by omega
                  have HB := Lib.hid (show b = c ^ 2 ^ (m - i - 1) % p by rw [hB.out, hje])
                  clear hje hB
                  go_wp2_with fail
                  refine (times_any b b p rfl rfl rfl (by omega) (by omega) hp (by omega) _).mono ?_
                  rintro _ _ ⟨c2, rfl, hc2, rfl⟩
                  have hc2b : c2 < p := by rw [hc2.out]; exact Nat.mod_lt _ (by omega)
                  go_wp2_with fail
                  refine (times_any t c2 p rfl rfl rfl (by omega) (by omega) hp (by omega) _).mono ?_
                  rintro _ _ ⟨t2, rfl, ht2, rfl⟩
                  have ht2b : t2 < p := by rw [ht2.out]; exact Nat.mod_lt _ (by omega)
                  go_wp2_with fail
                  refine (times_any r b p rfl rfl rfl (by omega) (by omega) hp (by omega) _).mono ?_
                  rintro _ _ ⟨r2, rfl, hr2, rfl⟩
                  have hr2b : r2 < p := by rw [hr2.out]; exact Nat.mod_lt _ (by omega)
                  go_wp2_with fail
                  go_roundg g1
                  case measure => omega
                  case rel => exact ⟨c2, t2, r2, i, by omega, rfl, rfl, rfl, rfl, hc2b, ht2b, hr2b, by omega, rfl, Lib.hid (by
                    rw [ht2.out, hr2.out, hc2.out, HB.out]; exact HST.out)⟩
            · have hu1' : ((u : Int) != 1) = true := by simp; omega
              have him2 : i < m - 1 := by
                apply Classical.byContradiction
                intro hge
                have e : i = m - 1 := by omega
                apply hu1
                rw [hI.out.1, e]
                exact HT.out.tm
              have HU := Lib.hid hu1
              clear hu1
              obtain ⟨g3, rfl⟩ : ∃ g, gk = g + 1 := ⟨gk - 1, by omega⟩
              go_wp2_with fail
              refine (times_any u u p rfl rfl rfl (by omega) (by omega) hp (by omega) _).mono ?_
              rintro _ _ ⟨u2, rfl, hu2, rfl⟩
              have hu2b : u2 < p := by rw [hu2.out]; exact Nat.mod_lt _ (by omega)
              go_wp2_with fail
              go_roundg g3
              case measure => omega
              case rel => exact ⟨i + 1, u2, by omega, by go_num, rfl, by omega, hu2b, rfl, Lib.hid ⟨by rw [hu2.out]; exact Nt.sq_pow hI.out.1, fun _ => by
                rw [Nat.add_sub_cancel, ← hI.out.1]; exact HU.out⟩⟩
    · have hv1' : (v != -1) = true := by simp [hv1]
      have hne : z ≠ z0 := by
        rintro rfl
        exact hv1 (hv.out.trans HZ.out)
      have hlt : z < z0 := by omega
      obtain ⟨g, rfl⟩ : ∃ g, gk = g + 1 := ⟨gk - 1, by omega⟩
      clear hv1 hne
      go_wp2_with fail
      go_roundg g
      case measure => omega
      case rel => exact ⟨z + 1, by omega, by omega, by go_num, rfl⟩
end Go.Proofs.YtipbpdiahemmpaaDoor
