/- The reference's natural numbers, eleventh part: the greatest common divisor, the walk. -/
import Derived.Test.YtipbpdiahemmpaaGreatN19
import Derived.Deep.LoopGhost
import Derived.Deep.CutBlock
import Derived.Deep.CutRange
namespace Go.Proofs.YtipbpdiahemmpaaGreat
open Go.RowKit Go.IntWalk

/-- A number that is not 0: its lowest word. -/
theorem own_low {W : World} {b m c x : Nat} {A : Option Addr} (ho : OwU W b A m c (Dg.dg x)) (hx : 0 < x) :
    ∃ g, A = some ⟨g, 0, none⟩ ∧ W.cell? ⟨g, 0, none⟩ = some (.int .u32 ((x % 4294967296 : Nat) : Int)) ∧ 0 < m := by
  have e := Dg.dg_pos (n := x) (by omega)
  have hm : 0 < m := by rw [← ho.len, e]; simp
  rcases ho.form with ⟨_, h0, _⟩ | ⟨g, rfl, _⟩
  · omega
  · refine ⟨g, rfl, ?_, hm⟩
    obtain ⟨_, ad, e2, _, hc⟩ := ho.rd.at_ 0 (x % 4294967296) (by rw [e]; rfl)
    injection e2 with e2
    subst e2
    rw [add_base] at hc
    exact hc
theorem own_zero {W : World} {b m c x : Nat} {A : Option Addr} (ho : OwU W b A m c (Dg.dg x)) (hx : x = 0) : m = 0 := by
  rw [← ho.len, hx, Dg.dg_zero]; rfl

set_option maxRecDepth 100000 in
set_option maxHeartbeats 2000000 in
theorem refGcd_any {A A' : Option Addr} {n c n' c' : Nat} {L L' : List Nat} {w : World} (h : RdU w w.heap.size A n c L) (h' : RdU w w.heap.size A' n' c' L') (hn : n ≤ 2199023255551) (hn' : n' ≤ 2199023255551) :
    Calls Tryz.prog 245 #[.slice A n c, .slice A' n' c'] w (RetN (Nat.gcd (Dg.val L) (Dg.val L')) w) := by
  have HLEN := Lib.hid h.len
  have HLEN' := Lib.hid h'.len
  go_enter Tryz.func245, Tryz.ntmps245
  go_wp2_with fail
  refine (refNorm_any h (by omega)).mono ?_
  rintro _ W1 ⟨A1, m1, c1, x1, rfl, ho1, hx1, hb1⟩
  go_wp2_with fail
  refine (refNorm_any (h'.next hb1) (by omega)).mono ?_
  rintro _ W2 ⟨A2, m2, c2, x2, rfl, ho2, hx2, hb2⟩
  have hm1 : m1 ≤ n := ho1.short (by rw [hx1.out, ← HLEN.out]; exact Dg.val_lt h.wd)
  have hm2 : m2 ≤ n' := ho2.short (by rw [hx2.out, ← HLEN'.out]; exact Dg.val_lt h'.wd)
  have hB := hb1.trans (hb2.mono hb1.size)
  have hA1 := (ho1.next hb2)
  have hA2 := ho2.base (Nat.le_trans (Nat.le_refl _) hb1.size)
  have HX := Lib.hid (show Nat.gcd x1 x2 = Nat.gcd (Dg.val L) (Dg.val L') by rw [hx1.out, hx2.out])
  clear ho1 ho2 hb1 hb2 hx1 hx2 h h' HLEN HLEN'
  rcases Nat.eq_zero_or_pos x1 with h0 | h0
  · have e := own_zero hA1 h0
    subst e h0
    go_wp2
    go_ret
    exact ⟨_, _, _, _, rfl, hA2, Lib.hid (by rw [← HX.out, Nat.gcd_zero_left]), hB⟩
  · obtain ⟨g1, rfl, hc1, hp1⟩ := own_low hA1 h0
    rcases Nat.eq_zero_or_pos x2 with h2 | h2
    · have e := own_zero hA2 h2
      subst e h2
      go_wp2
      go_ret
      exact ⟨_, _, _, _, rfl, hA1, Lib.hid (by rw [← HX.out, Nat.gcd_zero_right]), hB⟩
    · obtain ⟨g2, rfl, hc2, hp2⟩ := own_low hA2 h2
      have hq1 : ((m1 : Int) == 0) = false := by simp; omega
      have hq2 : ((m2 : Int) == 0) = false := by simp; omega
      have hlt1 : x1 < 2 ^ (32 * m1) := by
        have e := Dg.dg_len_lt.1 (Nat.le_of_eq hA1.len)
        rwa [show (4294967296 : Nat) = 2 ^ 32 from by decide, ← Nat.pow_mul] at e
      have HLT := Lib.hid hlt1
      clear hlt1
      go_upto_block 0 with fail
      go_cut [0, 1, 5] from 19 to 36 (fun av bv tv wr => ∃ (A A' : Option Addr) (m c x m' c' y t : Nat), av = .slice A m c ∧ bv = .slice A' m' c' ∧ tv = .int .i64 t ∧ 0 < x ∧ 0 < y ∧ OwU wr w.heap.size A m c (Dg.dg x) ∧ OwU wr w.heap.size A' m' c' (Dg.dg y) ∧ m ≤ n ∧ m' ≤ n' ∧ t < 32 * m1 ∧ Hid (2 ^ t * Nat.gcd x y = Nat.gcd x1 x2 ∧ Nat.gcd x y % 2 = 1) ∧ Below w.heap.size w wr)
      case first =>
        go_wp2_with fail
        go_loopw [0, 1, 5] (fun av bv tv wr => ∃ (A A' : Option Addr) (m c x m' c' y t : Nat), av = .slice A m c ∧ bv = .slice A' m' c' ∧ tv = .int .i64 t ∧ 0 < x ∧ 0 < y ∧ OwU wr w.heap.size A m c (Dg.dg x) ∧ OwU wr w.heap.size A' m' c' (Dg.dg y) ∧ m ≤ n ∧ m' ≤ n' ∧ t < 32 * m1 ∧ Hid (2 ^ t * Nat.gcd x y = Nat.gcd x1 x2 ∧ 2 ^ t * x ≤ x1) ∧ Below w.heap.size w wr) (fun _ _ tv _ => 32 * m1 - (intOf tv).toNat)
        case atStart => exact ⟨_, _, m1, c1, x1, m2, c2, x2, 0, rfl, rfl, rfl, h0, h2, hA1, hA2, hm1, hm2, by omega, Lib.hid (by simp), hB⟩
        case round =>
          clear hA1 hA2 hc1 hc2
          obtain ⟨A, A', m, c, x, m', c', y, t, rfl, rfl, rfl, hx, hy, hA1, hA2, hm, hm', ht, hI, hB⟩ := hrel
          obtain ⟨g1, rfl, hc1, hp1⟩ := own_low hA1 hx
          obtain ⟨g2, rfl, hc2, hp2⟩ := own_low hA2 hy
          have hbx : x % 4294967296 % 2 = x % 2 := by omega
          have hby : y % 4294967296 % 2 = y % 2 := by omega
          by_cases hev : x % 2 = 0 ∧ y % 2 = 0
          · obtain ⟨z1, hz1⟩ : ∃ z, z = x % 4294967296 := ⟨_, rfl⟩
            obtain ⟨z2, hz2⟩ : ∃ z, z = y % 4294967296 := ⟨_, rfl⟩
            rw [← hz1] at hc1 hbx
            rw [← hz2] at hc2 hby
            have e1 : (z1 : Int) % 2 = 0 := by omega
            have e2 : (z2 : Int) % 2 = 0 := by omega
            have HEV := Lib.hid hev
            clear hz1 hz2 hbx hby hev
            go_wp2_with fail
            refine (half_any hA1.rd (by omega)).mono ?_
            rintro _ W4 ⟨A4, m4, c4, x4, rfl, ho4, hx4, hb4⟩
            go_wp2_with fail
            refine (half_any (hA2.next hb4).rd (by omega)).mono ?_
            rintro _ W5 ⟨A5, m5, c5, x5, rfl, ho5, hx5, hb5⟩
            go_wp2
            go_roundw
            case rel =>
              have ex4 : x4 = x / 2 := by rw [hx4.out, Dg.val_dg]
              have ex5 : x5 = y / 2 := by rw [hx5.out, Dg.val_dg]
              have hev := HEV.out
              have hle : 2 ^ (t + 1) * x4 ≤ x1 := by
                rw [Nat.pow_succ, Nat.mul_assoc, show 2 * x4 = x by omega]; exact hI.out.2
              have hp4 : 0 < x4 := by omega
              have ht1 : t + 1 < 32 * m1 := (Nat.pow_lt_pow_iff_right (a := 2) (by omega)).1 (Nat.lt_of_le_of_lt (Nat.le_trans (Nat.le_mul_of_pos_right _ hp4) hle) HLT.out)
              exact ⟨_, _, m4, c4, x4, m5, c5, x5, t + 1, rfl, rfl, by go_num, hp4, by omega, (ho4.next hb5).base hB.size, ho5.base (Nat.le_trans hB.size hb4.size), Nat.le_trans (ho4.short (k := m) (by rw [ex4]; exact Nat.lt_of_le_of_lt (Nat.div_le_self _ _) (Dg.dg_len_lt.1 (Nat.le_of_eq hA1.len)))) hm, Nat.le_trans (ho5.short (k := m') (by rw [ex5]; exact Nat.lt_of_le_of_lt (Nat.div_le_self _ _) (Dg.dg_len_lt.1 (Nat.le_of_eq hA2.len)))) hm', ht1, Lib.hid ⟨by rw [← hI.out.1, gcd_both hev.1 hev.2, ex4, ex5, Nat.pow_succ, Nat.mul_assoc], hle⟩, (hB.trans (hb4.mono hB.size)).trans (hb5.mono (Nat.le_trans hB.size hb4.size))⟩
            case measure => simp [intOf]; omega
          · have hodd := gcd_odd hev
            have HI2 := Lib.hid (And.intro hI.out.1 hodd)
            clear hodd
            obtain ⟨z1, hz1⟩ : ∃ z, z = x % 4294967296 := ⟨_, rfl⟩
            obtain ⟨z2, hz2⟩ : ∃ z, z = y % 4294967296 := ⟨_, rfl⟩
            rw [← hz1] at hc1 hbx
            rw [← hz2] at hc2 hby
            clear hz1 hz2
            by_cases he : x % 2 = 0
            · have e1 : (z1 : Int) % 2 = 0 := by omega
              have e2 : ¬ (z2 : Int) % 2 = 0 := by omega
              go_wp2
              go_meet
              exact ⟨_, _, m, c, x, m', c', y, t, rfl, rfl, rfl, hx, hy, hA1, hA2, hm, hm', ht, HI2, hB⟩
            · have e1 : ¬ (z1 : Int) % 2 = 0 := by omega
              go_wp2
              go_meet
              exact ⟨_, _, m, c, x, m', c', y, t, rfl, rfl, rfl, hx, hy, hA1, hA2, hm, hm', ht, HI2, hB⟩
      case rest =>
        clear hA1 hA2 hc1 hc2 HLT
        obtain ⟨A, A', m, c, x, m', c', y, t, rfl, rfl, rfl, hx, hy, hA1, hA2, hm, hm', ht, hI, hB⟩ := hcut
        obtain ⟨G, hG⟩ : ∃ G, G = Nat.gcd x y := ⟨_, rfl⟩
        rw [← hG] at hI
        have htb : t ≤ 140737488355296 := by omega
        go_wp2_with fail
        go_loopg [0, 1] (x + y) (fun gg av bv wr => ∃ (A A' : Option Addr) (m c x m' c' y : Nat), av = .slice A m c ∧ bv = .slice A' m' c' ∧ x + y ≤ gg ∧ OwU wr w.heap.size A m c (Dg.dg x) ∧ OwU wr w.heap.size A' m' c' (Dg.dg y) ∧ m ≤ n ∧ m' ≤ n' ∧ Hid (Nat.gcd x y = G) ∧ Below w.heap.size w wr)
        case atStart => exact ⟨A, A', m, c, x, m', c', y, rfl, rfl, Nat.le_refl _, hA1, hA2, hm, hm', Lib.hid hG.symm, hB⟩
        case round =>
          clear hA1 hA2 hB hG hx hy hm hm'
          obtain ⟨A, A', m, c, x, m', c', y, rfl, rfl, hxy, hA1, hA2, hm, hm', hg, hB⟩ := hrel
          have HI := Lib.hid hI.out
          rcases Nat.eq_zero_or_pos x with hx | hx
          · have e := own_zero hA1 hx
            subst e
            have hgy : y = G := by rw [← hg.out, hx, Nat.gcd_zero_left]
            have hy : 0 < y := by have := hI.out.2; omega
            go_wp2_with fail
            refine (refLeft_any t hA2.rd (by omega) htb (by rw [Dg.val_dg]; exact hy)).mono ?_
            rintro _ W4 ⟨A4, m4, c4, x4, rfl, ho4, hx4, hb4⟩
            go_wp2
            go_ret
            exact ⟨_, _, _, _, rfl, ho4.base hB.size, Lib.hid (by rw [hx4.out, Dg.val_dg, hgy, ← HX.out, ← hI.out.1, Nat.mul_comm]), hB.trans (hb4.mono hB.size)⟩
          · obtain ⟨g1, rfl, hc1, hp1⟩ := own_low hA1 hx
            rcases Nat.eq_zero_or_pos y with hy | hy
            · have e := own_zero hA2 hy
              subst e
              have hgx : x = G := by rw [← hg.out, hy, Nat.gcd_zero_right]
              have hm0 : ((m : Int) == 0) = false := by simp; omega
              go_wp2_with fail
              refine (refLeft_any t hA1.rd (by omega) htb (by rw [Dg.val_dg]; exact hx)).mono ?_
              rintro _ W4 ⟨A4, m4, c4, x4, rfl, ho4, hx4, hb4⟩
              go_wp2
              go_ret
              exact ⟨_, _, _, _, rfl, ho4.base hB.size, Lib.hid (by rw [hx4.out, Dg.val_dg, hgx, ← HX.out, ← hI.out.1, Nat.mul_comm]), hB.trans (hb4.mono hB.size)⟩
            · obtain ⟨g2, rfl, hc2, hp2⟩ := own_low hA2 hy
              have hmI : (0 : Int) < (m : Int) := by omega
              have hmI' : (0 : Int) < (m' : Int) := by omega
              go_wp2_with fail
              clear hc1 hc2
              go_loopg [0] x (fun gg av wr => ∃ (A : Option Addr) (m c z : Nat), av = .slice A m c ∧ 0 < z ∧ z ≤ gg ∧ z ≤ x ∧ OwU wr w.heap.size A m c (Dg.dg z) ∧ OwU wr w.heap.size (some ⟨g2, 0, none⟩) m' c' (Dg.dg y) ∧ m ≤ n ∧ Hid (Nat.gcd z y = G) ∧ Below w.heap.size w wr)
              case atStart => exact ⟨_, m, c, x, rfl, hx, Nat.le_refl _, Nat.le_refl _, hA1, hA2, hm, hg, hB⟩
              case round =>
                clear hA1 hA2 hB hm hg hmI hp1
                obtain ⟨A, m, c, z, rfl, hz, hzg, hzx, hA1, hA2, hm, hg, hB⟩ := hrel
                obtain ⟨g1, rfl, hc1, hp1⟩ := own_low hA1 hz
                have hbx : z % 4294967296 % 2 = z % 2 := by omega
                obtain ⟨z1, hz1⟩ : ∃ q, q = z % 4294967296 := ⟨_, rfl⟩
                rw [← hz1] at hc1 hbx
                clear hz1
                by_cases hev : z % 2 = 0
                · have e1 : (z1 : Int) % 2 = 0 := by omega
                  have HEV := Lib.hid hev
                  clear hbx hev
                  go_wp2_with fail
                  refine (half_any hA1.rd (by omega)).mono ?_
                  rintro _ W4 ⟨A4, m4, c4, x4, rfl, ho4, hx4, hb4⟩
                  go_wp2
                  have ex4 : x4 = z / 2 := by rw [hx4.out, Dg.val_dg]
                  have hev := HEV.out
                  go_roundg x4
                  case measure => omega
                  case rel =>
                    exact ⟨A4, m4, c4, x4, rfl, by omega, Nat.le_refl _, by omega, ho4.base hB.size, hA2.next hb4, Nat.le_trans (ho4.short (k := m) (by rw [ex4]; exact Nat.lt_of_le_of_lt (Nat.div_le_self _ _) (Dg.dg_len_lt.1 (Nat.le_of_eq hA1.len)))) hm, Lib.hid (by rw [ex4, gcd_half hev (by rw [hg.out]; exact HI.out.2), hg.out]), hB.trans (hb4.mono hB.size)⟩
                · have ez : ((z1 : Int) % 2 == 0) = false := by simp; omega
                  clear hbx hev
                  go_wp2_with fail
                  clear hc1
                  go_loopg [1] y (fun gg bv wr => ∃ (A' : Option Addr) (m' c' u : Nat), bv = .slice A' m' c' ∧ 0 < u ∧ u ≤ gg ∧ u ≤ y ∧ OwU wr w.heap.size (some ⟨g1, 0, none⟩) m c (Dg.dg z) ∧ OwU wr w.heap.size A' m' c' (Dg.dg u) ∧ m' ≤ n' ∧ Hid (Nat.gcd z u = G) ∧ Below w.heap.size w wr)
                  case atStart => exact ⟨_, m', c', y, rfl, hy, Nat.le_refl _, Nat.le_refl _, hA1, hA2, hm', hg, hB⟩
                  case round =>
                    clear hA1 hA2 hB hm' hg hmI' hp2
                    obtain ⟨A', m', c', u, rfl, hu, hug, huy, hA1, hA2, hm', hg, hB⟩ := hrel
                    obtain ⟨g2, rfl, hc2, hp2⟩ := own_low hA2 hu
                    have hby : u % 4294967296 % 2 = u % 2 := by omega
                    obtain ⟨z2, hz2⟩ : ∃ q, q = u % 4294967296 := ⟨_, rfl⟩
                    rw [← hz2] at hc2 hby
                    clear hz2
                    by_cases hev : u % 2 = 0
                    · have e1 : (z2 : Int) % 2 = 0 := by omega
                      have HEV := Lib.hid hev
                      clear hby hev
                      go_wp2_with fail
                      refine (half_any hA2.rd (by omega)).mono ?_
                      rintro _ W4 ⟨A4, m4, c4, x4, rfl, ho4, hx4, hb4⟩
                      go_wp2
                      have ex4 : x4 = u / 2 := by rw [hx4.out, Dg.val_dg]
                      have hev := HEV.out
                      go_roundg x4
                      case measure => omega
                      case rel =>
                        exact ⟨A4, m4, c4, x4, rfl, by omega, Nat.le_refl _, by omega, hA1.next hb4, ho4.base hB.size, Nat.le_trans (ho4.short (k := m') (by rw [ex4]; exact Nat.lt_of_le_of_lt (Nat.div_le_self _ _) (Dg.dg_len_lt.1 (Nat.le_of_eq hA2.len)))) hm', Lib.hid (by rw [ex4, Nat.gcd_comm, gcd_half hev (by rw [Nat.gcd_comm, hg.out]; exact HI.out.2), Nat.gcd_comm, hg.out]), hB.trans (hb4.mono hB.size)⟩
                    · have e1 : ¬ (z2 : Int) % 2 = 0 := by omega
                      clear hby hev
                      go_wp2_with fail
                      refine (refCmp_any hA1.rd hA2.rd (by omega) (by omega)).mono ?_
                      rintro _ _ ⟨cv, rfl, hcv, rfl⟩
                      rw [Dg.val_dg, Dg.val_dg] at hcv
                      clear hc2 e1
                      by_cases hle : u ≤ z
                      · have hc0 : (0 : Int) ≤ cv := by
                          rw [hcv.out]; unfold Dg.cmp; rw [if_neg (by omega)]; split <;> omega
                        go_wp2_with fail
                        refine (refNSub_any hA1.rd hA2.rd (by omega) (by rw [Dg.val_dg, Dg.val_dg]; exact hle)).mono ?_
                        rintro _ W4 ⟨A4, m4, c4, x4, rfl, ho4, hx4, hb4⟩
                        go_wp2
                        have ex4 : x4 = z - u := by rw [hx4.out, Dg.val_dg, Dg.val_dg]
                        go_roundg (x4 + u)
                        case measure => omega
                        case rel =>
                          exact ⟨A4, _, m4, c4, x4, m', c', u, rfl, rfl, Nat.le_refl _, ho4.base hB.size, hA2.next hb4, Nat.le_trans (ho4.short (k := m) (by rw [ex4]; exact Nat.lt_of_le_of_lt (Nat.sub_le _ _) (Dg.dg_len_lt.1 (Nat.le_of_eq hA1.len)))) hm, hm', Lib.hid (by rw [ex4, gcd_less hle, hg.out]), hB.trans (hb4.mono hB.size)⟩
                      · have hc0 : cv < (0 : Int) := by
                          rw [hcv.out]; unfold Dg.cmp; rw [if_pos (by omega)]; omega
                        go_wp2_with fail
                        refine (refNSub_any hA2.rd hA1.rd (by omega) (by rw [Dg.val_dg, Dg.val_dg]; omega)).mono ?_
                        rintro _ W4 ⟨A4, m4, c4, x4, rfl, ho4, hx4, hb4⟩
                        go_wp2
                        have ex4 : x4 = u - z := by rw [hx4.out, Dg.val_dg, Dg.val_dg]
                        go_roundg (z + x4)
                        case measure => omega
                        case rel =>
                          exact ⟨_, A4, m, c, z, m4, c4, x4, rfl, rfl, Nat.le_refl _, hA1.next hb4, ho4.base hB.size, hm, Nat.le_trans (ho4.short (k := m') (by rw [ex4]; exact Nat.lt_of_le_of_lt (Nat.sub_le _ _) (Dg.dg_len_lt.1 (Nat.le_of_eq hA2.len)))) hm', Lib.hid (by rw [ex4, Nat.gcd_comm, gcd_less (by omega), Nat.gcd_comm, hg.out]), hB.trans (hb4.mono hB.size)⟩
end Go.Proofs.YtipbpdiahemmpaaGreat
