/- The reference's natural numbers, ninth part: times 2^s. -/
import Derived.Test.YtipbpdiahemmpaaGreatN17
import Derived.Deep.AppendLies
import Derived.Deep.RegionLaw
namespace Go.Proofs.YtipbpdiahemmpaaGreat
open Go.RowKit Go.IntWalk

theorem pow_cast {j : Nat} (hj : j < 32) : (2 : Int) ^ j % 4294967296 = ((2 ^ j : Nat) : Int) := by
  have h31 := pow_le31 hj
  have : ((2 ^ j : Nat) : Int) = (2 : Int) ^ j := by simp
  rw [← this]
  generalize 2 ^ j = y at *
  omega
theorem left_val (M : List Nat) (s : Nat) : Dg.val (List.replicate (s / 32) 0 ++ M) * 2 ^ (s % 32) = Dg.val M * 2 ^ s := by
  rw [Dg.val_append, Dg.val_zeros, Nat.zero_add, List.length_replicate, show (4294967296 : Nat) = 2 ^ 32 from by decide, ← Nat.pow_mul]
  have e : 2 ^ s = 2 ^ (32 * (s / 32)) * 2 ^ (s % 32) := by rw [← Nat.pow_add, Nat.div_add_mod]
  rw [e]
  grind

theorem made_own (W : World) (k : Nat) (hk : k ≤ 4398046511103) : OwU (W.alloc (.cells (madeCells #[.int .u32 0] k) 35)) W.heap.size (some ⟨W.heap.size, 0, none⟩) k k (List.replicate k 0) := by
  have hU0 := UB.made W k
  have := hU0.own (k := k) (Dg.Wd.zeros _) (Nat.le_refl _) (by simp) (by simp; unfold maxLen; omega)
  simpa using this
theorem norm_some {W : World} {b m c x n : Nat} {A : Option Addr} {L : List Nat} (ho : OwU W b A m c (Dg.dg x)) (hx : Hid (x = Dg.val L)) (hpos : 0 < Dg.val L) (hw : Dg.Wd L) (hl : L.length = n) :
    ∃ g2, A = some ⟨g2, 0, none⟩ ∧ ((uc (Dg.dg x)).length = m * 1 ∧ (∀ W', Below W.heap.size W W' → ∀ j u, (uc (Dg.dg x))[j]? = some u → W'.cell? ((⟨g2, 0, none⟩ : Addr).add j) = some u) ∧ 0 < m) ∧ m ≤ n := by
  have hm : m ≤ n := ho.short (by rw [hx.out, ← hl]; exact Dg.val_lt hw)
  have h0 : 0 < m := by
    rcases Nat.eq_zero_or_pos m with e | e
    · have hl0 := ho.len
      rw [e] at hl0
      have := Dg.dg_nil.1 (List.eq_nil_of_length_eq_zero hl0)
      rw [hx.out] at this
      omega
    · exact e
  rcases ho.form with ⟨_, e, _⟩ | ⟨g2, rfl, _⟩
  · omega
  · refine ⟨g2, rfl, ⟨by rw [uc_len, ho.len, Nat.mul_one], ?_, h0⟩, hm⟩
    have hlt : 0 < (uc (Dg.dg x)).length := by rw [uc_len, ho.len]; exact h0
    intro W' hb
    obtain ⟨_, ad', e, hc⟩ := (ho.next hb).rd.src ⟨g2, 0, none⟩ hlt
    injection e with e
    subst e
    exact hc

set_option maxRecDepth 100000 in
set_option maxHeartbeats 2000000 in
theorem refLeft_any (s : Nat) {A : Option Addr} {n c : Nat} {L : List Nat} {w : World} (h : RdU w w.heap.size A n c L) (hn : n ≤ 4398046511103) (hs : s ≤ 140737488355296) (hpos : 0 < Dg.val L) :
    Calls Tryz.prog 276 #[.slice A n c, .int .i64 s] w (RetN (Dg.val L * 2 ^ s) w) := by
  have HLEN := Lib.hid h.len
  obtain ⟨k, hk⟩ : ∃ k, k = s / 32 := ⟨_, rfl⟩
  obtain ⟨j, hj⟩ : ∃ j, j = s % 32 := ⟨_, rfl⟩
  have hsr : ((s : Int)).tdiv 32 = (k : Int) := by rw [Int.tdiv_eq_ediv_of_nonneg (by omega)]; omega
  have hsm : ((s : Int)).tmod 32 = (j : Int) := by rw [Int.tmod_eq_emod_of_nonneg (by omega)]; omega
  have hj32 : j < 32 := by omega
  have hkb : k ≤ 4398046511103 := by omega
  have hpc := pow_cast hj32
  have hp31 := pow_le31 hj32
  obtain ⟨y, hy⟩ : ∃ y, y = 2 ^ j := ⟨_, rfl⟩
  rw [← hy] at hpc hp31
  have HV := Lib.hid (left_val (Dg.dg (Dg.val L)) s)
  rw [← hk, ← hj, ← hy, Dg.val_dg] at HV
  clear hy hk hj
  have hwk : IntKind.i64.wrap (k : Int) = (k : Int) := IntWalk.i64_in _ (by omega)
  have hmk := fun W => make_nat k (by omega) W
  have HN := Lib.hid (show ∀ W : World, Below w.heap.size w W → Calls Tryz.prog 188 #[.slice A n c] W (RetN (Dg.val L) W) from fun W hb => refNorm_any (h.next hb) (by omega))
  obtain ⟨i0, hi, hz0, hz1, hz2⟩ := info_parts infoW
  go_enter Tryz.func276, Tryz.ntmps276
  have HO1 := Lib.hid (fun W : World => made_own W k (by omega))
  go_upto_region 1 with fail
  go_region_law (first
    | (refine step_append_lies _ rfl _ _ 26 rfl _ 35 i0 (.int .u32 0) 1 4 Tryz.underlying26 hi hz0 hz1 hz2 rfl (by decide) _ _ _ rfl ((HO1.out w.drew).next hb2).own ⟨g2, 0, none⟩ m2 c2 (uc (Dg.dg x2)) rfl HN2.1 (HN2.2.1 _ (Below.refl _ _)) (uc_one _) HN2.2.2 (by unfold maxLen; omega) (by omega) (Nat.le_trans (by simp) hb2.size) _ rfl ?_; intro g3 c3 W3 hown3 hgrow3 _ _)
    | (refine step_append_lies _ rfl _ _ 26 rfl _ 35 i0 (.int .u32 0) 1 4 Tryz.underlying26 hi hz0 hz1 hz2 rfl (by decide) _ _ _ rfl (HO1.out W2).own ⟨g2, 0, none⟩ m2 c2 (uc (Dg.dg x2)) rfl HN2.1 (HN2.2.1 _ ((Below.refl _ _).alloc (Nat.le_refl _) _)) (uc_one _) HN2.2.2 (by unfold maxLen; omega) (by omega) (by simp) _ rfl ?_; intro g3 c3 W3 hown3 hgrow3 _ _)
    | (go_simp; go_at_call 188; refine (HN.out _ ?_).mono ?_; (first | exact (Below.refl _ _).drew | exact ((Below.refl _ _).drew).alloc (Nat.le_refl _) _); rintro _ W2 ⟨A2, m2, c2, x2, rfl, ho2, hx2, hb2⟩; obtain ⟨g2, rfl, HN2, hm2⟩ := norm_some ho2 hx2 hpos (h.wd) HLEN.out))
  · have hB := ((Below.refl w.heap.size w).alloc (Nat.le_refl _) (.cells (madeCells #[.int .u32 0] k) 35)).drew.trans (hb2.mono (by simp))
    have hO3 : OwU W3 w.heap.size (some ⟨g3, 0, none⟩) (k + m2) c3 (List.replicate k 0 ++ Dg.dg x2) := ⟨by rw [uc_append]; exact hown3, (Dg.Wd.zeros _).append (Dg.dg_wd _)⟩
    have hB3 := hB.grown hgrow3 hB.size (fun k e => by cases e; exact Nat.le_refl _)
    go_wp2_with fail
    refine (refSmall_any y hO3.rd (by omega) (by omega)).mono ?_
    rintro _ W5 ⟨A5, m5, c5, x5, rfl, ho5, hx5, hb5⟩
    go_wp2
    go_ret
    exact ⟨_, _, _, _, rfl, ho5.base hB3.size, Lib.hid (by rw [hx5.out, hx2.out]; exact HV.out), hB3.trans (hb5.mono hB3.size)⟩
  · have hB := ((Below.refl w.heap.size w).drew.trans (hb2.mono (Nat.le_refl _))).alloc hb2.size (.cells (madeCells #[.int .u32 0] k) 35)
    have hO3 : OwU W3 w.heap.size (some ⟨g3, 0, none⟩) (k + m2) c3 (List.replicate k 0 ++ Dg.dg x2) := OwU.base (b := W2.heap.size) ⟨by rw [uc_append]; exact hown3, (Dg.Wd.zeros _).append (Dg.dg_wd _)⟩ hb2.size
    have hB3 := hB.grown hgrow3 hB.size (fun k e => by cases e; exact hb2.size)
    go_wp2_with fail
    refine (refSmall_any y hO3.rd (by omega) (by omega)).mono ?_
    rintro _ W5 ⟨A5, m5, c5, x5, rfl, ho5, hx5, hb5⟩
    go_wp2
    go_ret
    exact ⟨_, _, _, _, rfl, ho5.base hB3.size, Lib.hid (by rw [hx5.out, hx2.out]; exact HV.out), hB3.trans (hb5.mono hB3.size)⟩
end Go.Proofs.YtipbpdiahemmpaaGreat
