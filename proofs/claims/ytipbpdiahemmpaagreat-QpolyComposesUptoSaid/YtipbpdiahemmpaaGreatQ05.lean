/- The reference's natural numbers, seventh part: the product. -/
import Derived.Test.YtipbpdiahemmpaaGreatQ04
import Derived.Deep.RegionWith
namespace Go.Proofs.YtipbpdiahemmpaaGreat
open Go.RowKit Go.IntWalk

/-- How long a product is, at the most. -/
theorem prod_len {L M : List Nat} (hL : Dg.Wd L) (hM : Dg.Wd M) : (Dg.dg (Dg.val L * Dg.val M)).length ≤ L.length + M.length := by
  rw [Dg.dg_len_lt, Nat.pow_add]
  exact Nat.mul_lt_mul'' (Dg.val_lt hL) (Dg.val_lt hM)
theorem mul_step {a : Nat} {M : List Nat} {t : Nat} (h : t < M.length) : 4294967296 * (a * Dg.val (M.drop (t + 1))) + a * Dg.ld M t = a * Dg.val (M.drop t) := by
  rw [Dg.val_drop h]
  generalize Dg.val (M.drop (t + 1)) = x
  grind

theorem OwU.short {W : World} {b m c x k : Nat} {A : Option Addr} (h : OwU W b A m c (Dg.dg x)) (hx : x < 4294967296 ^ k) : m ≤ k := by
  rw [← h.len]; exact Dg.dg_len_lt.2 hx
theorem shift_lt {x k : Nat} (h : x < 4294967296 ^ k) : 4294967296 * x < 4294967296 ^ (k + 1) := by
  rw [Nat.pow_succ]
  generalize 4294967296 ^ k = z at *
  omega
theorem add_base (g t : Nat) : (⟨g, 0, none⟩ : Addr).add t = ⟨g, t, none⟩ := by
  unfold Addr.add
  split
  · subst_vars; rfl
  · simp
theorem shift_zero {A : Option Addr} {n c : Nat} {L : List Nat} {w : World} (h : RdU w w.heap.size A n c L) (hnil : NilOk A n c) (hn : n ≤ 8796093022207) :
    Calls Tryz.prog 272 #[.slice A n c, .int .u32 0] w (RetN (4294967296 * Dg.val L) w) := by
  have e := shift_any 0 h hnil hn (by omega)
  rw [Nat.zero_add] at e
  exact e

set_option maxRecDepth 100000 in
set_option maxHeartbeats 2000000 in
theorem refNMul_any {A A' : Option Addr} {n c n' c' : Nat} {L L' : List Nat} {w : World} (h : RdU w w.heap.size A n c L) (h' : RdU w w.heap.size A' n' c' L') (hn : n ≤ 4398046511103) (hn' : n' ≤ 4398046511103) :
    Calls Tryz.prog 238 #[.slice A n c, .slice A' n' c'] w (RetN (Dg.val L * Dg.val L') w) := by
  have HLEN := Lib.hid h.len
  have HLEN' := Lib.hid h'.len
  go_enter Tryz.func238, Tryz.ntmps238
  go_wp2_with fail
  refine (refNorm_any h (by omega)).mono ?_
  rintro _ W1 ⟨A1, m1, c1, x1, rfl, ho1, hx1, hb1⟩
  go_wp2_with fail
  refine (refNorm_any (h'.next hb1) (by omega)).mono ?_
  rintro _ W2 ⟨A2, m2, c2, x2, rfl, ho2, hx2, hb2⟩
  have hr1 := (ho1.next hb2).rd
  have hr2 := ho2.rd
  have hm1 : m1 ≤ n := by
    rw [← ho1.len, hx1.out, Dg.dg_len_lt, ← HLEN.out]; exact Dg.val_lt h.wd
  have hm2 : m2 ≤ n' := by
    rw [← ho2.len, hx2.out, Dg.dg_len_lt, ← HLEN'.out]; exact Dg.val_lt h'.wd
  have HV := Lib.hid (show Dg.val (Dg.dg x1) = Dg.val L ∧ Dg.val (Dg.dg x2) = Dg.val L' from ⟨by rw [Dg.val_dg, hx1.out], by rw [Dg.val_dg, hx2.out]⟩)
  have hB := hb1.trans (hb2.mono hb1.size)
  have hf2 := ho2.form
  clear ho1 ho2 hx1 hx2 hb1 hb2
  generalize Dg.dg x1 = M1 at hr1 HV
  generalize Dg.dg x2 = M2 at hr2 HV hf2
  have HL1 := Lib.hid hr1.len
  have HL2 := Lib.hid hr2.len
  go_wp2_with fail
  go_loopw [5, 6] (fun ov iv wr => ∃ (k m c x : Nat) (A : Option Addr), iv = .int .i64 ((k : Int) - 1) ∧ ov = .slice A m c ∧ k ≤ m2 ∧ OwU wr W2.heap.size A m c (Dg.dg x) ∧ Hid (x = Dg.val M1 * Dg.val (M2.drop k)) ∧ Below W2.heap.size W2 wr) (fun _ iv _ => (intOf iv + 1).toNat)
  case atStart => exact ⟨m2, 0, 0, 0, none, rfl, rfl, Nat.le_refl _, by rw [Dg.dg_zero]; exact OwU.nil _ _, Lib.hid (by rw [List.drop_of_length_le (by rw [HL2.out]; exact Nat.le_refl _)]; simp [Dg.val]), Below.refl _ _⟩
  case round =>
    obtain ⟨k, m, c0, x, A0, rfl, rfl, hk, ho, hx, hbr⟩ := hrel
    have hm : m ≤ 8796093022206 := by
      have e := prod_len hr1.wd (hr2.wd.drop k)
      rw [← hx.out, ho.len, List.length_drop, HL1.out, HL2.out] at e
      omega
    rcases Nat.eq_zero_or_pos k with h0 | h0
    · subst h0
      go_wp2_with fail
      refine (refNorm_any ho.rd (by omega)).mono ?_
      rintro _ W4 ⟨A4, m4, c4, x4, rfl, ho4, hx4, hb4⟩
      go_wp2
      go_ret
      exact ⟨_, _, _, _, rfl, ho4.base (Nat.le_trans hB.size hbr.size), Lib.hid (by rw [hx4.out, Dg.val_dg, hx.out, List.drop_zero, HV.out.1, HV.out.2]), (hB.trans (hbr.mono hB.size)).trans (hb4.mono (Nat.le_trans hB.size hbr.size))⟩
    · obtain ⟨t, rfl⟩ : ∃ t, k = t + 1 := ⟨k - 1, by omega⟩
      rcases hf2 with ⟨_, h2, _⟩ | ⟨g, rfl, _, hgl, hc2, _⟩
      · omega
      obtain ⟨_, ad, e, _, hcell⟩ := hr2.at_ t (Dg.ld M2 t) (Dg.get_of_ld (by rw [HL2.out]; omega))
      injection e with e
      subst e
      have hyl : Dg.ld M2 t < 4294967296 := Dg.ld_word hr2.wd t
      obtain ⟨y, hy⟩ : ∃ y, y = Dg.ld M2 t := ⟨_, rfl⟩
      rw [← hy] at hcell hyl
      have HY := Lib.hid hy
      clear hy
      rw [add_base] at hcell
      have hcellr := (hbr.cell (p := ⟨g, t, none⟩) hgl).trans hcell
      have hbd := hbr.drew
      have hod := ho.next (Below.refl wr.heap.size wr).drew
      have HSH := Lib.hid (shift_zero hod.rd hod.nilOk (by omega))
      have HC4 := Lib.hid (show ∀ W : World, Below wr.drew.heap.size wr.drew W → W.cell? ⟨g, t, none⟩ = some (.int .u32 y) from fun W hb => ((hbd.trans (hb.mono hbd.size)).cell (p := ⟨g, t, none⟩) hgl).trans hcell)
      have HSM := Lib.hid (show ∀ W : World, Below wr.drew.heap.size wr.drew W → Calls Tryz.prog 273 #[.slice A1 m1 c1, .int .u32 y] W (RetN (Dg.val M1 * y) W) from fun W hb => refSmall_any y (hr1.next (hbd.trans (hb.mono hbd.size))) (by omega) hyl)
      have HM4 := Lib.hid (show ∀ (W : World) (b m' c x' : Nat) (A : Option Addr), OwU W b A m' c (Dg.dg x') → Hid (x' = 4294967296 * Dg.val (Dg.dg x)) → m' ≤ 8796093022207 from fun W b m' c x' A ho' hx' => Nat.le_trans (ho'.short (k := m + 1) (by rw [hx'.out, Dg.val_dg]; exact shift_lt (Dg.dg_len_lt.1 (Nat.le_of_eq ho.len)))) (by omega))
      have HM5 := Lib.hid (show ∀ (W : World) (b m' c x' : Nat) (A : Option Addr), OwU W b A m' c (Dg.dg x') → Hid (x' = Dg.val M1 * y) → m' ≤ 8796093022207 from fun W b m' c x' A ho' hx' => Nat.le_trans (ho'.short (k := m1 + 1) (by rw [hx'.out]; exact Nat.mul_lt_mul'' (HL1.out ▸ Dg.val_lt hr1.wd) hyl)) (by omega))
      go_upto_region 6 with fail
      go_region_with (first
        | (go_at_call 272; refine HSH.out.mono ?_; rintro _ W4 ⟨A4, m4, c4, x4, rfl, ho4, hx4, hb4⟩; have hcell4 := HC4.out W4 hb4)
        | (go_at_call 273; refine (HSM.out W4 hb4).mono ?_; rintro _ W5 ⟨A5, m5, c5, x5, rfl, ho5, hx5, hb5⟩)
        | (go_at_call 257; refine (refAdd1_any (ho4.next hb5).rd ho5.rd (HM4.out _ _ _ _ _ _ ho4 hx4) (HM5.out _ _ _ _ _ _ ho5 hx5)).mono ?_; rintro _ W6 ⟨A6, m6, c6, x6, rfl, ho6, hx6, hb6⟩))
      all_goals
        go_wp2
        go_roundw
        case rel =>
          have hb46 := hbd.trans ((hb4.trans ((hb5.trans (hb6.mono hb5.size)).mono hb4.size)).mono hbd.size)
          exact ⟨t, m6, c6, x6, A6, by go_num, rfl, by omega, ho6.base (Nat.le_trans hbd.size (Nat.le_trans hb4.size hb5.size)), Lib.hid (by rw [hx6.out, Dg.val_dg, Dg.val_dg, hx4.out, hx5.out, Dg.val_dg, hx.out, HY.out]; exact mul_step (by rw [HL2.out]; omega)), hb46⟩
        case measure => simp [intOf]
end Go.Proofs.YtipbpdiahemmpaaGreat
