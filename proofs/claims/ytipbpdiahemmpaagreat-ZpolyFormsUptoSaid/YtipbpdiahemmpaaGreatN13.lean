/- The reference's natural numbers, fourth part: which one is greater, the half. -/
import Derived.Test.YtipbpdiahemmpaaGreatN12
namespace Go.Proofs.YtipbpdiahemmpaaGreat
open Go.RowKit Go.IntWalk

set_option maxRecDepth 100000 in
set_option maxHeartbeats 2000000 in
theorem refCmp_any {A A' : Option Addr} {n c n' c' : Nat} {L L' : List Nat} {w : World} (h : RdU w w.heap.size A n c L) (h' : RdU w w.heap.size A' n' c' L') (hn : n ≤ 8796093022207) (hn' : n' ≤ 8796093022207) :
    Calls Tryz.prog 258 #[.slice A n c, .slice A' n' c'] w (RetZ (Dg.cmp (Dg.val L) (Dg.val L')) w) := by
  have HLEN := Lib.hid h.len
  have HLEN' := Lib.hid h'.len
  obtain ⟨m, hm⟩ : ∃ m, m = max n n' := ⟨_, rfl⟩
  have hmb : m ≤ 8796093022207 := by omega
  have HM := Lib.hid hm
  go_enter Tryz.func258, Tryz.ntmps258
  go_upto_if 12 with fail
  go_cut [5] from 7 (fun v wx => v = .int .i64 m ∧ wx = w)
  case first =>
    by_cases hlt : n < n'
    · have e : m = n' := by omega
      clear hm
      subst e
      go_wp2
      go_meet
      exact ⟨rfl, rfl⟩
    · have e : m = n := by omega
      clear hm
      subst e
      go_wp2
      go_meet
      exact ⟨rfl, rfl⟩
  case rest =>
    obtain ⟨rfl, rfl⟩ := hcut
    clear hm
    go_wp2_with fail
    go_loop [6] (fun i => ∃ j : Nat, j ≤ m ∧ i = .int .i64 ((j : Int) - 1) ∧ Hid (∀ x, j ≤ x → Dg.ld L x = Dg.ld L' x)) (fun i => (intOf i + 1).toNat)
    case atStart => exact ⟨m, Nat.le_refl _, rfl, Lib.hid fun x hx => by rw [Dg.ld_ge (by rw [HLEN.out]; have := HM.out; omega), Dg.ld_ge (by rw [HLEN'.out]; have := HM.out; omega)]⟩
    case round =>
      obtain ⟨j, hj, rfl, hE⟩ := hrel
      rcases Nat.eq_zero_or_pos j with h0 | h0
      · subst h0
        go_wp2
        go_ret
        exact ⟨0, rfl, Lib.hid (Dg.cmp_eq (Dg.eq_of_ld fun x => hE.out x (Nat.zero_le _))).symm, rfl⟩
      · obtain ⟨t, rfl⟩ : ∃ t, j = t + 1 := ⟨j - 1, by omega⟩
        have HT : Hid (∀ x, t < x → Dg.ld L x = Dg.ld L' x) := Lib.hid fun x hx => hE.out x hx
        clear hE
        go_wp2_with fail
        refine (limb_any h t (by omega) (by omega)).mono ?_
        rintro _ _ ⟨x, rfl, hx, rfl⟩
        go_wp2_with fail
        refine (limb_any h' t (by omega) (by omega)).mono ?_
        rintro _ _ ⟨y, rfl, hy, rfl⟩
        rcases Nat.lt_trichotomy x y with hlt | heq | hgt
        · have HC := Lib.hid (Dg.cmp_lt (Dg.lt_of_top h.wd HT.out (show Dg.ld L t < Dg.ld L' t by rw [← hx.out, ← hy.out]; exact hlt)))
          go_wp2
          go_ret
          exact ⟨-1, rfl, Lib.hid HC.out.symm, rfl⟩
        · subst heq
          go_wp2_with fail
          refine (limb_any h t (by omega) (by omega)).mono ?_
          rintro _ _ ⟨x2, rfl, hx2, rfl⟩
          go_wp2_with fail
          refine (limb_any h' t (by omega) (by omega)).mono ?_
          rintro _ _ ⟨y2, rfl, hy2, rfl⟩
          have e2 : x2 = x := hx2.out.trans hx.out.symm
          have e3 : y2 = x := hy2.out.trans hy.out.symm
          subst e2 e3
          go_wp2
          go_round
          case rel => exact ⟨t, by omega, int_i (by omega), Lib.hid fun z hz => by
            rcases Nat.lt_or_ge t z with h1 | h1
            · exact HT.out z h1
            · rw [show z = t by omega, ← hx.out, ← hy.out]⟩
          case measure => simp [intOf]
        · have hnl : ¬ (x : Int) < (y : Int) := by omega
          have HC := Lib.hid (Dg.cmp_gt (Dg.lt_of_top h'.wd (fun x hx => (HT.out x hx).symm) (show Dg.ld L' t < Dg.ld L t by rw [← hx.out, ← hy.out]; exact hgt)))
          go_wp2_with fail
          refine (limb_any h t (by omega) (by omega)).mono ?_
          rintro _ _ ⟨x2, rfl, hx2, rfl⟩
          go_wp2_with fail
          refine (limb_any h' t (by omega) (by omega)).mono ?_
          rintro _ _ ⟨y2, rfl, hy2, rfl⟩
          have e2 : x2 = x := hx2.out.trans hx.out.symm
          have e3 : y2 = y := hy2.out.trans hy.out.symm
          subst e2 e3
          go_wp2
          go_ret
          exact ⟨1, rfl, Lib.hid HC.out.symm, rfl⟩
end Go.Proofs.YtipbpdiahemmpaaGreat
