/- nat: the product. -/
import Derived.Test.YtipbpdiahemmpaaGreatN1
import Derived.Deep.LoopGhost
import Derived.Deep.CutBlock
import Derived.Deep.CutRange
namespace Go.Proofs.YtipbpdiahemmpaaGreat
open Go.RowKit Go.IntWalk

theorem mul_bound {x y : Nat} (hx : x < 4294967296) (hy : y < 4294967296) : x * y ≤ 18446744065119617025 := by
  have := Nat.mul_le_mul (show x ≤ 4294967295 by omega) (show y ≤ 4294967295 by omega)
  simpa using this
theorem mul_inner {O O0 L' : List Nat} {i j x c T : Nat} (hO : i + j < O.length) (h : Dg.vf (Dg.ld O) (i + j) + c * 4294967296 ^ (i + j) = Dg.vf (Dg.ld O0) (i + j) + x * 4294967296 ^ i * Dg.vf (Dg.ld L') j)
    (he : Dg.ld O (i + j) = Dg.ld O0 (i + j)) (hT : T = x * Dg.ld L' j + Dg.ld O (i + j) + c) :
    Dg.vf (Dg.ld (O.set (i + j) (T % 4294967296))) (i + (j + 1)) + T / 4294967296 * 4294967296 ^ (i + (j + 1)) = Dg.vf (Dg.ld O0) (i + (j + 1)) + x * 4294967296 ^ i * Dg.vf (Dg.ld L') (j + 1) := by
  rw [show i + (j + 1) = i + j + 1 by omega, Dg.vf_succ, Dg.vf_succ, Dg.vf_succ, Dg.vf_set _ (Nat.le_refl _), Dg.ld_set_same _ hO, ← he]
  have hm : T = T % 4294967296 + 4294967296 * (T / 4294967296) := (Nat.mod_add_div T 4294967296).symm
  rw [Nat.pow_succ]
  have hp : 4294967296 ^ (i + j) = 4294967296 ^ i * 4294967296 ^ j := Nat.pow_add _ _ _
  generalize T % 4294967296 = r at *
  generalize T / 4294967296 = q at *
  generalize Dg.vf (Dg.ld O) (i + j) = v at *
  generalize Dg.vf (Dg.ld O0) (i + j) = v0 at *
  generalize Dg.vf (Dg.ld L') j = b at *
  generalize Dg.ld O (i + j) = o at *
  generalize Dg.ld L' j = y at *
  rw [hp] at h ⊢
  generalize 4294967296 ^ i = P at *
  generalize 4294967296 ^ j = R at *
  generalize (4294967296 : Nat) = B at *
  grind
theorem mul_outer {O O0 L L' : List Nat} {i n' c : Nat} (hO : i + n' < O.length) (h0 : Dg.vf (Dg.ld O0) (i + n') = Dg.vf (Dg.ld L) i * Dg.val L')
    (h : Dg.vf (Dg.ld O) (i + n') + c * 4294967296 ^ (i + n') = Dg.vf (Dg.ld O0) (i + n') + Dg.ld L i * 4294967296 ^ i * Dg.val L') :
    Dg.vf (Dg.ld (O.set (i + n') c)) (i + 1 + n') = Dg.vf (Dg.ld L) (i + 1) * Dg.val L' := by
  rw [show i + 1 + n' = i + n' + 1 by omega, Dg.vf_succ, Dg.vf_succ, Dg.vf_set _ (Nat.le_refl _), Dg.ld_set_same _ hO, h, h0]
  generalize Dg.vf (Dg.ld L) i = a
  generalize Dg.ld L i = x
  generalize Dg.val L' = v
  generalize 4294967296 ^ i = P
  grind

set_option maxRecDepth 100000 in
set_option maxHeartbeats 4000000 in
theorem nMul_any {A A' : Option Addr} {n c n' c' : Nat} {L L' : List Nat} {w : World} (h : RdU w w.heap.size A n c L) (h' : RdU w w.heap.size A' n' c' L') (hn : n ≤ 4398046511103) (hn' : n' ≤ 4398046511103) :
    Calls Tryz.prog 254 #[.slice A n c, .slice A' n' c'] w (RetN (Dg.val L * Dg.val L') w) := by
  have hlen := Lib.hid h.len
  have hlen' := Lib.hid h'.len
  go_enter Tryz.func254, Tryz.ntmps254
  go_wp2_with fail
  refine (trim_any h (by omega)).mono ?_
  rintro _ _ ⟨k, rfl, hk, rfl⟩
  go_wp2_with fail
  refine (trim_any h' (by omega)).mono ?_
  rintro _ _ ⟨k', rfl, hk', rfl⟩
  have hkn : k ≤ n := by have := hk.out.1; rw [hlen.out] at this; exact this
  have hkn' : k' ≤ n' := by have := hk'.out.1; rw [hlen'.out] at this; exact this
  have hR := h.take hkn
  have hR' := h'.take hkn'
  have HV := Lib.hid (show Dg.val (L.take k) = Dg.val L ∧ Dg.val (L'.take k') = Dg.val L' from ⟨by rw [hk.out.2, Dg.val_dg], by rw [hk'.out.2, Dg.val_dg]⟩)
  clear hk hk' h h' hlen hlen'
  generalize L.take k = M at *
  generalize L'.take k' = M' at *
  have HL := Lib.hid (And.intro hR.len hR'.len)
  rcases Nat.eq_zero_or_pos k with e | e
  · subst e
    have HZ := Lib.hid (show Dg.val L = 0 by rw [← HV.out.1, List.eq_nil_of_length_eq_zero HL.out.1]; rfl)
    go_wp2
    go_ret
    exact ⟨none, 0, 0, 0, rfl, by rw [Dg.dg_zero]; exact OwU.nil _ _, Lib.hid (by rw [HZ.out, Nat.zero_mul]), Below.refl _ _⟩
  rcases Nat.eq_zero_or_pos k' with e' | e'
  · subst e'
    have HZ := Lib.hid (show Dg.val L' = 0 by rw [← HV.out.2, List.eq_nil_of_length_eq_zero HL.out.2]; rfl)
    have hkb : ((k : Int) == 0) = false := by simp; omega
    go_wp2
    go_ret
    exact ⟨none, 0, 0, 0, rfl, by rw [Dg.dg_zero]; exact OwU.nil _ _, Lib.hid (by rw [HZ.out, Nat.mul_zero]), Below.refl _ _⟩
  have hkb : ((k : Int) == 0) = false := by simp; omega
  have hkb' : ((k' : Int) == 0) = false := by simp; omega
  obtain ⟨m, hm⟩ : ∃ m, m = k + k' := ⟨_, rfl⟩
  have hmi : (k : Int) + k' = m := by omega
  have hmx : m ≤ 8796093022206 := by omega
  have hmk := make_nat m (by omega)
  have hB0 := (Below.refl w.heap.size w).alloc (Nat.le_refl _) (.cells (madeCells #[.int .u32 0] m) 35)
  have hU0 := UB.made w m
  have HM := Lib.hid hm
  clear hm
  go_wp2_with fail
  generalize w.alloc (.cells (madeCells #[.int .u32 0] m) 35) = W1 at hB0 hU0 ⊢
  obtain ⟨g, hg⟩ : ∃ g, g = w.heap.size := ⟨_, rfl⟩
  rw [← hg] at hU0 ⊢
  have HG := Lib.hid hg
  clear hg hmk
  go_loopw [32] (fun iv wr => ∃ (i : Nat) (O : List Nat), iv = .int .i64 i ∧ i ≤ k ∧ UB wr g O ∧ Hid (O.length = m ∧ Dg.Wd O ∧ Dg.vf (Dg.ld O) (i + k') = Dg.vf (Dg.ld M) i * Dg.val M') ∧ Hid (∀ z, i + k' ≤ z → Dg.ld O z = 0) ∧ Below w.heap.size w wr) (fun iv _ => k - (intOf iv).toNat)
  case atStart =>
    refine ⟨0, _, rfl, Nat.zero_le _, hU0, Lib.hid ⟨by simp, Dg.Wd.zeros _, ?_⟩, Lib.hid fun z _ => Dg.ld_replicate _ _, hB0⟩
    rw [show Dg.vf (Dg.ld M) 0 = 0 from rfl, Nat.zero_mul]
    have e : ∀ t, Dg.vf (Dg.ld (List.replicate m 0)) t = 0 := by
      intro t
      induction t with
      | zero => rfl
      | succ t ih => rw [Dg.vf_succ, ih, Dg.ld_replicate]; simp
    exact e _
  case round =>
    clear hU0 hB0
    obtain ⟨i, O, rfl, hi, hU, hO, hZ, hB⟩ := hrel
    by_cases hik : i = k
    · subst hik
      have hO3 := hU.rd hO.out.2.1 hU.lt (k := m) (by rw [hO.out.1]; exact Nat.le_refl _) (by rw [hO.out.1]; unfold maxLen; omega)
      rw [hO.out.1, List.take_of_length_le (by rw [hO.out.1]; exact Nat.le_refl _)] at hO3
      go_wp2_with fail
      refine (own_any hO3 (by omega)).mono ?_
      rintro _ W4 ⟨A4, m4, c4, x4, rfl, ho4, hx4, hb4⟩
      go_wp2
      go_ret
      refine ⟨_, _, _, x4, rfl, ho4.base hB.size, Lib.hid ?_, hB.trans (hb4.mono hB.size)⟩
      have e1 := hO.out.2.2
      rw [Dg.vf_eq_val (by rw [hO.out.1, HM.out]; exact Nat.le_refl _), Dg.vf_eq_val (by rw [HL.out.1]; exact Nat.le_refl _)] at e1
      rw [hx4.out, e1, HV.out.1, HV.out.2]
    · have hil : i < k := by omega
      clear hik
      have hili : (i : Int) < (k : Int) := by omega
      obtain ⟨hx, ad, rfl, hbx, hcx⟩ := hR.at_ i _ (Dg.get_of_ld (by rw [HL.out.1]; exact hil))
      have hcx := (hB.cell (p := ad.add i) (by rw [add_blk]; exact hbx)).trans hcx
      obtain ⟨x, ex⟩ : ∃ x, x = Dg.ld M i := ⟨_, rfl⟩
      rw [← ex] at hx hcx
      have EX := Lib.hid ex
      clear ex
      have hx0 : (0 : Int) ≤ (x : Int) := by omega
      go_wp2_with fail
      go_loopw [8, 39] (fun cv jv wr => ∃ (j cy : Nat) (O' : List Nat), cv = .int .u64 cy ∧ jv = .int .i64 j ∧ j ≤ k' ∧ cy < 4294967296 ∧ UB wr g O' ∧ Hid (O'.length = m ∧ Dg.Wd O' ∧ Dg.vf (Dg.ld O') (i + j) + cy * 4294967296 ^ (i + j) = Dg.vf (Dg.ld O) (i + j) + x * 4294967296 ^ i * Dg.vf (Dg.ld M') j) ∧ Hid (∀ z, i + j ≤ z → Dg.ld O' z = Dg.ld O z) ∧ Below w.heap.size w wr) (fun _ jv _ => k' - (intOf jv).toNat)
      case atStart => exact ⟨0, 0, O, rfl, rfl, Nat.zero_le _, by omega, hU, Lib.hid ⟨hO.out.1, hO.out.2.1, by rw [show Dg.vf (Dg.ld M') 0 = 0 from rfl, Nat.zero_mul, Nat.mul_zero]⟩, Lib.hid fun _ _ => rfl, hB⟩
      case round =>
        clear hU hB hcx
        obtain ⟨j, cy, P, rfl, rfl, hj, hcy, hU, hP, hZP, hB⟩ := hrel
        by_cases hjk : j = k'
        · subst hjk
          obtain ⟨y, hy⟩ : ∃ y, y = i + j := ⟨_, rfl⟩
          have hyi : (i : Int) + j = (y : Int) := by omega
          have hyl : y < m := by rw [HM.out]; omega
          have hfz := hU.frozen y
          have hcell := hU.cell (Dg.get_of_ld (L := P) (i := y) (by rw [hP.out.1]; exact hyl))
          have HY := Lib.hid hy
          generalize Dg.ld P y = o0 at hcell
          have hU1 : UB (wr.setCell ⟨g, y, none⟩ (.int .u32 cy)) g (P.set y cy) := hU.set y cy
          have hB1 := hB.setCell (p := ⟨g, y, none⟩) (by show w.heap.size ≤ g; have := HG.out; omega) (.int .u32 cy)
          have hcyi : (cy : Int) % 4294967296 = (cy : Int) := by omega
          clear hy
          go_wp2
          go_roundw
          case rel => exact ⟨i + 1, _, by go_num, by omega, hU1, Lib.hid ⟨by rw [List.length_set]; exact hP.out.1, hP.out.2.1.set y hcy, by
            rw [HY.out]
            exact mul_outer (O0 := O) (by rw [hP.out.1, HM.out]; omega) hO.out.2.2 (by have e := hP.out.2.2; rw [Dg.vf_eq_val (L := M') (by rw [HL.out.2]; exact Nat.le_refl _)] at e; rw [← EX.out]; exact e)⟩, Lib.hid (fun z hz => by rw [Dg.ld_set_other _ (by have := HY.out; omega), hZP.out z (by omega)]; exact hZ.out z (by omega)), hB1⟩
          case measure => simp [intOf]; omega
        · have hjl : j < k' := by omega
          clear hjk
          have hjli : (j : Int) < (k' : Int) := by omega
          obtain ⟨hv, ad', rfl, hbv, hcv⟩ := hR'.at_ j _ (Dg.get_of_ld (by rw [HL.out.2]; exact hjl))
          have hcv := (hB.cell (p := ad'.add j) (by rw [add_blk]; exact hbv)).trans hcv
          obtain ⟨v, ev⟩ : ∃ v, v = Dg.ld M' j := ⟨_, rfl⟩
          rw [← ev] at hv hcv
          have EV := Lib.hid ev
          obtain ⟨y, hy⟩ : ∃ y, y = i + j := ⟨_, rfl⟩
          have hyi : (i : Int) + j = (y : Int) := by omega
          have hyl : y < m := by rw [HM.out]; omega
          have hfz := hU.frozen y
          have hcell := hU.cell (Dg.get_of_ld (L := P) (i := y) (by rw [hP.out.1]; exact hyl))
          have HY := Lib.hid hy
          obtain ⟨o0, eo⟩ : ∃ o, o = Dg.ld P y := ⟨_, rfl⟩
          rw [← eo] at hcell
          have hol : o0 < 4294967296 := by rw [eo]; exact Dg.ld_word hP.out.2.1 y
          have EO := Lib.hid eo
          obtain ⟨r, er⟩ : ∃ r, r = x * v := ⟨_, rfl⟩
          have hrl : r ≤ 18446744065119617025 := by rw [er]; exact mul_bound hx hv
          have hri : (x : Int) * v = (r : Int) := by rw [er]; simp
          have ER := Lib.hid er
          have HB := Lib.hid hB
          obtain ⟨T, eT⟩ : ∃ T, T = r + o0 + cy := ⟨_, rfl⟩
          have hw : IntKind.u64.wrap (IntKind.u64.wrap (IntKind.u64.wrap (IntKind.u64.wrap (x : Int) * IntKind.u64.wrap (v : Int)) + o0) + cy) = (T : Int) := by
            rw [IntWalk.u64_in (x : Int) (by omega), IntWalk.u64_in (v : Int) (by omega), hri, IntWalk.u64_in (r : Int) (by omega), IntWalk.u64_in ((r : Int) + o0) (by omega), IntWalk.u64_in _ (by omega)]
            omega
          have HW := Lib.hid hw
          have ET := Lib.hid eT
          have hq : ((T : Int) / 4294967296) = ((T / 4294967296 : Nat) : Int) := by simp
          have hr : ((T : Int) % 4294967296) = ((T % 4294967296 : Nat) : Int) := by simp
          have HQR := Lib.hid (And.intro hq hr)
          have hTl : T / 4294967296 < 4294967296 := by omega
          have HU1 := Lib.hid (show UB (wr.setCell ⟨g, y, none⟩ (.int .u32 ((T % 4294967296 : Nat) : Int))) g (P.set y (T % 4294967296)) from hU.set y (T % 4294967296))
          have HB1 := Lib.hid (hB.setCell (p := ⟨g, y, none⟩) (by show w.heap.size ≤ g; have := HG.out; omega) (.int .u32 ((T % 4294967296 : Nat) : Int)))
          have HI := Lib.hid (mul_inner (O := P) (O0 := O) (L' := M') (i := i) (j := j) (x := x) (c := cy) (T := T) (by rw [hP.out.1, HM.out]; omega) hP.out.2.2 (hZP.out _ (Nat.le_refl _)) (by rw [eT, er, ← EV.out, eo, hy]))
          clear ev hy eo er hx hv hri hw hq hr eT
          go_wp2_with fail
          rw [HW.out, HQR.out.1, HQR.out.2]
          go_roundw
          case rel => exact ⟨j + 1, T / 4294967296, P.set y (T % 4294967296), rfl, by go_num, by omega, hTl, HU1.out, Lib.hid ⟨by rw [List.length_set]; exact hP.out.1, hP.out.2.1.set y (Nat.mod_lt _ (by omega)), by rw [HY.out]; exact HI.out⟩, Lib.hid (fun z hz => by rw [Dg.ld_set_other _ (by have := HY.out; omega)]; exact hZP.out z (by omega)), HB1.out⟩
          case measure => simp [intOf]; omega
end Go.Proofs.YtipbpdiahemmpaaGreat
