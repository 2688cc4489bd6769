/- nat: division by one limb. -/
import Derived.Test.YtipbpdiahemmpaaGreatN5
namespace Go.Proofs.YtipbpdiahemmpaaGreat
open Go.RowKit Go.IntWalk

theorem or_join (r a : Nat) (hr : r < 4294967296) (ha : a < 4294967296) : bits .or .u64 ((r : Int) * 4294967296) (a : Int) = (r : Int) * 4294967296 + a := by
  have e : (r : Int) * 4294967296 = ((r * 4294967296 : Nat) : Int) := by simp
  rw [e, u64_or_nat _ _ (by omega) (by omega), nat_join 32 _ _ (by rw [show (2 : Nat) ^ 32 = 4294967296 from rfl]; omega) (by rw [show (2 : Nat) ^ 32 = 4294967296 from rfl]; exact ha)]
  simp

set_option maxHeartbeats 2000000 in
theorem short_any (b : Nat) {A : Option Addr} {n c : Nat} {L : List Nat} {w : World} (h : RdU w w.heap.size A n c L) (hn : n ≤ 8796093022207) (hb0 : 0 < b) (hb : b < 4294967296) :
    Calls Tryz.prog 293 #[.slice A n c, .int .u32 b] w fun e w' => ∃ (A : Option Addr) (m c x r : Nat), e = .returned (.tuple #[.slice A m c, .int .u32 r]) ∧ OwU w' w.heap.size A m c (Dg.dg x) ∧ Hid (x = Dg.val L / b ∧ r = Dg.val L % b) ∧ Below w.heap.size w w' := by
  have HLEN := Lib.hid h.len
  have hmk := make_nat n (by omega)
  have hB0 := (Below.refl w.heap.size w).alloc (Nat.le_refl _) (.cells (madeCells #[.int .u32 0] n) 35)
  have hU0 := UB.made w n
  go_enter Tryz.func293, Tryz.ntmps293
  go_wp2_with fail
  generalize w.alloc (.cells (madeCells #[.int .u32 0] n) 35) = W1 at hB0 hU0 ⊢
  clear hmk
  obtain ⟨g, hg⟩ : ∃ g, g = w.heap.size := ⟨_, rfl⟩
  rw [← hg] at hU0 ⊢
  have HG := Lib.hid hg
  clear hg
  go_wp2_with fail
  go_loopw [7, 8] (fun rest i wr => ∃ (j r : Nat) (O : List Nat), i = .int .i64 ((j : Int) - 1) ∧ rest = .int .u64 r ∧ j ≤ n ∧ r < b ∧ UB wr g O ∧ Hid (O.length = n ∧ Dg.Wd O ∧ Dg.val (O.drop j) * b + r = Dg.val (L.drop j)) ∧ Below w.heap.size w wr) (fun _ i _ => (intOf i + 1).toNat)
  case atStart =>
    refine ⟨n, 0, _, rfl, rfl, Nat.le_refl _, hb0, hU0, Lib.hid ⟨by simp, Dg.Wd.zeros _, ?_⟩, hB0⟩
    rw [List.drop_eq_nil_of_le (by simp), List.drop_eq_nil_of_le (by rw [HLEN.out]; exact Nat.le_refl _)]
    simp [Dg.val]
  case round =>
    clear hU0 hB0
    obtain ⟨j, r, O, rfl, rfl, hj, hr, hU, hO, hB⟩ := hrel
    rcases Nat.eq_zero_or_pos j with h0 | h0
    · subst h0
      have hO3 := hU.rd hO.out.2.1 hU.lt (k := n) (by rw [hO.out.1]; exact Nat.le_refl _) (by rw [hO.out.1]; unfold maxLen; omega)
      rw [hO.out.1, List.take_of_length_le (by rw [hO.out.1]; exact Nat.le_refl _)] at hO3
      go_wp2_with fail
      refine (own_any hO3 (by omega)).mono ?_
      rintro _ W4 ⟨A4, m4, c4, x4, rfl, ho4, hx4, hb4⟩
      have hrl : (r : Int) < 4294967296 := by omega
      go_wp2
      go_ret2
      refine ⟨_, _, _, x4, r, ?_, ho4.base hB.size, Lib.hid ?_, hB.trans (hb4.mono hB.size)⟩
      · rfl
      · have e := hO.out.2.2
        simp only [List.drop_zero] at e
        rw [hx4.out, ← e]
        constructor
        · rw [Nat.mul_comm, Nat.mul_add_div hb0, Nat.div_eq_of_lt hr]; rfl
        · rw [Nat.mul_comm, Nat.mul_add_mod, Nat.mod_eq_of_lt hr]
    · obtain ⟨t, rfl⟩ : ∃ t, j = t + 1 := ⟨j - 1, by omega⟩
      obtain ⟨hx, ad, rfl, hbx, hcx⟩ := h.at_ t _ (Dg.get_of_ld (by rw [HLEN.out]; omega))
      have hcx := (hB.cell (p := ad.add t) (by rw [add_blk]; exact hbx)).trans hcx
      obtain ⟨x, ex⟩ : ∃ x, x = Dg.ld L t := ⟨_, rfl⟩
      rw [← ex] at hx hcx
      have EX := Lib.hid ex
      clear ex
      have hor := or_join r x (by omega) hx
      obtain ⟨q, hq⟩ : ∃ q, q = (r * 4294967296 + x) / b := ⟨_, rfl⟩
      obtain ⟨r', hr'⟩ : ∃ r', r' = (r * 4294967296 + x) % b := ⟨_, rfl⟩
      have hql : q < 4294967296 := by rw [hq]; exact Dg.short_lt hr hx
      have hrl : r' < b := by rw [hr']; exact Nat.mod_lt _ hb0
      have hqi : ((r : Int) * 4294967296 + x) / b = (q : Int) := by rw [hq]; simp
      have hri : ((r : Int) * 4294967296 + x) % b = (r' : Int) := by rw [hr']; simp
      have HQ := Lib.hid hq
      have HR := Lib.hid hr'
      have hcell := hU.cell (Dg.get_of_ld (L := O) (i := t) (by rw [hO.out.1]; omega))
      generalize Dg.ld O t = o0 at hcell
      have hfz := hU.frozen t
      have hU1 : UB (wr.setCell ⟨g, t, none⟩ (.int .u32 (((r : Int) * 4294967296 + x) / b % 4294967296))) g (O.set t q) := by rw [hqi, show (q : Int) % 4294967296 = q by omega]; exact hU.set t q
      have hB1 := hB.setCell (p := ⟨g, t, none⟩) (by show w.heap.size ≤ g; have := HG.out; omega) (.int .u32 (((r : Int) * 4294967296 + x) / b % 4294967296))
      have HRI := Lib.hid hri
      have HI := Lib.hid (Dg.short_step (b := b) (r := r) (q := q) (show t < L.length by rw [HLEN.out]; omega) (show t < O.length by rw [hO.out.1]; omega) hO.out.2.2 (by rw [← EX.out]; exact hq))
      clear hq hr' hqi hri
      go_wp2
      go_roundw
      case rel => exact ⟨t, r', _, rfl, int_i HRI.out, by omega, hrl, hU1, Lib.hid ⟨by rw [List.length_set]; exact hO.out.1, hO.out.2.1.set t hql, by rw [HR.out, EX.out]; exact HI.out⟩, hB1⟩
      case measure => simp [intOf]
end Go.Proofs.YtipbpdiahemmpaaGreat
