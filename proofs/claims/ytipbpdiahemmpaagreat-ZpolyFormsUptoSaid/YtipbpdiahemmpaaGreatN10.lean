/- The reference's natural numbers, first part: a limb, the normal form, of a number, which one is greater, the sum. -/
import Derived.Test.YtipbpdiahemmpaaGreatN2
namespace Go.Proofs.YtipbpdiahemmpaaGreat
open Go.RowKit Go.IntWalk

set_option maxHeartbeats 400000 in
theorem limb_any {B : Nat} {A : Option Addr} {n c : Nat} {L : List Nat} {w : World} (h : RdU w B A n c L) (k : Nat) {ki : Int} (hk : ki = k) (hkl : k ≤ 17592186044416) :
    Calls Tryz.prog 282 #[.slice A n c, .int .i64 ki] w fun e w' => ∃ x : Nat, e = .returned (.int .u64 x) ∧ Hid (x = Dg.ld L k) ∧ w = w' := by
  subst hk
  have HLEN := Lib.hid h.len
  by_cases hkn : k < n
  · obtain ⟨hx, ad, rfl, hb, hc⟩ := h.at_ k (Dg.ld L k) (Dg.get_of_ld (by rw [HLEN.out]; exact hkn))
    generalize hgx : Dg.ld L k = x at hx hc
    clear hgx
    go_enter Tryz.func282, Tryz.ntmps282
    go_wp2
    go_ret
    exact ⟨x, rfl, Lib.hid rfl, rfl⟩
  · have hz : Dg.ld L k = 0 := Dg.ld_ge (by rw [HLEN.out]; omega)
    have HZ := Lib.hid hz
    clear hz
    go_enter Tryz.func282, Tryz.ntmps282
    go_wp2
    go_ret
    exact ⟨0, rfl, Lib.hid HZ.out.symm, rfl⟩

theorem take_set_succ {L O : List Nat} {t x : Nat} (hO : t < O.length) (hL : t < L.length) (h : O.take t = L.take t) (hx : x = Dg.ld L t) : (O.set t x).take (t + 1) = L.take (t + 1) := by
  rw [List.take_succ_eq_append_getElem (by simpa using hO), List.take_succ_eq_append_getElem hL, List.take_set_of_le (Nat.le_refl t), h, hx, Dg.ld_lt hL]
  simp

set_option maxRecDepth 100000 in
set_option maxHeartbeats 2000000 in
theorem refNorm_any {A : Option Addr} {n c : Nat} {L : List Nat} {w : World} (h : RdU w w.heap.size A n c L) (hn : n ≤ 17592186044416) :
    Calls Tryz.prog 188 #[.slice A n c] w (RetN (Dg.val L) w) := by
  have hw := h.wd
  have hlen := Lib.hid h.len
  go_enter Tryz.func188, Tryz.ntmps188
  go_wp2
  go_loop [3] (fun a => ∃ k : Nat, k ≤ n ∧ a = .int .i64 k ∧ Hid (∀ i, k ≤ i → Dg.ld L i = 0)) (fun a => (intOf a).toNat)
  case atStart => exact ⟨n, Nat.le_refl _, rfl, Lib.hid fun i hi => Dg.ld_ge (by rw [hlen.out]; exact hi)⟩
  case round =>
    obtain ⟨k, hk, rfl, h0⟩ := hrel
    have hgo : (k = 0 ∨ Dg.ld L (k - 1) ≠ 0) ∨ ∃ j, k = j + 1 ∧ Dg.ld L j = 0 := by
      rcases Nat.eq_zero_or_pos k with h1 | h1
      · exact .inl (.inl h1)
      · by_cases h2 : Dg.ld L (k - 1) = 0
        · exact .inr ⟨k - 1, by omega, h2⟩
        · exact .inl (.inr h2)
    rcases hgo with hstop | ⟨j, rfl, hz⟩
    · have hd := tr_done hw (by rw [hlen.out]; exact hk) h0.out hstop
      have HD := Lib.hid hd
      have HS := Lib.hid hstop
      clear hd
      have hmk := make_nat k (by omega)
      have hB0 := (Below.refl w.heap.size w).alloc (Nat.le_refl _) (.cells (madeCells #[.int .u32 0] k) 35)
      have hU0 := UB.made w k
      rcases Nat.eq_zero_or_pos k with hk0 | hk0
      · have hkI : ¬ (0 : Int) < (k : Int) := by omega
        clear hstop hk0
        go_wp2_with fail
        have hB0 := hB0
        generalize w.alloc (.cells (madeCells #[.int .u32 0] k) 35) = W1 at hB0 hU0 ⊢
        clear hmk
        obtain ⟨g, hg⟩ : ∃ g, g = w.heap.size := ⟨_, rfl⟩
        rw [← hg] at hU0 ⊢
        have HG := Lib.hid hg
        clear hg
        go_wp2_with fail
        go_loopw [5] (fun i wr => ∃ (t : Nat) (O : List Nat), i = .int .i64 t ∧ t ≤ k ∧ UB wr g O ∧ Hid (O.length = k ∧ Dg.Wd O ∧ O.take t = L.take t) ∧ Below w.heap.size w wr) (fun i _ => k - (intOf i).toNat)
        case atStart => exact ⟨0, _, rfl, Nat.zero_le _, hU0, Lib.hid ⟨by simp, Dg.Wd.zeros _, by simp⟩, hB0⟩
        case round =>
          clear hU0 hB0
          obtain ⟨t, O, rfl, ht, hU, hO, hB⟩ := hrel
          by_cases htk : t < k
          · exact absurd htk (by omega)
          · obtain rfl : t = k := by omega
            go_wp2
            go_ret
            have hO1 := hU.own hO.out.2.1 (b := w.heap.size) (by have := HG.out; omega) (k := t) (by rw [hO.out.1]; exact Nat.le_refl _) (by rw [hO.out.1]; unfold maxLen; omega)
            rw [hO.out.1, hO.out.2.2, HD.out.2] at hO1
            exact ⟨_, _, _, _, rfl, hO1, Lib.hid rfl, hB⟩
      · obtain ⟨j, hj⟩ : ∃ j, j = k - 1 := ⟨_, rfl⟩
        obtain ⟨hx, ad, rfl, hb, hc⟩ := h.at_ j (Dg.ld L j) (Dg.get_of_ld (by rw [hlen.out]; omega))
        have hne : Dg.ld L j ≠ 0 := by
          rcases hstop with h1 | h1
          · omega
          · rw [hj]; exact h1
        have hz' : ((Dg.ld L j : Int) == 0) = false := by simpa using hne
        have hidx : (k : Int) - 1 = (j : Int) := by omega
        have hjn : (j : Int) < n := by omega
        clear hstop hne hj
        generalize Dg.ld L j = x at hx hc hz'
        go_wp2_with fail
        clear hx hb hc hz' hidx hjn
        have hB0 := hB0
        generalize w.alloc (.cells (madeCells #[.int .u32 0] k) 35) = W1 at hB0 hU0 ⊢
        clear hmk
        obtain ⟨g, hg⟩ : ∃ g, g = w.heap.size := ⟨_, rfl⟩
        rw [← hg] at hU0 ⊢
        have HG := Lib.hid hg
        clear hg
        go_wp2_with fail
        go_loopw [5] (fun i wr => ∃ (t : Nat) (O : List Nat), i = .int .i64 t ∧ t ≤ k ∧ UB wr g O ∧ Hid (O.length = k ∧ Dg.Wd O ∧ O.take t = L.take t) ∧ Below w.heap.size w wr) (fun i _ => k - (intOf i).toNat)
        case atStart => exact ⟨0, _, rfl, Nat.zero_le _, hU0, Lib.hid ⟨by simp, Dg.Wd.zeros _, by simp⟩, hB0⟩
        case round =>
          clear hU0 hB0
          obtain ⟨t, O, rfl, ht, hU, hO, hB⟩ := hrel
          by_cases htk : t < k
          · obtain ⟨hx, ad', e1, hb, hc⟩ := h.at_ t (Dg.ld L t) (Dg.get_of_ld (by rw [hlen.out]; omega))
            injection e1 with e1
            subst e1
            have hc := (hB.cell (p := ad.add t) (by rw [add_blk]; exact hb)).trans hc
            obtain ⟨x, ex⟩ : ∃ x, x = Dg.ld L t := ⟨_, rfl⟩
            rw [← ex] at hx hc
            have EX := Lib.hid ex
            clear ex
            have hcell := hU.cell (Dg.get_of_ld (L := O) (i := t) (by rw [hO.out.1]; exact htk))
            generalize Dg.ld O t = o0 at hcell
            have hfz := hU.frozen t
            have hU1 := hU.set t x
            have hB1 := hB.setCell (p := ⟨g, t, none⟩) (by show w.heap.size ≤ g; have := HG.out; omega) (.int .u32 x)
            have htn : (t : Int) < n := by omega
            go_wp2
            go_roundw
            case rel => exact ⟨t + 1, _, by go_num, htk, hU1, Lib.hid ⟨by rw [List.length_set]; exact hO.out.1, hO.out.2.1.set t hx, take_set_succ (by rw [hO.out.1]; exact htk) (by rw [hlen.out]; omega) hO.out.2.2 EX.out⟩, hB1⟩
            case measure => simp [intOf]; omega
          · obtain rfl : t = k := by omega
            go_wp2
            go_ret
            have hO1 := hU.own hO.out.2.1 (b := w.heap.size) (by have := HG.out; omega) (k := t) (by rw [hO.out.1]; exact Nat.le_refl _) (by rw [hO.out.1]; unfold maxLen; omega)
            rw [hO.out.1, hO.out.2.2, HD.out.2] at hO1
            exact ⟨_, _, _, _, rfl, hO1, Lib.hid rfl, hB⟩
    · have hi := hk
      obtain ⟨hx, ad, rfl, hb, hc⟩ := h.at_ j (Dg.ld L j) (Dg.get_of_ld (by rw [hlen.out]; omega))
      have hc0 : w.cell? (ad.add j) = some (.int .u32 0) := by rw [hc, hz]; rfl
      have HZ := Lib.hid hz
      clear hz hc
      go_wp2
      go_round
      case rel => exact ⟨j, by omega, rfl, Lib.hid fun i hi => by
        rcases Nat.lt_or_ge j i with h1 | h1
        · exact h0.out i h1
        · rw [show i = j by omega]; exact HZ.out⟩
      case measure => simp [intOf]

set_option maxHeartbeats 400000 in
theorem refOf_any (n : Nat) {ni : Int} (hni : ni = n) (hn : n < 18446744073709551616) (w : World) :
    Calls Tryz.prog 203 #[.int .u64 ni] w (RetN n w) := by
  subst hni
  have h1 : n % 4294967296 < 4294967296 := Nat.mod_lt _ (by omega)
  have h2 : n / 4294967296 < 4294967296 := by omega
  go_enter Tryz.func203, Tryz.ntmps203
  go_wp2_with fail
  refine (refNorm_any (cells_two h1 h2 _ (by simp)) (by omega)).mono ?_
  rintro _ w1 ⟨A1, m1, c1, x1, rfl, hO, hx, hb⟩
  have hB := (Below.refl w.heap.size w).alloc (Nat.le_refl _) (.cells #[.int .u32 ((n : Int) % 4294967296), .int .u32 ((n : Int) / 4294967296)] 35)
  have HX := Lib.hid (hx.out.trans (Dg.val_two n))
  go_wp2
  go_ret
  exact ⟨_, _, _, _, rfl, hO.base hB.size, HX, hB.trans (hb.mono hB.size)⟩

theorem val_zero_iff {L : List Nat} : Dg.val L = 0 ↔ ∀ i, Dg.ld L i = 0 := by
  constructor
  · intro h i
    by_cases hi : i < L.length
    · have h1 := Dg.term_le' (f := Dg.ld L) hi
      rw [Dg.vf_eq_val (Nat.le_refl _), h] at h1
      have h2 : 0 < 4294967296 ^ i := Nat.pow_pos (by omega)
      rcases Nat.eq_zero_or_pos (Dg.ld L i) with h3 | h3
      · exact h3
      · have := Nat.mul_pos h3 h2
        omega
    · exact Dg.ld_ge (by omega)
  · intro h
    rw [← Dg.vf_eq_val (Nat.le_refl _), Dg.vf_congr (g := fun _ => 0) (fun j _ => h j)]
    generalize L.length = n
    induction n with
    | zero => rfl
    | succ n ih => rw [Dg.vf_succ, ih]; simp

/-- A truth value comes back that says just this. -/
def RetIff (P : Prop) (w : World) (e : Ending) (w' : World) : Prop := ∃ b : Bool, e = .returned (.bool b) ∧ Hid (b = true ↔ P) ∧ w = w'
set_option maxHeartbeats 1000000 in
theorem refZero_any {B : Nat} {A : Option Addr} {n c : Nat} {L : List Nat} {w : World} (h : RdU w B A n c L) (hn : n ≤ 17592186044416) :
    Calls Tryz.prog 187 #[.slice A n c] w (RetIff (Dg.val L = 0) w) := by
  have HLEN := Lib.hid h.len
  go_enter Tryz.func187, Tryz.ntmps187
  go_wp2
  go_loop [7] (fun i => ∃ k : Nat, k ≤ n ∧ i = .int .i64 k ∧ Hid (∀ t, t < k → Dg.ld L t = 0)) (fun i => n - (intOf i).toNat)
  case atStart => exact ⟨0, Nat.zero_le _, rfl, Lib.hid fun t ht => by omega⟩
  case round =>
    obtain ⟨k, hk, rfl, hz⟩ := hrel
    by_cases hkn : k < n
    · obtain ⟨hx, ad, rfl, hb, hc⟩ := h.at_ k (Dg.ld L k) (Dg.get_of_ld (by rw [HLEN.out]; exact hkn))
      obtain ⟨x, ex⟩ : ∃ x, x = Dg.ld L k := ⟨_, rfl⟩
      rw [← ex] at hx hc
      have EX := Lib.hid ex
      clear ex
      by_cases hx0 : x = 0
      · subst hx0
        go_wp2
        go_round
        case rel => exact ⟨k + 1, by omega, by go_num, Lib.hid fun t ht => by
          rcases Nat.lt_or_ge t k with h1 | h1
          · exact hz.out t h1
          · rw [show t = k by omega]; exact EX.out.symm⟩
        case measure => simp [intOf]; omega
      · have hxn : ((x : Int) != 0) = true := by simpa using hx0
        have HX0 := Lib.hid hx0
        clear hx0
        go_wp2
        go_ret
        exact ⟨false, rfl, Lib.hid ⟨fun h => (by cases h), fun h => absurd (EX.out.trans (val_zero_iff.1 h k)) HX0.out⟩, rfl⟩
    · go_wp2
      go_ret
      exact ⟨true, rfl, Lib.hid ⟨fun _ => val_zero_iff.2 fun t => by
        rcases Nat.lt_or_ge t k with h1 | h1
        · exact hz.out t h1
        · exact Dg.ld_ge (by rw [HLEN.out]; omega), fun _ => rfl⟩, rfl⟩
end Go.Proofs.YtipbpdiahemmpaaGreat
