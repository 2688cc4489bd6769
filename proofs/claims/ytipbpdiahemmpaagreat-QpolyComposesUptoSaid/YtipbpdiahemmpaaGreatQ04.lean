/- The reference's natural numbers, first part: a limb, the normal form, of a number, which one is greater, the sum. -/
import Derived.Test.YtipbpdiahemmpaaGreatQ00
import Derived.Test.YtipbpdiahemmpaaGreatQ01
import Derived.Deep.CutRange
import Derived.Test.YtipbpdiahemmpaaGreatQ02
import Derived.Laws.AppendOwnNone
namespace Go.Proofs.YtipbpdiahemmpaaGreat
open Go.RowKit Go.IntWalk

set_option maxHeartbeats 400000 in
theorem limb_any {B : Nat} {A : Option Addr} {n c : Nat} {L : List Nat} {w : World} (h : RdU w B A n c L) (k : Nat) {ki : Int} (hk : ki = k) (hkl : k ≤ 17592186044416) :
    Calls Tryz.prog 282 #[.slice A n c, .int .i64 ki] w fun e w' => ∃ x : Nat, e = .returned (.int .u64 x) ∧ Hid (x = Dg.ld L k) ∧ w = w' := by
  subst hk
  have HLEN := Lib.hid h.len
  by_cases hkn : k < n
  · obtain ⟨hx, ad, rfl, hb, hc⟩ := h.at_ k (Dg.ld L k) (Dg.get_of_ld (by rw [HLEN.out]; exact hkn))
    generalize hgx : Dg.ld L k = x at hx hc
    clear hgx
    go_enter Tryz.func282, Tryz.ntmps282
    go_wp2
    go_ret
    exact ⟨x, rfl, Lib.hid rfl, rfl⟩
  · have hz : Dg.ld L k = 0 := Dg.ld_ge (by rw [HLEN.out]; omega)
    have HZ := Lib.hid hz
    clear hz
    go_enter Tryz.func282, Tryz.ntmps282
    go_wp2
    go_ret
    exact ⟨0, rfl, Lib.hid HZ.out.symm, rfl⟩

theorem take_set_succ {L O : List Nat} {t x : Nat} (hO : t < O.length) (hL : t < L.length) (h : O.take t = L.take t) (hx : x = Dg.ld L t) : (O.set t x).take (t + 1) = L.take (t + 1) := by
  rw [List.take_succ_eq_append_getElem (by simpa using hO), List.take_succ_eq_append_getElem hL, List.take_set_of_le (Nat.le_refl t), h, hx, Dg.ld_lt hL]
  simp

set_option maxRecDepth 100000 in
set_option maxHeartbeats 2000000 in
theorem refNorm_any {A : Option Addr} {n c : Nat} {L : List Nat} {w : World} (h : RdU w w.heap.size A n c L) (hn : n ≤ 17592186044416) :
    Calls Tryz.prog 188 #[.slice A n c] w (RetN (Dg.val L) w) := by
  have hw := h.wd
  have hlen := Lib.hid h.len
  go_enter Tryz.func188, Tryz.ntmps188
  go_wp2
  go_loop [3] (fun a => ∃ k : Nat, k ≤ n ∧ a = .int .i64 k ∧ Hid (∀ i, k ≤ i → Dg.ld L i = 0)) (fun a => (intOf a).toNat)
  case atStart => exact ⟨n, Nat.le_refl _, rfl, Lib.hid fun i hi => Dg.ld_ge (by rw [hlen.out]; exact hi)⟩
  case round =>
    obtain ⟨k, hk, rfl, h0⟩ := hrel
    have hgo : (k = 0 ∨ Dg.ld L (k - 1) ≠ 0) ∨ ∃ j, k = j + 1 ∧ Dg.ld L j = 0 := by
      rcases Nat.eq_zero_or_pos k with h1 | h1
      · exact .inl (.inl h1)
      · by_cases h2 : Dg.ld L (k - 1) = 0
        · exact .inr ⟨k - 1, by omega, h2⟩
        · exact .inl (.inr h2)
    rcases hgo with hstop | ⟨j, rfl, hz⟩
    · have hd := tr_done hw (by rw [hlen.out]; exact hk) h0.out hstop
      have HD := Lib.hid hd
      have HS := Lib.hid hstop
      clear hd
      have hmk := make_nat k (by omega)
      have hB0 := (Below.refl w.heap.size w).alloc (Nat.le_refl _) (.cells (madeCells #[.int .u32 0] k) 35)
      have hU0 := UB.made w k
      rcases Nat.eq_zero_or_pos k with hk0 | hk0
      · have hkI : ¬ (0 : Int) < (k : Int) := by omega
        clear hstop hk0
        go_wp2_with fail
        have hB0 := hB0
        generalize w.alloc (.cells (madeCells #[.int .u32 0] k) 35) = W1 at hB0 hU0 ⊢
        clear hmk
        obtain ⟨g, hg⟩ : ∃ g, g = w.heap.size := ⟨_, rfl⟩
        rw [← hg] at hU0 ⊢
        have HG := Lib.hid hg
        clear hg
        go_wp2_with fail
        go_loopw [5] (fun i wr => ∃ (t : Nat) (O : List Nat), i = .int .i64 t ∧ t ≤ k ∧ UB wr g O ∧ Hid (O.length = k ∧ Dg.Wd O ∧ O.take t = L.take t) ∧ Below w.heap.size w wr) (fun i _ => k - (intOf i).toNat)
        case atStart => exact ⟨0, _, rfl, Nat.zero_le _, hU0, Lib.hid ⟨by simp, Dg.Wd.zeros _, by simp⟩, hB0⟩
        case round =>
          clear hU0 hB0
          obtain ⟨t, O, rfl, ht, hU, hO, hB⟩ := hrel
          by_cases htk : t < k
          · exact absurd htk (by omega)
          · obtain rfl : t = k := by omega
            go_wp2
            go_ret
            have hO1 := hU.own hO.out.2.1 (b := w.heap.size) (by have := HG.out; omega) (k := t) (by rw [hO.out.1]; exact Nat.le_refl _) (by rw [hO.out.1]; unfold maxLen; omega)
            rw [hO.out.1, hO.out.2.2, HD.out.2] at hO1
            exact ⟨_, _, _, _, rfl, hO1, Lib.hid rfl, hB⟩
      · obtain ⟨j, hj⟩ : ∃ j, j = k - 1 := ⟨_, rfl⟩
        obtain ⟨hx, ad, rfl, hb, hc⟩ := h.at_ j (Dg.ld L j) (Dg.get_of_ld (by rw [hlen.out]; omega))
        have hne : Dg.ld L j ≠ 0 := by
          rcases hstop with h1 | h1
          · omega
          · rw [hj]; exact h1
        have hz' : ((Dg.ld L j : Int) == 0) = false := by simpa using hne
        have hidx : (k : Int) - 1 = (j : Int) := by omega
        have hjn : (j : Int) < n := by omega
        clear hstop hne hj
        generalize Dg.ld L j = x at hx hc hz'
        go_wp2_with fail
        clear hx hb hc hz' hidx hjn
        have hB0 := hB0
        generalize w.alloc (.cells (madeCells #[.int .u32 0] k) 35) = W1 at hB0 hU0 ⊢
        clear hmk
        obtain ⟨g, hg⟩ : ∃ g, g = w.heap.size := ⟨_, rfl⟩
        rw [← hg] at hU0 ⊢
        have HG := Lib.hid hg
        clear hg
        go_wp2_with fail
        go_loopw [5] (fun i wr => ∃ (t : Nat) (O : List Nat), i = .int .i64 t ∧ t ≤ k ∧ UB wr g O ∧ Hid (O.length = k ∧ Dg.Wd O ∧ O.take t = L.take t) ∧ Below w.heap.size w wr) (fun i _ => k - (intOf i).toNat)
        case atStart => exact ⟨0, _, rfl, Nat.zero_le _, hU0, Lib.hid ⟨by simp, Dg.Wd.zeros _, by simp⟩, hB0⟩
        case round =>
          clear hU0 hB0
          obtain ⟨t, O, rfl, ht, hU, hO, hB⟩ := hrel
          by_cases htk : t < k
          · obtain ⟨hx, ad', e1, hb, hc⟩ := h.at_ t (Dg.ld L t) (Dg.get_of_ld (by rw [hlen.out]; omega))
            injection e1 with e1
            subst e1
            have hc := (hB.cell (p := ad.add t) (by rw [add_blk]; exact hb)).trans hc
            obtain ⟨x, ex⟩ : ∃ x, x = Dg.ld L t := ⟨_, rfl⟩
            rw [← ex] at hx hc
            have EX := Lib.hid ex
            clear ex
            have hcell := hU.cell (Dg.get_of_ld (L := O) (i := t) (by rw [hO.out.1]; exact htk))
            generalize Dg.ld O t = o0 at hcell
            have hfz := hU.frozen t
            have hU1 := hU.set t x
            have hB1 := hB.setCell (p := ⟨g, t, none⟩) (by show w.heap.size ≤ g; have := HG.out; omega) (.int .u32 x)
            have htn : (t : Int) < n := by omega
            go_wp2
            go_roundw
            case rel => exact ⟨t + 1, _, by go_num, htk, hU1, Lib.hid ⟨by rw [List.length_set]; exact hO.out.1, hO.out.2.1.set t hx, take_set_succ (by rw [hO.out.1]; exact htk) (by rw [hlen.out]; omega) hO.out.2.2 EX.out⟩, hB1⟩
            case measure => simp [intOf]; omega
          · obtain rfl : t = k := by omega
            go_wp2
            go_ret
            have hO1 := hU.own hO.out.2.1 (b := w.heap.size) (by have := HG.out; omega) (k := t) (by rw [hO.out.1]; exact Nat.le_refl _) (by rw [hO.out.1]; unfold maxLen; omega)
            rw [hO.out.1, hO.out.2.2, HD.out.2] at hO1
            exact ⟨_, _, _, _, rfl, hO1, Lib.hid rfl, hB⟩
    · have hi := hk
      obtain ⟨hx, ad, rfl, hb, hc⟩ := h.at_ j (Dg.ld L j) (Dg.get_of_ld (by rw [hlen.out]; omega))
      have hc0 : w.cell? (ad.add j) = some (.int .u32 0) := by rw [hc, hz]; rfl
      have HZ := Lib.hid hz
      clear hz hc
      go_wp2
      go_round
      case rel => exact ⟨j, by omega, rfl, Lib.hid fun i hi => by
        rcases Nat.lt_or_ge j i with h1 | h1
        · exact h0.out i h1
        · rw [show i = j by omega]; exact HZ.out⟩
      case measure => simp [intOf]

set_option maxHeartbeats 400000 in
theorem refOf_any (n : Nat) {ni : Int} (hni : ni = n) (hn : n < 18446744073709551616) (w : World) :
    Calls Tryz.prog 203 #[.int .u64 ni] w (RetN n w) := by
  subst hni
  have h1 : n % 4294967296 < 4294967296 := Nat.mod_lt _ (by omega)
  have h2 : n / 4294967296 < 4294967296 := by omega
  go_enter Tryz.func203, Tryz.ntmps203
  go_wp2_with fail
  refine (refNorm_any (cells_two h1 h2 _ (by simp)) (by omega)).mono ?_
  rintro _ w1 ⟨A1, m1, c1, x1, rfl, hO, hx, hb⟩
  have hB := (Below.refl w.heap.size w).alloc (Nat.le_refl _) (.cells #[.int .u32 ((n : Int) % 4294967296), .int .u32 ((n : Int) / 4294967296)] 35)
  have HX := Lib.hid (hx.out.trans (Dg.val_two n))
  go_wp2
  go_ret
  exact ⟨_, _, _, _, rfl, hO.base hB.size, HX, hB.trans (hb.mono hB.size)⟩

theorem val_zero_iff {L : List Nat} : Dg.val L = 0 ↔ ∀ i, Dg.ld L i = 0 := by
  constructor
  · intro h i
    by_cases hi : i < L.length
    · have h1 := Dg.term_le' (f := Dg.ld L) hi
      rw [Dg.vf_eq_val (Nat.le_refl _), h] at h1
      have h2 : 0 < 4294967296 ^ i := Nat.pow_pos (by omega)
      rcases Nat.eq_zero_or_pos (Dg.ld L i) with h3 | h3
      · exact h3
      · have := Nat.mul_pos h3 h2
        omega
    · exact Dg.ld_ge (by omega)
  · intro h
    rw [← Dg.vf_eq_val (Nat.le_refl _), Dg.vf_congr (g := fun _ => 0) (fun j _ => h j)]
    generalize L.length = n
    induction n with
    | zero => rfl
    | succ n ih => rw [Dg.vf_succ, ih]; simp

/-- A truth value comes back that says just this. -/
def RetIff (P : Prop) (w : World) (e : Ending) (w' : World) : Prop := ∃ b : Bool, e = .returned (.bool b) ∧ Hid (b = true ↔ P) ∧ w = w'
set_option maxHeartbeats 1000000 in
theorem refZero_any {B : Nat} {A : Option Addr} {n c : Nat} {L : List Nat} {w : World} (h : RdU w B A n c L) (hn : n ≤ 17592186044416) :
    Calls Tryz.prog 187 #[.slice A n c] w (RetIff (Dg.val L = 0) w) := by
  have HLEN := Lib.hid h.len
  go_enter Tryz.func187, Tryz.ntmps187
  go_wp2
  go_loop [7] (fun i => ∃ k : Nat, k ≤ n ∧ i = .int .i64 k ∧ Hid (∀ t, t < k → Dg.ld L t = 0)) (fun i => n - (intOf i).toNat)
  case atStart => exact ⟨0, Nat.zero_le _, rfl, Lib.hid fun t ht => by omega⟩
  case round =>
    obtain ⟨k, hk, rfl, hz⟩ := hrel
    by_cases hkn : k < n
    · obtain ⟨hx, ad, rfl, hb, hc⟩ := h.at_ k (Dg.ld L k) (Dg.get_of_ld (by rw [HLEN.out]; exact hkn))
      obtain ⟨x, ex⟩ : ∃ x, x = Dg.ld L k := ⟨_, rfl⟩
      rw [← ex] at hx hc
      have EX := Lib.hid ex
      clear ex
      by_cases hx0 : x = 0
      · subst hx0
        go_wp2
        go_round
        case rel => exact ⟨k + 1, by omega, by go_num, Lib.hid fun t ht => by
          rcases Nat.lt_or_ge t k with h1 | h1
          · exact hz.out t h1
          · rw [show t = k by omega]; exact EX.out.symm⟩
        case measure => simp [intOf]; omega
      · have hxn : ((x : Int) != 0) = true := by simpa using hx0
        have HX0 := Lib.hid hx0
        clear hx0
        go_wp2
        go_ret
        exact ⟨false, rfl, Lib.hid ⟨fun h => (by cases h), fun h => absurd (EX.out.trans (val_zero_iff.1 h k)) HX0.out⟩, rfl⟩
    · go_wp2
      go_ret
      exact ⟨true, rfl, Lib.hid ⟨fun _ => val_zero_iff.2 fun t => by
        rcases Nat.lt_or_ge t k with h1 | h1
        · exact hz.out t h1
        · exact Dg.ld_ge (by rw [HLEN.out]; omega), fun _ => rfl⟩, rfl⟩
end Go.Proofs.YtipbpdiahemmpaaGreat

/- The reference's natural numbers, second part: the sum, the difference, times a word. -/
namespace Go.Proofs.YtipbpdiahemmpaaGreat
open Go.RowKit Go.IntWalk

theorem make_one (n : Nat) (hn : n ≤ 17592186044415) (w : World) :
    (Instr.makeSlice 26 (.int .i64 ((n : Int) + 1)) (.int .i64 ((n : Int) + 1))).run Tryz.prog w = .ok (.slice (some ⟨w.heap.size, 0, none⟩) (n + 1) (n + 1)) (w.alloc (.cells (madeCells #[.int .u32 0] (n + 1)) 35)) := make_nat (n + 1) (by omega) w

/-- One step of the sum. -/
theorem radd_step {O a b : List Nat} {k q s : Nat} (hk : k < O.length) (hI : Dg.vf (Dg.ld O) k + q * 4294967296 ^ k = Dg.vf (Dg.ld a) k + Dg.vf (Dg.ld b) k) (hs : s = Dg.ld a k + Dg.ld b k + q) :
    Dg.vf (Dg.ld (O.set k (s % 4294967296))) (k + 1) + s / 4294967296 * 4294967296 ^ (k + 1) = Dg.vf (Dg.ld a) (k + 1) + Dg.vf (Dg.ld b) (k + 1) := by
  rw [Dg.vf_succ, Dg.vf_succ, Dg.vf_succ, Dg.ld_set_same _ hk, Dg.vf_set _ (Nat.le_refl k), Nat.pow_succ]
  have h := Nat.div_add_mod s 4294967296
  have h3 : (4294967296 * (s / 4294967296) + s % 4294967296) * 4294967296 ^ k = (Dg.ld a k + Dg.ld b k + q) * 4294967296 ^ k := by rw [h, hs]
  generalize s / 4294967296 = x at *
  generalize s % 4294967296 = y at *
  generalize 4294967296 ^ k = B at *
  grind

set_option maxRecDepth 100000 in
set_option maxHeartbeats 2000000 in
theorem refAdd1_any {A A' : Option Addr} {n c n' c' : Nat} {L L' : List Nat} {w : World} (h : RdU w w.heap.size A n c L) (h' : RdU w w.heap.size A' n' c' L') (hn : n ≤ 8796093022207) (hn' : n' ≤ 8796093022207) :
    Calls Tryz.prog 257 #[.slice A n c, .slice A' n' c'] w (RetN (Dg.val L + Dg.val L') w) := by
  have HLEN := Lib.hid h.len
  have HLEN' := Lib.hid h'.len
  obtain ⟨m, hm⟩ : ∃ m, m = max n n' := ⟨_, rfl⟩
  have hmk := make_one m (by omega)
  have hB0 := (Below.refl w.heap.size w).alloc (Nat.le_refl _) (.cells (madeCells #[.int .u32 0] (m + 1)) 35)
  have hU0 := UB.made w (m + 1)
  have hmb : m ≤ 8796093022207 := by omega
  have HM := Lib.hid hm
  go_enter Tryz.func257, Tryz.ntmps257
  go_upto_if 15 with fail
  go_cut [5] from 7 (fun v wx => v = .int .i64 m ∧ wx = w)
  case first =>
    by_cases hlt : n < n'
    · have e : m = n' := by omega
      clear hm
      subst e
      go_wp2
      go_meet
      exact ⟨rfl, rfl⟩
    · have e : m = n := by omega
      clear hm
      subst e
      go_wp2
      go_meet
      exact ⟨rfl, rfl⟩
  case rest =>
    obtain ⟨rfl, rfl⟩ := hcut
    clear hm
    go_wp2_with fail
    generalize wc.alloc (.cells (madeCells #[.int .u32 0] (m + 1)) 35) = W1 at hB0 hU0 ⊢
    clear hmk
    obtain ⟨g, hg⟩ : ∃ g, g = wc.heap.size := ⟨_, rfl⟩
    rw [← hg] at hU0 ⊢
    have HG := Lib.hid hg
    clear hg
    go_wp2_with fail
    go_loopw [7, 23] (fun qv iv wr => ∃ (k q : Nat) (O : List Nat), iv = .int .i64 k ∧ qv = .int .u64 q ∧ k ≤ m + 1 ∧ q ≤ 1 ∧ UB wr g O ∧ Hid (O.length = m + 1 ∧ Dg.Wd O ∧ Dg.vf (Dg.ld O) k + q * 4294967296 ^ k = Dg.vf (Dg.ld L) k + Dg.vf (Dg.ld L') k) ∧ Below wc.heap.size wc wr) (fun _ iv _ => m + 1 - (intOf iv).toNat)
    case atStart => exact ⟨0, 0, _, rfl, rfl, Nat.zero_le _, by omega, hU0, Lib.hid ⟨by simp, Dg.Wd.zeros _, by simp [Dg.vf]⟩, hB0⟩
    case round =>
      clear hU0 hB0
      obtain ⟨k, q, O, rfl, rfl, hk, hq, hU, hO, hB⟩ := hrel
      by_cases hkm : k < m + 1
      · have hcell := hU.cell (Dg.get_of_ld (L := O) (i := k) (by rw [hO.out.1]; exact hkm))
        generalize Dg.ld O k = o0 at hcell
        have hfz := hU.frozen k
        go_wp2_with fail
        refine (limb_any (h.below hB) k rfl (by omega)).mono ?_
        rintro _ _ ⟨x, rfl, hx, rfl⟩
        go_wp2_with fail
        refine (limb_any (h'.below hB) k rfl (by omega)).mono ?_
        rintro _ _ ⟨y, rfl, hy, rfl⟩
        have hxl : x < 4294967296 := by rw [hx.out]; exact Dg.ld_word h.wd k
        have hyl : y < 4294967296 := by rw [hy.out]; exact Dg.ld_word h'.wd k
        obtain ⟨s, hs⟩ : ∃ s, s = x + y + q := ⟨_, rfl⟩
        have hst := radd_step (O := O) (by rw [hO.out.1]; exact hkm) hO.out.2.2 (s := s) (by rw [hs, hx.out, hy.out])
        have HST := Lib.hid hst
        have hU1 : UB (wr.setCell ⟨g, k, none⟩ (.int .u32 (((x : Int) + y + q) % 4294967296))) g (O.set k (s % 4294967296)) := by
          rw [show ((x : Int) + y + q) % 4294967296 = ((s % 4294967296 : Nat) : Int) by omega]; exact hU.set k _
        have hB1 := hB.setCell (p := ⟨g, k, none⟩) (by show wc.heap.size ≤ g; have := HG.out; omega) (.int .u32 (((x : Int) + y + q) % 4294967296))
        have HS := Lib.hid hs
        clear hs hst
        go_wp2
        go_roundw
        case rel => exact ⟨k + 1, s / 4294967296, _, by go_num, int_i (by have := HS.out; omega), by omega, by have := HS.out; omega, hU1, Lib.hid ⟨by rw [List.length_set]; exact hO.out.1, hO.out.2.1.set k (Nat.mod_lt _ (by omega)), HST.out⟩, hB1⟩
        case measure => simp [intOf]; omega
      · obtain rfl : k = m + 1 := by omega
        have hq0 : Dg.val O = Dg.val L + Dg.val L' := by
          have e := hO.out.2.2
          rw [Dg.vf_eq_val (by rw [hO.out.1]; exact Nat.le_refl _), Dg.vf_eq_val (L := L) (by rw [HLEN.out]; have := HM.out; omega), Dg.vf_eq_val (L := L') (by rw [HLEN'.out]; have := HM.out; omega)] at e
          have h1 : Dg.val L < 4294967296 ^ m := Nat.lt_of_lt_of_le (Dg.val_lt h.wd) (Nat.pow_le_pow_right (by omega) (by rw [HLEN.out]; have := HM.out; omega))
          have h2 : Dg.val L' < 4294967296 ^ m := Nat.lt_of_lt_of_le (Dg.val_lt h'.wd) (Nat.pow_le_pow_right (by omega) (by rw [HLEN'.out]; have := HM.out; omega))
          rw [Nat.pow_succ] at e
          generalize 4294967296 ^ m = B at *
          have hq2 : q = 0 ∨ q = 1 := by omega
          rcases hq2 with rfl | rfl <;> omega
        have HV := Lib.hid hq0
        clear hq0
        have hO3 := hU.rd hO.out.2.1 hU.lt (k := m + 1) (by rw [hO.out.1]; exact Nat.le_refl _) (by rw [hO.out.1]; unfold maxLen; omega)
        rw [hO.out.1, List.take_of_length_le (by rw [hO.out.1]; exact Nat.le_refl _)] at hO3
        go_wp2_with fail
        refine (refNorm_any hO3 (by omega)).mono ?_
        rintro _ W4 ⟨A4, m4, c4, x4, rfl, ho4, hx4, hb4⟩
        go_wp2
        go_ret
        exact ⟨_, _, _, _, rfl, ho4.base hB.size, Lib.hid (hx4.out.trans HV.out), hB.trans (hb4.mono hB.size)⟩
end Go.Proofs.YtipbpdiahemmpaaGreat

/- The reference's natural numbers, third part: the difference, times a word, the half. -/
namespace Go.Proofs.YtipbpdiahemmpaaGreat
open Go.RowKit Go.IntWalk

/-- One step of the difference. -/
theorem rsub_step {O a b : List Nat} {k q q' d : Nat} (hk : k < O.length) (hI : Dg.vf (Dg.ld O) k + Dg.vf (Dg.ld b) k = Dg.vf (Dg.ld a) k + q * 4294967296 ^ k) (hs : d + Dg.ld b k + q = Dg.ld a k + 4294967296 * q') :
    Dg.vf (Dg.ld (O.set k d)) (k + 1) + Dg.vf (Dg.ld b) (k + 1) = Dg.vf (Dg.ld a) (k + 1) + q' * 4294967296 ^ (k + 1) := by
  rw [Dg.vf_succ, Dg.vf_succ, Dg.vf_succ, Dg.ld_set_same _ hk, Dg.vf_set _ (Nat.le_refl k), Nat.pow_succ]
  have h3 : (d + Dg.ld b k + q) * 4294967296 ^ k = (Dg.ld a k + 4294967296 * q') * 4294967296 ^ k := by rw [hs]
  generalize 4294967296 ^ k = B at *
  grind
/-- One step of a product by a word. -/
theorem rsmall_step {O a : List Nat} {k q z s : Nat} (hk : k < O.length) (hI : Dg.vf (Dg.ld O) k + q * 4294967296 ^ k = Dg.vf (Dg.ld a) k * z) (hs : s = Dg.ld a k * z + q) :
    Dg.vf (Dg.ld (O.set k (s % 4294967296))) (k + 1) + s / 4294967296 * 4294967296 ^ (k + 1) = Dg.vf (Dg.ld a) (k + 1) * z := by
  rw [Dg.vf_succ, Dg.vf_succ, Dg.ld_set_same _ hk, Dg.vf_set _ (Nat.le_refl k), Nat.pow_succ]
  have h := Nat.div_add_mod s 4294967296
  have h3 : (4294967296 * (s / 4294967296) + s % 4294967296) * 4294967296 ^ k = (Dg.ld a k * z + q) * 4294967296 ^ k := by rw [h, hs]
  generalize s / 4294967296 = x at *
  generalize s % 4294967296 = y at *
  generalize 4294967296 ^ k = B at *
  grind

set_option maxRecDepth 100000 in
set_option maxHeartbeats 2000000 in
theorem refNSub_any {A A' : Option Addr} {n c n' c' : Nat} {L L' : List Nat} {w : World} (h : RdU w w.heap.size A n c L) (h' : RdU w w.heap.size A' n' c' L') (hn : n ≤ 8796093022207) (hle : Dg.val L' ≤ Dg.val L) :
    Calls Tryz.prog 259 #[.slice A n c, .slice A' n' c'] w (RetN (Dg.val L - Dg.val L') w) := by
  have HLEN := Lib.hid h.len
  have hmk := make_nat n (by omega)
  have hB0 := (Below.refl w.heap.size w).alloc (Nat.le_refl _) (.cells (madeCells #[.int .u32 0] (n)) 35)
  have hU0 := UB.made w (n)
  go_enter Tryz.func259, Tryz.ntmps259
  go_wp2_with fail
  generalize w.alloc (.cells (madeCells #[.int .u32 0] (n)) 35) = W1 at hB0 hU0 ⊢
  clear hmk
  obtain ⟨g, hg⟩ : ∃ g, g = w.heap.size := ⟨_, rfl⟩
  rw [← hg] at hU0 ⊢
  have HG := Lib.hid hg
  clear hg
  go_wp2_with fail
  go_loopw [6, 14] (fun qv iv wr => ∃ (k q : Nat) (O : List Nat), iv = .int .i64 k ∧ qv = .int .u64 q ∧ k ≤ n ∧ q ≤ 1 ∧ UB wr g O ∧ Hid (O.length = n ∧ Dg.Wd O ∧ Dg.vf (Dg.ld O) k + Dg.vf (Dg.ld L') k = Dg.vf (Dg.ld L) k + q * 4294967296 ^ k) ∧ Below w.heap.size w wr) (fun _ iv _ => n - (intOf iv).toNat)
  case atStart => exact ⟨0, 0, _, rfl, rfl, Nat.zero_le _, by omega, hU0, Lib.hid ⟨by simp, Dg.Wd.zeros _, by simp [Dg.vf]⟩, hB0⟩
  case round =>
    clear hU0 hB0
    obtain ⟨k, q, O, rfl, rfl, hk, hq, hU, hO, hB⟩ := hrel
    by_cases hkm : k < n
    · have hcell := hU.cell (Dg.get_of_ld (L := O) (i := k) (by rw [hO.out.1]; exact hkm))
      generalize Dg.ld O k = o0 at hcell
      have hfz := hU.frozen k
      go_wp2_with fail
      refine (limb_any (h.below hB) k rfl (by omega)).mono ?_
      rintro _ _ ⟨x, rfl, hx, rfl⟩
      go_wp2_with fail
      refine (limb_any (h'.below hB) k rfl (by omega)).mono ?_
      rintro _ _ ⟨y, rfl, hy, rfl⟩
      have hxl : x < 4294967296 := by rw [hx.out]; exact Dg.ld_word h.wd k
      have hyl : y < 4294967296 := by rw [hy.out]; exact Dg.ld_word h'.wd k
      obtain ⟨s, hs⟩ : ∃ s, s = 4294967296 + x - y - q := ⟨_, rfl⟩
      have HST := Lib.hid (rsub_step (O := O) (by rw [hO.out.1]; exact hkm) hO.out.2.2 (d := s % 4294967296) (q' := 1 - s / 4294967296) (by rw [← hx.out, ← hy.out]; omega))
      have hU1 : UB (wr.setCell ⟨g, k, none⟩ (.int .u32 ((4294967296 + (x : Int) - y - q) % 4294967296))) g (O.set k (s % 4294967296)) := by
        rw [show (4294967296 + (x : Int) - y - q) % 4294967296 = ((s % 4294967296 : Nat) : Int) by omega]; exact hU.set k _
      have hB1 := hB.setCell (p := ⟨g, k, none⟩) (by show w.heap.size ≤ g; have := HG.out; omega) (.int .u32 ((4294967296 + (x : Int) - y - q) % 4294967296))
      have HS := Lib.hid hs
      clear hs
      go_wp2
      go_roundw
      case rel => exact ⟨k + 1, 1 - s / 4294967296, _, by go_num, int_i (by have := HS.out; omega), by omega, by omega, hU1, Lib.hid ⟨by rw [List.length_set]; exact hO.out.1, hO.out.2.1.set k (Nat.mod_lt _ (by omega)), HST.out⟩, hB1⟩
      case measure => simp [intOf]; omega
    · obtain rfl : k = n := by omega
      have hq0 : Dg.val O = Dg.val L - Dg.val L' := by
        have e := hO.out.2.2
        have h1 : Dg.val L < 4294967296 ^ k := by have := Dg.val_lt h.wd; rwa [HLEN.out] at this
        have h2 : Dg.vf (Dg.ld L') k = Dg.val L' := by
          have e1 := Dg.vf_eq_val (L := L') (n := k + L'.length) (by omega)
          rw [← e1]
          exact (Dg.vf_cut (by omega) (fun x a b => Dg.zero_above (f := Dg.ld L') (M := k + L'.length) (by rw [e1]; omega) a b)).symm
        rw [h2, Dg.vf_eq_val (by rw [hO.out.1]; exact Nat.le_refl _), Dg.vf_eq_val (L := L) (by rw [HLEN.out]; exact Nat.le_refl _)] at e
        have h3 := Dg.val_lt hO.out.2.1
        rw [hO.out.1] at h3
        generalize 4294967296 ^ k = B at *
        have hq2 : q = 0 ∨ q = 1 := by omega
        rcases hq2 with rfl | rfl <;> omega
      have HV := Lib.hid hq0
      clear hq0
      have hO3 := hU.rd hO.out.2.1 hU.lt (k := k) (by rw [hO.out.1]; exact Nat.le_refl _) (by rw [hO.out.1]; unfold maxLen; omega)
      rw [hO.out.1, List.take_of_length_le (by rw [hO.out.1]; exact Nat.le_refl _)] at hO3
      go_wp2_with fail
      refine (refNorm_any hO3 (by omega)).mono ?_
      rintro _ W4 ⟨A4, m4, c4, x4, rfl, ho4, hx4, hb4⟩
      go_wp2
      go_ret
      exact ⟨_, _, _, _, rfl, ho4.base hB.size, Lib.hid (hx4.out.trans HV.out), hB.trans (hb4.mono hB.size)⟩

set_option maxRecDepth 100000 in
set_option maxHeartbeats 2000000 in
theorem refSmall_any (z : Nat) {A : Option Addr} {n c : Nat} {L : List Nat} {w : World} (h : RdU w w.heap.size A n c L) (hn : n ≤ 8796093022207) (hz : z < 4294967296) :
    Calls Tryz.prog 273 #[.slice A n c, .int .u32 z] w (RetN (Dg.val L * z) w) := by
  have HLEN := Lib.hid h.len
  have hmk := make_one n (by omega)
  have hB0 := (Below.refl w.heap.size w).alloc (Nat.le_refl _) (.cells (madeCells #[.int .u32 0] (n + 1)) 35)
  have hU0 := UB.made w (n + 1)
  go_enter Tryz.func273, Tryz.ntmps273
  go_wp2_with fail
  generalize w.alloc (.cells (madeCells #[.int .u32 0] (n + 1)) 35) = W1 at hB0 hU0 ⊢
  clear hmk
  obtain ⟨g, hg⟩ : ∃ g, g = w.heap.size := ⟨_, rfl⟩
  rw [← hg] at hU0 ⊢
  have HG := Lib.hid hg
  clear hg
  go_wp2_with fail
  go_loopw [6, 15] (fun qv iv wr => ∃ (k q : Nat) (O : List Nat), iv = .int .i64 k ∧ qv = .int .u64 q ∧ k ≤ n + 1 ∧ q < 4294967296 ∧ UB wr g O ∧ Hid (O.length = n + 1 ∧ Dg.Wd O ∧ Dg.vf (Dg.ld O) k + q * 4294967296 ^ k = Dg.vf (Dg.ld L) k * z) ∧ Below w.heap.size w wr) (fun _ iv _ => n + 1 - (intOf iv).toNat)
  case atStart => exact ⟨0, 0, _, rfl, rfl, Nat.zero_le _, by omega, hU0, Lib.hid ⟨by simp, Dg.Wd.zeros _, by simp [Dg.vf]⟩, hB0⟩
  case round =>
    clear hU0 hB0
    obtain ⟨k, q, O, rfl, rfl, hk, hq, hU, hO, hB⟩ := hrel
    by_cases hkm : k < n + 1
    · have hcell := hU.cell (Dg.get_of_ld (L := O) (i := k) (by rw [hO.out.1]; exact hkm))
      generalize Dg.ld O k = o0 at hcell
      have hfz := hU.frozen k
      go_wp2_with fail
      refine (limb_any (h.below hB) k rfl (by omega)).mono ?_
      rintro _ _ ⟨x, rfl, hx, rfl⟩
      have hxl : x < 4294967296 := by rw [hx.out]; exact Dg.ld_word h.wd k
      have hxz := Nat.mul_le_mul (show x ≤ 4294967295 by omega) (show z ≤ 4294967295 by omega)
      obtain ⟨pv, hpv⟩ : ∃ pv, pv = x * z := ⟨_, rfl⟩
      obtain ⟨s, hs⟩ : ∃ s, s = pv + q := ⟨_, rfl⟩
      rw [← hpv] at hxz
      have hmul : IntKind.u64.wrap ((x : Int) * z) = (pv : Int) := by
        rw [hpv, show (x : Int) * z = ((x * z : Nat) : Int) from (Int.natCast_mul x z).symm, ← hpv, u64_in _ (by omega)]
      have hadd : IntKind.u64.wrap ((pv : Int) + q) = (s : Int) := by rw [hs, u64_in _ (by omega)]; simp
      have HST := Lib.hid (rsmall_step (O := O) (z := z) (by rw [hO.out.1]; exact hkm) hO.out.2.2 (s := s) (by rw [hs, hpv, hx.out]))
      have hcl : s / 4294967296 < 4294967296 := by omega
      have hdm : (s : Int) % 4294967296 = ((s % 4294967296 : Nat) : Int) := by omega
      have hdd : (s : Int) / 4294967296 = ((s / 4294967296 : Nat) : Int) := by omega
      have hU1 : UB (wr.setCell ⟨g, k, none⟩ (.int .u32 ((s : Int) % 4294967296))) g (O.set k (s % 4294967296)) := by
        rw [hdm]; exact hU.set k _
      have hB1 := hB.setCell (p := ⟨g, k, none⟩) (by show w.heap.size ≤ g; have := HG.out; omega) (.int .u32 ((s : Int) % 4294967296))
      have HDD := Lib.hid hdd
      have HCL := Lib.hid hcl
      clear hs hpv hxz hdm hdd hcl
      go_wp2
      go_roundw
      case rel => exact ⟨k + 1, s / 4294967296, _, by go_num, int_i (by rw [HDD.out, u64_in _ (by have := HCL.out; omega)]), by omega, HCL.out, hU1, Lib.hid ⟨by rw [List.length_set]; exact hO.out.1, hO.out.2.1.set k (Nat.mod_lt _ (by omega)), HST.out⟩, hB1⟩
      case measure => simp [intOf]; omega
    · obtain rfl : k = n + 1 := by omega
      have hq0 : Dg.val O = Dg.val L * z := by
        have e := hO.out.2.2
        have h1 : Dg.val L < 4294967296 ^ n := by have := Dg.val_lt h.wd; rwa [HLEN.out] at this
        rw [Dg.vf_eq_val (by rw [hO.out.1]; exact Nat.le_refl _), Dg.vf_eq_val (L := L) (by rw [HLEN.out]; omega)] at e
        have h2 : Dg.val L * z < 4294967296 ^ (n + 1) := by
          rw [Nat.pow_succ]
          exact Nat.mul_lt_mul_of_lt_of_le h1 (Nat.le_of_lt hz) (by omega)
        generalize 4294967296 ^ (n + 1) = B at *
        have hq2 : q = 0 := by
          rcases Nat.eq_zero_or_pos q with h3 | h3
          · exact h3
          · have := Nat.mul_le_mul_right B h3
            omega
        rw [hq2] at e
        omega
      have HV := Lib.hid hq0
      clear hq0
      have hO3 := hU.rd hO.out.2.1 hU.lt (k := n + 1) (by rw [hO.out.1]; exact Nat.le_refl _) (by rw [hO.out.1]; unfold maxLen; omega)
      rw [hO.out.1, List.take_of_length_le (by rw [hO.out.1]; exact Nat.le_refl _)] at hO3
      go_wp2_with fail
      refine (refNorm_any hO3 (by omega)).mono ?_
      rintro _ W4 ⟨A4, m4, c4, x4, rfl, ho4, hx4, hb4⟩
      go_wp2
      go_ret
      exact ⟨_, _, _, _, rfl, ho4.base hB.size, Lib.hid (hx4.out.trans HV.out), hB.trans (hb4.mono hB.size)⟩
end Go.Proofs.YtipbpdiahemmpaaGreat

/- The reference's natural numbers, fourth part: which one is greater, the half. -/
namespace Go.Proofs.YtipbpdiahemmpaaGreat
open Go.RowKit Go.IntWalk

set_option maxRecDepth 100000 in
set_option maxHeartbeats 2000000 in
theorem refCmp_any {A A' : Option Addr} {n c n' c' : Nat} {L L' : List Nat} {w : World} (h : RdU w w.heap.size A n c L) (h' : RdU w w.heap.size A' n' c' L') (hn : n ≤ 8796093022207) (hn' : n' ≤ 8796093022207) :
    Calls Tryz.prog 258 #[.slice A n c, .slice A' n' c'] w (RetZ (Dg.cmp (Dg.val L) (Dg.val L')) w) := by
  have HLEN := Lib.hid h.len
  have HLEN' := Lib.hid h'.len
  obtain ⟨m, hm⟩ : ∃ m, m = max n n' := ⟨_, rfl⟩
  have hmb : m ≤ 8796093022207 := by omega
  have HM := Lib.hid hm
  go_enter Tryz.func258, Tryz.ntmps258
  go_upto_if 12 with fail
  go_cut [5] from 7 (fun v wx => v = .int .i64 m ∧ wx = w)
  case first =>
    by_cases hlt : n < n'
    · have e : m = n' := by omega
      clear hm
      subst e
      go_wp2
      go_meet
      exact ⟨rfl, rfl⟩
    · have e : m = n := by omega
      clear hm
      subst e
      go_wp2
      go_meet
      exact ⟨rfl, rfl⟩
  case rest =>
    obtain ⟨rfl, rfl⟩ := hcut
    clear hm
    go_wp2_with fail
    go_loop [6] (fun i => ∃ j : Nat, j ≤ m ∧ i = .int .i64 ((j : Int) - 1) ∧ Hid (∀ x, j ≤ x → Dg.ld L x = Dg.ld L' x)) (fun i => (intOf i + 1).toNat)
    case atStart => exact ⟨m, Nat.le_refl _, rfl, Lib.hid fun x hx => by rw [Dg.ld_ge (by rw [HLEN.out]; have := HM.out; omega), Dg.ld_ge (by rw [HLEN'.out]; have := HM.out; omega)]⟩
    case round =>
      obtain ⟨j, hj, rfl, hE⟩ := hrel
      rcases Nat.eq_zero_or_pos j with h0 | h0
      · subst h0
        go_wp2
        go_ret
        exact ⟨0, rfl, Lib.hid (Dg.cmp_eq (Dg.eq_of_ld fun x => hE.out x (Nat.zero_le _))).symm, rfl⟩
      · obtain ⟨t, rfl⟩ : ∃ t, j = t + 1 := ⟨j - 1, by omega⟩
        have HT : Hid (∀ x, t < x → Dg.ld L x = Dg.ld L' x) := Lib.hid fun x hx => hE.out x hx
        clear hE
        go_wp2_with fail
        refine (limb_any h t (by omega) (by omega)).mono ?_
        rintro _ _ ⟨x, rfl, hx, rfl⟩
        go_wp2_with fail
        refine (limb_any h' t (by omega) (by omega)).mono ?_
        rintro _ _ ⟨y, rfl, hy, rfl⟩
        rcases Nat.lt_trichotomy x y with hlt | heq | hgt
        · have HC := Lib.hid (Dg.cmp_lt (Dg.lt_of_top h.wd HT.out (show Dg.ld L t < Dg.ld L' t by rw [← hx.out, ← hy.out]; exact hlt)))
          go_wp2
          go_ret
          exact ⟨-1, rfl, Lib.hid HC.out.symm, rfl⟩
        · subst heq
          go_wp2_with fail
          refine (limb_any h t (by omega) (by omega)).mono ?_
          rintro _ _ ⟨x2, rfl, hx2, rfl⟩
          go_wp2_with fail
          refine (limb_any h' t (by omega) (by omega)).mono ?_
          rintro _ _ ⟨y2, rfl, hy2, rfl⟩
          have e2 : x2 = x := hx2.out.trans hx.out.symm
          have e3 : y2 = x := hy2.out.trans hy.out.symm
          subst e2 e3
          go_wp2
          go_round
          case rel => exact ⟨t, by omega, int_i (by omega), Lib.hid fun z hz => by
            rcases Nat.lt_or_ge t z with h1 | h1
            · exact HT.out z h1
            · rw [show z = t by omega, ← hx.out, ← hy.out]⟩
          case measure => simp [intOf]
        · have hnl : ¬ (x : Int) < (y : Int) := by omega
          have HC := Lib.hid (Dg.cmp_gt (Dg.lt_of_top h'.wd (fun x hx => (HT.out x hx).symm) (show Dg.ld L' t < Dg.ld L t by rw [← hx.out, ← hy.out]; exact hgt)))
          go_wp2_with fail
          refine (limb_any h t (by omega) (by omega)).mono ?_
          rintro _ _ ⟨x2, rfl, hx2, rfl⟩
          go_wp2_with fail
          refine (limb_any h' t (by omega) (by omega)).mono ?_
          rintro _ _ ⟨y2, rfl, hy2, rfl⟩
          have e2 : x2 = x := hx2.out.trans hx.out.symm
          have e3 : y2 = y := hy2.out.trans hy.out.symm
          subst e2 e3
          go_wp2
          go_ret
          exact ⟨1, rfl, Lib.hid HC.out.symm, rfl⟩
end Go.Proofs.YtipbpdiahemmpaaGreat

/- The reference's natural numbers, fifth part: the half. -/
namespace Go.Proofs.YtipbpdiahemmpaaGreat
open Go.RowKit Go.IntWalk

theorem half_dig (x y : Nat) (hx : x < 4294967296) : (x + 4294967296 * y) / 2 ^ 1 % 4294967296 = x / 2 + y % 2 * 2147483648 := by
  simp only [Nat.pow_one]
  omega
set_option maxRecDepth 100000 in
set_option maxHeartbeats 2000000 in
theorem half_any {A : Option Addr} {n c : Nat} {L : List Nat} {w : World} (h : RdU w w.heap.size A n c L) (hn : n ≤ 8796093022207) :
    Calls Tryz.prog 275 #[.slice A n c] w (RetN (Dg.val L / 2) w) := by
  have HLEN := Lib.hid h.len
  have hmk := make_nat n (by omega)
  have hB0 := (Below.refl w.heap.size w).alloc (Nat.le_refl _) (.cells (madeCells #[.int .u32 0] n) 35)
  have hU0 := UB.made w n
  go_enter Tryz.func275, Tryz.ntmps275
  go_wp2_with fail
  generalize w.alloc (.cells (madeCells #[.int .u32 0] n) 35) = W1 at hB0 hU0 ⊢
  clear hmk
  obtain ⟨g, hg⟩ : ∃ g, g = w.heap.size := ⟨_, rfl⟩
  rw [← hg] at hU0 ⊢
  have HG := Lib.hid hg
  clear hg
  go_wp2_with fail
  go_loopw [10] (fun iv wr => ∃ (k : Nat) (O : List Nat), iv = .int .i64 k ∧ k ≤ n ∧ UB wr g O ∧ Hid (O.length = n ∧ Dg.Wd O ∧ ∀ z, z < k → Dg.ld O z = Dg.val L / 2 ^ 1 / 4294967296 ^ z % 4294967296) ∧ Below w.heap.size w wr) (fun iv _ => n - (intOf iv).toNat)
  case atStart => exact ⟨0, _, rfl, Nat.zero_le _, hU0, Lib.hid ⟨by simp, Dg.Wd.zeros _, fun z hz => by omega⟩, hB0⟩
  case round =>
    clear hU0 hB0
    obtain ⟨k, O, rfl, hk, hU, hO, hB⟩ := hrel
    by_cases hkm : k < n
    · have hcell := hU.cell (Dg.get_of_ld (L := O) (i := k) (by rw [hO.out.1]; exact hkm))
      generalize Dg.ld O k = o0 at hcell
      have hfz := hU.frozen k
      go_wp2_with fail
      refine (limb_any (h.below hB) k rfl (by omega)).mono ?_
      rintro _ _ ⟨x, rfl, hx, rfl⟩
      go_wp2_with fail
      refine (limb_any (h.below hB) (k + 1) (by omega) (by omega)).mono ?_
      rintro _ _ ⟨y, rfl, hy, rfl⟩
      have hxl : x < 4294967296 := by rw [hx.out]; exact Dg.ld_word h.wd k
      have hyl : y < 4294967296 := by rw [hy.out]; exact Dg.ld_word h.wd _
      have hrd := Dg.right_dig h.wd (i := k) (s := 1) (by rw [HLEN.out]; exact hkm) (pow_dvd32 (by omega))
      rw [← hx.out, ← hy.out, half_dig x y hxl] at hrd
      obtain ⟨d, hd⟩ : ∃ d, d = x / 2 + y % 2 * 2147483648 := ⟨_, rfl⟩
      rw [← hd] at hrd
      have hdl : d < 4294967296 := by omega
      have hdI : (x : Int) / 2 + (y : Int) % 2 * 2147483648 = (d : Int) := by omega
      have hU1 : UB (wr.setCell ⟨g, k, none⟩ (.int .u32 ((x : Int) / 2 + (y : Int) % 2 * 2147483648))) g (O.set k d) := by
        rw [hdI]; exact hU.set k _
      have hB1 := hB.setCell (p := ⟨g, k, none⟩) (by show w.heap.size ≤ g; have := HG.out; omega) (.int .u32 ((x : Int) / 2 + (y : Int) % 2 * 2147483648))
      have HRD := Lib.hid hrd
      clear hd hrd hdI
      go_wp2
      go_roundw
      case rel => exact ⟨k + 1, _, by go_num, by omega, hU1, Lib.hid ⟨by rw [List.length_set]; exact hO.out.1, hO.out.2.1.set k hdl, fun z hz => by
        rcases Nat.lt_or_ge z k with h1 | h1
        · rw [Dg.ld_set_other d (by omega)]; exact hO.out.2.2 z h1
        · obtain rfl : z = k := by omega
          rw [Dg.ld_set_same d (by rw [hO.out.1]; omega)]; exact HRD.out⟩, hB1⟩
      case measure => simp [intOf]; omega
    · obtain rfl : k = n := by omega
      have HV := Lib.hid (Dg.right_val h.wd (s := 1) HLEN.out hO.out.1 hO.out.2.2)
      have hO3 := hU.rd hO.out.2.1 hU.lt (k := k) (by rw [hO.out.1]; exact Nat.le_refl _) (by rw [hO.out.1]; unfold maxLen; omega)
      rw [hO.out.1, List.take_of_length_le (by rw [hO.out.1]; exact Nat.le_refl _)] at hO3
      go_wp2_with fail
      refine (refNorm_any hO3 (by omega)).mono ?_
      rintro _ W4 ⟨A4, m4, c4, x4, rfl, ho4, hx4, hb4⟩
      go_wp2
      go_ret
      exact ⟨_, _, _, _, rfl, ho4.base hB.size, Lib.hid (hx4.out.trans (by rw [HV.out, Nat.pow_one])), hB.trans (hb4.mono hB.size)⟩
end Go.Proofs.YtipbpdiahemmpaaGreat

/- The reference's natural numbers, sixth part: times 2^32 and a word; the product. -/
namespace Go.Proofs.YtipbpdiahemmpaaGreat
open Go.RowKit Go.IntWalk

/-- nil is nil. -/
def NilOk (A : Option Addr) (n c : Nat) : Prop := A = none → n = 0 ∧ c = 0
theorem OwU.nilOk {w : World} {b : Nat} {A : Option Addr} {n c : Nat} {L : List Nat} (h : OwU w b A n c L) : NilOk A n c := fun e => by
  rcases h.form with ⟨_, h1, h2, _⟩ | ⟨g, h1, _⟩
  · exact ⟨h1, h2⟩
  · rw [h1] at e; cases e
theorem one_own {w : World} {z : Nat} (hz : z < 4294967296) : OwU (w.alloc (.cells #[.int .u32 z] 35)) w.heap.size (some ⟨w.heap.size, 0, none⟩) 1 1 [z] := by
  have hU : UB (w.alloc (.cells #[.int .u32 z] 35)) w.heap.size [z] := UB.new w [z]
  exact hU.own (k := 1) (fun x hx => by simp at hx; omega) (Nat.le_refl _) (Nat.le_refl _) (by unfold maxLen; simp)

theorem row_sl {W : World} {base : Nat} {T : TypeId} {size : Nat} {v : Value} {n : Nat} {xs : List Value} (h : W.ownsRow base T size v n xs) : ∃ a c, v = .slice a n c := by
  rcases h.2 with ⟨rfl, h0⟩ | ⟨g, cap, _, rfl, _⟩
  · exact ⟨none, 0, by rw [h0]⟩
  · exact ⟨_, _, rfl⟩

set_option maxRecDepth 100000 in
set_option maxHeartbeats 2000000 in
theorem shift_any (z : Nat) {A : Option Addr} {n c : Nat} {L : List Nat} {w : World} (h : RdU w w.heap.size A n c L) (hnil : NilOk A n c) (hn : n ≤ 8796093022207) (hz : z < 4294967296) :
    Calls Tryz.prog 272 #[.slice A n c, .int .u32 z] w (RetN (z + 4294967296 * Dg.val L) w) := by
  have HLEN := Lib.hid h.len
  obtain ⟨i0, hi, hz0, hz1, hz2⟩ := info_parts infoW
  have hO := one_own (w := w) hz
  have hB0 := (Below.refl w.heap.size w).alloc (Nat.le_refl _) (.cells #[.int .u32 z] 35)
  have hR := h.next hB0
  rcases A with _ | ad
  · obtain ⟨rfl, rfl⟩ := hnil rfl
    have hL : L = [] := List.eq_nil_of_length_eq_zero HLEN.out
    subst hL
    have hO2 := hO.rd
    go_enter Tryz.func272, Tryz.ntmps272
    go_wp2_with (at_builtin; refine wpList_append_own_none rfl _ _ 26 rfl w.heap.size 35 i0 1 Tryz.underlying26 hi _ _ _ rfl hO.own rfl ?_)
    refine (refNorm_any hO2 (by omega)).mono ?_
    rintro _ W4 ⟨A4, m4, c4, x4, rfl, ho4, hx4, hb4⟩
    go_wp2
    go_ret
    exact ⟨_, _, _, _, rfl, ho4.base hB0.size, Lib.hid (hx4.out.trans (by simp [Dg.val])), hB0.trans (hb4.mono hB0.size)⟩
  · have hsrc : ∀ (j : Nat) v, (uc L)[j]? = some v → (w.alloc (.cells #[.int .u32 z] 35)).cell? (ad.add j) = some v := by
      intro j v hv
      have hlt : 0 < (uc L).length := by
        rcases Nat.lt_or_ge j (uc L).length with h1 | h1
        · omega
        · rw [List.getElem?_eq_none h1] at hv; cases hv
      obtain ⟨_, ad', e, hc⟩ := hR.src ad hlt
      injection e with e
      subst e
      exact hc j v hv
    have HSRC := Lib.hid hsrc
    have hucl : (uc L).length = n * 1 := by rw [uc_len, HLEN.out, Nat.mul_one]
    have HUCL := Lib.hid hucl
    have hwd := h.wd
    clear hsrc hucl
    go_enter Tryz.func272, Tryz.ntmps272
    go_wp2_with (at_builtin; refine wpList_append_own _ rfl _ _ 26 rfl w.heap.size 35 i0 (.int .u32 0) 1 4 Tryz.underlying26 hi hz0 hz1 hz2 rfl (by decide) _ _ _ rfl hO.own ad n c (uc L) rfl HUCL.out HSRC.out (uc_one L) (by unfold maxLen; omega) (by omega) (by simp) ?_; intro v' w1 hown' hgrow _; obtain ⟨A', c', rfl⟩ := row_sl hown')
    have hB1 := hB0.grown hgrow (by simp) (fun k e => by cases e; exact Nat.le_refl _)
    have hO2 : OwU w1 w.heap.size A' (1 + n) c' (z :: L) := ⟨by rw [show uc (z :: L) = uc [z] ++ uc L from rfl]; exact hown', Dg.Wd.cons hz hwd⟩
    refine (refNorm_any hO2.rd (by omega)).mono ?_
    rintro _ W4 ⟨A4, m4, c4, x4, rfl, ho4, hx4, hb4⟩
    go_wp2
    go_ret
    exact ⟨_, _, _, _, rfl, ho4.base hB1.size, Lib.hid hx4.out, hB1.trans (hb4.mono hB1.size)⟩
end Go.Proofs.YtipbpdiahemmpaaGreat
