/- The reference's natural numbers, first part: a limb, the normal form, of a number, which one is greater, the sum. -/
import Derived.Test.YtjnklbfhelbjgaaGreatSn01
import Derived.Deep.CutRange
import Derived.Test.YtjnklbfhelbjgaaGreatSn02
import Derived.Laws.AppendOwnNone
import Derived.Deep.RegionWith
import Derived.Test.YtjnklbfhelbjgaaGreatSn04
import Derived.Deep.LoopGhost
import Derived.Test.YtjnklbfhelbjgaaGreatSn00
import Derived.Deep.RegionHeld3
import Derived.Deep.DrawnRows
namespace Go.Proofs.YtjnklbfhelbjgaaGreat
open Go.RowKit Go.IntWalk
set_option maxHeartbeats 400000 in
theorem limb_any {B : Nat} {A : Option Addr} {n c : Nat} {L : List Nat} {w : World} (h : RdU w B A n c L) (k : Nat) {ki : Int} (hk : ki = k) (hkl : k ≤ 17592186044416) :
  Calls Tryz.prog 237 #[.slice A n c, .int .i64 ki] w fun e w' => ∃ x : Nat, e = .returned (.int .u64 x) ∧ Hid (x = Dg.ld L k) ∧ w = w' := by
 subst hk
 have HLEN := Lib.hid h.len
 by_cases hkn : k < n
 ·obtain ⟨hx, ad, rfl, hb, hc⟩ := h.at_ k (Dg.ld L k) (Dg.get_of_ld (by rw [HLEN.out]; exact hkn))
  generalize hgx : Dg.ld L k = x at hx hc
  clear hgx
  go_enter Tryz.func237, Tryz.ntmps237
  go_wp2
  go_ret
  exact ⟨x, rfl, Lib.hid rfl, rfl⟩
 ·have hz : Dg.ld L k = 0 := Dg.ld_ge (by rw [HLEN.out]; omega)
  have HZ := Lib.hid hz
  clear hz
  go_enter Tryz.func237, Tryz.ntmps237
  go_wp2
  go_ret
  exact ⟨0, rfl, Lib.hid HZ.out.symm, rfl⟩
theorem take_set_succ {L O : List Nat} {t x : Nat} (hO : t < O.length) (hL : t < L.length) (h : O.take t = L.take t) (hx : x = Dg.ld L t) : (O.set t x).take (t + 1) = L.take (t + 1) := by
 rw [List.take_succ_eq_append_getElem (by simpa using hO), List.take_succ_eq_append_getElem hL, List.take_set_of_le (Nat.le_refl t), h, hx, Dg.ld_lt hL]
 simp
set_option maxRecDepth 100000 in
set_option maxHeartbeats 2000000 in
theorem refNorm_any {A : Option Addr} {n c : Nat} {L : List Nat} {w : World} (h : RdU w w.heap.size A n c L) (hn : n ≤ 17592186044416) :
  Calls Tryz.prog 197 #[.slice A n c] w (RetN (Dg.val L) w) := by
 have hw := h.wd
 have hlen := Lib.hid h.len
 go_enter Tryz.func197, Tryz.ntmps197
 go_wp2
 go_loop [3] (fun a => ∃ k : Nat, k ≤ n ∧ a = .int .i64 k ∧ Hid (∀ i, k ≤ i → Dg.ld L i = 0)) (fun a => (intOf a).toNat)
 case atStart => exact ⟨n, Nat.le_refl _, rfl, Lib.hid fun i hi => Dg.ld_ge (by rw [hlen.out]; exact hi)⟩
 case round =>
  obtain ⟨k, hk, rfl, h0⟩ := hrel
  have hgo : (k = 0 ∨ Dg.ld L (k - 1) ≠ 0) ∨ ∃ j, k = j + 1 ∧ Dg.ld L j = 0 := by
   rcases Nat.eq_zero_or_pos k with h1 | h1
   ·exact .inl (.inl h1)
   ·by_cases h2 : Dg.ld L (k - 1) = 0
    ·exact .inr ⟨k - 1, by omega, h2⟩
    ·exact .inl (.inr h2)
  rcases hgo with hstop | ⟨j, rfl, hz⟩
  ·have hd := tr_done hw (by rw [hlen.out]; exact hk) h0.out hstop
   have HD := Lib.hid hd
   have HS := Lib.hid hstop
   clear hd
   have hmk := make_nat k (by omega)
   have hB0 := (Below.refl w.heap.size w).alloc (Nat.le_refl _) (.cells (madeCells #[.int .u32 0] k) 171)
   have hU0 := UB.made w k
   rcases Nat.eq_zero_or_pos k with hk0 | hk0
   ·have hkI : ¬ (0 : Int) < (k : Int) := by omega
    clear hstop hk0
    go_wp2_with fail
    have hB0 := hB0
    generalize w.alloc (.cells (madeCells #[.int .u32 0] k) 171) = W1 at hB0 hU0 ⊢
    clear hmk
    obtain ⟨g, hg⟩ : ∃ g, g = w.heap.size := ⟨_, rfl⟩
    rw [← hg] at hU0 ⊢
    have HG := Lib.hid hg
    clear hg
    go_wp2_with fail
    go_loopw [5] (fun i wr => ∃ (t : Nat) (O : List Nat), i = .int .i64 t ∧ t ≤ k ∧ UB wr g O ∧ Hid (O.length = k ∧ Dg.Wd O ∧ O.take t = L.take t) ∧ Below w.heap.size w wr) (fun i _ => k - (intOf i).toNat)
    case atStart => exact ⟨0, _, rfl, Nat.zero_le _, hU0, Lib.hid ⟨by simp, Dg.Wd.zeros _, by simp⟩, hB0⟩
    case round =>
     clear hU0 hB0
     obtain ⟨t, O, rfl, ht, hU, hO, hB⟩ := hrel
     by_cases htk : t < k
     ·exact absurd htk (by omega)
     ·obtain rfl : t = k := by omega
      go_wp2
      go_ret
      have hO1 := hU.own hO.out.2.1 (b := w.heap.size) (by have := HG.out; omega) (k := t) (by rw [hO.out.1]; exact Nat.le_refl _) (by rw [hO.out.1]; unfold maxLen; omega)
      rw [hO.out.1, hO.out.2.2, HD.out.2] at hO1
      exact ⟨_, _, _, _, rfl, hO1, Lib.hid rfl, hB⟩
   ·obtain ⟨j, hj⟩ : ∃ j, j = k - 1 := ⟨_, rfl⟩
    obtain ⟨hx, ad, rfl, hb, hc⟩ := h.at_ j (Dg.ld L j) (Dg.get_of_ld (by rw [hlen.out]; omega))
    have hne : Dg.ld L j ≠ 0 := by
     rcases hstop with h1 | h1
     ·omega
     ·rw [hj]; exact h1
    have hz' : ((Dg.ld L j : Int) == 0) = false := by simpa using hne
    have hidx : (k : Int) - 1 = (j : Int) := by omega
    have hjn : (j : Int) < n := by omega
    clear hstop hne hj
    generalize Dg.ld L j = x at hx hc hz'
    go_wp2_with fail
    clear hx hb hc hz' hidx hjn
    have hB0 := hB0
    generalize w.alloc (.cells (madeCells #[.int .u32 0] k) 171) = W1 at hB0 hU0 ⊢
    clear hmk
    obtain ⟨g, hg⟩ : ∃ g, g = w.heap.size := ⟨_, rfl⟩
    rw [← hg] at hU0 ⊢
    have HG := Lib.hid hg
    clear hg
    go_wp2_with fail
    go_loopw [5] (fun i wr => ∃ (t : Nat) (O : List Nat), i = .int .i64 t ∧ t ≤ k ∧ UB wr g O ∧ Hid (O.length = k ∧ Dg.Wd O ∧ O.take t = L.take t) ∧ Below w.heap.size w wr) (fun i _ => k - (intOf i).toNat)
    case atStart => exact ⟨0, _, rfl, Nat.zero_le _, hU0, Lib.hid ⟨by simp, Dg.Wd.zeros _, by simp⟩, hB0⟩
    case round =>
     clear hU0 hB0
     obtain ⟨t, O, rfl, ht, hU, hO, hB⟩ := hrel
     by_cases htk : t < k
     ·obtain ⟨hx, ad', e1, hb, hc⟩ := h.at_ t (Dg.ld L t) (Dg.get_of_ld (by rw [hlen.out]; omega))
      injection e1 with e1
      subst e1
      have hc := (hB.cell (p := ad.add t) (by rw [add_blk]; exact hb)).trans hc
      obtain ⟨x, ex⟩ : ∃ x, x = Dg.ld L t := ⟨_, rfl⟩
      rw [← ex] at hx hc
      have EX := Lib.hid ex
      clear ex
      have hcell := hU.cell (Dg.get_of_ld (L := O) (i := t) (by rw [hO.out.1]; exact htk))
      generalize Dg.ld O t = o0 at hcell
      have hfz := hU.frozen t
      have hU1 := hU.set t x
      have hB1 := hB.setCell (p := ⟨g, t, none⟩) (by show w.heap.size ≤ g; have := HG.out; omega) (.int .u32 x)
      have htn : (t : Int) < n := by omega
      go_wp2
      go_roundw
      case rel => exact ⟨t + 1, _, by go_num, htk, hU1, Lib.hid ⟨by rw [List.length_set]; exact hO.out.1, hO.out.2.1.set t hx, take_set_succ (by rw [hO.out.1]; exact htk) (by rw [hlen.out]; omega) hO.out.2.2 EX.out⟩, hB1⟩
      case measure => simp [intOf]; omega
     ·obtain rfl : t = k := by omega
      go_wp2
      go_ret
      have hO1 := hU.own hO.out.2.1 (b := w.heap.size) (by have := HG.out; omega) (k := t) (by rw [hO.out.1]; exact Nat.le_refl _) (by rw [hO.out.1]; unfold maxLen; omega)
      rw [hO.out.1, hO.out.2.2, HD.out.2] at hO1
      exact ⟨_, _, _, _, rfl, hO1, Lib.hid rfl, hB⟩
  ·have hi := hk
   obtain ⟨hx, ad, rfl, hb, hc⟩ := h.at_ j (Dg.ld L j) (Dg.get_of_ld (by rw [hlen.out]; omega))
   have hc0 : w.cell? (ad.add j) = some (.int .u32 0) := by rw [hc, hz]; rfl
   have HZ := Lib.hid hz
   clear hz hc
   go_wp2
   go_round
   case rel => exact ⟨j, by omega, rfl, Lib.hid fun i hi => by
    rcases Nat.lt_or_ge j i with h1 | h1
    ·exact h0.out i h1
    ·rw [show i = j by omega]; exact HZ.out⟩
   case measure => simp [intOf]
set_option maxHeartbeats 400000 in
theorem refOf_any (n : Nat) {ni : Int} (hni : ni = n) (hn : n < 18446744073709551616) (w : World) :
  Calls Tryz.prog 155 #[.int .u64 ni] w (RetN n w) := by
 subst hni
 have h1 : n % 4294967296 < 4294967296 := Nat.mod_lt _ (by omega)
 have h2 : n / 4294967296 < 4294967296 := by omega
 go_enter Tryz.func155, Tryz.ntmps155
 go_wp2_with fail
 refine (refNorm_any (cells_two h1 h2 _ (by simp)) (by omega)).mono ?_
 rintro _ w1 ⟨A1, m1, c1, x1, rfl, hO, hx, hb⟩
 have hB := (Below.refl w.heap.size w).alloc (Nat.le_refl _) (.cells #[.int .u32 ((n : Int) % 4294967296), .int .u32 ((n : Int) / 4294967296)] 171)
 have HX := Lib.hid (hx.out.trans (Dg.val_two n))
 go_wp2
 go_ret
 exact ⟨_, _, _, _, rfl, hO.base hB.size, HX, hB.trans (hb.mono hB.size)⟩
end Go.Proofs.YtjnklbfhelbjgaaGreat

/- The reference's natural numbers, second part: the sum, the difference, times a word. -/
namespace Go.Proofs.YtjnklbfhelbjgaaGreat
open Go.RowKit Go.IntWalk
end Go.Proofs.YtjnklbfhelbjgaaGreat

/- The reference's natural numbers, third part: the difference, times a word, the half. -/
namespace Go.Proofs.YtjnklbfhelbjgaaGreat
open Go.RowKit Go.IntWalk
end Go.Proofs.YtjnklbfhelbjgaaGreat

/- The reference's natural numbers, fourth part: which one is greater, the half. -/
namespace Go.Proofs.YtjnklbfhelbjgaaGreat
open Go.RowKit Go.IntWalk
end Go.Proofs.YtjnklbfhelbjgaaGreat

/- The reference's natural numbers, fifth part: the half. -/
namespace Go.Proofs.YtjnklbfhelbjgaaGreat
open Go.RowKit Go.IntWalk
end Go.Proofs.YtjnklbfhelbjgaaGreat

/- The reference's natural numbers, sixth part: times 2^32 and a word; the product. -/
namespace Go.Proofs.YtjnklbfhelbjgaaGreat
open Go.RowKit Go.IntWalk
theorem row_sl {W : World} {base : Nat} {T : TypeId} {size : Nat} {v : Value} {n : Nat} {xs : List Value} (h : W.ownsRow base T size v n xs) : ∃ a c, v = .slice a n c := by
 rcases h.2 with ⟨rfl, h0⟩ | ⟨g, cap, _, rfl, _⟩
 ·exact ⟨none, 0, by rw [h0]⟩
 ·exact ⟨_, _, rfl⟩
end Go.Proofs.YtjnklbfhelbjgaaGreat

/- The reference's natural numbers, seventh part: the product. -/
namespace Go.Proofs.YtjnklbfhelbjgaaGreat
open Go.RowKit Go.IntWalk
theorem OwU.short {W : World} {b m c x k : Nat} {A : Option Addr} (h : OwU W b A m c (Dg.dg x)) (hx : x < 4294967296 ^ k) : m ≤ k := by
 rw [← h.len]; exact Dg.dg_len_lt.2 hx
theorem add_base (g t : Nat) : (⟨g, 0, none⟩ : Addr).add t = ⟨g, t, none⟩ := by
 unfold Addr.add
 split
 ·subst_vars; rfl
 ·simp
end Go.Proofs.YtjnklbfhelbjgaaGreat

/- nat: the quotient and the rest; the greatest common divisor. -/
namespace Go.Proofs.YtjnklbfhelbjgaaGreat
open Go.RowKit Go.IntWalk
def RetNE (q r : Nat) (w : World) (e : Ending) (w' : World) : Prop :=
 ∃ (A A' : Option Addr) (m c m' c' x y : Nat), e = .returned (.tuple #[.slice A m c, .slice A' m' c', .int .i64 0]) ∧ OwU w' w.heap.size A m c (Dg.dg x) ∧ OwU w' w.heap.size A' m' c' (Dg.dg y) ∧ Hid (x = q ∧ y = r) ∧ Below w.heap.size w w'
theorem drewN_below (w : World) (d : Nat) : Below w.heap.size w (w.drewN d) := by
 have h := Below.refl w.heap.size w
 exact ⟨h.os, h.tape, h.output, h.size, h.block⟩
theorem dg_len_mono {x y : Nat} (h : x ≤ y) : (Dg.dg x).length ≤ (Dg.dg y).length := Dg.dg_len_lt.2 (Nat.lt_of_le_of_lt h (Dg.dg_len_lt.1 (Nat.le_refl _)))
set_option maxRecDepth 100000 in
set_option maxHeartbeats 2000000 in
theorem nDiv_any {A A' : Option Addr} {n c n' c' : Nat} {L L' : List Nat} {w : World} (h : RdU w w.heap.size A n c L) (h' : RdU w w.heap.size A' n' c' L') (hn : n ≤ 1000000000000) (hn' : n' ≤ 1000000000000) (hp : 0 < Dg.val L') :
  Calls Tryz.prog 223 #[.slice A n c, .slice A' n' c'] w (RetNE (Dg.val L / Dg.val L') (Dg.val L % Dg.val L') w) := by
 have hlen := Lib.hid h.len
 have hlen' := Lib.hid h'.len
 have HP := Lib.hid hp
 clear hp
 go_enter Tryz.func223, Tryz.ntmps223
 go_wp2_with fail
 refine (trim_any h (by omega)).mono ?_
 rintro _ _ ⟨k, rfl, hk, rfl⟩
 go_wp2_with fail
 refine (trim_any h' (by omega)).mono ?_
 rintro _ _ ⟨k', rfl, hk', rfl⟩
 have hkn : k ≤ n := by have := hk.out.1; rw [hlen.out] at this; exact this
 have hkn' : k' ≤ n' := by have := hk'.out.1; rw [hlen'.out] at this; exact this
 have hR := h.take hkn
 have hR' := h'.take hkn'
 have HV := Lib.hid (show Dg.val (L.take k) = Dg.val L ∧ Dg.val (L'.take k') = Dg.val L' from ⟨by rw [hk.out.2, Dg.val_dg], by rw [hk'.out.2, Dg.val_dg]⟩)
 have HN := Lib.hid (show L.take k = Dg.dg (Dg.val (L.take k)) ∧ L'.take k' = Dg.dg (Dg.val (L'.take k')) from ⟨by rw [HV.out.1]; exact hk.out.2, by rw [HV.out.2]; exact hk'.out.2⟩)
 clear hk hk' h h' hlen hlen'
 generalize L.take k = M at *
 generalize L'.take k' = M' at *
 have HL := Lib.hid (And.intro hR.len hR'.len)
 have hk0 : 0 < k' := by
  rcases Nat.eq_zero_or_pos k' with e | e
  ·exfalso
   have e1 := HL.out.2
   rw [e, List.length_eq_zero_iff] at e1
   have e2 := HP.out
   rw [← HV.out.2, e1] at e2
   exact absurd e2 (by decide)
  ·exact e
 have hq0 : ((k' : Int) == 0) = false := by simp; omega
 go_wp2_with fail
 refine (cmp_any hR hR' (by omega) (by omega)).mono ?_
 rintro _ _ ⟨z, rfl, hz, d, rfl⟩
 have hBd := drewN_below w d
 rcases Nat.lt_or_ge (Dg.val M) (Dg.val M') with hlt | hge
 ·have e := hz.out.trans (Dg.cmp_lt hlt)
  have HLT := Lib.hid hlt
  clear hlt hz
  subst e
  go_wp2_with fail
  refine (own_any (hR.drewN d) (by omega)).mono ?_
  rintro _ W4 ⟨A4, m4, c4, x4, rfl, ho4, hx4, hb4⟩
  go_wp2
  go_ret3
  exact ⟨_, _, _, _, _, _, 0, x4, rfl, by rw [Dg.dg_zero]; exact OwU.nil _ _, ho4, Lib.hid ⟨by rw [← HV.out.1, ← HV.out.2, Nat.div_eq_of_lt HLT.out], by rw [hx4.out, ← HV.out.1, ← HV.out.2, Nat.mod_eq_of_lt HLT.out]⟩, hBd.trans hb4⟩
 ·have HGE := Lib.hid hge
  have hz0 : 0 ≤ z := by
   rw [hz.out]
   rcases Nat.lt_or_eq_of_le hge with h1 | h1
   ·rw [Dg.cmp_gt h1]; decide
   ·rw [Dg.cmp_eq h1.symm]; decide
  have hzi : decide (z < 0) = false := by simp; omega
  have hkk : k' ≤ k := by
   have e := dg_len_mono hge
   rwa [← HN.out.1, ← HN.out.2, HL.out.1, HL.out.2] at e
  clear hge hz
  by_cases h1 : k' = 1
  ·subst h1
   obtain ⟨hx, ad, rfl, hb, hc⟩ := (hR'.drewN d).at_ 0 (Dg.ld M' 0) (Dg.get_of_ld (by rw [HL.out.2]; decide))
   have HX := Lib.hid (show Dg.ld M' 0 = Dg.val M' by
    have e := HL.out.2
    match M', e with
    | [x], _ => simp [Dg.ld, Dg.val])
   have hx0 : 0 < Dg.ld M' 0 := by rw [HX.out, HV.out.2]; exact HP.out
   generalize Dg.ld M' 0 = x at *
   have hc0 : (w.drewN d).cell? ad = some (.int .u32 x) := by simpa [Addr.add] using hc
   clear hc hq0
   go_wp2_with fail
   refine (short_any x (hR.drewN d) (by omega) hx0 hx).mono ?_
   rintro _ W4 ⟨A4, m4, c4, x4, r4, rfl, ho4, hx4, hb4⟩
   have hr4 : r4 < 4294967296 := by rw [hx4.out.2]; exact Nat.lt_trans (Nat.mod_lt _ hx0) hx
   have hr4i : (r4 : Int) < 4294967296 := by omega
   go_wp2_with fail
   refine (nOf_any r4 (by simp) (by omega) W4).mono ?_
   rintro _ W5 ⟨A5, m5, c5, x5, rfl, ho5, hx5, hb5⟩
   go_wp2
   go_ret3
   exact ⟨_, _, _, _, _, _, x4, x5, rfl, ho4.next hb5, ho5.base hb4.size, Lib.hid ⟨by rw [hx4.out.1, HV.out.1, HX.out, HV.out.2], by rw [hx5.out, hx4.out.2, HV.out.1, HX.out, HV.out.2]⟩, hBd.trans (hb4.trans (hb5.mono hb4.size))⟩
  ·obtain ⟨p, rfl⟩ : ∃ p, k' = p + 2 := ⟨k' - 2, by omega⟩
   obtain ⟨dd, rfl⟩ : ∃ dd, k = p + 2 + dd := ⟨k - (p + 2), by omega⟩
   have hq1 : (((p + 2 : Nat) : Int) == 1) = false := by simp; omega
   go_wp2_with fail
   refine (long_any p dd (hR.drewN d) (hR'.drewN d) (by omega) HN.out.1 HN.out.2).mono ?_
   rintro _ W4 ⟨A4, A5, m4, c4, m5, c5, x4, x5, rfl, ho4, ho5, hx4, hb4⟩
   go_wp2
   go_ret3
   exact ⟨_, _, _, _, _, _, x4, x5, rfl, ho4, ho5, Lib.hid (by rw [hx4.out.1, hx4.out.2, HV.out.1, HV.out.2]; exact ⟨rfl, rfl⟩), hBd.trans hb4⟩
set_option maxRecDepth 100000 in
set_option maxHeartbeats 2000000 in
theorem nGcd_any {A A' : Option Addr} {n c n' c' : Nat} {L L' : List Nat} {w : World} (h : RdU w w.heap.size A n c L) (h' : RdU w w.heap.size A' n' c' L') (hn : n ≤ 1000000000000) (hn' : n' ≤ 1000000000000) :
  Calls Tryz.prog 222 #[.slice A n c, .slice A' n' c'] w (RetN (Nat.gcd (Dg.val L) (Dg.val L')) w) := by
 have HLEN := Lib.hid h.len
 have HLEN' := Lib.hid h'.len
 go_enter Tryz.func222, Tryz.ntmps222
 go_wp2_with fail
 refine (own_any h (by omega)).mono ?_
 rintro _ W1 ⟨A1, m1, c1, x1, rfl, ho1, hx1, hb1⟩
 go_wp2_with fail
 refine (own_any (h'.next hb1) (by omega)).mono ?_
 rintro _ W2 ⟨A2, m2, c2, x2, rfl, ho2, hx2, hb2⟩
 obtain ⟨N, hN⟩ : ∃ N, N = max n n' := ⟨_, rfl⟩
 have hm1 : m1 ≤ N := Nat.le_trans (ho1.short (k := n) (by rw [hx1.out, ← HLEN.out]; exact Dg.val_lt h.wd)) (by omega)
 have hm2 : m2 ≤ N := Nat.le_trans (ho2.short (k := n') (by rw [hx2.out, ← HLEN'.out]; exact Dg.val_lt h'.wd)) (by omega)
 have hN' : N ≤ 1000000000000 := by omega
 have hB := hb1.trans (hb2.mono hb1.size)
 have hA1 := (ho1.next hb2)
 have hA2 := ho2.base hb1.size
 have HX := Lib.hid (show Nat.gcd x1 x2 = Nat.gcd (Dg.val L) (Dg.val L') by rw [hx1.out, hx2.out])
 clear ho1 ho2 hb1 hb2 hx1 hx2 h h' HLEN HLEN' hN hn hn'
 go_wp2_with fail
 go_loopg [0, 1] x2 (fun gg av bv wr => ∃ (A A' : Option Addr) (m c x m' c' y : Nat), av = .slice A m c ∧ bv = .slice A' m' c' ∧ y ≤ gg ∧ OwU wr w.heap.size A m c (Dg.dg x) ∧ OwU wr w.heap.size A' m' c' (Dg.dg y) ∧ m ≤ N ∧ m' ≤ N ∧ Hid (Nat.gcd x y = Nat.gcd x1 x2) ∧ Below w.heap.size w wr)
 case atStart => exact ⟨A1, A2, m1, c1, x1, m2, c2, x2, rfl, rfl, Nat.le_refl _, hA1, hA2, hm1, hm2, Lib.hid rfl, hB⟩
 case round =>
  clear hA1 hA2 hB hm1 hm2
  obtain ⟨A, A', m, c, x, m', c', y, rfl, rfl, hxy, hA1, hA2, hm, hm', hg, hB⟩ := hrel
  rcases Nat.eq_zero_or_pos m' with h0 | h0
  ·have HY := Lib.hid (show y = 0 by
    have e := hA2.len
    rw [h0, List.length_eq_zero_iff, Dg.dg_nil] at e
    exact e)
   subst h0
   go_wp2_with fail
   refine (own_any hA1.rd (by omega)).mono ?_
   rintro _ W4 ⟨A4, m4, c4, x4, rfl, ho4, hx4, hb4⟩
   go_wp2
   go_ret
   exact ⟨_, _, _, x4, rfl, ho4.base hB.size, Lib.hid (by rw [hx4.out, Dg.val_dg, ← HX.out, ← hg.out, HY.out, Nat.gcd_zero_right]), hB.trans (hb4.mono hB.size)⟩
  ·have hy : 0 < y := by
    rcases Nat.eq_zero_or_pos y with e | e
    ·exfalso
     have e2 := hA2.len
     rw [e, Dg.dg_zero] at e2
     simp at e2
     omega
    ·exact e
   have hmp : (decide ((m' : Int) > 0)) = true := by simp; omega
   go_wp2_with fail
   refine (nDiv_any hA1.rd hA2.rd (by omega) (by omega) (by rw [Dg.val_dg]; exact hy)).mono ?_
   rintro _ W4 ⟨A4, A5, m4, c4, m5, c5, x4, x5, rfl, ho4, ho5, hx4, hb4⟩
   have HX5 := Lib.hid (show x5 = x % y by rw [hx4.out.2, Dg.val_dg, Dg.val_dg])
   go_wp2
   go_roundg x5
   case rel => exact ⟨_, _, m', c', y, m5, c5, x5, rfl, rfl, Nat.le_refl _, hA2.next hb4, ho5.base hB.size, hm', Nat.le_trans (ho5.short (k := m') (by rw [HX5.out]; exact Nat.lt_trans (Nat.mod_lt _ hy) (Dg.dg_len_lt.1 (Nat.le_of_eq hA2.len)))) hm', Lib.hid (by rw [HX5.out, ← hg.out, Nat.gcd_comm y, ← Nat.gcd_rec, Nat.gcd_comm]), hB.trans (hb4.mono hB.size)⟩
   case measure =>
    have := Nat.mod_lt x hy
    have e := HX5.out
    omega
end Go.Proofs.YtjnklbfhelbjgaaGreat

/- Integers as a sign and a size. Nothing of the program. -/
namespace Zz
def sg (b : Bool) (n : Nat) : Int := if b then -(n : Int) else n
theorem sg_false (n : Nat) : sg false n = n := rfl
theorem sg_true (n : Nat) : sg true n = -(n : Int) := rfl
theorem sg_zero (b : Bool) : sg b 0 = 0 := by cases b <;> simp [sg]
theorem abs_sg (b : Bool) (n : Nat) : (sg b n).natAbs = n := by cases b <;> simp [sg]
theorem sg_lt (b : Bool) (n : Nat) : sg b n < 0 ↔ b = true ∧ n ≠ 0 := by cases b <;> simp [sg] <;> omega
theorem sg_abs (z : Int) : sg (decide (z < 0)) z.natAbs = z := by
 by_cases h : z < 0
 ·rw [decide_eq_true h, sg_true]; omega
 ·rw [decide_eq_false h, sg_false]; omega
theorem sg_add (b : Bool) (x y : Nat) : sg b x + sg b y = sg b (x + y) := by cases b <;> simp [sg] <;> omega
theorem sg_sub {b c : Bool} {x y : Nat} (h : c ≠ b) (hl : y ≤ x) : sg b x + sg c y = sg b (x - y) := by cases b <;> cases c <;> simp [sg] at h ⊢ <;> omega
theorem sg_mul (b c : Bool) (x y : Nat) : sg b x * sg c y = sg (b != c) (x * y) := by cases b <;> cases c <;> simp [sg, Int.neg_mul, Int.mul_neg]
theorem sg_div (b c : Bool) (x y : Nat) : (sg b x).tdiv (sg c y) = sg (b != c) (x / y) := by cases b <;> cases c <;> simp [sg, Int.neg_tdiv, Int.tdiv_neg]
theorem sg_mod (b c : Bool) (x y : Nat) : (sg b x).tmod (sg c y) = sg b (x % y) := by cases b <;> cases c <;> simp [sg, Int.neg_tmod, Int.tmod_neg] <;> rfl
def zl (z : Int) : Nat := (Dg.dg z.natAbs).length
theorem zl_le {z : Int} {k : Nat} : zl z ≤ k ↔ z.natAbs < 4294967296 ^ k := Dg.dg_len_lt
theorem zl_lt (z : Int) : z.natAbs < 4294967296 ^ zl z := zl_le.1 (Nat.le_refl _)
theorem zl_of_le {x y : Int} (h : x.natAbs ≤ y.natAbs) : zl x ≤ zl y := zl_le.2 (Nat.lt_of_le_of_lt h (zl_lt y))
theorem zl_zero : zl 0 = 0 := by unfold zl; simp [Dg.dg_zero]
theorem zl_neg (z : Int) : zl (-z) = zl z := by unfold zl; rw [Int.natAbs_neg]
theorem zl_abs (z : Int) : zl z.natAbs = zl z := by unfold zl; simp
theorem zl_small {z : Int} (h : z.natAbs < 4294967296) : zl z ≤ 1 := zl_le.2 (by simpa using h)
theorem zl_mul (x y : Int) : zl (x * y) ≤ zl x + zl y := by
 rw [zl_le, Int.natAbs_mul, Nat.pow_add]
 exact Nat.mul_lt_mul'' (zl_lt x) (zl_lt y)
theorem zl_add (x y : Int) : zl (x + y) ≤ max (zl x) (zl y) + 1 := by
 rw [zl_le, Nat.pow_succ]
 have h1 := zl_lt x
 have h2 := zl_lt y
 have h3 : 4294967296 ^ zl x ≤ 4294967296 ^ max (zl x) (zl y) := Nat.pow_le_pow_right (by omega) (by omega)
 have h4 : 4294967296 ^ zl y ≤ 4294967296 ^ max (zl x) (zl y) := Nat.pow_le_pow_right (by omega) (by omega)
 omega
theorem zl_sub (x y : Int) : zl (x - y) ≤ max (zl x) (zl y) + 1 := by
 rw [Int.sub_eq_add_neg]
 have := zl_add x (-y)
 rwa [zl_neg] at this
theorem zl_tdiv (x y : Int) : zl (x.tdiv y) ≤ zl x := zl_of_le (by rw [Int.natAbs_tdiv]; exact Nat.div_le_self _ _)
theorem zl_tmod_lt (x : Int) {y : Int} (h : y ≠ 0) : zl (x.tmod y) ≤ zl y := zl_of_le (by rw [Int.natAbs_tmod]; exact Nat.le_of_lt (Nat.mod_lt _ (by omega)))
theorem zl_gcd_left (x y : Int) (h : x ≠ 0) : zl (Int.gcd x y) ≤ zl x := zl_of_le (by
 simp only [Int.natAbs_natCast]
 exact Nat.le_of_dvd (by omega) (Nat.gcd_dvd_left _ _))
theorem zl_gcd (x y : Int) : zl (Int.gcd x y) ≤ max (zl x) (zl y) := by
 by_cases h : x = 0
 ·subst h
  rw [show (Int.gcd 0 y : Int) = (y.natAbs : Int) by simp, zl_abs]
  omega
 ·have := zl_gcd_left x y h
  omega
end Zz

/- Integers in memory: a sign and a row of words. -/
namespace Go.Proofs.YtjnklbfhelbjgaaGreat
open Go.RowKit Go.IntWalk
def RdZ (w : World) (B : Nat) (s : Bool) (A : Option Addr) (n c : Nat) (z : Int) : Prop := ∃ M, RdU w B A n c M ∧ z = Zz.sg s (Dg.val M)
section
variable {w w' : World} {B B' b b' : Nat} {s : Bool} {A : Option Addr} {n c : Nat} {z : Int}
theorem RdZ.below (h : RdZ w B s A n c z) (hb : Below B w w') : RdZ w' B s A n c z := by
 obtain ⟨M, h, e⟩ := h
 exact ⟨M, h.below hb, e⟩
theorem RdZ.more (h : RdZ w B s A n c z) (hB : B ≤ B') : RdZ w B' s A n c z := by
 obtain ⟨M, h, e⟩ := h
 exact ⟨M, h.more hB, e⟩
theorem RdZ.next (h : RdZ w w.heap.size s A n c z) (hb : Below w.heap.size w w') : RdZ w' w'.heap.size s A n c z := (h.below hb).more hb.size
theorem RdZ.len (h : RdZ w B s A n c z) : Zz.zl z ≤ n := by
 obtain ⟨M, h, rfl⟩ := h
 rw [Zz.zl_le, Zz.abs_sg, ← h.len]
 exact Dg.val_lt h.wd
theorem RdZ.raw (h : RdZ w B s A n c z) : ∃ M, RdU w B A n c M ∧ Hid (z = Zz.sg s (Dg.val M)) := by
 obtain ⟨M, h, e⟩ := h
 exact ⟨M, h, Lib.hid e⟩
structure OwZ (w : World) (b : Nat) (s : Bool) (A : Option Addr) (n c : Nat) (z : Int) : Prop where
 own : OwU w b A n c (Dg.dg z.natAbs)
 sgn : s = decide (z < 0)
theorem OwZ.rd (h : OwZ w b s A n c z) : RdZ w w.heap.size s A n c z := ⟨_, h.own.rd, by rw [Dg.val_dg, h.sgn, Zz.sg_abs]⟩
theorem OwZ.next (h : OwZ w b s A n c z) (hb : Below w.heap.size w w') : OwZ w' b s A n c z := ⟨h.own.next hb, h.sgn⟩
theorem OwZ.base (h : OwZ w b s A n c z) (hb : b' ≤ b) : OwZ w b' s A n c z := ⟨h.own.base hb, h.sgn⟩
theorem OwZ.len (h : OwZ w b s A n c z) : n = Zz.zl z := h.own.len.symm
theorem OwZ.zero (w : World) (b : Nat) : OwZ w b false none 0 0 0 := ⟨by rw [show (0 : Int).natAbs = 0 from rfl, Dg.dg_zero]; exact OwU.nil w b, by decide⟩
theorem OwZ.mk' {t : Bool} {x : Nat} (h : OwU w b A n c (Dg.dg x)) : OwZ w b (t && decide (0 < n)) A n c (Zz.sg t x) := by
 refine ⟨by rw [Zz.abs_sg]; exact h, ?_⟩
 have h0 : n = 0 ↔ x = 0 := by
  rw [← h.len, List.length_eq_zero_iff, Dg.dg_nil]
 have h1 : (0 < n) ↔ (x ≠ 0) := by omega
 have h2 := Zz.sg_lt t x
 cases t
 ·simp [Zz.sg]
 ·simp only [Bool.true_and]
  rw [decide_eq_decide, h1, h2]
  simp
def RetI (z : Int) (w : World) (e : Ending) (w' : World) : Prop :=
 ∃ (s : Bool) (A : Option Addr) (n c : Nat) (y : Int), e = .returned (.agg #[.bool s, .slice A n c]) ∧ OwZ w' w.heap.size s A n c y ∧ Hid (y = z) ∧ Below w.heap.size w w'
def RetII (q r : Int) (w : World) (e : Ending) (w' : World) : Prop :=
 ∃ (s : Bool) (A : Option Addr) (n c : Nat) (y : Int) (s' : Bool) (A' : Option Addr) (n' c' : Nat) (y' : Int), e = .returned (.tuple #[.agg #[.bool s, .slice A n c], .agg #[.bool s', .slice A' n' c'], .int .i64 0]) ∧ OwZ w' w.heap.size s A n c y ∧ OwZ w' w.heap.size s' A' n' c' y' ∧ Hid (y = q ∧ y' = r) ∧ Below w.heap.size w w'
end
end Go.Proofs.YtjnklbfhelbjgaaGreat

/- zint: a sign and a size make an integer; the sign. -/
namespace Go.Proofs.YtjnklbfhelbjgaaGreat
open Go.RowKit Go.IntWalk
attribute [local go_sem ↓] Go.wp_at_zero Go.wp_at_succ
def ZC (w : World) (g : Nat) (s : Bool) (A : Option Addr) (n c : Nat) : Prop := w.heap[g]? = some (.cells #[.bool s, .slice A n c] 25 (0, 0))
section
variable {w w' : World} {g B : Nat} {s : Bool} {A : Option Addr} {n c : Nat}
theorem ZC.lt (h : ZC w g s A n c) : g < w.heap.size := (Array.getElem?_eq_some_iff.1 h).1
theorem ZC.c0 (h : ZC w g s A n c) : w.cell? ⟨g, 0, none⟩ = some (.bool s) := by
 rw [cell_of_row w g 0 _ _ _ h]; rfl
theorem ZC.c1 (h : ZC w g s A n c) : w.cell? ⟨g, 1, none⟩ = some (.slice A n c) := by
 rw [cell_of_row w g 1 _ _ _ h]; rfl
theorem ZC.fz (h : ZC w g s A n c) (j : Nat) : w.frozen? ⟨g, j, none⟩ = false := frozen_of_row w g j _ _ h
theorem ZC.below (h : ZC w g s A n c) (hb : Below B w w') (hg : g < B) : ZC w' g s A n c := (hb.block g hg).trans h
theorem ZC.next (h : ZC w g s A n c) (hb : Below w.heap.size w w') : ZC w' g s A n c := h.below hb h.lt
theorem ZC.alloc (h : ZC w g s A n c) (o : Obj) : ZC (w.alloc o) g s A n c := (Below.heap_alloc w o g h.lt).trans h
theorem ZC.new (w : World) (s : Bool) (A : Option Addr) (n c : Nat) : ZC (w.alloc (.cells #[.bool s, .slice A n c] 25)) w.heap.size s A n c := heap_alloc_new w _
theorem ZC.drewN (h : ZC w g s A n c) (k : Nat) : ZC (w.drewN k) g s A n c := h
theorem ZC.store (h : ZC w g s A n c) (s' : Bool) (A' : Option Addr) (n' c' : Nat) : ZC ((w.setCell ⟨g, 0, none⟩ (.bool s')).setCell ⟨g, 1, none⟩ (.slice A' n' c')) g s' A' n' c' := by
 unfold ZC at h ⊢
 simp [World.setCell, Array.getElem?_modify, h]
theorem own_far {b k m : Nat} {L : List Nat} {A : Option Addr} (h : OwU w b A k m L) {p : Addr} (hp : p.block < b) (u : Value) : OwU (w.setCell p u) b A k m L := by
 refine ⟨⟨h.own.1, ?_⟩, h.wd⟩
 rcases h.own.2 with h0 | ⟨g, cap, cur, h1, h2, h3, h4⟩
 ·exact .inl h0
 ·exact .inr ⟨g, cap, cur, h1, h2, (Below.heap_setCell w p u g (by omega)).trans h3, h4⟩
theorem OwZ.far {b k m : Nat} {t : Bool} {A : Option Addr} {z : Int} (h : OwZ w b t A k m z) {p : Addr} (hp : p.block < b) (u : Value) : OwZ (w.setCell p u) b t A k m z := ⟨own_far h.own hp u, h.sgn⟩
theorem put_int {v : World} {b : Nat} {t : Bool} {A' : Option Addr} {k m : Nat} {z : Int} (h : ZC w g s A n c) (hB : Below v.heap.size v w) (hg : v.heap.size ≤ g) (ho : OwZ w b t A' k m z) (hb : g < b) :
  ZC ((w.setCell ⟨g, 0, none⟩ (.bool t)).setCell ⟨g, 1, none⟩ (.slice A' k m)) g t A' k m ∧
  OwZ ((w.setCell ⟨g, 0, none⟩ (.bool t)).setCell ⟨g, 1, none⟩ (.slice A' k m)) b t A' k m z ∧
  Below v.heap.size v ((w.setCell ⟨g, 0, none⟩ (.bool t)).setCell ⟨g, 1, none⟩ (.slice A' k m)) :=
 ⟨h.store t A' k m, (ho.far (p := ⟨g, 0, none⟩) hb _).far (p := ⟨g, 1, none⟩) hb _, (hB.setCell (p := ⟨g, 0, none⟩) hg _).setCell (p := ⟨g, 1, none⟩) hg _⟩
theorem ZC.far (h : ZC w g s A n c) {p : Addr} (hp : g ≠ p.block) (u : Value) : ZC (w.setCell p u) g s A n c := (Below.heap_setCell w p u g hp).trans h
end
set_option maxHeartbeats 1000000 in
theorem make1_any (t : Bool) {x b : Nat} {A : Option Addr} {n c : Nat} {w : World} (h : OwU w b A n c (Dg.dg x)) :
  Calls Tryz.prog 141 #[.bool t, .slice A n c] w fun e w' => ∃ s : Bool, e = .returned (.agg #[.bool s, .slice A n c]) ∧ OwZ w' b s A n c (Zz.sg t x) ∧ Below w.heap.size w w' := by
 have HR := Lib.hid (show ∀ s : Bool, s = (t && decide (0 < n)) → ∃ s' : Bool, Ending.returned (.agg #[.bool s, .slice A n c]) = .returned (.agg #[.bool s', .slice A n c]) ∧ OwZ (w.alloc (.cells #[.bool s, .slice A n c] 25)) b s' A n c (Zz.sg t x) ∧ Below w.heap.size w (w.alloc (.cells #[.bool s, .slice A n c] 25)) from fun s hs => by
  have hB := (Below.refl w.heap.size w).alloc (Nat.le_refl _) (.cells #[.bool s, .slice A n c] 25)
  exact ⟨s, rfl, by rw [hs] at hB ⊢; exact (OwZ.mk' h).next hB, hB⟩)
 clear h
 go_enter Tryz.func141, Tryz.ntmps141
 cases t
 ·go_wp2
  exact bodyPost_ret (by simp [results, Tryz.results141, go_sem]) rfl (HR.out _ rfl)
 ·go_wp2
  exact bodyPost_ret (by simp [results, Tryz.results141, go_sem]) rfl (HR.out _ rfl)
def RetK (k : Int) (w : World) (e : Ending) (w' : World) : Prop := ∃ y : Int, e = .returned (.int .i64 y) ∧ Hid (y = k) ∧ Below w.heap.size w w'
theorem sign_sg (s : Bool) (x : Nat) : (Zz.sg s x).sign = if x = 0 then 0 else if s then -1 else 1 := by
 by_cases h : x = 0
 ·subst h; rw [Zz.sg_zero]; rfl
 ·rw [if_neg h]
  cases s
  ·rw [Zz.sg_false, Int.sign_eq_one_of_pos (by omega)]; rfl
  ·rw [Zz.sg_true, Int.sign_eq_neg_one_of_neg (by omega)]; rfl
set_option maxHeartbeats 1000000 in
theorem sign_any {s : Bool} {A : Option Addr} {n c : Nat} {z : Int} {w : World} (h : RdZ w w.heap.size s A n c z) (hn : n ≤ 17592186044416) :
  Calls Tryz.prog 36 #[.agg #[.bool s, .slice A n c]] w (RetK z.sign w) := by
 obtain ⟨M, h, hz⟩ := h.raw
 have hB := (Below.refl w.heap.size w).alloc (Nat.le_refl _) (.cells #[.bool s, .slice A n c] 25)
 have hZ := ZC.new w s A n c
 have h1 := h.next hB
 go_enter Tryz.func36, Tryz.ntmps36
 go_wp2_with fail
 refine (len_any h1 hn).mono ?_
 rintro _ _ ⟨k, rfl, hk, rfl⟩
 have HS := Lib.hid (show z.sign = if k = 0 then 0 else if s then -1 else 1 by
  rw [hz.out, sign_sg]
  by_cases e : k = 0
  ·rw [if_pos e, if_pos (hk.out.1 e)]
  ·rw [if_neg e, if_neg fun e2 => e (hk.out.2 e2)])
 clear hk hz h1 h
 generalize w.alloc (.cells #[.bool s, .slice A n c] 25) = W1 at *
 have hc0 := hZ.c0
 have hc1 := hZ.c1
 rcases Nat.eq_zero_or_pos k with e | e
 ·subst e
  go_wp2
  go_ret
  exact ⟨_, rfl, Lib.hid (by rw [HS.out]; rfl), hB⟩
 ·have ek : ((k : Int) == 0) = false := by simp; omega
  have HK := Lib.hid e
  clear e
  cases s
  ·go_wp2
   go_ret
   exact ⟨_, rfl, Lib.hid (by rw [HS.out, if_neg (by have := HK.out; omega)]; rfl), hB⟩
  ·go_wp2
   go_ret
   exact ⟨_, rfl, Lib.hid (by rw [HS.out, if_neg (by have := HK.out; omega)]; rfl), hB⟩
set_option maxHeartbeats 1000000 in
theorem of_any (z : Int) (h1 : -9223372036854775808 ≤ z) (h2 : z < 9223372036854775808) (w : World) :
  Calls Tryz.prog 88 #[.int .i64 z] w (RetI z w) := by
 have hB := (Below.refl w.heap.size w).alloc (Nat.le_refl _) (.cells #[.bool false, .slice none 0 0] 25)
 have hZ := ZC.new w false none 0 0
 go_enter Tryz.func88, Tryz.ntmps88
 by_cases hz : z < 0
 ·go_wp2_with fail
  generalize w.alloc (.cells #[.bool false, .slice none 0 0] 25) = W1 at *
  refine (nOf_any z.natAbs (by omega) (by omega) W1).mono ?_
  rintro _ W2 ⟨A2, m2, c2, x2, rfl, ho2, hx2, hb2⟩
  go_wp2_with fail
  refine (make1_any true ho2).mono ?_
  rintro _ W3 ⟨s3, rfl, ho3, hb3⟩
  have hZ3 := (hZ.next hb2).next hb3
  have hB3 := hB.trans ((hb2.trans (hb3.mono hb2.size)).mono hB.size)
  have hc0 := hZ3.c0
  have hc1 := hZ3.c1
  have hf0 := hZ3.fz 0
  have hf1 := hZ3.fz 1
  have HB := Lib.hid (show w.heap.size < W1.heap.size from hZ.lt)
  clear hb2 hb3 ho2
  go_wp2
  have hp := put_int hZ3 hB3 (Nat.le_refl _) ho3 HB.out
  generalize (W3.setCell ⟨w.heap.size, 0, none⟩ (.bool s3)).setCell ⟨w.heap.size, 1, none⟩ (.slice A2 m2 c2) = W4 at hp ⊢
  obtain ⟨hZ4, ho4, hB4⟩ := hp
  exact bodyPost_ret (by simp [results, Tryz.results88, go_sem, hZ4.c0, hZ4.c1]) rfl ⟨_, _, _, _, _, rfl, ho4.base (Nat.le_of_lt HB.out), Lib.hid (by rw [hx2.out, Zz.sg_true]; omega), hB4⟩
 ·have hz0 : 0 ≤ z := by omega
  clear hz
  go_wp2_with fail
  generalize w.alloc (.cells #[.bool false, .slice none 0 0] 25) = W1 at *
  refine (nOf_any z.natAbs (by omega) (by omega) W1).mono ?_
  rintro _ W2 ⟨A2, m2, c2, x2, rfl, ho2, hx2, hb2⟩
  go_wp2_with fail
  refine (make1_any false ho2).mono ?_
  rintro _ W3 ⟨s3, rfl, ho3, hb3⟩
  have hZ3 := (hZ.next hb2).next hb3
  have hB3 := hB.trans ((hb2.trans (hb3.mono hb2.size)).mono hB.size)
  have hc0 := hZ3.c0
  have hc1 := hZ3.c1
  have hf0 := hZ3.fz 0
  have hf1 := hZ3.fz 1
  have HB := Lib.hid (show w.heap.size < W1.heap.size from hZ.lt)
  clear hb2 hb3 ho2
  go_wp2
  have hp := put_int hZ3 hB3 (Nat.le_refl _) ho3 HB.out
  generalize (W3.setCell ⟨w.heap.size, 0, none⟩ (.bool s3)).setCell ⟨w.heap.size, 1, none⟩ (.slice A2 m2 c2) = W4 at hp ⊢
  obtain ⟨hZ4, ho4, hB4⟩ := hp
  exact bodyPost_ret (by simp [results, Tryz.results88, go_sem, hZ4.c0, hZ4.c1]) rfl ⟨_, _, _, _, _, rfl, ho4.base (Nat.le_of_lt HB.out), Lib.hid (by rw [hx2.out, Zz.sg_false]; omega), hB4⟩
theorem boxed1 (w : World) (s : Bool) (A : Option Addr) (n c : Nat) :
  ZC ((w.alloc (.cells #[.bool s, .slice A n c] 25)).alloc (.cells #[.bool false, .slice none 0 0] 25)) w.heap.size s A n c ∧
  ZC ((w.alloc (.cells #[.bool s, .slice A n c] 25)).alloc (.cells #[.bool false, .slice none 0 0] 25)) (w.heap.size + 1) false none 0 0 ∧
  Below w.heap.size w ((w.alloc (.cells #[.bool s, .slice A n c] 25)).alloc (.cells #[.bool false, .slice none 0 0] 25)) :=
 ⟨(ZC.new w s A n c).alloc _, by simpa using ZC.new (w.alloc (.cells #[.bool s, .slice A n c] 25)) false none 0 0, ((Below.refl w.heap.size w).alloc (Nat.le_refl _) (.cells #[.bool s, .slice A n c] 25)).alloc (by simp) (.cells #[.bool false, .slice none 0 0] 25)⟩
theorem boxed2 (w : World) (s : Bool) (A : Option Addr) (n c : Nat) (s' : Bool) (A' : Option Addr) (n' c' : Nat) :
  ZC (((w.alloc (.cells #[.bool s, .slice A n c] 25)).alloc (.cells #[.bool s', .slice A' n' c'] 25)).alloc (.cells #[.bool false, .slice none 0 0] 25)) w.heap.size s A n c ∧
  ZC (((w.alloc (.cells #[.bool s, .slice A n c] 25)).alloc (.cells #[.bool s', .slice A' n' c'] 25)).alloc (.cells #[.bool false, .slice none 0 0] 25)) (w.heap.size + 1) s' A' n' c' ∧
  ZC (((w.alloc (.cells #[.bool s, .slice A n c] 25)).alloc (.cells #[.bool s', .slice A' n' c'] 25)).alloc (.cells #[.bool false, .slice none 0 0] 25)) (w.heap.size + 1 + 1) false none 0 0 ∧
  Below w.heap.size w (((w.alloc (.cells #[.bool s, .slice A n c] 25)).alloc (.cells #[.bool s', .slice A' n' c'] 25)).alloc (.cells #[.bool false, .slice none 0 0] 25)) :=
 ⟨((ZC.new w s A n c).alloc _).alloc _, by simpa using (ZC.new (w.alloc (.cells #[.bool s, .slice A n c] 25)) s' A' n' c').alloc (.cells #[.bool false, .slice none 0 0] 25), by simpa using ZC.new ((w.alloc (.cells #[.bool s, .slice A n c] 25)).alloc (.cells #[.bool s', .slice A' n' c'] 25)) false none 0 0,
   (((Below.refl w.heap.size w).alloc (Nat.le_refl _) (.cells #[.bool s, .slice A n c] 25)).alloc (by simp) (.cells #[.bool s', .slice A' n' c'] 25)).alloc (by simp; omega) (.cells #[.bool false, .slice none 0 0] 25)⟩
set_option maxHeartbeats 1000000 in
theorem abs_any {s : Bool} {A : Option Addr} {n c : Nat} {z : Int} {w : World} (h : RdZ w w.heap.size s A n c z) (hn : n ≤ 17592186044416) :
  Calls Tryz.prog 173 #[.agg #[.bool s, .slice A n c]] w (RetI z.natAbs w) := by
 obtain ⟨M, h, hz⟩ := h.raw
 obtain ⟨hZ, hR, hB⟩ := boxed1 w s A n c
 have h1 := h.next hB
 have HSZ := Lib.hid (Nat.lt_trans (Nat.lt_succ_self _) hR.lt)
 go_enter Tryz.func173, Tryz.ntmps173
 go_wp2_with fail
 generalize (w.alloc (.cells #[.bool s, .slice A n c] 25)).alloc (.cells #[.bool false, .slice none 0 0] 25) = W1 at *
 refine (norm_any h1 (by omega)).mono ?_
 rintro _ W2 ⟨A2, m2, c2, x2, rfl, ho2, hx2, hb2⟩
 go_wp2_with fail
 refine (make1_any false ho2).mono ?_
 rintro _ W3 ⟨s3, rfl, ho3, hb3⟩
 have hR3 := (hR.next hb2).next hb3
 have hB3 := hB.trans ((hb2.trans (hb3.mono hb2.size)).mono hB.size)
 have hc0 := hR3.c0
 have hc1 := hR3.c1
 have hf0 := hR3.fz 0
 have hf1 := hR3.fz 1
 have HB := Lib.hid hR.lt
 clear hb2 hb3 ho2 hZ hR h1
 go_wp2
 have hp := put_int hR3 hB3 (Nat.le_succ _) ho3 HB.out
 generalize (W3.setCell ⟨w.heap.size + 1, 0, none⟩ (.bool s3)).setCell ⟨w.heap.size + 1, 1, none⟩ (.slice A2 m2 c2) = W4 at hp ⊢
 obtain ⟨hZ4, ho4, hB4⟩ := hp
 exact bodyPost_ret (by simp [results, Tryz.results173, go_sem, hZ4.c0, hZ4.c1]) rfl ⟨_, _, _, _, _, rfl, ho4.base (Nat.le_of_lt HSZ.out), Lib.hid (by rw [hx2.out, Zz.sg_false, hz.out, Zz.abs_sg]), hB4⟩
end Go.Proofs.YtjnklbfhelbjgaaGreat
