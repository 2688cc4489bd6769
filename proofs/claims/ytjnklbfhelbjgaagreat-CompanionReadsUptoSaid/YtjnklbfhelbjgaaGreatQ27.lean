/- Are two fractions, two lists of them, the very same? -/
import Derived.Test.YtjnklbfhelbjgaaGreatQ22
import Derived.Test.YtjnklbfhelbjgaaGreatQ07
import Derived.Test.YtjnklbfhelbjgaaGreatQ11
import Derived.Test.YtjnklbfhelbjgaaGreatQ26
import Derived.Test.YtjnklbfhelbjgaaGreatQ10
import Derived.Test.YtjnklbfhelbjgaaGreatQ24
import Derived.Test.YtjnklbfhelbjgaaGreatQ14
import Derived.Test.YtjnklbfhelbjgaaGreatRows
import Derived.WalkKit
import Derived.ProofKit
import Derived.OpenShut
import Derived.JoinedCond
import Derived.Test.YtjnklbfhelbjgaaGreatQ00
import Derived.ChangeSlices
import Derived.Test.YtjnklbfhelbjgaaGreatQ03
import Derived.Lib.SmallJoins
namespace Go.Proofs.YtjnklbfhelbjgaaGreat
open Go.RowKit Go.IntWalk
attribute [local go_sem ↓] Go.wp_at_zero Go.wp_at_succ
theorem q_pair (w : World) (s1 s2 s3 s4 : Bool) (A1 A2 A3 A4 : Option Addr) (n1 c1 n2 c2 n3 c3 n4 c4 : Nat) :
  ∀ W1 : World, W1 = (w.alloc (.cells #[.bool s1, .slice A1 n1 c1, .bool s2, .slice A2 n2 c2] 47)).alloc (.cells #[.bool s3, .slice A3 n3 c3, .bool s4, .slice A4 n4 c4] 47) →
   QC W1 w.heap.size s1 A1 n1 c1 s2 A2 n2 c2 ∧ QC W1 (w.heap.size + 1) s3 A3 n3 c3 s4 A4 n4 c4 ∧ Below w.heap.size w W1 := by
 rintro W1 rfl
 refine ⟨(QC.new w s1 A1 n1 c1 s2 A2 n2 c2).next ((Below.refl _ _).alloc (Nat.le_refl _) _), ?_, ((Below.refl w.heap.size w).alloc (Nat.le_refl _) _).alloc (by simp) _⟩
 simpa using QC.new (w.alloc (.cells #[.bool s1, .slice A1 n1 c1, .bool s2, .slice A2 n2 c2] 47)) s3 A3 n3 c3 s4 A4 n4 c4
set_option maxRecDepth 100000 in
set_option maxHeartbeats 4000000 in
theorem same05_any {s1 s2 s3 s4 : Bool} {A1 A2 A3 A4 : Option Addr} {n1 c1 n2 c2 n3 c3 n4 c4 : Nat} {M1 M2 M3 M4 : List Nat} {w : World} (h1 : RdU w w.heap.size A1 n1 c1 M1) (h2 : RdU w w.heap.size A2 n2 c2 M2) (h3 : RdU w w.heap.size A3 n3 c3 M3) (h4 : RdU w w.heap.size A4 n4 c4 M4) :
  Calls Tryz.prog 156 #[.agg #[.bool s1, .slice A1 n1 c1, .bool s2, .slice A2 n2 c2], .agg #[.bool s3, .slice A3 n3 c3, .bool s4, .slice A4 n4 c4]] w (RetBo (((s1, M1), (s2, M2)) = ((s3, M3), (s4, M4))) w) := by
 obtain ⟨W1, HW1⟩ : ∃ W, W = (w.alloc (.cells #[.bool s1, .slice A1 n1 c1, .bool s2, .slice A2 n2 c2] 47)).alloc (.cells #[.bool s3, .slice A3 n3 c3, .bool s4, .slice A4 n4 c4] 47) := ⟨_, rfl⟩
 obtain ⟨hX, hY, hB⟩ := q_pair w s1 s2 s3 s4 A1 A2 A3 A4 n1 c1 n2 c2 n3 c3 n4 c4 W1 HW1
 have a0 := hX.c0
 have a1 := hX.c1
 have b0 := hY.c0
 have b1 := hY.c1
 rw [HW1] at a0 a1 b0 b1
 have HX := Lib.hid hX
 have HY := Lib.hid hY
 have HB := Lib.hid hB
 have HR := Lib.hid (And.intro (And.intro (h1.next hB) (h3.next hB)) (And.intro (h2.next hB) (h4.next hB)))
 have HW1 := Lib.hid HW1
 clear hX hY hB h1 h2 h3 h4
 go_enter Tryz.func156, Tryz.ntmps156
 go_wp2_with fail
 rw [← HW1.out]
 clear HW1 a0 a1 b0 b1
 clear HW1
 refine (same03_any (s := s1) (s' := s3) HR.out.1.1 HR.out.1.2).mono ?_
 rintro _ W2 ⟨b, rfl, hb, hb2⟩
 have HB2 := Lib.hid (HB.out.trans (hb2.mono HB.out.size))
 cases b
 ·have HNE := Lib.hid (show (s1, M1) ≠ (s3, M3) from fun e => by have := hb.out.2 e; simp at this)
  clear hb2
  go_wp2
  go_ret
  exact ⟨false, rfl, Lib.hid ⟨fun e => by simp at e, fun e => absurd (by injection e) HNE.out⟩, HB2.out⟩
 ·have HEQ := Lib.hid (hb.out.1 rfl)
  have a2 := (HX.out.next hb2).c2
  have a3 := (HX.out.next hb2).c3
  have b2 := (HY.out.next hb2).c2
  have b3 := (HY.out.next hb2).c3
  have HR2 := Lib.hid (And.intro (HR.out.2.1.next hb2) (HR.out.2.2.next hb2))
  clear hb2
  go_wp2_with fail
  clear a2 a3 b2 b3
  refine (same03_any (s := s2) (s' := s4) HR2.out.1 HR2.out.2).mono ?_
  rintro _ W3 ⟨b, rfl, hb3, hb4⟩
  go_wp2
  go_ret
  exact ⟨b, rfl, Lib.hid ⟨fun e => by rw [HEQ.out, hb3.out.1 e], fun e => hb3.out.2 (by injection e)⟩, HB2.out.trans (hb4.mono HB2.out.size)⟩
theorem rq_at {w : World} {B : Nat} {A : Option Addr} {n c : Nat} {R : List RawQ} (h : RdRQ w B A n c R) {j : Nat} (hj : j < n) :
  ∃ (ad : Addr) (s : Bool) (M : List Nat) (s' : Bool) (M' : List Nat) (A1 : Option Addr) (n1 c1 : Nat) (A1' : Option Addr) (n1' c1' : Nat), A = some ad ∧ ad.block < B ∧ w.cell? (ad.add (j * 4)) = some (.bool s) ∧ w.cell? ⟨(ad.add (j * 4)).block, (ad.add (j * 4)).off + 1, none⟩ = some (.slice A1 n1 c1) ∧ w.cell? ⟨(ad.add (j * 4)).block, (ad.add (j * 4)).off + 2, none⟩ = some (.bool s') ∧ w.cell? ⟨(ad.add (j * 4)).block, (ad.add (j * 4)).off + 3, none⟩ = some (.slice A1' n1' c1') ∧ RdU w B A1 n1 c1 M ∧ RdU w B A1' n1' c1' M' ∧ Hid (R[j]? = some ((s, M), (s', M'))) := by
 have hz : R[j]? = some (R[j]'(by rw [h.len]; exact hj)) := List.getElem?_eq_getElem _
 obtain ⟨ad, A1, n1, c1, A1', n1', c1', h1, h2, h3, h4, h5, h6, h7, h8⟩ := h.at_ j _ hz
 exact ⟨ad, _, _, _, _, A1, n1, c1, A1', n1', c1', h1, h2, h3, h4, h5, h6, h7, h8, Lib.hid hz⟩
set_option maxRecDepth 100000 in
set_option maxHeartbeats 4000000 in
theorem sameAll05_any {A A' : Option Addr} {n c n' c' : Nat} {R R' : List RawQ} {w : World} (h : RdRQ w w.heap.size A n c R) (h' : RdRQ w w.heap.size A' n' c' R') :
  Calls Tryz.prog 104 #[.slice A n c, .slice A' n' c'] w (RetBo (R = R') w) := by
 have hlen := Lib.hid (And.intro h.len h'.len)
 have hn : n ≤ 9223372036854775807 := by
  have h1 := h.mx
  have h2 := h.le
  unfold maxLen at h1
  omega
 go_enter Tryz.func104, Tryz.ntmps104
 by_cases hne : n = n'
 ·subst hne
  go_wp2_with fail
  go_loopw [13] (fun iv wr => ∃ i : Nat, iv = .int .i64 i ∧ i ≤ n ∧ Hid (∀ t, t < i → R[t]? = R'[t]?) ∧ Below w.heap.size w wr) (fun iv _ => n - (intOf iv).toNat)
  case atStart => exact ⟨0, rfl, Nat.zero_le _, Lib.hid fun t ht => by omega, Below.refl _ _⟩
  case round =>
   obtain ⟨i, rfl, hi, hE, hB⟩ := hrel
   by_cases hin : i = n
   ·have hni := hin.symm
    subst hni
    clear hin
    go_wp2
    go_ret
    exact ⟨true, rfl, Lib.hid ⟨fun _ => by
     apply List.ext_getElem?
     intro t
     rcases Nat.lt_or_ge t n with ht | ht
     ·exact hE.out t ht
     ·rw [List.getElem?_eq_none (by rw [hlen.out.1]; exact ht), List.getElem?_eq_none (by rw [hlen.out.2]; exact ht)], fun _ => rfl⟩, hB⟩
   ·have hil : i < n := by omega
    clear hin
    have hili : (i : Int) < (n : Int) := by omega
    obtain ⟨ad, s, M, t, N, A1, n1, c1, A2, n2, c2, rfl, hbk, hx0, hx1, hx2, hx3, hrx, hrx', hx⟩ := rq_at h hil
    obtain ⟨ad', s', M', t', N', A3, n3, c3, A4, n4, c4, rfl, hbk', hy0, hy1, hy2, hy3, hry, hry', hy⟩ := rq_at h' hil
    obtain ⟨k0, k1, k2, k3⟩ := qs_cells hB hbk hx0 hx1 hx2 hx3
    obtain ⟨l0, l1, l2, l3⟩ := qs_cells hB hbk' hy0 hy1 hy2 hy3
    have HBD := Lib.hid (Below.refl wr.heap.size wr).drew
    have HSA := Lib.hid (same05_any (s1 := s) (s2 := t) (s3 := s') (s4 := t') ((hrx.next hB).next HBD.out) ((hrx'.next hB).next HBD.out) ((hry.next hB).next HBD.out) ((hry'.next hB).next HBD.out))
    have HCX := Lib.hid (show ∀ W : World, Below wr.heap.size wr W → _ from fun W hb => qs_cells (hB.trans (hb.mono hB.size)) hbk hx0 hx1 hx2 hx3)
    have HCY := Lib.hid (show ∀ W : World, Below wr.heap.size wr W → _ from fun W hb => qs_cells (hB.trans (hb.mono hB.size)) hbk' hy0 hy1 hy2 hy3)
    clear hx0 hx1 hx2 hx3 hy0 hy1 hy2 hy3 hrx hry hrx' hry'
    go_upto_region 6 with fail
    go_region_held3 (fun w' => (w'.cell? (ad.add (i * 4)) = some (.bool s) ∧ w'.cell? ⟨(ad.add (i * 4)).block, (ad.add (i * 4)).off + 1, none⟩ = some (.slice A1 n1 c1) ∧ w'.cell? ⟨(ad.add (i * 4)).block, (ad.add (i * 4)).off + 2, none⟩ = some (.bool t) ∧ w'.cell? ⟨(ad.add (i * 4)).block, (ad.add (i * 4)).off + 3, none⟩ = some (.slice A2 n2 c2)) ∧ w'.cell? (ad'.add (i * 4)) = some (.bool s') ∧ w'.cell? ⟨(ad'.add (i * 4)).block, (ad'.add (i * 4)).off + 1, none⟩ = some (.slice A3 n3 c3) ∧ w'.cell? ⟨(ad'.add (i * 4)).block, (ad'.add (i * 4)).off + 2, none⟩ = some (.bool t') ∧ w'.cell? ⟨(ad'.add (i * 4)).block, (ad'.add (i * 4)).off + 3, none⟩ = some (.slice A4 n4 c4))
     (first | exact ⟨HCX.out _ HB2.out, HCY.out _ HB2.out⟩ | exact ⟨HCX.out _ HBD.out, HCY.out _ HBD.out⟩ | exact ⟨HCX.out _ (Below.refl _ _), HCY.out _ (Below.refl _ _)⟩)
     (first
      | (go_at_call 156; refine HSA.out.mono ?_; rintro _ W2 ⟨b, rfl, hb, hb2⟩; have HB2 := Lib.hid (HBD.out.trans hb2); obtain ⟨a0, a1, a2, a3⟩ := HCX.out W2 HB2.out; obtain ⟨b0, b1, b2, b3⟩ := HCY.out W2 HB2.out))
    have hB2 := hB.trans (HB2.out.mono hB.size)
    clear k0 k1 k2 k3 l0 l1 l2 l3 a0 a1 a2 a3 b0 b1 b2 b3 hb2
    cases b
    ·have HNE := Lib.hid (show ((s, M), (t, N)) ≠ ((s', M'), (t', N')) from fun e => by have := hb.out.2 e; simp at this)
     go_wp2
     go_ret
     exact ⟨false, rfl, Lib.hid ⟨fun e => by simp at e, fun e => absurd (by
      have e1 := hx.out
      rw [e, hy.out] at e1
      injection e1 with e1
      exact e1.symm) HNE.out⟩, hB2⟩
    ·have HEQ := Lib.hid (hb.out.1 rfl)
     go_wp2
     go_roundw
     case rel => exact ⟨i + 1, by go_num, by omega, Lib.hid fun t ht => by
      rcases Nat.lt_or_ge t i with h1 | h1
      ·exact hE.out t h1
      ·rw [show t = i by omega, hx.out, hy.out, HEQ.out], hB2⟩
     case measure => simp [intOf]; omega
 ·have hb : ((n : Int) != (n' : Int)) = true := by simp; omega
  have HNE := Lib.hid hne
  clear hne
  go_wp2
  go_ret
  exact ⟨false, rfl, Lib.hid ⟨fun e => by simp at e, fun e => absurd (by rw [← hlen.out.1, ← hlen.out.2, e]) HNE.out⟩, Below.refl _ _⟩
set_option maxHeartbeats 400000 in
theorem same09_any {A A' : Option Addr} {n c n' c' : Nat} {R R' : List RawQ} {w : World} (h : RdRQ w w.heap.size A n c R) (h' : RdRQ w w.heap.size A' n' c' R') :
  Calls Tryz.prog 58 #[.slice A n c, .slice A' n' c'] w (RetBo (R = R') w) := by
 go_enter Tryz.func58, Tryz.ntmps58
 go_wp2_with fail
 refine (sameAll05_any h h').mono ?_
 rintro _ W2 ⟨b, rfl, hb, hb2⟩
 go_wp2
 go_ret
 exact ⟨b, rfl, hb, hb2⟩
def ofQ (x : Rat) : RawQ := (ofZ x.num, ofZ (x.den : Int))
theorem ofQ_inj {x y : Rat} (h : ofQ x = ofQ y) : x = y := by
 unfold ofQ at h
 injection h with h1 h2
 rw [← Rat.num_divInt_den x, ← Rat.num_divInt_den y, ofZ_inj h1, ofZ_inj h2]
theorem ofQ_list {L M : List Rat} (h : L.map ofQ = M.map ofQ) : L = M := (List.map_inj_right fun _ _ e => ofQ_inj e).1 h
theorem OwQp.rq {w : World} {b : Nat} {A : Option Addr} {n c : Nat} {L : List Rat} (h : OwQp w b A n c L) : RdRQ w w.heap.size A n c (L.map ofQ) := by
 refine ⟨by rw [List.length_map, h.len], h.le.1, h.le.2, fun j p hp => ?_⟩
 rw [List.getElem?_map] at hp
 rcases Nat.lt_or_ge j L.length with hj | hj
 ·obtain ⟨ad, s, A1, n1, c1, s', A1', n1', c1', x, e1, e2, a0, a1, a2, a3, hx, hL⟩ := op_at h (show j < n by rw [← h.len]; exact hj)
  rw [hL.out] at hp
  simp at hp
  subst hp
  have hs : s = (ofQ x).1.1 := hx.num.sgn
  have hs' : s' = (ofQ x).2.1 := hx.den.sgn
  exact ⟨ad, A1, n1, c1, A1', n1', c1', e1, e2, by rw [← hs]; exact a0, a1, by rw [← hs']; exact a2, a3, hx.num.own.rd, hx.den.own.rd⟩
 ·rw [List.getElem?_eq_none hj] at hp
  simp at hp
end Go.Proofs.YtjnklbfhelbjgaaGreat

/- similelaw17.of; reference 09: SameAll. -/
namespace Go.Proofs.YtjnklbfhelbjgaaGreat
open Go.RowKit Go.IntWalk
attribute [local go_sem ↓] Go.wp_at_zero Go.wp_at_succ
set_option maxRecDepth 100000 in
set_option maxHeartbeats 8000000 in
theorem lof17_any {A : Option Addr} {n c : Nat} {L : List Int} {w : World} (h : RdK w w.heap.size A n c L) (hn : n ≤ 1048576) :
  Calls Tryz.prog 48 #[.slice A n c] w fun e w' => ∃ (A : Option Addr) (n c : Nat) (M : List Rat), e = .returned (.slice A n c) ∧ OwQp w' w.heap.size A n c M ∧ Hid (M = L.map fun z : Int => (z : Rat)) ∧ Below w.heap.size w w' := by
 have HLEN := Lib.hid h.len
 obtain ⟨i0, hi, hz0, hz1, hz2⟩ := info_parts infoQ
 go_enter Tryz.func48, Tryz.ntmps48
 go_wp2_with fail
 go_loopw [3, 8] (fun ov iv wr => ∃ (j c' : Nat) (A' : Option Addr) (M : List Rat), ov = .slice A' j c' ∧ iv = .int .i64 j ∧ j ≤ n ∧ OwQs wr w.heap.size A' j c' M ∧ Hid (M = (L.take j).map fun z : Int => (z : Rat)) ∧ Below w.heap.size w wr) (fun _ iv _ => n - (intOf iv).toNat)
 case atStart => exact ⟨0, 0, none, [], rfl, rfl, Nat.zero_le _, OwQs.nil _ _, Lib.hid rfl, Below.refl _ _⟩
 case round =>
  obtain ⟨j, c', A', M, rfl, rfl, hj, ho, hM, hB⟩ := hrel
  by_cases hjn : j = n
  ·subst hjn
   go_wp2
   go_ret
   exact ⟨_, _, _, _, rfl, ho.p, Lib.hid (by rw [hM.out, List.take_of_length_le (by rw [HLEN.out]; exact Nat.le_refl _)]), hB⟩
  ·have hjl : j < n := by omega
   clear hjn
   have hjli : (j : Int) < (n : Int) := by omega
   obtain ⟨z, hz⟩ := zs_get (L := L) (j := j) (by rw [h.len]; exact hjl)
   obtain ⟨h1, h2, ad, rfl, hbk, hx⟩ := h.at_ j z hz
   have hy := (hB.cell (p := ad.add j) (by rw [add_blk]; exact hbk)).trans hx
   have HZ := Lib.hid hz
   have HRG := Lib.hid (And.intro h1 h2)
   have HO := Lib.hid ho
   clear hz hx ho h1 h2
   go_wp2_with fail
   refine (rQOf_any z HRG.out.1 HRG.out.2 wr).mono ?_
   rintro _ W3 ⟨s3, A3, n3, c3, s4, A4, n4, c4, y, rfl, ho3, hy3, hb3⟩
   have hB3 := hB.trans (hb3.mono hB.size)
   obtain ⟨E, hE, hEl, hEn⟩ := HO.out.next hb3
   have HO4 := Lib.hid (ho3.base hB.size)
   have HE := Lib.hid hE
   have HEN := Lib.hid (And.intro hEl hEn)
   have HM2 := Lib.hid (show M ++ [y] = (L.take (j + 1)).map fun z : Int => (z : Rat) by rw [hM.out, hy3.out, List.take_add_one, HZ.out]; simp)
   clear hE hEl hEn hy hb3 ho3
   go_wp2_with (at_builtin; refine wpList_append_own _ rfl _ _ 73 rfl w.heap.size 47 i0 (.agg #[.bool false, .slice none 0 0, .bool false, .slice none 0 0]) 4 64 Tryz.underlying73 hi hz0 hz1 hz2 rfl (by decide) _ _ _ rfl (HE.out.alloc _) ⟨W3.heap.size, 0, none⟩ 1 1 [.bool s3, .slice A3 n3 c3, .bool s4, .slice A4 n4 c4] rfl rfl (qcell_new _ _ _ _ _ _) (by simp [Value.oneCell']) (by unfold maxLen; omega) (by omega) (by have := hB3.size; simp; omega) ?_; intro v' w1 hown' hgrow _)
   have hmore := qs_more (e := ((s3, A3, n3, c3), (s4, A4, n4, c4))) (x := y) HO4.out rfl (HE.out.alloc _) HEN.out.1 HEN.out.2 hown' hgrow
   have HB5 := Lib.hid ((hB3.alloc hB3.size (.cells #[.bool s3, .slice A3 n3 c3, .bool s4, .slice A4 n4 c4] 47)).grown hgrow (by have := hB3.size; simp; omega) (own_block HE.out))
   obtain ⟨A5, c5, rfl, ho5⟩ := hmore
   clear hown' hgrow HE HEN HO4 hB3 hB
   go_wp2
   go_roundw
   case rel => exact ⟨j + 1, c5, A5, M ++ [y], rfl, by go_num, by omega, ho5, HM2, HB5.out⟩
   case measure => simp [intOf]; omega
set_option maxRecDepth 100000 in
set_option maxHeartbeats 4000000 in
theorem rSameAll_any {b b' : Nat} {A A' : Option Addr} {n c n' c' : Nat} {LL MM : List (List Rat)} {w : World} (h : OwPs w b A n c LL) (h' : OwPs w b' A' n' c' MM) (hn : n ≤ 1000) (hn' : n' ≤ 1000) :
  Calls Tryz.prog 14 #[.slice A n c, .slice A' n' c'] w (RetBo (LL = MM) w) := by
 have HO := Lib.hid (show ∀ W, Below w.heap.size w W → OwPs W b A n c LL ∧ OwPs W b' A' n' c' MM from fun W hb => ⟨h.next hb, h'.next hb⟩)
 have HL := Lib.hid (And.intro h.len h'.len)
 clear h h'
 go_enter Tryz.func14, Tryz.ntmps14
 by_cases hnn : n = n'
 case neg =>
  have hni : ¬((n : Int) = (n' : Int)) := by omega
  have HN := Lib.hid (show ¬LL = MM from fun e => hnn (by rw [← HL.out.1, ← HL.out.2, e]))
  go_wp2
  go_ret
  exact ⟨false, rfl, Lib.hid ⟨fun e => by simp at e, fun e => absurd e HN.out⟩, Below.refl _ _⟩
 subst hnn
 go_wp2_with fail
 go_loopw [13] (fun iv wr => ∃ i : Nat, iv = .int .i64 (i : Int) ∧ i ≤ n ∧ Hid (∀ j, j < i → LL[j]? = MM[j]?) ∧ Below w.heap.size w wr) (fun iv _ => n - (intOf iv).toNat)
 case atStart => exact ⟨0, rfl, Nat.zero_le _, Lib.hid fun j hj => absurd hj (Nat.not_lt_zero _), Below.refl _ _⟩
 case round =>
  obtain ⟨i, rfl, hi, hall, hB⟩ := hrel
  by_cases hin : i = n
  ·subst hin
   have HE := Lib.hid (show LL = MM from List.ext_getElem? fun j => by
    rcases Nat.lt_or_ge j i with h1 | h1
    ·exact hall.out j h1
    ·rw [List.getElem?_eq_none (by rw [HL.out.1]; exact h1), List.getElem?_eq_none (by rw [HL.out.2]; exact h1)])
   have HF := Lib.hid hB
   clear hall hB
   go_wp2
   go_ret
   exact ⟨true, rfl, Lib.hid ⟨fun _ => HE.out, fun _ => rfl⟩, HF.out⟩
  ·have hil : i < n := by omega
   have hili : (i : Int) < (n : Int) := by omega
   clear hin
   obtain ⟨g, A1, n1, c1, L1, rfl, hbk, hx, ho1, hp1⟩ := opl_at (HO.out wr hB).1 hil
   obtain ⟨g', A2, n2, c2, L2, rfl, hbk', hy, ho2, hp2⟩ := opl_at (HO.out wr hB).2 hil
   have HR := Lib.hid (show ∀ W, Below wr.heap.size wr W → RdRQ W W.heap.size A1 n1 c1 (L1.map ofQ) ∧ RdRQ W W.heap.size A2 n2 c2 (L2.map ofQ) from fun W hb => ⟨(ho1.next hb).rq, (ho2.next hb).rq⟩)
   have HCC := Lib.hid (show ∀ W, Below wr.heap.size wr W → W.cell? ⟨g, i, none⟩ = some (.slice A1 n1 c1) ∧ W.cell? ⟨g', i, none⟩ = some (.slice A2 n2 c2) from fun W hb => ⟨(hb.cell (p := ⟨g, i, none⟩) hbk).trans hx, (hb.cell (p := ⟨g', i, none⟩) hbk').trans hy⟩)
   have HPP := Lib.hid (And.intro hp1.out hp2.out)
   have HB := Lib.hid hB
   have HB6 := Lib.hid (Below.refl wr.heap.size wr).drew
   clear ho1 ho2 hp1 hp2 hB
   go_upto_region 6 with fail
   go_region_held3 (fun W => W.cell? ⟨g, i, none⟩ = some (.slice A1 n1 c1) ∧ W.cell? ⟨g', i, none⟩ = some (.slice A2 n2 c2))
    (first | exact HCC.out _ HB9.out | exact HCC.out _ HB6.out)
    ((go_at_call 58; refine (same09_any (HR.out _ HB6.out).1 (HR.out _ HB6.out).2).mono ?_; rintro _ W9 ⟨v9, rfl, hv9, hb9⟩; have HB9 := Lib.hid (HB6.out.trans (hb9.mono HB6.out.size)); have HV9 := Lib.hid (show v9 = true ↔ L1 = L2 by rw [hv9.out]; exact ⟨ofQ_list, fun e => by rw [e]⟩)))
   all_goals
    have HF := Lib.hid (HB.out.trans (HB9.out.mono HB.out.size))
    clear hx hy hv9 hb9
    cases v9
    case true =>
     have HA := Lib.hid (show ∀ j, j < i + 1 → LL[j]? = MM[j]? from fun j hj => by
      rcases Nat.lt_or_ge j i with h1 | h1
      ·exact hall.out j h1
      ·rw [show j = i by omega, HPP.out.1, HPP.out.2, HV9.out.1 rfl])
     clear hall HV9
     go_wp2
     go_roundw
     case rel => exact ⟨i + 1, by go_num, by omega, HA, HF.out⟩
     case measure => simp [intOf]; omega
    case false =>
     have HN := Lib.hid (show ¬LL = MM from fun e => by
      have e1 := HPP.out.1
      rw [e, HPP.out.2] at e1
      injection e1 with e1
      have := HV9.out.2 e1.symm
      simp at this)
     clear hall HV9
     go_wp2
     go_ret
     exact ⟨false, rfl, Lib.hid ⟨fun e => by simp at e, fun e => absurd e HN.out⟩, HF.out⟩
end Go.Proofs.YtjnklbfhelbjgaaGreat

/- similelaw17.lives: the document's examples are as it says. -/
namespace Go.Proofs.YtjnklbfhelbjgaaGreat
open Go.RowKit Go.IntWalk
attribute [local go_sem ↓] Go.wp_at_zero Go.wp_at_succ
def RetYes17 (w : World) (e : Ending) (w' : World) : Prop := e = .returned (.bool true) ∧ Below w.heap.size w w'
abbrev iq (Z : List Int) : List Rat := Z.map fun z : Int => (z : Rat)
theorem small_qs {Z : List Int} (h : ∀ z ∈ Z, z.natAbs < 4294967296) : ∀ x ∈ iq Z, Qs 1 x := fun x hx => by
 obtain ⟨z, hz, rfl⟩ := List.mem_map.1 hx
 exact Qs.int (Zz.zl_small (h z hz)) (Nat.le_refl _)
theorem live_words : sumD [iq [6, -5, 1]] = rD 2 2 (Mx.cmp (iq [6, -5, 1])) ∧ sumN [iq [6, -5, 1]] = rN 2 2 (Mx.cmp (iq [6, -5, 1])) := by decide +kernel
theorem live_com : cmS [iq [0, 1], iq [0, 0, 1]] 2 = 5 := by decide +kernel
theorem live_good1 : Good 1 [iq [6, -5, 1]] := ⟨fun p hp => by rw [List.mem_singleton.1 hp]; decide, fun p hp => by rw [List.mem_singleton.1 hp]; decide +kernel, fun p hp => by rw [List.mem_singleton.1 hp]; exact small_qs (by decide), by decide⟩
theorem live_good2 : Good 1 [iq [0, 1], iq [0, 0, 1]] := ⟨fun p hp => by
  rcases List.mem_cons.1 hp with rfl | hp
  ·decide
  ·rw [List.mem_singleton.1 hp]; decide, fun p hp => by
  rcases List.mem_cons.1 hp with rfl | hp
  ·decide +kernel
  ·rw [List.mem_singleton.1 hp]; decide +kernel, fun p hp => by
  rcases List.mem_cons.1 hp with rfl | hp
  ·exact small_qs (by decide)
  ·rw [List.mem_singleton.1 hp]; exact small_qs (by decide), by decide⟩
theorem live_isd : Pq.IsD (iq [0, 0, 1]) (iq [0, 1]) (iq [0, 1]) [] := by
 refine ⟨live_good2.nz _ (List.mem_cons_self ..), fun h => absurd rfl h, by decide, fun i => ?_⟩
 rcases Nat.lt_or_ge i 4 with h | h
 ·have key : ∀ i, i < 4 → Pq.co (iq [0, 0, 1]) i = Pq.cv (Pq.co (iq [0, 1])) (Pq.co (iq [0, 1])) i + Pq.co [] i := by decide +kernel
  exact key i h
 ·rw [Pq.co_ge (L := iq [0, 0, 1]) (by simp; omega), Pq.co_ge (L := []) (by simp), Pq.cv_up (Pq.up_co (iq [0, 1])) (Pq.up_co (iq [0, 1])) i (by simp; omega)]
  exact (Rat.add_zero 0).symm
theorem live_chn : Chn [iq [0, 1], iq [0, 0, 1]] := fun i hi => by
 have h0 : i = 0 := by simp at hi; omega
 subst h0
 exact .inr ⟨by decide, fun Q R h => (live_isd.unique (live_good2.nz _ (List.mem_cons_self ..)) h).2.symm⟩
set_option maxRecDepth 100000 in
set_option maxHeartbeats 8000000 in
theorem lives17_any (w : World) : Calls Tryz.prog 12 #[] w (RetYes17 w) := by
 go_enter Tryz.func12, Tryz.ntmps12
 go_wp2_with fail
 refine (lof17_any (RdK.new w _ [6, -5, 1] (by decide) (by decide) rfl rfl) (by decide)).mono ?_
 rintro _ W1 ⟨A1, n1, c1, M1, rfl, ho1, hM1, hb1⟩
 obtain rfl := hM1.out
 obtain rfl : n1 = 3 := ho1.len.symm
 have HB1 := Lib.hid (((Below.refl w.heap.size w).alloc (Nat.le_refl _) _).trans (hb1.mono (by simp)))
 have HO1 := Lib.hid (ho1.rd (N := 1) (small_qs (by decide)))
 clear hM1 hb1 ho1
 go_wp2_with fail
 refine (cOf_any HO1.out live_good1 (by decide) (Nat.le_refl _)).mono ?_
 rintro _ W2 ⟨s2, A2, n2, c2, G2, r2, k2, y2, MM2, kk2, rfl, ho2, hm2, hy2, hb2⟩
 obtain ⟨rfl, rfl, rfl⟩ := hy2.out
 obtain ⟨W3, HW3⟩ : ∃ W, W = W2.alloc (.cells #[.bool s2, .slice A2 n2 c2, .slice G2 r2 k2] 28) := ⟨_, rfl⟩
 have hb3 : Below W2.heap.size W2 W3 := by rw [HW3]; exact (Below.refl _ _).alloc (Nat.le_refl _) _
 have HM3 := Lib.hid (And.intro (show MC W3 W2.heap.size s2 A2 n2 c2 G2 r2 k2 by rw [HW3]; exact MC.new W2 s2 A2 n2 c2 G2 r2 k2) (And.intro (ho2.next hb3) (hm2.next hb3)))
 have HB3 := Lib.hid ((HB1.out.trans (hb2.mono HB1.out.size)).trans (hb3.mono (Nat.le_trans HB1.out.size hb2.size)))
 have hs3 : W3.heap.size = W2.heap.size + 1 := by rw [HW3]; simp
 have HW3 := Lib.hid HW3
 clear ho2 hm2 hy2 hb2 hb3
 go_wp2_with fail
 rw [← HW3.out]
 clear HW3
 clear HW3
 rw [← hs3]
 clear hs3
 generalize W2.heap.size = gm at *
 refine (lof17_any (RdK.new W3 _ [0, 1] (by decide) (by decide) rfl rfl) (by decide)).mono ?_
 rintro _ W4 ⟨A4, n4, c4, M4, rfl, ho4, hM4, hb4⟩
 obtain rfl := hM4.out
 obtain rfl : n4 = 2 := ho4.len.symm
 have HB34 := Lib.hid (((Below.refl W3.heap.size W3).alloc (Nat.le_refl _) _).trans (hb4.mono (by simp)))
 have HO4 := Lib.hid ho4
 clear hM4 hb4 ho4
 go_wp2_with fail
 refine (lof17_any (RdK.new W4 _ [0, 0, 1] (by decide) (by decide) rfl rfl) (by decide)).mono ?_
 rintro _ W5 ⟨A5, n5, c5, M5, rfl, ho5, hM5, hb5⟩
 obtain rfl := hM5.out
 obtain rfl : n5 = 3 := ho5.len.symm
 have hb45 := ((Below.refl W4.heap.size W4).alloc (Nat.le_refl _) _).trans (hb5.mono (by simp))
 have hr4 := (HO4.out.next hb45).rd (N := 1) (small_qs (by decide))
 have hr5 := ho5.rd (N := 1) (small_qs (by decide))
 obtain ⟨W6, HW6⟩ : ∃ W, W = W5.alloc (.cells #[.slice A4 2 c4, .slice A5 3 c5] 73) := ⟨_, rfl⟩
 have HPS := Lib.hid (ps_two (K := 3) hr4 hr5 (by decide) (Nat.le_refl _) HW6)
 have HB36 := Lib.hid (HB34.out.trans ((hb45.trans ((show Below W5.heap.size W5 W6 by rw [HW6]; exact (Below.refl _ _).alloc (Nat.le_refl _) _).mono hb45.size)).mono HB34.out.size))
 have HW6 := Lib.hid HW6
 clear hM5 hb5 hb45 ho5 hr4 hr5 HO4
 go_wp2_with fail
 rw [← HW6.out]
 clear HW6
 clear HW6
 refine (commuting_any (LL := [iq [0, 1], iq [0, 0, 1]]) HPS.out live_good2 (by decide) (Nat.le_refl _) live_chn).mono ?_
 rintro _ V ⟨v7, k7, rfl, hv7, hb7⟩
 obtain ⟨e7, rfl⟩ := hv7.out
 obtain rfl : v7 = 5 := e7.trans live_com
 have hb37 := HB36.out.trans (hb7.mono HB36.out.size)
 have HBV := Lib.hid (HB3.out.trans (hb37.mono HB3.out.size))
 have HMV := Lib.hid (show ∀ W, Below V.heap.size V W → MC W gm s2 A2 n2 c2 G2 r2 k2 ∧ OwZ W W1.heap.size s2 A2 n2 c2 (sumD [iq [6, -5, 1]]) ∧ OwMs W W1.heap.size G2 r2 k2 (sumN [iq [6, -5, 1]]) from fun W hb => ⟨(HM3.out.1.next hb37).next hb, (HM3.out.2.1.next hb37).next hb, (HM3.out.2.2.next hb37).next hb⟩)
 clear hv7 e7 hb7 hb37
 have HBD := Lib.hid (Below.refl V.heap.size V).drew
 have HCX := Lib.hid (show ∀ W, Below V.heap.size V W → W.cell? ⟨gm, 0, none⟩ = some (.bool s2) ∧ W.cell? ⟨gm, 1, none⟩ = some (.slice A2 n2 c2) ∧ W.cell? ⟨gm, 2, none⟩ = some (.slice G2 r2 k2) from fun W hb => ⟨(HMV.out W hb).1.c0, (HMV.out W hb).1.c1, (HMV.out W hb).1.c2⟩)
 have HBA := Lib.hid (show ∀ o, Below V.heap.size V (V.alloc o).drew from fun o => ((Below.refl V.heap.size V).alloc (Nat.le_refl _) _).drew)
 have HRK := Lib.hid (show ∀ t, RdK (V.alloc (.cells #[.int .i64 6, .int .i64 (-5), .int .i64 1] t)).drew (V.alloc (.cells #[.int .i64 6, .int .i64 (-5), .int .i64 1] t)).drew.heap.size (some ⟨V.heap.size, 0, none⟩) 3 3 [6, -5, 1] from fun t => (RdK.new V t [6, -5, 1] (by decide) (by decide) rfl rfl).next (Below.refl _ _).drew)
 have hgoodp : (∀ i, i < 2 → ∀ k, k < 2 → Qs 1 (Mx.cmp (iq [6, -5, 1]) i k)) := fun i _ k _ => cmp_sz (small_qs (by decide)) (Nat.le_refl _) i k
 have HGP := Lib.hid hgoodp
 clear hgoodp
 obtain ⟨x0, x1, x2⟩ := HCX.out _ (Below.refl _ _)
 go_upto_region 3 with fail
 go_region_held3 (fun w' => w'.cell? ⟨gm, 0, none⟩ = some (.bool s2) ∧ w'.cell? ⟨gm, 1, none⟩ = some (.slice A2 n2 c2) ∧ w'.cell? ⟨gm, 2, none⟩ = some (.slice G2 r2 k2))
  (first | exact HCX.out _ HB10.out | exact HCX.out _ HB9.out | exact HCX.out _ HB8.out | exact HCX.out _ HBD.out | exact HCX.out _ (HBA.out _))
  (first
   | (go_at_call 48; refine (lof17_any (HRK.out _) (by decide)).mono ?_; rintro _ W8 ⟨A8, n8, c8, M8, rfl, ho8, hM8, hb8⟩; obtain rfl := hM8.out; obtain rfl : n8 = 3 := ho8.len.symm; have HB8 : Hid (Below V.heap.size V W8) := Lib.hid ((HBA.out _).trans (hb8.mono (HBA.out _).size)); have HO8 := Lib.hid ho8; clear hM8 hb8 ho8)
   | (go_at_call 50; refine (rOf_any (n := 2) (HO8.out.rd (N := 1) (small_qs (by decide))) (live_good1.nz _ (List.mem_cons_self ..)) rfl (small_qs (by decide)) (by decide) (Nat.le_refl _) (by decide)).mono ?_; rintro _ W9 ⟨s9, A9, n9, c9, G9, r9, k9, y9, MM9, rfl, ho9, hm9, hy9, hb9⟩; have HB9 := Lib.hid (HB8.out.trans (hb9.mono HB8.out.size)); have HM9 := Lib.hid (And.intro ho9 hm9); have HY9 := hy9; clear hb9 ho9 hm9)
   | (go_at_call 10; refine (rMSame_any (HMV.out _ HB9.out).2.1.own.rd ((HMV.out _ HB9.out).2.2.rd (K := 2) (N := 20000000000) (by rw [live_words.2]; exact rN_sz HGP.out (by decide) (by decide) (by decide))) HM9.out.1.own.rd (HM9.out.2.rd (K := 2) (N := 20000000000) (by rw [HY9.out.2]; exact rN_sz HGP.out (by decide) (by decide) (by decide))) (by rw [← (HMV.out _ HB9.out).2.2.len, live_words.2, rN_len]; decide)).mono ?_; rintro _ W10 ⟨b10, rfl, hv10, hb10⟩; obtain rfl : b10 = true := hv10.out.2 (by rw [(HMV.out _ HB9.out).2.1.sgn, HM9.out.1.sgn, HY9.out.1, HY9.out.2, live_words.1, live_words.2]; exact ⟨rfl, rfl⟩); have HB10 := Lib.hid (HB9.out.trans (hb10.mono HB9.out.size)); clear hv10 hb10))
 all_goals
  have HBE := Lib.hid (HBV.out.trans (HB10.out.mono HBV.out.size))
  go_wp2
  go_ret
  exact ⟨rfl, HBE.out⟩
end Go.Proofs.YtjnklbfhelbjgaaGreat

/- Reference 11: Copy. -/
namespace Go.Proofs.YtjnklbfhelbjgaaGreat
open Go.RowKit Go.IntWalk
attribute [local go_sem ↓] Go.wp_at_zero Go.wp_at_succ
def RetMW (r0 : Bool × List Nat) (RR : List RawRow) (w : World) (e : Ending) (w' : World) : Prop :=
 ∃ (s : Bool) (A : Option Addr) (n c : Nat) (G : Option Addr) (r k : Nat) (M : List Nat), e = .returned (.agg #[.bool s, .slice A n c, .slice G r k]) ∧ OwU w' w.heap.size A n c M ∧ OwRss w' w.heap.size G r k RR ∧ Hid ((s, M) = r0) ∧ Below w.heap.size w w'
set_option maxRecDepth 100000 in
set_option maxHeartbeats 8000000 in
theorem rMCopy_any {N K : Nat} {s : Bool} {A G : Option Addr} {n c r k : Nat} {M : List Nat} {RR : List RawRow} {w : World} (h : RdU w w.heap.size A n c M) (h' : RdRss w w.heap.size N K G r k RR) (hn : n ≤ 4398046511103) (hr : r ≤ 1048576) (hN : N ≤ 4398046511103) (hK : K ≤ 4398046511103) :
  Calls Tryz.prog 7 #[.agg #[.bool s, .slice A n c, .slice G r k]] w (RetMW (s, M) RR w) := by
 obtain ⟨W1, HW1⟩ : ∃ W, W = (w.alloc (.cells #[.bool s, .slice A n c, .slice G r k] 28)).alloc (.cells #[.bool false, .slice none 0 0, .slice none 0 0] 28) := ⟨_, rfl⟩
 have hb0 : Below w.heap.size w (w.alloc (.cells #[.bool s, .slice A n c, .slice G r k] 28)) := (Below.refl _ _).alloc (Nat.le_refl _) _
 have hM : MC W1 w.heap.size s A n c G r k := by rw [HW1]; exact (MC.new w s A n c G r k).next ((Below.refl _ _).alloc (Nat.le_refl _) _)
 have hZ : MC W1 (w.heap.size + 1) false none 0 0 none 0 0 := by rw [HW1]; have := MC.new (w.alloc (.cells #[.bool s, .slice A n c, .slice G r k] 28)) false none 0 0 none 0 0; simpa using this
 have hB : Below w.heap.size w W1 := by rw [HW1]; exact hb0.alloc hb0.size _
 obtain ⟨i0, hi, hz0, hz1, hz2⟩ := info_parts infoIs
 have HM := Lib.hid (And.intro hM hZ)
 have HB := Lib.hid hB
 have HX := Lib.hid (And.intro (h.next hB) (h'.next hB))
 have HL := Lib.hid h'.len
 have HRR := Lib.hid (show ∀ W, Below w.heap.size w W → RdRss W W.heap.size N K G r k RR from fun W hb => h'.next hb)
 have m0 := hM.c0
 have m1 := hM.c1
 rw [HW1] at m0 m1
 have HW1 := Lib.hid HW1
 clear h h' hM hZ hB hb0
 go_enter Tryz.func7, Tryz.ntmps7
 go_wp2_with fail
 rw [← HW1.out]
 clear HW1
 clear HW1
 clear m0 m1
 refine (rICopy_any (s := s) HX.out.1 hn).mono ?_
 rintro _ W2 ⟨s2, A2, n2, c2, M2, rfl, ho2, hv2, hb2⟩
 obtain ⟨W3, HW3⟩ : ∃ W, W = W2.alloc (.cells #[.bool s2, .slice A2 n2 c2, .slice none 0 0] 28) := ⟨_, rfl⟩
 have hb3 : Below W2.heap.size W2 W3 := by rw [HW3]; exact (Below.refl _ _).alloc (Nat.le_refl _) _
 have hO3 : MC W3 W2.heap.size s2 A2 n2 c2 none 0 0 := by rw [HW3]; exact MC.new W2 s2 A2 n2 c2 none 0 0
 have hb13 := hb2.trans (hb3.mono hb2.size)
 have HR3 := Lib.hid (HX.out.2.next hb13)
 have HZ3 := Lib.hid (HM.out.2.next hb13)
 have HB3 := Lib.hid (HB.out.trans (hb13.mono HB.out.size))
 have HO2 := Lib.hid ((ho2.next hb3).base (b' := w.heap.size) HB.out.size)
 have m2 := ((HM.out.1.next hb2).alloc (.cells #[.bool s2, .slice A2 n2 c2, .slice none 0 0] 28)).c2
 have hlt3 := hO3.lt
 have hz3 := HZ3.out.lt
 have HGZ := Lib.hid (show W2.heap.size ≠ w.heap.size + 1 ∧ w.heap.size + 1 ≤ W2.heap.size from by have h1 := HM.out.2.lt; have h2 := hb2.size; omega)
 have HW3 := Lib.hid HW3
 clear hb2 hb3 hb13 ho2
 generalize hg3 : W2.heap.size = g3 at *
 go_wp2_with fail
 rw [← HW3.out]
 clear HW3 m2
 clear HW3
 clear HR3 HX
 go_loopw [13] (fun iv wr => ∃ (j : Nat) (A' : Option Addr) (c' : Nat), iv = .int .i64 (j : Int) ∧ j ≤ r ∧ MC wr g3 s2 A2 n2 c2 A' j c' ∧ MC wr (w.heap.size + 1) false none 0 0 none 0 0 ∧ OwU wr w.heap.size A2 n2 c2 M2 ∧ OwRss wr W3.heap.size A' j c' (RR.take j) ∧ Below w.heap.size w wr ∧ W3.heap.size ≤ wr.heap.size) (fun iv _ => r - (intOf iv).toNat)
 case atStart => exact ⟨0, none, 0, rfl, Nat.zero_le _, hO3, HZ3.out, HO2.out, OwRss.nil _ _, HB3.out, Nat.le_refl _⟩
 case round =>
  clear hO3
  obtain ⟨j, A', c', rfl, hj, hMg, hMz, hou, hor, hB, hsz⟩ := hrel
  by_cases hjr : j = r
  ·have HOR := Lib.hid (show OwRss wr W3.heap.size A' j c' RR by rw [← List.take_of_length_le (l := RR) (i := j) (by rw [HL.out, hjr]; exact Nat.le_refl _)]; exact hor)
   subst hjr
   have a0 := hMg.c0
   have a1 := hMg.c1
   have a2 := hMg.c2
   have r0 := hMz.c0
   have r1 := hMz.c1
   have r2 := hMz.c2
   have f0 := hMz.fz 0
   have f1 := hMz.fz 1
   have f2 := hMz.fz 2
   have HS := Lib.hid (hMz.store s2 A2 n2 c2 A' j c')
   have HU := Lib.hid (hou.keep (keepI_put hMz s2 A2 n2 c2 A' j c').1)
   have HQ := Lib.hid ((HOR.out.put hMz (show w.heap.size + 1 < W3.heap.size from hz3) s2 A2 n2 c2 A' j c').base (b' := w.heap.size) HB3.out.size)
   have HF := Lib.hid (below_putM hB (show w.heap.size ≤ w.heap.size + 1 by omega) s2 A2 n2 c2 A' j c')
   unfold putM at HS HU HQ HF
   clear hMg hMz hou hor hB
   go_wp2_with fail
   generalize ((wr.setCell ⟨w.heap.size + 1, 0, none⟩ (.bool s2)).setCell ⟨w.heap.size + 1, 1, none⟩ (.slice A2 n2 c2)).setCell ⟨w.heap.size + 1, 2, none⟩ (.slice A' j c') = W9 at *
   have z0 := HS.out.c0
   have z1 := HS.out.c1
   have z2 := HS.out.c2
   exact bodyPost_ret (by simp [results, Tryz.results7, go_sem, z0, z1, z2]) rfl ⟨s2, A2, n2, c2, A', j, c', M2, rfl, HU.out, HQ.out, hv2, HF.out⟩
  ·have hjl : j < r := by omega
   have hjli : (j : Int) < (r : Int) := by omega
   clear hjr
   obtain ⟨ad, A1, n1, c1, R, rfl, hbk, hx, hr1, hn1, hp⟩ := rss_at (HRR.out wr hB) hjl
   have HMG := Lib.hid (And.intro hMg hMz)
   have HOU := Lib.hid hou
   have HOR := Lib.hid hor
   have HBW := Lib.hid hB
   have HD := Lib.hid (Below.refl wr.heap.size wr).drew
   have HSZ := Lib.hid hsz
   have m2 := hMg.c2
   have HJL := Lib.hid (show j + 1 ≤ 1048576 by omega)
   clear hMg hMz hou hor hB
   go_upto_region 5 with fail
   go_region_law (first
    | (refine step_append_sl rfl _ _ 26 rfl W3.heap.size 65 i0 (.slice none 0 0) 1 24 Tryz.underlying26 hi hz0 hz1 hz2 rfl (by decide) _ _ _ rfl (HE.out.alloc _) (some ⟨W5.heap.size, 0, none⟩) 1 1 [.slice A5 n5 c5] rfl rfl (fun e => by cases e) (fun ad e => by cases e; exact pcell_new _ _ _) (by simp [Value.oneCell']) (by have := HJL.out; unfold maxLen; omega) (by have := HJL.out; omega) (by have h1 := HB5.out.size; have h2 := HSZ.out; simp; omega) ?_; intro A9 c9 W9 hown9 hgrow9; have hM9 := MC.grown (HM5.out.1.alloc (.cells #[.slice A5 n5 c5] 65)) (HE.out.alloc _) hgrow9; have m9 := hM9.c2; have f9 := hM9.fz 2)
    | (go_simp; go_at_call 33; refine (rCopyAll_own (hr1.next HD.out) (by omega) hN).mono ?_; rintro _ W5 ⟨A5, n5, c5, rfl, ho5, hb5⟩; have HB5 := Lib.hid (HD.out.trans hb5); have HM5 := Lib.hid (And.intro (HMG.out.1.next HB5.out) (HMG.out.2.next HB5.out)); obtain ⟨E, hE, hEl, hEn⟩ := HOR.out.next HB5.out; have HE := Lib.hid hE; have HEN := Lib.hid (And.intro hEl hEn); have HO5 := Lib.hid (ho5.base (b' := W3.heap.size) HSZ.out); have HU5 := Lib.hid (HOU.out.next HB5.out); have m5 := HM5.out.1.c2; have m6 := (HM5.out.1.alloc (.cells #[.slice A5 n5 c5] 65)).c2; clear hE hEl hEn ho5 hb5))
   all_goals
    obtain ⟨A0, k0, e0, ho9⟩ := rss_more (e := (A5, n5, c5)) (L := R) HO5.out rfl (HE.out.alloc _) HEN.out.1 (HEN.out.2.next ((Below.refl _ _).alloc (Nat.le_refl _) (.cells #[.slice A5 n5 c5] 65))) hown9 hgrow9
    injection e0 with e1 e2 e3
    subst e1 e3
    have hk9 := keepI_grown (HE.out.alloc _) hgrow9
    have HMZ := Lib.hid ((MC.grown (HM5.out.2.alloc (.cells #[.slice A5 n5 c5] 65)) (HE.out.alloc _) hgrow9).far (p := ⟨g3, 2, none⟩) (Ne.symm HGZ.out.1) (.slice A9 (j + 1) c9))
    have HNM := Lib.hid (hM9.num A9 (j + 1) c9)
    have HU9 := Lib.hid (((HU5.out.next ((Below.refl _ _).alloc (Nat.le_refl _) (.cells #[.slice A5 n5 c5] 65))).keep hk9.1).keep (keepI_mc hM9 2 (.slice A9 (j + 1) c9)).1)
    have HTK := Lib.hid (show (RR.take j) ++ [R] = RR.take (j + 1) by rw [List.take_add_one, hp.out]; rfl)
    have HO9 := Lib.hid (show OwRss (W9.setCell ⟨g3, 2, none⟩ (.slice A9 (j + 1) c9)) W3.heap.size A9 (j + 1) c9 (RR.take (j + 1)) by rw [← HTK.out]; exact ho9.num hM9 hlt3 (.slice A9 (j + 1) c9))
    have hbw := HBW.out.trans (HB5.out.mono HBW.out.size)
    have hb9 := (hbw.alloc hbw.size (.cells #[.slice A5 n5 c5] 65)).grown hgrow9 (by have := hbw.size; simp; omega) (fun k e => Nat.le_trans HB3.out.size (own_block HE.out k e))
    have HBF := Lib.hid (hb9.setCell (p := ⟨g3, 2, none⟩) (by have := HGZ.out.2; simp only []; omega) (.slice A9 (j + 1) c9))
    have h39 : Below W3.heap.size W3 W3 := Below.refl _ _
    have HS9 := Lib.hid (show W3.heap.size ≤ (W9.setCell ⟨g3, 2, none⟩ (.slice A9 (j + 1) c9)).heap.size from by
     have hbx := ((Below.refl W3.heap.size W5).alloc (Nat.le_trans HSZ.out HB5.out.size) (.cells #[.slice A5 n5 c5] 65)).grown hgrow9 (by have h1 := HB5.out.size; have h2 := HSZ.out; simp; omega) (own_block HE.out)
     have h1 := hbx.size
     have h2 := HB5.out.size
     have h3 := HSZ.out
     simp [World.setCell]
     omega)
    clear hown9 hgrow9 hM9 m9 f9 m2 m5 m6 hx hr1 hb9 hbw hk9 ho9 h39
    go_wp2
    go_roundw
    case rel => exact ⟨j + 1, A9, c9, by go_num, by omega, HNM.out, HMZ.out, HU9.out, HO9.out, HBF.out, HS9.out⟩
    case measure => simp [intOf]; omega
end Go.Proofs.YtjnklbfhelbjgaaGreat

/- The law of chapter 17. -/
namespace Go.Proofs.YtjnklbfhelbjgaaGreat
open Go.RowKit Go.IntWalk
attribute [local go_sem ↓] Go.wp_at_zero Go.wp_at_succ
theorem evn_sum {RR : List RawRow} (h : Evn RR) : RR.length * colsOf RR = (RR.map fun R => R.length).sum := by
 have key : ∀ (q : Nat) (L : List RawRow), (∀ R ∈ L, R.length = q) → L.length * q = (L.map fun R => R.length).sum := fun q L => by
  induction L with
  | nil => intro _; simp
  | cons R L ih =>
    intro hh
    rw [List.length_cons, Nat.succ_mul, ih fun M hM => hh M (List.mem_cons_of_mem _ hM), List.map_cons, List.sum_cons, hh R (List.mem_cons_self ..)]
    omega
 exact key _ RR h
set_option maxRecDepth 100000 in
set_option maxHeartbeats 8000000 in
theorem walk_CompanionReads {s : Bool} {A G : Option Addr} {n c q k : Nat} {M : List Nat} {RR : List RawRow} {w : World} (h : RdU w w.heap.size A n c M) (h' : RdRss w w.heap.size 1048576 1048576 G q k RR) (hn : n ≤ 1048576) (hq : q ≤ 1048576) (hsum : (RR.map fun R => R.length).sum ≤ 1048576) :
  Calls Tryz.prog 3 #[.agg #[.bool s, .slice A n c, .slice G q k]] w (RetYes17 w) := by
 obtain ⟨d, hd⟩ : ∃ d, d = toZ (s, M) := ⟨_, rfl⟩
 have HL := Lib.hid h'.len
 have HRK := Lib.hid (show Evn RR → q * colsOf RR ≤ 1048576 from fun e => by rw [← HL.out, evn_sum e]; exact hsum)
 obtain ⟨W1, HW1⟩ : ∃ W, W = w.alloc (.cells #[.bool s, .slice A n c, .slice G q k] 28) := ⟨_, rfl⟩
 have hM : MC W1 w.heap.size s A n c G q k := by rw [HW1]; exact MC.new w s A n c G q k
 have HB1 := Lib.hid (show Below w.heap.size w W1 by rw [HW1]; exact (Below.refl _ _).alloc (Nat.le_refl _) _)
 have HX := Lib.hid (show ∀ W, Below W1.heap.size W1 W → MC W w.heap.size s A n c G q k ∧ RdU W W.heap.size A n c M ∧ RdRss W W.heap.size 1048576 1048576 G q k RR from fun W hb => ⟨hM.next hb, (h.next HB1.out).next hb, (h'.next HB1.out).next hb⟩)
 have HZ := Lib.hid (show ∀ (W : World) (s' : Bool) (A' : Option Addr) (n' c' : Nat) (M' : List Nat), (s', M') = (s, M) → RdU W W.heap.size A' n' c' M' → RdZ W W.heap.size s' A' n' c' d from fun W s' A' n' c' M' e hr => by
  injection e with e1 e2
  subst e1 e2
  exact ⟨_, hr, hd⟩)
 have m0 := hM.c0
 have m1 := hM.c1
 have m2 := hM.c2
 rw [HW1] at m0 m1 m2
 have HW1 := Lib.hid HW1
 clear h h' hM hd hsum
 go_enter Tryz.func3, Tryz.ntmps3
 go_wp2_with fail
 rw [← HW1.out]
 clear HW1 m0 m1 m2
 clear HW1
 refine (rMCopy_any (s := s) (HX.out _ (Below.refl _ _)).2.1 (HX.out _ (Below.refl _ _)).2.2 (by omega) hq (by decide) (by decide)).mono ?_
 rintro _ W2 ⟨s2, A2, n2, c2, G2, r2, k2, M2, rfl, ho2, hr2, he2, hb2⟩
 have hr2l : r2 = q := by rw [← hr2.len, HL.out]
 subst hr2l
 have hrd2 : RdRss W2 W2.heap.size 1048576 1048576 G2 r2 k2 RR := by
  have hsz : ∀ R ∈ RR, R.length ≤ 1048576 ∧ ∀ x ∈ R, x.2.length ≤ 1048576 := fun R hR => by
   obtain ⟨i, hi⟩ := List.getElem?_of_mem hR
   obtain ⟨ad, A1, n1, c1, _, _, _, k4, k5⟩ := (HX.out _ (Below.refl _ _)).2.2.at_ i R hi
   refine ⟨by rw [k4.len]; exact k5, fun x hx => ?_⟩
   obtain ⟨t, ht⟩ := List.getElem?_of_mem hx
   obtain ⟨_, _, n', _, _, _, _, _, j5, j6⟩ := k4.at_ t x ht
   rw [j5.len]
   exact j6
  rcases hr2.form with ⟨_, h0, h1⟩ | ⟨_, _, _, _, h3, h4⟩
  ·exact hr2.rd hsz (by omega) (by omega)
  ·exact hr2.rd hsz h4 h3
 obtain ⟨W3, HW3⟩ : ∃ W, W = W2.alloc (.cells #[.bool s2, .slice A2 n2 c2, .slice G2 r2 k2] 28) := ⟨_, rfl⟩
 have hb3 : Below W2.heap.size W2 W3 := by rw [HW3]; exact (Below.refl _ _).alloc (Nat.le_refl _) _
 have hM3 : MC W3 W2.heap.size s2 A2 n2 c2 G2 r2 k2 := by rw [HW3]; exact MC.new W2 s2 A2 n2 c2 G2 r2 k2
 have hb13 := hb2.trans (hb3.mono hb2.size)
 have HE2 := Lib.hid he2.out
 have HN2 := Lib.hid (show n2 ≤ 1048576 by
  have e := he2.out
  injection e with _ e
  have h1 := ho2.rd.len
  have h2 := (HX.out _ (Below.refl _ _)).2.1.len
  rw [e] at h1
  omega)
 have HY := Lib.hid (show ∀ W, Below W3.heap.size W3 W → (MC W w.heap.size s A n c G r2 k ∧ RdU W W.heap.size A n c M ∧ RdRss W W.heap.size 1048576 1048576 G r2 k RR) ∧ (MC W W2.heap.size s2 A2 n2 c2 G2 r2 k2 ∧ RdU W W.heap.size A2 n2 c2 M2 ∧ RdRss W W.heap.size 1048576 1048576 G2 r2 k2 RR) ∧ Below w.heap.size w W from fun W hb => by
  have h1 := hb13.trans (hb.mono hb13.size)
  exact ⟨HX.out W h1, ⟨hM3.next hb, (ho2.rd.next hb3).next hb, (hrd2.next hb3).next hb⟩, HB1.out.trans (h1.mono HB1.out.size)⟩)
 have a0 := hM3.c0
 have a1 := hM3.c1
 have a2 := hM3.c2
 rw [HW3] at a0 a1 a2
 have HW3 := Lib.hid HW3
 clear ho2 hr2 he2 hb2 hb3 hb13 hM3 hrd2
 go_wp2_with fail
 rw [← HW3.out]
 clear HW3 a0 a1 a2
 clear HW3
 generalize W2.heap.size = g3 at *
 refine (cRead_any (N := 1048576) (K := 1048576) (HZ.out _ _ _ _ _ _ HE2.out (HY.out _ (Below.refl _ _)).2.1.2.1) (HY.out _ (Below.refl _ _)).2.1.2.2 HN2.out (by decide) (by decide) hq (Nat.le_refl _) HRK.out).mono ?_
 rintro _ W4 ⟨A4, n4, c4, LL, b4, kk4, rfl, ho4, hv4, hb4⟩
 have HB4 := Lib.hid hb4
 have HO4 := Lib.hid (show ∀ W, Below W4.heap.size W4 W → OwPs W W3.heap.size A4 n4 c4 LL from fun W hb => ho4.next hb)
 have HL4 := Lib.hid ho4.len
 obtain ⟨b0, b1, b2⟩ := show _ ∧ _ ∧ _ from ⟨(HY.out _ hb4).2.1.1.c0, (HY.out _ hb4).2.1.1.c1, (HY.out _ hb4).2.1.1.c2⟩
 clear ho4 hb4
 go_wp2_with fail
 clear b0 b1 b2
 refine (isForm_any (N := 1048576) (K := 1048576) (HZ.out _ _ _ _ _ _ HE2.out (HY.out _ HB4.out).2.1.2.1) (HY.out _ HB4.out).2.1.2.2 HN2.out (by decide) (by decide) hq (Nat.le_refl _) HRK.out).mono ?_
 rintro _ W5 ⟨b5, kk5, rfl, hv5, hb5⟩
 have HB5 := Lib.hid (HB4.out.trans (hb5.mono HB4.out.size))
 have HB45 := Lib.hid hb5
 obtain ⟨⟨p0, p1, p2⟩, b0, b1, b2⟩ := show (_ ∧ _ ∧ _) ∧ _ ∧ _ ∧ _ from ⟨⟨(HY.out _ HB5.out).1.1.c0, (HY.out _ HB5.out).1.1.c1, (HY.out _ HB5.out).1.1.c2⟩, (HY.out _ HB5.out).2.1.1.c0, (HY.out _ HB5.out).2.1.1.c1, (HY.out _ HB5.out).2.1.1.c2⟩
 clear hb5
 go_wp2_with fail
 clear b0 b1 b2 p0 p1 p2
 refine (rMSame_any (HY.out _ HB5.out).2.1.2.1 (HY.out _ HB5.out).2.1.2.2 (HY.out _ HB5.out).1.2.1 (HY.out _ HB5.out).1.2.2 hq).mono ?_
 rintro _ W6 ⟨b6, rfl, hv6, hb6⟩
 obtain rfl : b6 = true := hv6.out.2 ⟨HE2.out, rfl⟩
 have HB6 := Lib.hid (HB5.out.trans (hb6.mono HB5.out.size))
 have HB46 := Lib.hid (HB45.out.trans (hb6.mono HB45.out.size))
 obtain ⟨p0, p1, p2⟩ := show _ ∧ _ ∧ _ from ⟨(HY.out _ HB6.out).1.1.c0, (HY.out _ HB6.out).1.1.c1, (HY.out _ HB6.out).1.1.c2⟩
 clear hb6 hv6
 go_wp2_with fail
 clear p0 p1 p2
 refine (rFit_any (N := 1048576) (HZ.out _ _ _ _ _ _ rfl (HY.out _ HB6.out).1.2.1) (HY.out _ HB6.out).1.2.2 hn (by decide) (by decide) hq).mono ?_
 rintro _ W7 ⟨v, rfl, hv7, hb7⟩
 have HB7 := Lib.hid (HB6.out.trans (hb7.mono HB6.out.size))
 have HB47 := Lib.hid (HB46.out.trans (hb7.mono HB46.out.size))
 have HV7 := Lib.hid hv7.out
 clear hb7 hv7
 by_cases h0 : v = 0
 case neg =>
  have hvb : (v == 0) = false := by simp [h0]
  have hf : fitv d RR ≠ 0 := by rw [← HV7.out]; exact h0
  obtain ⟨rfl, rfl, rfl⟩ : LL = [] ∧ b4 = false ∧ kk4 = v := by
   rcases hv4.out with ⟨_, e1, e2, e3⟩ | ⟨e0, _⟩
   ·exact ⟨e1, e2, by rw [e3, HV7.out]⟩
   ·exact absurd e0 hf
  obtain ⟨rfl, rfl⟩ : b5 = false ∧ kk5 = kk4 := by
   rcases hv5.out with ⟨_, e1, e2⟩ | ⟨e0, _⟩
   ·exact ⟨e1, by rw [e2, HV7.out]⟩
   ·exact absurd e0 hf
  obtain rfl : n4 = 0 := HL4.out.symm
  clear hv4 hv5 hf
  go_wp2_with fail
  refine (lives17_any W7).mono ?_
  rintro _ W8 ⟨rfl, hb8⟩
  have HB8 := Lib.hid (HB7.out.trans (hb8.mono HB7.out.size))
  have HF := Lib.hid (HY.out _ HB8.out).2.2
  clear hb8
  go_wp2
  go_ret
  exact ⟨rfl, HF.out⟩
 subst h0
 have hf0 : fitv d RR = 0 := HV7.out.symm
 have HF := Lib.hid (fits_of hf0)
 obtain ⟨rfl, MM, hrd, hcase⟩ : kk4 = 0 ∧ ∃ MM, Mx.IsRd (me d RR) RR.length RR.length MM ∧ ((ent d RR = Mx.tab RR.length RR.length (Mx.ds MM) ∧ b4 = true ∧ LL = MM) ∨ (¬ent d RR = Mx.tab RR.length RR.length (Mx.ds MM) ∧ b4 = false ∧ LL = [])) := by
  rcases hv4.out with ⟨e0, _⟩ | ⟨_, e1, e2⟩
  ·exact absurd hf0 e0
  ·exact ⟨e1, e2⟩
 obtain ⟨rfl, MM5, hrd5, hcase5⟩ : kk5 = 0 ∧ ∃ MM, Mx.IsRd (me d RR) RR.length RR.length MM ∧ (b5 = true ↔ ent d RR = Mx.tab RR.length RR.length (Mx.ds MM) ∧ Chn MM) := by
  rcases hv5.out with ⟨e0, _⟩ | ⟨_, e1, e2⟩
  ·exact absurd hf0 e0
  ·exact ⟨e1, e2⟩
 obtain rfl : MM5 = MM := hrd5.uniq hrd
 have HRD := Lib.hid hrd
 have HC4 := Lib.hid hcase
 have HC5 := Lib.hid hcase5
 obtain ⟨p0, p1, p2⟩ := show _ ∧ _ ∧ _ from ⟨(HY.out _ HB7.out).1.1.c0, (HY.out _ HB7.out).1.1.c1, (HY.out _ HB7.out).1.1.c2⟩
 clear hv4 hv5 hf0 hrd hrd5 hcase hcase5
 go_wp2_with fail
 clear p0 p1 p2
 refine (rRead_any (HZ.out _ _ _ _ _ _ rfl (HY.out _ HB7.out).1.2.1) (HY.out _ HB7.out).1.2.2 (by omega) (by decide) HF.out).mono ?_
 rintro _ W8 ⟨A8, n8, c8, LR, b8, rfl, ho8, hv8, hb8⟩
 obtain ⟨MR, hrdr, hcr⟩ := hv8.out
 obtain rfl : MR = MM5 := hrdr.uniq HRD.out
 have HB8 := Lib.hid (HB7.out.trans (hb8.mono HB7.out.size))
 have HO8 := Lib.hid ((HO4.out _ (HB47.out.trans (hb8.mono HB47.out.size))))
 obtain ⟨rfl, rfl⟩ : b8 = b4 ∧ LR = LL := by
  rcases hcr with ⟨e1, e2, e3⟩ | ⟨e1, e2, e3⟩ <;> rcases HC4.out with ⟨f1, f2, f3⟩ | ⟨f1, f2, f3⟩
  ·exact ⟨by rw [e2, f2], by rw [e3, f3]⟩
  ·exact absurd e1 f1
  ·exact absurd f1 e1
  ·exact ⟨by rw [e2, f2], by rw [e3, f3]⟩
 have HG := Lib.hid (rd_good HF.out HRD.out)
 have HLC := Lib.hid (show LR.length ≤ 24 by
  rcases HC4.out with ⟨_, _, f3⟩ | ⟨_, _, f3⟩
  ·rw [f3]; exact HG.out.count
  ·rw [f3]; exact Nat.zero_le _)
 have HNN := Lib.hid (show n4 ≤ 1000 ∧ n8 ≤ 1000 from ⟨by have := HL4.out; have := HLC.out; omega, by have := ho8.len; have := HLC.out; omega⟩)
 have HR8 := Lib.hid ho8
 clear hv8 hb8 hrdr hcr ho8
 go_wp2_with fail
 refine (rSameAll_any HO8.out HR8.out HNN.out.1 HNN.out.2).mono ?_
 rintro _ W9 ⟨b9, rfl, hv9, hb9⟩
 obtain rfl : b9 = true := hv9.out.2 rfl
 have HB9 := Lib.hid (HB8.out.trans (hb9.mono HB8.out.size))
 have HR9 := Lib.hid (HR8.out.next hb9)
 clear hv9 hb9
 cases b8
 case false =>
  have hb5f : b5 = false := by
   rcases HC4.out with ⟨_, f2, _⟩ | ⟨f1, _, _⟩
   ·cases f2
   ·cases b5
    ·rfl
    ·exact absurd (HC5.out.1 rfl).1 f1
  subst hb5f
  go_wp2_with fail
  refine (lives17_any W9).mono ?_
  rintro _ W10 ⟨rfl, hb10⟩
  have HB10 := Lib.hid (HB9.out.trans (hb10.mono HB9.out.size))
  have HFF := Lib.hid (HY.out _ HB10.out).2.2
  clear hb10
  go_wp2
  go_ret
  exact ⟨rfl, HFF.out⟩
 case true =>
  obtain ⟨hent, rfl⟩ : ent d RR = Mx.tab RR.length RR.length (Mx.ds MR) ∧ LR = MR := by
   rcases HC4.out with ⟨f1, _, f3⟩ | ⟨_, f2, _⟩
   ·exact ⟨f1, f3⟩
   ·cases f2
  have HEN := Lib.hid hent
  clear hent
  go_wp2_with fail
  refine (rChain_any HR9.out HG.out (by decide) (by decide)).mono ?_
  rintro _ W10 ⟨b10, rfl, hv10, hb10⟩
  obtain rfl : b5 = b10 := bool_same HC5.out hv10.out ⟨fun e => e.2, fun e => ⟨HEN.out, e⟩⟩
  have HB10 := Lib.hid (HB9.out.trans (hb10.mono HB9.out.size))
  clear hb10 hv10
  go_wp2_with fail
  refine (lives17_any W10).mono ?_
  rintro _ W11 ⟨rfl, hb11⟩
  have HB11 := Lib.hid (HB10.out.trans (hb11.mono HB10.out.size))
  have HFF := Lib.hid (HY.out _ HB11.out).2.2
  clear hb11
  go_wp2
  go_ret
  exact ⟨rfl, HFF.out⟩
end Go.Proofs.YtjnklbfhelbjgaaGreat

/- What every bare row of this seat shares: the end of a law that writes nothing that was there; a list is opened, and shut behind the call; the bound. -/
namespace Go.Proofs.YtjnklbfhelbjgaaGreat
open Go.ChangeShapes Go.WideShapes Go.ChangeAt Go.RowKit
theorem own : ownKnob Tryz.prog.godebug = none := by kernel_rfl
theorem c32 : Tryz.prog.cellsOf 171 = 1 := by kernel_rfl
section
variable {H : Type} {enc : TypeId × Value → H} {P : Program}
theorem post_of_below {f : Func} {s : ChangeSpec} {apart fresh handsOn again : Bool} {W W' : World} {args : Array Value} {v : Value} {ds gs : List (DataW H)} {before pa pv : List MemPlace}
  (hW : DataW.Whole enc P f.params.toList s.vars apart W args.toList ds gs before)
  (hres : ∀ (b : Nat) (sp : Nat → Bool) (hd : Bool), DataW.TrodAll enc P W' b sp hd f.resultTypes.toList (v.resultList f.resultTypes.size) (s.fn H (ds ++ gs)).results [])
  (hargs : ∀ sp : Nat → Bool, (∀ p ∈ before, sp p.block = true) → DataW.TrodAll enc P W' 0 sp true f.params.toList args.toList (s.fn H (ds ++ gs)).args pa)
  (hvars : ∀ sp : Nat → Bool, (∀ p ∈ before, sp p.block = true) → DataW.TrodVars enc P W' sp s.vars (s.fn H (ds ++ gs)).vars pv)
  (hps : before = pa ++ pv) (hb : Below W.heap.size W W')
  (hok : ∀ (j : Nat) (t : TypeId) (r : Value), f.resultTypes[j]? = some t → (v.resultList f.resultTypes.size)[j]? = some r → Value.okWide P W' .any 0 t r) :
  s.post enc P f apart fresh handsOn again W args v W' := by
 have hlt : ∀ p ∈ before, p.block < W.heap.size := fun p hp => hW.lt p hp
 have hold : ∀ p ∈ before, (fun b => decide (b < W.heap.size)) p.block = true := fun p hp => by simpa using hlt p hp
 refine ⟨ds, gs, before, [], pa, pv, hW, hres _ _ _, hargs _ hold, hvars _ hold, World.keptBut_mono (fun p hp => ⟨hp, ?_⟩) (hb.frame (· ∈ before)), fun _ => ?_⟩
 ·rw [hps, List.mem_append] at hp
  exact Or.inr hp
 ·obtain ⟨_, _, _, _, _, hz, hn⟩ := hW
  refine ⟨hok, _, _, ([] ++ pa) ++ pv, ⟨[] ++ pa, pv, trodAll_append (hargs _ (fun _ _ => rfl)) (hres _ _ _), hvars _ (fun _ _ => rfl), rfl, ?_, ?_⟩, ?_⟩
  ·intro b off hp
   have hin : MemPlace.cell b off ∈ before := by rw [hps]; simpa using hp
   rw [hb.frozen (hlt _ hin)]
   exact hz b off hin
  ·intro ha
   have := hn ha
   rw [hps] at this
   simpa using this
  ·intro p hp _
   rw [hps]
   simpa using hp
end
end Go.Proofs.YtjnklbfhelbjgaaGreat
/- What the rows with lists share: a list is opened, and shut behind the call; the bound. -/
namespace Go.Proofs.YtjnklbfhelbjgaaGreat
open Go.ChangeShapes Go.WideShapes Go.ChangeAt Go.RowKit
theorem bulk_one {H : Type} (d : DataW H) : 1 ≤ Rows.uptoBulk d := by
 cases d with
 | lit l => cases l <;> simp [Rows.uptoBulk]
 | nil => simp [Rows.uptoBulk]
 | ptr d => simp [Rows.uptoBulk]
 | slice elems spare => simp [Rows.uptoBulk]
 | agg parts => simp [Rows.uptoBulk]
 | iface t d => simp [Rows.uptoBulk]
 | map entries => simp [Rows.uptoBulk]
 | held h => simp [Rows.uptoBulk]
theorem bulk_len {H : Type} (l : List (DataW H)) : l.length ≤ Rows.uptoBulkAll l := by
 induction l with
 | nil => simp [Rows.uptoBulkAll]
 | cons x r ih => have := bulk_one x; simp only [Rows.uptoBulkAll, List.length_cons]; omega
theorem bulk_part {H : Type} {d : DataW H} {l : List (DataW H)} (h : d ∈ l) : Rows.uptoBulk d ≤ Rows.uptoBulkAll l := by
 induction l with
 | nil => cases h
 | cons x r ih =>
   simp only [Rows.uptoBulkAll]
   cases List.mem_cons.1 h with
   | inl e => subst e; omega
   | inr e => have := ih e; omega
theorem bulk_le {H : Type} {d : DataW H} {l : List (DataW H)} (hk : Rows.uptoSmall H l = true) (h : d ∈ l) : Rows.uptoBulk d ≤ 1048576 := by
 exact Nat.le_trans (bulk_part h) (of_decide_eq_true (p := Rows.uptoBulkAll l ≤ 1048576) hk)
theorem cell_in {w : World} {a : Addr} {v : Value} (h : w.cell? a = some v) : a.block < w.heap.size := by
 apply Classical.byContradiction
 intro hlt
 have hn : w.heap[a.block]? = none := Array.getElem?_eq_none (by omega)
 simp [World.cell?, hn] at h
end Go.Proofs.YtjnklbfhelbjgaaGreat

/- Integers and fractions among the arguments: opened, and shut behind the call. -/
namespace Go.Proofs.YtjnklbfhelbjgaaGreat
open Go.ChangeShapes Go.WideShapes Go.ChangeAt Go.RowKit
section
variable {H : Type} {enc : TypeId × Value → H} {W : World}
def Stays (enc : TypeId × Value → H) (W : World) (t : TypeId) (cs : List Value) (d : DataW H) (ps : List MemPlace) : Prop :=
 ∀ (W' : World) (sp : Nat → Bool), Below W.heap.size W W' → (∀ p ∈ ps, sp p.block = true) → ∃ n, DataW.trod enc Tryz.prog W' 0 sp true n t cs = some (d, ps)
set_option maxRecDepth 100000 in
theorem open_nat {fuel : Nat} {cs : List Value} {y : DataW H × List MemPlace} (hd : DataW.trod enc Tryz.prog W 0 (fun _ => true) true fuel 23 cs = some y) :
  ∃ (A : Option Addr) (n c : Nat) (L : List Nat), cs = [.slice A n c] ∧ RdU W W.heap.size A n c L ∧ n ≤ Rows.uptoBulk y.1 ∧ Stays enc W 23 cs y.1 y.2 := by
 have ht := Tryz.underlying23
 rcases open_ints ht Tryz.underlying171 c32 hd with ⟨rfl, rfl⟩ | ⟨a', len, cap, zs, rfl, hb, hl, hm, hz, rfl, hcell, hwf⟩
 ·exact ⟨none, 0, 0, [], rfl, RdU.nil _ _ _ _ (Nat.zero_le _), Nat.zero_le _, fun W' sp _ _ => ⟨1, by simp [DataW.trod, ht]⟩⟩
 ·have hz' : zs.length = cap := by simpa using hz
  refine ⟨some a', len, cap, (zs.take len).map Int.toNat, rfl, ⟨by simp; omega, hl, hm, fun j u hu => ?_⟩, ?_, fun W' sp hB hsp => ?_⟩
  ·have hj : j < len := by
    rcases Nat.lt_or_ge j len with h3 | h3
    ·exact h3
    ·rw [List.getElem?_eq_none (by simp; omega)] at hu; cases hu
   have hjz : j < zs.length := by omega
   have he : zs.getD j 0 = zs[j] := by simp [List.getD, hjz]
   have hw := hwf _ (List.getElem_mem hjz)
   have hbd := bounds_u32 hw
   rw [List.getElem?_map, List.getElem?_take_of_lt hj, List.getElem?_eq_getElem hjz] at hu
   simp at hu
   have hc := hcell j hjz
   have hb' := cell_in hc
   rw [block_add] at hb'
   refine ⟨by omega, a', rfl, hb', ?_⟩
   rw [hc, he, ← hu]
   congr 2
   omega
  ·have h3 := bulk_len (lits (H := H) .u32 (zs.take len))
   have h4 : (lits (H := H) .u32 (zs.take len)).length = len := by simp [lits]; omega
   simp only [Rows.uptoBulk]
   omega
  ·refine ⟨_, shut_ints 0 ht Tryz.underlying171 c32 (Nat.zero_le _) hl hm ?_ (fun i hi => ?_) hwf⟩
   ·rw [hz']
    by_cases hs : sp a'.block = true
    ·rw [if_pos hs]
    ·rw [if_neg hs]
     rcases Nat.eq_zero_or_pos cap with h3 | h3
     ·omega
     ·exact absurd (hsp (.cell a'.block (a'.off + 0)) (by unfold MemPlace.row; exact List.mem_map.2 ⟨0, by simp; omega, rfl⟩)) hs
   ·have hc := hcell i hi
    have hb' := cell_in hc
    exact (hB.cell (p := a'.add i) hb').trans hc
theorem bulk_agg {l : List (DataW H)} {d : DataW H} (h : d ∈ l) : Rows.uptoBulk d ≤ Rows.uptoBulk (.agg l) := by
 have := bulk_part h
 simp only [Rows.uptoBulk]
 omega
theorem two_cells {cs : List Value} (h : cs.length = 2) : ∃ a b, cs = [a, b] := by
 match cs, h with
 | [a, b], _ => exact ⟨a, b, rfl⟩
theorem cInt : Tryz.prog.cellsOf 25 = 2 := by kernel_rfl
theorem cBool : Tryz.prog.cellsOf 4 = 1 := by kernel_rfl
theorem cNat : Tryz.prog.cellsOf 23 = 1 := by kernel_rfl
end
end Go.Proofs.YtjnklbfhelbjgaaGreat
