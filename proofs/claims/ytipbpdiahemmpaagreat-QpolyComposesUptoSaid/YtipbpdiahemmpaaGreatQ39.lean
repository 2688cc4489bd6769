/- A list of fractions that came in, word by word. -/
import Derived.Test.YtipbpdiahemmpaaGreatQ25
import Derived.Test.YtipbpdiahemmpaaGreatQ12
namespace Go.Proofs.YtipbpdiahemmpaaGreat
open Go.RowKit Go.IntWalk

abbrev RawQ := (Bool × List Nat) × (Bool × List Nat)
/-- A slice of fractions that came in, as its signs and words. -/
structure RdRQ (w : World) (B : Nat) (A : Option Addr) (n c : Nat) (R : List RawQ) : Prop where
  len : R.length = n
  le : n ≤ c
  mx : c ≤ maxLen
  at_ : ∀ (j : Nat) (r : RawQ), R[j]? = some r → ∃ (ad : Addr) (A1 : Option Addr) (n1 c1 : Nat) (A1' : Option Addr) (n1' c1' : Nat), A = some ad ∧ ad.block < B ∧ w.cell? (ad.add (j * 4)) = some (.bool r.1.1) ∧ w.cell? ⟨(ad.add (j * 4)).block, (ad.add (j * 4)).off + 1, none⟩ = some (.slice A1 n1 c1) ∧ w.cell? ⟨(ad.add (j * 4)).block, (ad.add (j * 4)).off + 2, none⟩ = some (.bool r.2.1) ∧ w.cell? ⟨(ad.add (j * 4)).block, (ad.add (j * 4)).off + 3, none⟩ = some (.slice A1' n1' c1') ∧ RdU w B A1 n1 c1 r.1.2 ∧ RdU w B A1' n1' c1' r.2.2
/-- All words of a list. -/
def rsz (R : List RawQ) : Nat := (R.map fun r => r.1.2.length + r.2.2.length).sum
def toQ (r : RawQ) : Int × Int := (toZ r.1, toZ r.2)
theorem rsz_mem {R : List RawQ} {r : RawQ} (h : r ∈ R) : r.1.2.length + r.2.2.length ≤ rsz R := by
  induction R with
  | nil => cases h
  | cons x R ih =>
    have e : rsz (x :: R) = x.1.2.length + x.2.2.length + rsz R := by simp [rsz]
    rw [e]
    rcases List.mem_cons.1 h with rfl | h
    · omega
    · have := ih h; omega
section
variable {w w' : World} {B B' : Nat} {A : Option Addr} {n c : Nat} {R : List RawQ}
theorem RdRQ.below (h : RdRQ w B A n c R) (hb : Below B w w') : RdRQ w' B A n c R :=
  ⟨h.len, h.le, h.mx, fun j p hp => by
    obtain ⟨ad, A1, n1, c1, A1', n1', c1', h1, h2, h3, h4, h5, h6, h7, h8⟩ := h.at_ j p hp
    obtain ⟨k3, k4, k5, k6⟩ := qs_cells hb h2 h3 h4 h5 h6
    exact ⟨ad, A1, n1, c1, A1', n1', c1', h1, h2, k3, k4, k5, k6, h7.below hb, h8.below hb⟩⟩
theorem RdRQ.more (h : RdRQ w B A n c R) (hB : B ≤ B') : RdRQ w B' A n c R :=
  ⟨h.len, h.le, h.mx, fun j p hp => by
    obtain ⟨ad, A1, n1, c1, A1', n1', c1', h1, h2, h3, h4, h5, h6, h7, h8⟩ := h.at_ j p hp
    exact ⟨ad, A1, n1, c1, A1', n1', c1', h1, by omega, h3, h4, h5, h6, h7.more hB, h8.more hB⟩⟩
theorem RdRQ.next (h : RdRQ w w.heap.size A n c R) (hb : Below w.heap.size w w') : RdRQ w' w'.heap.size A n c R := (h.below hb).more hb.size
theorem RdRQ.rd (h : RdRQ w B A n c R) {N : Nat} (hN : rsz R ≤ N) : RdQs w B N A n c (R.map toQ) :=
  ⟨by rw [List.length_map]; exact h.len, h.le, h.mx, fun j p hp => by
    rw [List.getElem?_map] at hp
    rcases Nat.lt_or_ge j R.length with hj | hj
    · rw [List.getElem?_eq_getElem hj] at hp
      simp at hp
      subst hp
      obtain ⟨ad, A1, n1, c1, A1', n1', c1', h1, h2, h3, h4, h5, h6, h7, h8⟩ := h.at_ j R[j] (List.getElem?_eq_getElem hj)
      have hm := rsz_mem (List.getElem_mem hj)
      exact ⟨ad, _, A1, n1, c1, _, A1', n1', c1', h1, h2, h3, h4, h5, h6, ⟨_, h7, rfl⟩, ⟨_, h8, rfl⟩, by have := h7.len; omega, by have := h8.len; omega⟩
    · rw [List.getElem?_eq_none hj] at hp
      simp at hp⟩
end
end Go.Proofs.YtipbpdiahemmpaaGreat

/- Are two fractions, two lists of them, the very same? -/
namespace Go.Proofs.YtipbpdiahemmpaaGreat
open Go.RowKit Go.IntWalk
attribute [local go_sem ↓] Go.wp_at_zero Go.wp_at_succ

theorem q_pair (w : World) (s1 s2 s3 s4 : Bool) (A1 A2 A3 A4 : Option Addr) (n1 c1 n2 c2 n3 c3 n4 c4 : Nat) :
    ∀ W1 : World, W1 = (w.alloc (.cells #[.bool s1, .slice A1 n1 c1, .bool s2, .slice A2 n2 c2] 56)).alloc (.cells #[.bool s3, .slice A3 n3 c3, .bool s4, .slice A4 n4 c4] 56) →
      QC W1 w.heap.size s1 A1 n1 c1 s2 A2 n2 c2 ∧ QC W1 (w.heap.size + 1) s3 A3 n3 c3 s4 A4 n4 c4 ∧ Below w.heap.size w W1 := by
  rintro W1 rfl
  refine ⟨(QC.new w s1 A1 n1 c1 s2 A2 n2 c2).next ((Below.refl _ _).alloc (Nat.le_refl _) _), ?_, ((Below.refl w.heap.size w).alloc (Nat.le_refl _) _).alloc (by simp) _⟩
  simpa using QC.new (w.alloc (.cells #[.bool s1, .slice A1 n1 c1, .bool s2, .slice A2 n2 c2] 56)) s3 A3 n3 c3 s4 A4 n4 c4

set_option maxRecDepth 100000 in
set_option maxHeartbeats 4000000 in
theorem same05_any {s1 s2 s3 s4 : Bool} {A1 A2 A3 A4 : Option Addr} {n1 c1 n2 c2 n3 c3 n4 c4 : Nat} {M1 M2 M3 M4 : List Nat} {w : World} (h1 : RdU w w.heap.size A1 n1 c1 M1) (h2 : RdU w w.heap.size A2 n2 c2 M2) (h3 : RdU w w.heap.size A3 n3 c3 M3) (h4 : RdU w w.heap.size A4 n4 c4 M4) :
    Calls Tryz.prog 53 #[.agg #[.bool s1, .slice A1 n1 c1, .bool s2, .slice A2 n2 c2], .agg #[.bool s3, .slice A3 n3 c3, .bool s4, .slice A4 n4 c4]] w (RetBo (((s1, M1), (s2, M2)) = ((s3, M3), (s4, M4))) w) := by
  obtain ⟨W1, HW1⟩ : ∃ W, W = (w.alloc (.cells #[.bool s1, .slice A1 n1 c1, .bool s2, .slice A2 n2 c2] 56)).alloc (.cells #[.bool s3, .slice A3 n3 c3, .bool s4, .slice A4 n4 c4] 56) := ⟨_, rfl⟩
  obtain ⟨hX, hY, hB⟩ := q_pair w s1 s2 s3 s4 A1 A2 A3 A4 n1 c1 n2 c2 n3 c3 n4 c4 W1 HW1
  have a0 := hX.c0
  have a1 := hX.c1
  have b0 := hY.c0
  have b1 := hY.c1
  rw [HW1] at a0 a1 b0 b1
  have HX := Lib.hid hX
  have HY := Lib.hid hY
  have HB := Lib.hid hB
  have HR := Lib.hid (And.intro (And.intro (h1.next hB) (h3.next hB)) (And.intro (h2.next hB) (h4.next hB)))
  have HW1 := Lib.hid HW1
  clear hX hY hB h1 h2 h3 h4
  go_enter Tryz.func53, Tryz.ntmps53
  go_wp2_with fail
  rw [← HW1.out]
  clear HW1 a0 a1 b0 b1
  clear HW1
  refine (same03_any (s := s1) (s' := s3) HR.out.1.1 HR.out.1.2).mono ?_
  rintro _ W2 ⟨b, rfl, hb, hb2⟩
  have HB2 := Lib.hid (HB.out.trans (hb2.mono HB.out.size))
  cases b
  · have HNE := Lib.hid (show (s1, M1) ≠ (s3, M3) from fun e => by have := hb.out.2 e; simp at this)
    clear hb2
    go_wp2
    go_ret
    exact ⟨false, rfl, Lib.hid ⟨fun e => by simp at e, fun e => absurd (by injection e) HNE.out⟩, HB2.out⟩
  · have HEQ := Lib.hid (hb.out.1 rfl)
    have a2 := (HX.out.next hb2).c2
    have a3 := (HX.out.next hb2).c3
    have b2 := (HY.out.next hb2).c2
    have b3 := (HY.out.next hb2).c3
    have HR2 := Lib.hid (And.intro (HR.out.2.1.next hb2) (HR.out.2.2.next hb2))
    clear hb2
    go_wp2_with fail
    clear a2 a3 b2 b3
    refine (same03_any (s := s2) (s' := s4) HR2.out.1 HR2.out.2).mono ?_
    rintro _ W3 ⟨b, rfl, hb3, hb4⟩
    go_wp2
    go_ret
    exact ⟨b, rfl, Lib.hid ⟨fun e => by rw [HEQ.out, hb3.out.1 e], fun e => hb3.out.2 (by injection e)⟩, HB2.out.trans (hb4.mono HB2.out.size)⟩

theorem rq_at {w : World} {B : Nat} {A : Option Addr} {n c : Nat} {R : List RawQ} (h : RdRQ w B A n c R) {j : Nat} (hj : j < n) :
    ∃ (ad : Addr) (s : Bool) (M : List Nat) (s' : Bool) (M' : List Nat) (A1 : Option Addr) (n1 c1 : Nat) (A1' : Option Addr) (n1' c1' : Nat), A = some ad ∧ ad.block < B ∧ w.cell? (ad.add (j * 4)) = some (.bool s) ∧ w.cell? ⟨(ad.add (j * 4)).block, (ad.add (j * 4)).off + 1, none⟩ = some (.slice A1 n1 c1) ∧ w.cell? ⟨(ad.add (j * 4)).block, (ad.add (j * 4)).off + 2, none⟩ = some (.bool s') ∧ w.cell? ⟨(ad.add (j * 4)).block, (ad.add (j * 4)).off + 3, none⟩ = some (.slice A1' n1' c1') ∧ RdU w B A1 n1 c1 M ∧ RdU w B A1' n1' c1' M' ∧ Hid (R[j]? = some ((s, M), (s', M'))) := by
  have hz : R[j]? = some (R[j]'(by rw [h.len]; exact hj)) := List.getElem?_eq_getElem _
  obtain ⟨ad, A1, n1, c1, A1', n1', c1', h1, h2, h3, h4, h5, h6, h7, h8⟩ := h.at_ j _ hz
  exact ⟨ad, _, _, _, _, A1, n1, c1, A1', n1', c1', h1, h2, h3, h4, h5, h6, h7, h8, Lib.hid hz⟩

set_option maxRecDepth 100000 in
set_option maxHeartbeats 4000000 in
theorem sameAll05_any {A A' : Option Addr} {n c n' c' : Nat} {R R' : List RawQ} {w : World} (h : RdRQ w w.heap.size A n c R) (h' : RdRQ w w.heap.size A' n' c' R') :
    Calls Tryz.prog 208 #[.slice A n c, .slice A' n' c'] w (RetBo (R = R') w) := by
  have hlen := Lib.hid (And.intro h.len h'.len)
  have hn : n ≤ 9223372036854775807 := by
    have h1 := h.mx
    have h2 := h.le
    unfold maxLen at h1
    omega
  go_enter Tryz.func208, Tryz.ntmps208
  by_cases hne : n = n'
  · subst hne
    go_wp2_with fail
    go_loopw [13] (fun iv wr => ∃ i : Nat, iv = .int .i64 i ∧ i ≤ n ∧ Hid (∀ t, t < i → R[t]? = R'[t]?) ∧ Below w.heap.size w wr) (fun iv _ => n - (intOf iv).toNat)
    case atStart => exact ⟨0, rfl, Nat.zero_le _, Lib.hid fun t ht => by omega, Below.refl _ _⟩
    case round =>
      obtain ⟨i, rfl, hi, hE, hB⟩ := hrel
      by_cases hin : i = n
      · have hni := hin.symm
        subst hni
        clear hin
        go_wp2
        go_ret
        exact ⟨true, rfl, Lib.hid ⟨fun _ => by
          apply List.ext_getElem?
          intro t
          rcases Nat.lt_or_ge t n with ht | ht
          · exact hE.out t ht
          · rw [List.getElem?_eq_none (by rw [hlen.out.1]; exact ht), List.getElem?_eq_none (by rw [hlen.out.2]; exact ht)], fun _ => rfl⟩, hB⟩
      · have hil : i < n := by omega
        clear hin
        have hili : (i : Int) < (n : Int) := by omega
        obtain ⟨ad, s, M, t, N, A1, n1, c1, A2, n2, c2, rfl, hbk, hx0, hx1, hx2, hx3, hrx, hrx', hx⟩ := rq_at h hil
        obtain ⟨ad', s', M', t', N', A3, n3, c3, A4, n4, c4, rfl, hbk', hy0, hy1, hy2, hy3, hry, hry', hy⟩ := rq_at h' hil
        obtain ⟨k0, k1, k2, k3⟩ := qs_cells hB hbk hx0 hx1 hx2 hx3
        obtain ⟨l0, l1, l2, l3⟩ := qs_cells hB hbk' hy0 hy1 hy2 hy3
        have HBD := Lib.hid (Below.refl wr.heap.size wr).drew
        have HSA := Lib.hid (same05_any (s1 := s) (s2 := t) (s3 := s') (s4 := t') ((hrx.next hB).next HBD.out) ((hrx'.next hB).next HBD.out) ((hry.next hB).next HBD.out) ((hry'.next hB).next HBD.out))
        have HCX := Lib.hid (show ∀ W : World, Below wr.heap.size wr W → _ from fun W hb => qs_cells (hB.trans (hb.mono hB.size)) hbk hx0 hx1 hx2 hx3)
        have HCY := Lib.hid (show ∀ W : World, Below wr.heap.size wr W → _ from fun W hb => qs_cells (hB.trans (hb.mono hB.size)) hbk' hy0 hy1 hy2 hy3)
        clear hx0 hx1 hx2 hx3 hy0 hy1 hy2 hy3 hrx hry hrx' hry'
        go_upto_region 6 with fail
        go_region_held3 (fun w' => (w'.cell? (ad.add (i * 4)) = some (.bool s) ∧ w'.cell? ⟨(ad.add (i * 4)).block, (ad.add (i * 4)).off + 1, none⟩ = some (.slice A1 n1 c1) ∧ w'.cell? ⟨(ad.add (i * 4)).block, (ad.add (i * 4)).off + 2, none⟩ = some (.bool t) ∧ w'.cell? ⟨(ad.add (i * 4)).block, (ad.add (i * 4)).off + 3, none⟩ = some (.slice A2 n2 c2)) ∧ w'.cell? (ad'.add (i * 4)) = some (.bool s') ∧ w'.cell? ⟨(ad'.add (i * 4)).block, (ad'.add (i * 4)).off + 1, none⟩ = some (.slice A3 n3 c3) ∧ w'.cell? ⟨(ad'.add (i * 4)).block, (ad'.add (i * 4)).off + 2, none⟩ = some (.bool t') ∧ w'.cell? ⟨(ad'.add (i * 4)).block, (ad'.add (i * 4)).off + 3, none⟩ = some (.slice A4 n4 c4))
          (first | exact ⟨HCX.out _ HB2.out, HCY.out _ HB2.out⟩ | exact ⟨HCX.out _ HBD.out, HCY.out _ HBD.out⟩ | exact ⟨HCX.out _ (Below.refl _ _), HCY.out _ (Below.refl _ _)⟩)
          (first
            | (go_at_call 53; refine HSA.out.mono ?_; rintro _ W2 ⟨b, rfl, hb, hb2⟩; have HB2 := Lib.hid (HBD.out.trans hb2); obtain ⟨a0, a1, a2, a3⟩ := HCX.out W2 HB2.out; obtain ⟨b0, b1, b2, b3⟩ := HCY.out W2 HB2.out))
        have hB2 := hB.trans (HB2.out.mono hB.size)
        clear k0 k1 k2 k3 l0 l1 l2 l3 a0 a1 a2 a3 b0 b1 b2 b3 hb2
        cases b
        · have HNE := Lib.hid (show ((s, M), (t, N)) ≠ ((s', M'), (t', N')) from fun e => by have := hb.out.2 e; simp at this)
          go_wp2
          go_ret
          exact ⟨false, rfl, Lib.hid ⟨fun e => by simp at e, fun e => absurd (by
            have e1 := hx.out
            rw [e, hy.out] at e1
            injection e1 with e1
            exact e1.symm) HNE.out⟩, hB2⟩
        · have HEQ := Lib.hid (hb.out.1 rfl)
          go_wp2
          go_roundw
          case rel => exact ⟨i + 1, by go_num, by omega, Lib.hid fun t ht => by
            rcases Nat.lt_or_ge t i with h1 | h1
            · exact hE.out t h1
            · rw [show t = i by omega, hx.out, hy.out, HEQ.out], hB2⟩
          case measure => simp [intOf]; omega
  · have hb : ((n : Int) != (n' : Int)) = true := by simp; omega
    have HNE := Lib.hid hne
    clear hne
    go_wp2
    go_ret
    exact ⟨false, rfl, Lib.hid ⟨fun e => by simp at e, fun e => absurd (by rw [← hlen.out.1, ← hlen.out.2, e]) HNE.out⟩, Below.refl _ _⟩
set_option maxHeartbeats 400000 in
theorem same09_any {A A' : Option Addr} {n c n' c' : Nat} {R R' : List RawQ} {w : World} (h : RdRQ w w.heap.size A n c R) (h' : RdRQ w w.heap.size A' n' c' R') :
    Calls Tryz.prog 115 #[.slice A n c, .slice A' n' c'] w (RetBo (R = R') w) := by
  go_enter Tryz.func115, Tryz.ntmps115
  go_wp2_with fail
  refine (sameAll05_any h h').mono ?_
  rintro _ W2 ⟨b, rfl, hb, hb2⟩
  go_wp2
  go_ret
  exact ⟨b, rfl, hb, hb2⟩
set_option maxHeartbeats 400000 in
theorem lsame09_any {A A' : Option Addr} {n c n' c' : Nat} {R R' : List RawQ} {w : World} (h : RdRQ w w.heap.size A n c R) (h' : RdRQ w w.heap.size A' n' c' R') :
    Calls Tryz.prog 36 #[.slice A n c, .slice A' n' c'] w (RetBo (R = R') w) := by
  go_enter Tryz.func36, Tryz.ntmps36
  go_wp2_with fail
  refine (same09_any h h').mono ?_
  rintro _ W2 ⟨b, rfl, hb, hb2⟩
  go_wp2
  go_ret
  exact ⟨b, rfl, hb, hb2⟩
/-- A fraction's words. -/
def ofQ (x : Rat) : RawQ := (ofZ x.num, ofZ (x.den : Int))
theorem ofQ_inj {x y : Rat} (h : ofQ x = ofQ y) : x = y := by
  unfold ofQ at h
  injection h with h1 h2
  rw [← Rat.num_divInt_den x, ← Rat.num_divInt_den y, ofZ_inj h1, ofZ_inj h2]
theorem ofQ_list {L M : List Rat} (h : L.map ofQ = M.map ofQ) : L = M := (List.map_inj_right fun _ _ e => ofQ_inj e).1 h
/-- A polynomial of the call's own, word by word. -/
theorem OwQp.rq {w : World} {b : Nat} {A : Option Addr} {n c : Nat} {L : List Rat} (h : OwQp w b A n c L) : RdRQ w w.heap.size A n c (L.map ofQ) := by
  refine ⟨by rw [List.length_map, h.len], h.le.1, h.le.2, fun j p hp => ?_⟩
  rw [List.getElem?_map] at hp
  rcases Nat.lt_or_ge j L.length with hj | hj
  · obtain ⟨ad, s, A1, n1, c1, s', A1', n1', c1', x, e1, e2, a0, a1, a2, a3, hx, hL⟩ := op_at h (show j < n by rw [← h.len]; exact hj)
    rw [hL.out] at hp
    simp at hp
    subst hp
    have hs : s = (ofQ x).1.1 := hx.num.sgn
    have hs' : s' = (ofQ x).2.1 := hx.den.sgn
    exact ⟨ad, A1, n1, c1, A1', n1', c1', e1, e2, by rw [← hs]; exact a0, a1, by rw [← hs']; exact a2, a3, hx.num.own.rd, hx.den.own.rd⟩
  · rw [List.getElem?_eq_none hj] at hp
    simp at hp
end Go.Proofs.YtipbpdiahemmpaaGreat
