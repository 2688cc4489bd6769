/- Lists of integers word by word: are two the very same? -/
import Derived.Test.YtipbpdiahemmpaaGreatQ11
import Derived.Deep.QuietTactic
namespace Go.Proofs.YtipbpdiahemmpaaGreat
open Go.RowKit Go.IntWalk
attribute [local go_sem ↓] Go.wp_at_zero Go.wp_at_succ

/-- A slice of integers that came in, as its signs and words. -/
structure RdRs (w : World) (B N : Nat) (A : Option Addr) (n c : Nat) (R : List (Bool × List Nat)) : Prop where
  len : R.length = n
  le : n ≤ c
  mx : c ≤ maxLen
  at_ : ∀ (j : Nat) (r : Bool × List Nat), R[j]? = some r → ∃ (ad : Addr) (A' : Option Addr) (n' c' : Nat), A = some ad ∧ ad.block < B ∧ w.cell? (ad.add (j * 2)) = some (.bool r.1) ∧ w.cell? ⟨(ad.add (j * 2)).block, (ad.add (j * 2)).off + 1, none⟩ = some (.slice A' n' c') ∧ RdU w B A' n' c' r.2 ∧ n' ≤ N
def toZ (r : Bool × List Nat) : Int := Zz.sg r.1 (Dg.val r.2)
def ofZ (z : Int) : Bool × List Nat := (decide (z < 0), Dg.dg z.natAbs)
theorem ofZ_inj {x y : Int} (h : ofZ x = ofZ y) : x = y := by
  unfold ofZ at h
  injection h with h1 h2
  have h2 := Dg.dg_inj h2
  have h1 := decide_eq_decide.1 h1
  omega
section
variable {w w' : World} {B B' N : Nat} {A : Option Addr} {n c : Nat} {R : List (Bool × List Nat)}
theorem RdRs.below (h : RdRs w B N A n c R) (hb : Below B w w') : RdRs w' B N A n c R :=
  ⟨h.len, h.le, h.mx, fun j r hr => by
    obtain ⟨ad, A', n', c', h1, h2, h3, h4, h5, h6⟩ := h.at_ j r hr
    obtain ⟨k3, k4⟩ := zs_cells hb h2 h3 h4
    exact ⟨ad, A', n', c', h1, h2, k3, k4, h5.below hb, h6⟩⟩
theorem RdRs.more (h : RdRs w B N A n c R) (hB : B ≤ B') : RdRs w B' N A n c R :=
  ⟨h.len, h.le, h.mx, fun j r hr => by
    obtain ⟨ad, A', n', c', h1, h2, h3, h4, h5, h6⟩ := h.at_ j r hr
    exact ⟨ad, A', n', c', h1, by omega, h3, h4, h5.more hB, h6⟩⟩
theorem RdRs.next (h : RdRs w w.heap.size N A n c R) (hb : Below w.heap.size w w') : RdRs w' w'.heap.size N A n c R := (h.below hb).more hb.size
theorem RdRs.zs (h : RdRs w B N A n c R) : RdZs w B N A n c (R.map toZ) :=
  ⟨by rw [List.length_map]; exact h.len, h.le, h.mx, fun j z hz => by
    rw [List.getElem?_map] at hz
    obtain ⟨r, hr, rfl⟩ := Option.map_eq_some_iff.1 hz
    obtain ⟨ad, A', n', c', h1, h2, h3, h4, h5, h6⟩ := h.at_ j r hr
    exact ⟨ad, r.1, A', n', c', h1, h2, h3, h4, ⟨r.2, h5, rfl⟩, h6⟩⟩
theorem OwZs.rs {b : Nat} {L : List Int} (h : OwZs w b A n c L) (hN : ∀ z ∈ L, Zz.zl z ≤ N) : RdRs w w.heap.size N A n c (L.map ofZ) := by
  have hl := h.len
  rcases h.form with ⟨rfl, rfl, rfl⟩ | ⟨g, rfl, h1, h2, h3, h4⟩
  · refine ⟨by rw [List.length_map]; exact hl, Nat.le_refl _, Nat.zero_le _, fun j z hz => ?_⟩
    rw [List.eq_nil_of_length_eq_zero hl] at hz
    simp at hz
  · obtain ⟨E, hr, hE, hel⟩ := h
    refine ⟨by rw [List.length_map]; exact hl, h3, h4, fun j r hz => ?_⟩
    rw [List.getElem?_map] at hz
    obtain ⟨z, hzz, rfl⟩ := Option.map_eq_some_iff.1 hz
    have hj : j < L.length := by
      rcases Nat.lt_or_ge j L.length with h5 | h5
      · exact h5
      · rw [List.getElem?_eq_none h5] at hz; cases hz
    have hjE : j < E.length := by rw [hel.1]; exact hj
    have he := List.getElem?_eq_getElem hjE
    have hz' := hel.2 j _ z he hzz
    obtain ⟨c0, c1⟩ := zcs_at E j _ he
    have e1 : (⟨g, 0, none⟩ : Addr).add (j * 2) = ⟨g, j * 2, none⟩ := add_base g _
    refine ⟨_, _, _, _, rfl, h2, ?_, ?_, hz'.own.rd, ?_⟩
    · rw [e1, hr.cellAt (j * 2) (by omega)]
      show _ = some (Value.bool (decide (z < 0)))
      rw [← hz'.sgn]
      exact c0
    · rw [e1]
      show w.cell? ⟨g, j * 2 + 1, none⟩ = _
      rw [hr.cellAt (j * 2 + 1) (by omega)]
      exact c1
    · rw [hz'.len]; exact hN z (List.mem_of_getElem? hzz)
end
theorem below_dr {B : Nat} {a w : World} (h : Below B a w) (n : Nat) : Below B a (w.drewN n) := ⟨h.os, h.tape, h.output, h.size, h.block⟩
/-- An answer comes back. -/
def RetBo (P : Prop) (w : World) (e : Ending) (w' : World) : Prop := ∃ b : Bool, e = .returned (.bool b) ∧ Hid (b = true ↔ P) ∧ Below w.heap.size w w'

set_option maxRecDepth 100000 in
set_option maxHeartbeats 2000000 in
theorem same01_any {A A' : Option Addr} {n c n' c' : Nat} {L L' : List Nat} {w : World} (h : RdU w w.heap.size A n c L) (h' : RdU w w.heap.size A' n' c' L') :
    Calls Tryz.prog 91 #[.slice A n c, .slice A' n' c'] w (RetBo (L = L') w) := by
  have hlen := Lib.hid (And.intro h.len h'.len)
  have hn : n ≤ 9223372036854775807 := by
    have h1 := h.mx
    have h2 := h.le
    unfold maxLen at h1
    omega
  go_enter Tryz.func91, Tryz.ntmps91
  by_cases hne : n = n'
  · subst hne
    go_wp2_with fail
    go_loopw [13] (fun iv wr => ∃ i : Nat, iv = .int .i64 i ∧ i ≤ n ∧ Hid (∀ t, t < i → Dg.ld L t = Dg.ld L' t) ∧ Below w.heap.size w wr) (fun iv _ => n - (intOf iv).toNat)
    case atStart => exact ⟨0, rfl, Nat.zero_le _, Lib.hid fun t ht => by omega, Below.refl _ _⟩
    case round =>
      obtain ⟨i, rfl, hi, hE, hB⟩ := hrel
      by_cases hin : i = n
      · have hni := hin.symm
        subst hni
        clear hin
        go_wp2
        go_ret
        exact ⟨true, rfl, Lib.hid ⟨fun _ => by
          apply List.ext_getElem?
          intro t
          rcases Nat.lt_or_ge t n with ht | ht
          · rw [Dg.get_of_ld (by rw [hlen.out.1]; exact ht), Dg.get_of_ld (by rw [hlen.out.2]; exact ht), hE.out t ht]
          · rw [List.getElem?_eq_none (by rw [hlen.out.1]; exact ht), List.getElem?_eq_none (by rw [hlen.out.2]; exact ht)], fun _ => rfl⟩, hB⟩
      · have hil : i < n := by omega
        clear hin
        have hili : (i : Int) < (n : Int) := by omega
        obtain ⟨hx, ad, rfl, hbx, hcx⟩ := h.at_ i _ (Dg.get_of_ld (by rw [hlen.out.1]; exact hil))
        obtain ⟨hy, ad', rfl, hby, hcy⟩ := h'.at_ i _ (Dg.get_of_ld (by rw [hlen.out.2]; exact hil))
        have hcx := (hB.cell (p := ad.add i) (by rw [add_blk]; exact hbx)).trans hcx
        have hcy := (hB.cell (p := ad'.add i) (by rw [add_blk]; exact hby)).trans hcy
        obtain ⟨x, ex⟩ : ∃ x, x = Dg.ld L i := ⟨_, rfl⟩
        obtain ⟨y, ey⟩ : ∃ y, y = Dg.ld L' i := ⟨_, rfl⟩
        rw [← ex] at hcx
        rw [← ey] at hcy
        have EX := Lib.hid (And.intro ex ey)
        clear ex ey
        by_cases hxy : x = y
        · subst hxy
          go_wp2
          go_quiet (fail)
          go_wp2
          go_roundw
          case rel => exact ⟨i + 1, by go_num, by omega, Lib.hid fun t ht => by
            rcases Nat.lt_or_ge t i with h1 | h1
            · exact hE.out t h1
            · rw [show t = i by omega, ← EX.out.1, ← EX.out.2], by first | exact hB.drew | exact below_dr hB _⟩
          case measure => simp [intOf]; omega
        · have hb : ((x : Int) != (y : Int)) = true := by simp; omega
          have HXY := Lib.hid hxy
          clear hxy
          go_wp2
          go_quiet (fail)
          go_wp2
          go_ret
          exact ⟨false, rfl, Lib.hid ⟨fun e => by simp at e, fun e => absurd (by rw [EX.out.1, EX.out.2, e]) HXY.out⟩, by first | exact hB.drew | exact below_dr hB _⟩
  · have hb : ((n : Int) != (n' : Int)) = true := by simp; omega
    have HNE := Lib.hid hne
    clear hne
    go_wp2
    go_ret
    exact ⟨false, rfl, Lib.hid ⟨fun e => by simp at e, fun e => absurd (by rw [← hlen.out.1, ← hlen.out.2, e]) HNE.out⟩, Below.refl _ _⟩
end Go.Proofs.YtipbpdiahemmpaaGreat

/- Are two integers, two lists, the very same? -/
namespace Go.Proofs.YtipbpdiahemmpaaGreat
open Go.RowKit Go.IntWalk
attribute [local go_sem ↓] Go.wp_at_zero Go.wp_at_succ

set_option maxRecDepth 100000 in
set_option maxHeartbeats 2000000 in
theorem same03_any {s s' : Bool} {A A' : Option Addr} {n c n' c' : Nat} {M M' : List Nat} {w : World} (h : RdU w w.heap.size A n c M) (h' : RdU w w.heap.size A' n' c' M') :
    Calls Tryz.prog 19 #[.agg #[.bool s, .slice A n c], .agg #[.bool s', .slice A' n' c']] w (RetBo ((s, M) = (s', M')) w) := by
  obtain ⟨W1, HW1⟩ : ∃ W, W = (w.alloc (.cells #[.bool s, .slice A n c] 28)).alloc (.cells #[.bool s', .slice A' n' c'] 28) := ⟨_, rfl⟩
  have hZ : ZC W1 w.heap.size s A n c := by rw [HW1]; exact (ZC.new w s A n c).alloc _
  have hY : ZC W1 (w.heap.size + 1) s' A' n' c' := by rw [HW1]; simpa using ZC.new (w.alloc (.cells #[.bool s, .slice A n c] 28)) s' A' n' c'
  have hB : Below w.heap.size w W1 := by rw [HW1]; exact ((Below.refl w.heap.size w).alloc (Nat.le_refl _) _).alloc (by simp) _
  have h1 := h.next hB
  have h1' := h'.next hB
  have HB := Lib.hid hB
  by_cases hss : s = s'
  · subst hss
    have HW1 := Lib.hid HW1
    go_enter Tryz.func19, Tryz.ntmps19
    go_wp2_with fail
    rw [← HW1.out]
    clear HW1
    clear HW1
    refine (same01_any h1 h1').mono ?_
    rintro _ W2 ⟨b, rfl, hb, hb2⟩
    go_wp2
    go_ret
    exact ⟨b, rfl, Lib.hid ⟨fun e => by rw [hb.out.1 e], fun e => hb.out.2 (by injection e)⟩, HB.out.trans (hb2.mono HB.out.size)⟩
  · have hbe : (s == s') = false := by simpa using hss
    have HSS := Lib.hid hss
    have HB0 := Lib.hid (show Below w.heap.size w ((w.alloc (.cells #[.bool s, .slice A n c] 28)).alloc (.cells #[.bool s', .slice A' n' c'] 28)) by rw [← HW1]; exact hB)
    clear hss hZ hY hB h1 h1'
    clear HW1
    go_enter Tryz.func19, Tryz.ntmps19
    go_wp2
    go_ret
    exact ⟨false, rfl, Lib.hid ⟨fun e => by simp at e, fun e => absurd (by injection e) HSS.out⟩, HB0.out⟩

theorem rs_at {w : World} {B N : Nat} {A : Option Addr} {n c : Nat} {R : List (Bool × List Nat)} (h : RdRs w B N A n c R) {j : Nat} (hj : j < n) :
    ∃ (ad : Addr) (s : Bool) (M : List Nat) (A' : Option Addr) (n' c' : Nat), A = some ad ∧ ad.block < B ∧ w.cell? (ad.add (j * 2)) = some (.bool s) ∧ w.cell? ⟨(ad.add (j * 2)).block, (ad.add (j * 2)).off + 1, none⟩ = some (.slice A' n' c') ∧ RdU w B A' n' c' M ∧ n' ≤ N ∧ Hid (R[j]? = some (s, M)) := by
  have hz : R[j]? = some (R[j]'(by rw [h.len]; exact hj)) := List.getElem?_eq_getElem _
  obtain ⟨ad, A', n', c', h1, h2, h3, h4, h5, h6⟩ := h.at_ j _ hz
  exact ⟨ad, _, _, A', n', c', h1, h2, h3, h4, h5, h6, Lib.hid hz⟩

set_option maxRecDepth 100000 in
set_option maxHeartbeats 2000000 in
theorem sameAll_any {N N' : Nat} {A A' : Option Addr} {n c n' c' : Nat} {R R' : List (Bool × List Nat)} {w : World} (h : RdRs w w.heap.size N A n c R) (h' : RdRs w w.heap.size N' A' n' c' R') :
    Calls Tryz.prog 166 #[.slice A n c, .slice A' n' c'] w (RetBo (R = R') w) := by
  have hlen := Lib.hid (And.intro h.len h'.len)
  have hn : n ≤ 9223372036854775807 := by
    have h1 := h.mx
    have h2 := h.le
    unfold maxLen at h1
    omega
  go_enter Tryz.func166, Tryz.ntmps166
  by_cases hne : n = n'
  · subst hne
    go_wp2_with fail
    go_loopw [13] (fun iv wr => ∃ i : Nat, iv = .int .i64 i ∧ i ≤ n ∧ Hid (∀ t, t < i → R[t]? = R'[t]?) ∧ Below w.heap.size w wr) (fun iv _ => n - (intOf iv).toNat)
    case atStart => exact ⟨0, rfl, Nat.zero_le _, Lib.hid fun t ht => by omega, Below.refl _ _⟩
    case round =>
      obtain ⟨i, rfl, hi, hE, hB⟩ := hrel
      by_cases hin : i = n
      · have hni := hin.symm
        subst hni
        clear hin
        go_wp2
        go_ret
        exact ⟨true, rfl, Lib.hid ⟨fun _ => by
          apply List.ext_getElem?
          intro t
          rcases Nat.lt_or_ge t n with ht | ht
          · exact hE.out t ht
          · rw [List.getElem?_eq_none (by rw [hlen.out.1]; exact ht), List.getElem?_eq_none (by rw [hlen.out.2]; exact ht)], fun _ => rfl⟩, hB⟩
      · have hil : i < n := by omega
        clear hin
        have hili : (i : Int) < (n : Int) := by omega
        obtain ⟨ad, s, M, A1, n1, c1, rfl, hbk, hx0, hx1, hrx, hn1, hx⟩ := rs_at h hil
        obtain ⟨ad', s', M', A2, n2, c2, rfl, hbk', hy0, hy1, hry, hn2, hy⟩ := rs_at h' hil
        obtain ⟨k0, k1⟩ := zs_cells hB hbk hx0 hx1
        obtain ⟨l0, l1⟩ := zs_cells hB hbk' hy0 hy1
        have HBD := Lib.hid (Below.refl wr.heap.size wr).drew
        have HSA := Lib.hid (same03_any (s := s) (s' := s') ((hrx.next hB).next HBD.out) ((hry.next hB).next HBD.out))
        have HCX := Lib.hid (show ∀ W : World, Below wr.heap.size wr W → _ from fun W hb => zs_cells (hB.trans (hb.mono hB.size)) hbk hx0 hx1)
        have HCY := Lib.hid (show ∀ W : World, Below wr.heap.size wr W → _ from fun W hb => zs_cells (hB.trans (hb.mono hB.size)) hbk' hy0 hy1)
        clear hx0 hx1 hy0 hy1 hrx hry
        go_upto_region 6 with fail
        go_region_held3 (fun w' => w'.cell? (ad.add (i * 2)) = some (.bool s) ∧ w'.cell? ⟨(ad.add (i * 2)).block, (ad.add (i * 2)).off + 1, none⟩ = some (.slice A1 n1 c1) ∧ w'.cell? (ad'.add (i * 2)) = some (.bool s') ∧ w'.cell? ⟨(ad'.add (i * 2)).block, (ad'.add (i * 2)).off + 1, none⟩ = some (.slice A2 n2 c2)) (go_keep)
          (first
            | (go_at_call 19; refine HSA.out.mono ?_; rintro _ W2 ⟨b, rfl, hb, hb2⟩; have HB2 := Lib.hid (HBD.out.trans hb2); have a0 := (HCX.out W2 HB2.out).1; have a1 := (HCX.out W2 HB2.out).2; have a2 := (HCY.out W2 HB2.out).1; have a3 := (HCY.out W2 HB2.out).2))
        have hB2 := hB.trans (HB2.out.mono hB.size)
        clear k0 k1 l0 l1 a0 a1 a2 a3 hb2
        cases b
        · have HNE := Lib.hid (show (s, M) ≠ (s', M') from fun e => by have := hb.out.2 e; simp at this)
          go_wp2
          go_ret
          exact ⟨false, rfl, Lib.hid ⟨fun e => by simp at e, fun e => absurd (by
            have e1 := hx.out
            rw [e, hy.out] at e1
            injection e1 with e1
            exact e1.symm) HNE.out⟩, hB2⟩
        · have HEQ := Lib.hid (hb.out.1 rfl)
          go_wp2
          go_roundw
          case rel => exact ⟨i + 1, by go_num, by omega, Lib.hid fun t ht => by
            rcases Nat.lt_or_ge t i with h1 | h1
            · exact hE.out t h1
            · rw [show t = i by omega, hx.out, hy.out, HEQ.out], hB2⟩
          case measure => simp [intOf]; omega
  · have hb : ((n : Int) != (n' : Int)) = true := by simp; omega
    have HNE := Lib.hid hne
    clear hne
    go_wp2
    go_ret
    exact ⟨false, rfl, Lib.hid ⟨fun e => by simp at e, fun e => absurd (by rw [← hlen.out.1, ← hlen.out.2, e]) HNE.out⟩, Below.refl _ _⟩
set_option maxHeartbeats 400000 in
theorem same07_any {N N' : Nat} {A A' : Option Addr} {n c n' c' : Nat} {R R' : List (Bool × List Nat)} {w : World} (h : RdRs w w.heap.size N A n c R) (h' : RdRs w w.heap.size N' A' n' c' R') :
    Calls Tryz.prog 90 #[.slice A n c, .slice A' n' c'] w (RetBo (R = R') w) := by
  go_enter Tryz.func90, Tryz.ntmps90
  go_wp2_with fail
  refine (sameAll_any h h').mono ?_
  rintro _ W2 ⟨b, rfl, hb, hb2⟩
  go_wp2
  go_ret
  exact ⟨b, rfl, hb, hb2⟩
set_option maxHeartbeats 400000 in
theorem same_any {N N' : Nat} {A A' : Option Addr} {n c n' c' : Nat} {R R' : List (Bool × List Nat)} {w : World} (h : RdRs w w.heap.size N A n c R) (h' : RdRs w w.heap.size N' A' n' c' R') :
    Calls Tryz.prog 16 #[.slice A n c, .slice A' n' c'] w (RetBo (R = R') w) := by
  go_enter Tryz.func16, Tryz.ntmps16
  go_wp2_with fail
  refine (same07_any h h').mono ?_
  rintro _ W2 ⟨b, rfl, hb, hb2⟩
  go_wp2
  go_ret
  exact ⟨b, rfl, hb, hb2⟩
end Go.Proofs.YtipbpdiahemmpaaGreat
