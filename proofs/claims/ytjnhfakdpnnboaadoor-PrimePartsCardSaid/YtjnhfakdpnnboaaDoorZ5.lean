/- Sorting words: the choice of a pivot. -/
import Derived.Test.YtjnhfakdpnnboaaDoorZ4
namespace Go.Proofs.YtjnhfakdpnnboaaDoor
open Go.RowKit Go.IntWalk Go.Sort

/-- Block q is a box with the int k. -/
def CK (w : World) (q : Nat) (k : Int) : Prop := w.heap[q]? = some (.cells #[.int .i64 k] 3 (0, 0))
theorem CK.cell {w : World} {q : Nat} {k : Int} (h : CK w q k) : w.cell? ⟨q, 0, none⟩ = some (.int .i64 k) := by
  rw [cell_of_row w q 0 _ _ _ h]; rfl
theorem CK.frozen {w : World} {q : Nat} {k : Int} (h : CK w q k) : w.frozen? ⟨q, 0, none⟩ = false := frozen_of_row w q 0 _ _ h
theorem CK.set {w : World} {q : Nat} {k : Int} (h : CK w q k) (k' : Int) : CK (w.setCell ⟨q, 0, none⟩ (.int .i64 k')) q k' := by
  unfold CK at h ⊢
  simp only [World.setCell, Array.getElem?_modify, h]
  simp
theorem CK.lt {w : World} {q : Nat} {k : Int} (h : CK w q k) : q < w.heap.size := (Array.getElem?_eq_some_iff.1 h).1
theorem SB.aside {w w' : World} {g q : Nat} {d : Array Nat} {rest : List Value} (h : SB w g d rest) (hO : Om q w w') (hne : g ≠ q) : SB w' g d rest := by
  unfold SB at h ⊢
  rw [hO.far g hne, h]
/-- Two places in the part from lo to hi; only the box has changed. -/
def RetO2 (q lo hi : Nat) (w : World) (e : Ending) (w' : World) : Prop := ∃ x y : Nat, e = .returned (.tuple #[.int .i64 x, .int .i64 y]) ∧ lo ≤ x ∧ x < hi ∧ lo ≤ y ∧ y < hi ∧ (∃ k, CK w' q k) ∧ Om q w w'
def RetO1 (q lo hi : Nat) (w : World) (e : Ending) (w' : World) : Prop := ∃ x : Nat, e = .returned (.int .i64 x) ∧ lo ≤ x ∧ x < hi ∧ (∃ k, CK w' q k) ∧ Om q w w'

set_option maxRecDepth 100000 in
set_option maxHeartbeats 2000000 in
theorem order2_any {g n cap q : Nat} {k : Int} {d : Array Nat} {rest : List Value} {w : World} (hS : SB w g d rest) (hn : d.size = n) (hq : CK w q k) (lo hi a b : Nat) (ha0 : lo ≤ a) (ha1 : a < hi) (hb0 : lo ≤ b) (hb1 : b < hi) (hhi : hi ≤ n) :
    Calls Tryd.prog 87 #[.slice (some ⟨g, 0, none⟩) n cap, .int .i64 a, .int .i64 b, .pointer (some ⟨q, 0, none⟩)] w (RetO2 q lo hi w) := by
  have c1 : (0 : Int) ≤ (a : Int) := by omega
  have c2 : (a : Int) < (n : Int) := by omega
  have c3 : (0 : Int) ≤ (b : Int) := by omega
  have c4 : (b : Int) < (n : Int) := by omega
  have hca := hS.cell (i := a) (by omega)
  have hcb := hS.cell (i := b) (by omega)
  obtain ⟨x, hx⟩ : ∃ x, x = d[a]! := ⟨_, rfl⟩
  obtain ⟨y, hy⟩ : ∃ y, y = d[b]! := ⟨_, rfl⟩
  rw [← hx] at hca
  rw [← hy] at hcb
  have hcq := hq.cell
  have hfq := hq.frozen
  have HK := Lib.hid hq
  clear hx hy hn hS hq
  obtain ⟨t, ht⟩ : ∃ t, t = ltN y x := ⟨_, rfl⟩
  have HL := Lib.hid (fun (w0 : World) (m : Nat) => less_q y x ht w0 m)
  clear ht
  go_enter Tryd.func87, Tryd.ntmps87
  cases t
  · go_wp2_with fail
    go_quiet ((go_at_call 76; exact HL.out _ _))
    go_wp2
    go_ret2
    exact ⟨a, b, rfl, ha0, ha1, hb0, hb1, ⟨_, HK.out⟩, (Om.refl _ _).drewN _⟩
  · go_wp2_with fail
    go_quiet ((go_at_call 76; exact HL.out _ _))
    have hcq2 : (w.drewN nq).cell? ⟨q, 0, none⟩ = some (.int .i64 k) := hcq
    have hfq2 : (w.drewN nq).frozen? ⟨q, 0, none⟩ = false := hfq
    clear hcq hfq hca hcb
    go_wp2
    go_ret2
    exact ⟨b, a, rfl, hb0, hb1, ha0, ha1, ⟨_, CK.set (w := w.drewN nq) HK.out _⟩, ((Om.refl _ _).drewN _).set _⟩

set_option maxRecDepth 100000 in
set_option maxHeartbeats 2000000 in
theorem median_any {g n cap q : Nat} {k : Int} {d : Array Nat} {rest : List Value} {w : World} (hS : SB w g d rest) (hn : d.size = n) (hq : CK w q k) (hne : g ≠ q) (lo hi a b c : Nat) (ha0 : lo ≤ a) (ha1 : a < hi) (hb0 : lo ≤ b) (hb1 : b < hi) (hc0 : lo ≤ c) (hc1 : c < hi) (hhi : hi ≤ n) :
    Calls Tryd.prog 85 #[.slice (some ⟨g, 0, none⟩) n cap, .int .i64 a, .int .i64 b, .int .i64 c, .pointer (some ⟨q, 0, none⟩)] w (RetO1 q lo hi w) := by
  have H1 := Lib.hid (order2_any (cap := cap) hS hn hq lo hi a b ha0 ha1 hb0 hb1 hhi)
  go_enter Tryd.func85, Tryd.ntmps85
  go_wp2_with fail
  refine H1.out.mono ?_
  rintro _ w1 ⟨a1, b1, rfl, ha10, ha11, hb10, hb11, ⟨k1, hq1⟩, hO1⟩
  have hS1 := hS.aside hO1 hne
  have H2 := Lib.hid (order2_any (cap := cap) hS1 hn hq1 lo hi b1 c hb10 hb11 hc0 hc1 hhi)
  clear H1
  go_wp2_with fail
  refine H2.out.mono ?_
  rintro _ w2 ⟨b2, c2, rfl, hb20, hb21, hc20, hc21, ⟨k2, hq2⟩, hO2⟩
  have hS2 := hS1.aside hO2 hne
  have H3 := Lib.hid (order2_any (cap := cap) hS2 hn hq2 lo hi a1 b2 ha10 ha11 hb20 hb21 hhi)
  clear H2
  go_wp2_with fail
  refine H3.out.mono ?_
  rintro _ w3 ⟨a3, b3, rfl, ha30, ha31, hb30, hb31, ⟨k3, hq3⟩, hO3⟩
  clear H3
  go_wp2
  go_ret
  exact ⟨b3, rfl, hb30, hb31, ⟨k3, hq3⟩, (hO1.trans hO2).trans hO3⟩

set_option maxRecDepth 100000 in
set_option maxHeartbeats 2000000 in
theorem medadj_any {g n cap q : Nat} {k : Int} {d : Array Nat} {rest : List Value} {w : World} (hS : SB w g d rest) (hn : d.size = n) (hq : CK w q k) (hne : g ≠ q) (lo hi a : Nat) (ha0 : lo + 1 ≤ a) (ha1 : a + 1 < hi) (hhi : hi ≤ n) (hsz : n ≤ 1099511627776) :
    Calls Tryd.prog 84 #[.slice (some ⟨g, 0, none⟩) n cap, .int .i64 a, .pointer (some ⟨q, 0, none⟩)] w (RetO1 q lo hi w) := by
  obtain ⟨am, ham⟩ : ∃ x, x = a - 1 := ⟨_, rfl⟩
  obtain ⟨ap, hap⟩ : ∃ x, x = a + 1 := ⟨_, rfl⟩
  have s1 : IntKind.i64.wrap ((a : Int) - 1) = (am : Int) := by rw [IntWalk.i64_in _ (by omega)]; omega
  have s2 : IntKind.i64.wrap ((a : Int) + 1) = (ap : Int) := by rw [IntWalk.i64_in _ (by omega)]; omega
  have H1 := Lib.hid (median_any (cap := cap) hS hn hq hne lo hi am a ap (by omega) (by omega) (by omega) (by omega) (by omega) (by omega) hhi)
  clear ham hap
  go_enter Tryd.func84, Tryd.ntmps84
  go_wp2_with fail
  refine H1.out.mono ?_
  rintro _ w1 ⟨x, rfl, hx0, hx1, hq1, hO1⟩
  go_wp2
  go_ret
  exact ⟨x, rfl, hx0, hx1, hq1, hO1⟩

/-- All but block g and what is new is as it was. -/
structure Ox (g : Nat) (w w' : World) : Prop where
  os : w'.os = w.os
  tape : w'.tape = w.tape
  output : w'.output = w.output
  size : w.heap.size ≤ w'.heap.size
  far : ∀ b, b ≠ g → b < w.heap.size → w'.heap[b]? = w.heap[b]?
theorem Ox.refl (g : Nat) (w : World) : Ox g w w := ⟨rfl, rfl, rfl, Nat.le_refl _, fun _ _ _ => rfl⟩
theorem Ox.trans {g : Nat} {w w' w'' : World} (h : Ox g w w') (k : Ox g w' w'') : Ox g w w'' :=
  ⟨k.os.trans h.os, k.tape.trans h.tape, k.output.trans h.output, Nat.le_trans h.size k.size, fun b hb hl => (k.far b hb (Nat.lt_of_lt_of_le hl h.size)).trans (h.far b hb hl)⟩
theorem Om.ox {g : Nat} {w w' : World} (h : Om g w w') : Ox g w w' := ⟨h.os, h.tape, h.output, by rw [h.size]; exact Nat.le_refl _, fun b hb _ => h.far b hb⟩
/-- What touches only a new box. -/
theorem Ox.box {g q : Nat} {w w1 w' : World} (h : Ox g w w1) (hq : w.heap.size ≤ q) (k : Om q w1 w') : Ox g w w' :=
  ⟨k.os.trans h.os, k.tape.trans h.tape, k.output.trans h.output, by rw [k.size]; exact h.size, fun b hb hl => (k.far b (by omega)).trans (h.far b hb hl)⟩
theorem Ox.drewN {g : Nat} {w w' : World} (h : Ox g w w') (n : Nat) : Ox g w (w'.drewN n) := ⟨h.os, h.tape, h.output, h.size, h.far⟩
theorem Ox.below {g : Nat} {w w' : World} (h : Ox g w w') {B : Nat} (hB : B ≤ g) (hs : B ≤ w.heap.size) : Below B w w' := ⟨h.os, h.tape, h.output, h.size, fun b hb => h.far b (by omega) (by omega)⟩
theorem Ox.alloc {g : Nat} {w w' : World} (h : Ox g w w') (o : Obj) : Ox g w (w'.alloc o) :=
  ⟨h.os, h.tape, h.output, by simp; have := h.size; omega, fun b hb hl => by
    rw [← h.far b hb hl]; exact Below.heap_alloc w' o b (Nat.lt_of_lt_of_le hl h.size)⟩
theorem SB.alloc {w : World} {g : Nat} {d : Array Nat} {rest : List Value} (h : SB w g d rest) (o : Obj) : SB (w.alloc o) g d rest :=
  (Below.heap_alloc w o g h.lt).trans h
def RetCp (g lo hi : Nat) (d : Array Nat) (rest : List Value) (w : World) (e : Ending) (w' : World) : Prop := ∃ (x : Nat) (h : Int), e = .returned (.tuple #[.int .i64 x, .int .i64 h]) ∧ lo ≤ x ∧ x < hi ∧ SB w' g d rest ∧ Ox g w w'
set_option maxRecDepth 100000 in
set_option maxHeartbeats 4000000 in
theorem pivot_any {g n cap : Nat} {d : Array Nat} {rest : List Value} {w : World} (hS : SB w g d rest) (hn : d.size = n) (a b : Nat) (hab : a + 12 < b) (hb : b ≤ n) (hsz : n ≤ 1099511627776) :
    Calls Tryd.prog 73 #[.slice (some ⟨g, 0, none⟩) n cap, .int .i64 a, .int .i64 b] w (RetCp g a b d rest w) := by
  obtain ⟨l, hl⟩ : ∃ x, x = b - a := ⟨_, rfl⟩
  obtain ⟨m, hm⟩ : ∃ x, x = l / 4 := ⟨_, rfl⟩
  obtain ⟨m2, hm2⟩ : ∃ x, x = m * 2 := ⟨_, rfl⟩
  obtain ⟨m3, hm3⟩ : ∃ x, x = m * 3 := ⟨_, rfl⟩
  obtain ⟨i, hi⟩ : ∃ x, x = a + m := ⟨_, rfl⟩
  obtain ⟨j, hj⟩ : ∃ x, x = a + m2 := ⟨_, rfl⟩
  obtain ⟨k, hk⟩ : ∃ x, x = a + m3 := ⟨_, rfl⟩
  have e1 : (b : Int) - a = (l : Int) := by omega
  have e2 : (l : Int) / 4 = (m : Int) := by omega
  have e3 : (m : Int) * 2 = (m2 : Int) := by omega
  have e4 : (m : Int) * 3 = (m3 : Int) := by omega
  have e5 : (a : Int) + m = (i : Int) := by omega
  have e6 : (a : Int) + m2 = (j : Int) := by omega
  have e7 : (a : Int) + m3 = (k : Int) := by omega
  have hl12 : 12 < l := by omega
  have bi : a ≤ i ∧ i < b ∧ a ≤ j ∧ j < b ∧ a ≤ k ∧ k < b := by omega
  have bj : 50 ≤ l → a + 1 ≤ i ∧ i + 1 < b ∧ a + 1 ≤ j ∧ j + 1 < b ∧ a + 1 ≤ k ∧ k + 1 < b := by omega
  have HB := Lib.hid (And.intro bi bj)
  clear hl hm hm2 hm3 hi hj hk bi bj
  go_enter Tryd.func73, Tryd.ntmps73
  have hg := hS.lt
  have hne : g ≠ w.heap.size := by omega
  have hS0 := hS.alloc (.cells #[Value.int .i64 0] 3)
  have hq0 : CK (w.alloc (.cells #[Value.int .i64 0] 3)) w.heap.size 0 := heap_alloc_new w _
  have hX0 : Hid (Ox g w (w.alloc (.cells #[Value.int .i64 0] 3))) := Lib.hid ((Ox.refl g w).alloc _)
  clear hS
  by_cases h50 : 50 ≤ l
  · have h50' : decide ((50 : Int) ≤ (l : Int)) = true := by simp; omega
    obtain ⟨bi0, bi1, bj0, bj1, bk0, bk1⟩ := HB.out.2 h50
    have H1 := Lib.hid (medadj_any (cap := cap) hS0 hn hq0 hne a b i bi0 bi1 hb hsz)
    clear bi0 bi1
    go_wp2_with fail
    clear e1 e2 e3 e4 e5 e6 e7
    refine H1.out.mono ?_
    rintro _ w1 ⟨i1, rfl, bi0, bi1, ⟨k1, hq1⟩, hO1⟩
    have hS1 := hS0.aside hO1 hne
    have hX1 := Lib.hid (hX0.out.box (Nat.le_refl _) hO1)
    have H2 := Lib.hid (medadj_any (cap := cap) hS1 hn hq1 hne a b j bj0 bj1 hb hsz)
    clear H1 bj0 bj1 hS0 hX0 hq0 hO1
    go_wp2_with fail
    refine H2.out.mono ?_
    rintro _ w2 ⟨j1, rfl, bj0, bj1, ⟨k2, hq2⟩, hO2⟩
    have hS2 := hS1.aside hO2 hne
    have hX2 := Lib.hid (hX1.out.box (Nat.le_refl _) hO2)
    have H3 := Lib.hid (medadj_any (cap := cap) hS2 hn hq2 hne a b k bk0 bk1 hb hsz)
    clear H2 bk0 bk1 hS1 hX1 hq1 hO2
    go_wp2_with fail
    refine H3.out.mono ?_
    rintro _ w3 ⟨kk, rfl, bk0, bk1, ⟨k3, hq3⟩, hO3⟩
    have hS3 := hS2.aside hO3 hne
    have hX3 := Lib.hid (hX2.out.box (Nat.le_refl _) hO3)
    have H4 := Lib.hid (median_any (cap := cap) hS3 hn hq3 hne a b i1 j1 kk bi0 bi1 bj0 bj1 bk0 bk1 hb)
    clear H3 hS2 hX2 hq2 hO3
    go_wp2_with fail
    refine H4.out.mono ?_
    rintro _ w4 ⟨p, rfl, bp0, bp1, ⟨k4, hq4⟩, hO4⟩
    have hS4 := hS3.aside hO4 hne
    have hX4 := Lib.hid (hX3.out.box (Nat.le_refl _) hO4)
    have hcq := hq4.cell
    have hfq := hq4.frozen
    clear H4 hS3 hX3 hq3 hO4
    by_cases k40 : k4 = 0
    · subst k40
      go_wp2
      go_ret2
      exact ⟨p, _, rfl, bp0, bp1, hS4, hX4.out⟩
    · have k40' : decide (k4 = 0) = false := by simp [k40]
      by_cases k412 : k4 = 12
      · subst k412
        go_wp2
        go_ret2
        exact ⟨p, _, rfl, bp0, bp1, hS4, hX4.out⟩
      · have k412' : decide (k4 = 12) = false := by simp [k412]
        go_wp2
        go_ret2
        exact ⟨p, _, rfl, bp0, bp1, hS4, hX4.out⟩
  · have h50' : decide ((50 : Int) ≤ (l : Int)) = false := by simp; omega
    obtain ⟨bi0, bi1, bj0, bj1, bk0, bk1⟩ := HB.out.1
    have H4 := Lib.hid (median_any (cap := cap) hS0 hn hq0 hne a b i j k bi0 bi1 bj0 bj1 bk0 bk1 hb)
    go_wp2_with fail
    clear e1 e2 e3 e4 e5 e6 e7
    refine H4.out.mono ?_
    rintro _ w4 ⟨p, rfl, bp0, bp1, ⟨k4, hq4⟩, hO4⟩
    have hS4 := hS0.aside hO4 hne
    have hX4 := Lib.hid (hX0.out.box (Nat.le_refl _) hO4)
    have hcq := hq4.cell
    have hfq := hq4.frozen
    clear H4 hS0 hX0 hq0 hO4
    by_cases k40 : k4 = 0
    · subst k40
      go_wp2
      go_ret2
      exact ⟨p, _, rfl, bp0, bp1, hS4, hX4.out⟩
    · have k40' : decide (k4 = 0) = false := by simp [k40]
      by_cases k412 : k4 = 12
      · subst k412
        go_wp2
        go_ret2
        exact ⟨p, _, rfl, bp0, bp1, hS4, hX4.out⟩
      · have k412' : decide (k4 = 12) = false := by simp [k412]
        go_wp2
        go_ret2
        exact ⟨p, _, rfl, bp0, bp1, hS4, hX4.out⟩
end Go.Proofs.YtjnhfakdpnnboaaDoor
