/- Integers and fractions modulo a prime. -/
import Derived.Test.YtipbpdiahemmpaaDoorI12
import Derived.Test.YtipbpdiahemmpaaDoorQh
import Derived.Test.YtipbpdiahemmpaaDoorW8
namespace Go.Proofs.YtipbpdiahemmpaaDoor
open Go.RowKit Go.IntWalk
attribute [local go_sem ↓] Go.wp_at_zero Go.wp_at_succ

set_option maxHeartbeats 1000000 in
theorem pOf_none (p : Nat) {pi : Int} (hpi : pi = p) {s : Bool} {A : Option Addr} {n c : Nat} {w : World} (hp : p < 4294967296) (hnp : ¬ Nt.Pr p) (hT : Tabs w) :
    Calls Tryd.prog 5 #[.agg #[.bool s, .slice A n c], .int .u32 pi] w (RetE (· = 0) 40 w) := by
  subst hpi
  have hB := (Below.refl w.heap.size w).alloc (Nat.le_refl _) (.cells #[.bool s, .slice A n c] 25)
  go_enter Tryd.func5, Tryd.ntmps5
  go_wp2_with fail
  refine (is_false hnp rfl hp _ (hT.below hB)).mono ?_
  rintro _ _ ⟨rfl, rfl⟩
  go_wp2
  go_ret2
  exact ⟨0, rfl, Lib.hid rfl, hB⟩
set_option maxHeartbeats 1000000 in
theorem pOf_ok (p : Nat) {pi : Int} (hpi : pi = p) {s : Bool} {A : Option Addr} {n c : Nat} {z : Int} {w : World} (h : RdZ w w.heap.size s A n c z) (hn : n ≤ 1000000000000) (hp : p < 4294967296) (hpr : Nt.Pr p) (hT : Tabs w) :
    Calls Tryd.prog 5 #[.agg #[.bool s, .slice A n c], .int .u32 pi] w (RetE (fun v => (v : Int) = z % p) 0 w) := by
  subst hpi
  obtain ⟨W1, HW1⟩ : ∃ W, W = w.alloc (.cells #[.bool s, .slice A n c] 25) := ⟨_, rfl⟩
  have hZ : ZC W1 w.heap.size s A n c := by rw [HW1]; exact ZC.new w s A n c
  have hB : Below w.heap.size w W1 := by rw [HW1]; exact (Below.refl w.heap.size w).alloc (Nat.le_refl _) _
  have HW1 := Lib.hid HW1
  have h1 := h.next hB
  go_enter Tryd.func5, Tryd.ntmps5
  go_wp2_with fail
  rw [← HW1.out]
  clear HW1
  clear HW1
  refine (is_true hpr rfl hp _ (hT.below hB)).mono ?_
  rintro _ _ ⟨rfl, rfl⟩
  have hc0 := hZ.c0
  have hc1 := hZ.c1
  go_wp2_with fail
  refine (imod_any p rfl h1 hn hp hpr.pos).mono ?_
  rintro _ W2 ⟨x, rfl, hx, hb2⟩
  go_wp2
  go_ret2
  exact ⟨x, rfl, hx, hB.trans (hb2.mono hB.size)⟩
set_option maxHeartbeats 1000000 in
theorem rOf_any (p : Nat) {pi : Int} (hpi : pi = p) {s : Bool} {A : Option Addr} {n c : Nat} {z : Int} {w : World} (h : RdZ w w.heap.size s A n c z) (hn : n ≤ 1000000000000) (hp : p < 4294967296) (hp0 : 0 < p) :
    Calls Tryd.prog 10 #[.agg #[.bool s, .slice A n c], .int .u32 pi] w fun e w' => ∃ x : Nat, e = .returned (.int .u32 x) ∧ Hid ((x : Int) = z % p) ∧ Below w.heap.size w w' := by
  subst hpi
  obtain ⟨W1, HW1⟩ : ∃ W, W = w.alloc (.cells #[.bool s, .slice A n c] 25) := ⟨_, rfl⟩
  have hZ : ZC W1 w.heap.size s A n c := by rw [HW1]; exact ZC.new w s A n c
  have hB : Below w.heap.size w W1 := by rw [HW1]; exact (Below.refl w.heap.size w).alloc (Nat.le_refl _) _
  have hc0 := hZ.c0
  have hc1 := hZ.c1
  rw [HW1] at hc0 hc1
  have HW1 := Lib.hid HW1
  have h1 := h.next hB
  go_enter Tryd.func10, Tryd.ntmps10
  go_wp2_with fail
  rw [← HW1.out]
  clear HW1 hc0 hc1
  clear HW1
  refine (rIMod_any p rfl h1 hn hp hp0).mono ?_
  rintro _ W2 ⟨x, rfl, hx, hb2⟩
  go_wp2
  go_ret
  exact ⟨x, rfl, hx, hB.trans (hb2.mono hB.size)⟩

/-- The block g holds a fraction's four cells. -/
def QC (w : World) (g : Nat) (s : Bool) (A : Option Addr) (n c : Nat) (s' : Bool) (A' : Option Addr) (n' c' : Nat) : Prop := w.heap[g]? = some (.cells #[.bool s, .slice A n c, .bool s', .slice A' n' c'] 27 (0, 0))
section
variable {w w' : World} {g : Nat} {s s' : Bool} {A A' : Option Addr} {n c n' c' : Nat}
theorem QC.lt (h : QC w g s A n c s' A' n' c') : g < w.heap.size := (Array.getElem?_eq_some_iff.1 h).1
theorem QC.c0 (h : QC w g s A n c s' A' n' c') : w.cell? ⟨g, 0, none⟩ = some (.bool s) := by
  rw [cell_of_row w g 0 _ _ _ h]; rfl
theorem QC.c1 (h : QC w g s A n c s' A' n' c') : w.cell? ⟨g, 1, none⟩ = some (.slice A n c) := by
  rw [cell_of_row w g 1 _ _ _ h]; rfl
theorem QC.c2 (h : QC w g s A n c s' A' n' c') : w.cell? ⟨g, 2, none⟩ = some (.bool s') := by
  rw [cell_of_row w g 2 _ _ _ h]; rfl
theorem QC.c3 (h : QC w g s A n c s' A' n' c') : w.cell? ⟨g, 3, none⟩ = some (.slice A' n' c') := by
  rw [cell_of_row w g 3 _ _ _ h]; rfl
theorem QC.next (h : QC w g s A n c s' A' n' c') (hb : Below w.heap.size w w') : QC w' g s A n c s' A' n' c' := (hb.block g h.lt).trans h
theorem QC.new (w : World) (s : Bool) (A : Option Addr) (n c : Nat) (s' : Bool) (A' : Option Addr) (n' c' : Nat) : QC (w.alloc (.cells #[.bool s, .slice A n c, .bool s', .slice A' n' c'] 27)) w.heap.size s A n c s' A' n' c' := heap_alloc_new w _
end

set_option maxHeartbeats 1000000 in
theorem pOfRat_none (p : Nat) {pi : Int} (hpi : pi = p) {s s' : Bool} {A A' : Option Addr} {n c n' c' : Nat} {w : World} (hp : p < 4294967296) (hnp : ¬ Nt.Pr p) (hT : Tabs w) :
    Calls Tryd.prog 6 #[.agg #[.bool s, .slice A n c, .bool s', .slice A' n' c'], .int .u32 pi] w (RetE (· = 0) 40 w) := by
  subst hpi
  have hB := (Below.refl w.heap.size w).alloc (Nat.le_refl _) (.cells #[.bool s, .slice A n c, .bool s', .slice A' n' c'] 27)
  go_enter Tryd.func6, Tryd.ntmps6
  go_wp2_with fail
  refine (is_false hnp rfl hp _ (hT.below hB)).mono ?_
  rintro _ _ ⟨rfl, rfl⟩
  go_wp2
  go_ret2
  exact ⟨0, rfl, Lib.hid rfl, hB⟩
set_option maxHeartbeats 2000000 in
theorem pOfRat_den (p : Nat) {pi : Int} (hpi : pi = p) {s s' : Bool} {A A' : Option Addr} {n c n' c' : Nat} {w : World} (h' : RdZ w w.heap.size s' A' n' c' 0) (hn' : n' ≤ 1000000000000) (hp : p < 4294967296) (hpr : Nt.Pr p) (hT : Tabs w) :
    Calls Tryd.prog 6 #[.agg #[.bool s, .slice A n c, .bool s', .slice A' n' c'], .int .u32 pi] w (RetE (· = 0) 6 w) := by
  subst hpi
  obtain ⟨W1, HW1⟩ : ∃ W, W = w.alloc (.cells #[.bool s, .slice A n c, .bool s', .slice A' n' c'] 27) := ⟨_, rfl⟩
  have hZ : QC W1 w.heap.size s A n c s' A' n' c' := by rw [HW1]; exact QC.new w s A n c s' A' n' c'
  have hB : Below w.heap.size w W1 := by rw [HW1]; exact (Below.refl w.heap.size w).alloc (Nat.le_refl _) _
  have HW1 := Lib.hid HW1
  obtain ⟨M, h1, hz⟩ := (h'.next hB).raw
  go_enter Tryd.func6, Tryd.ntmps6
  go_wp2_with fail
  rw [← HW1.out]
  clear HW1
  clear HW1
  refine (is_true hpr rfl hp _ (hT.below hB)).mono ?_
  rintro _ _ ⟨rfl, rfl⟩
  have hc2 := hZ.c2
  have hc3 := hZ.c3
  go_wp2_with fail
  refine (norm_any h1 (by omega)).mono ?_
  rintro _ W2 ⟨A2, m2, c2, x2, rfl, ho2, hx2, hb2⟩
  have e : m2 = 0 := own_zero ho2 (by rw [hx2.out]; exact Zz.sg_eq_zero.1 hz.out.symm)
  subst e
  go_wp2
  go_ret2
  exact ⟨0, rfl, Lib.hid rfl, hB.trans (hb2.mono hB.size)⟩
end Go.Proofs.YtipbpdiahemmpaaDoor

/- Fractions modulo a prime: the program's and the reference's. -/
namespace Go.Proofs.YtipbpdiahemmpaaDoor
open Go.RowKit Go.IntWalk
attribute [local go_sem ↓] Go.wp_at_zero Go.wp_at_succ

/-- A fraction's two parts without a common divisor, modulo p. -/
def rx (x y : Int) (p : Nat) : Nat := ((x.tdiv (Int.gcd x y)) % p).toNat
def ry (x y : Int) (p : Nat) : Nat := ((y.tdiv (Int.gcd x y)) % p).toNat
theorem gcd_ne {x y : Int} (hy : y ≠ 0) : (Int.gcd x y : Int) ≠ 0 := by
  have := Int.gcd_pos_of_ne_zero_right x hy
  omega
theorem tmod_left (x y : Int) : x.tmod (Int.gcd x y) = 0 := Int.tmod_eq_zero_of_dvd (Int.gcd_dvd_left x y)
theorem tmod_right (x y : Int) : y.tmod (Int.gcd x y) = 0 := Int.tmod_eq_zero_of_dvd (Int.gcd_dvd_right x y)
theorem rx_eq {x y : Int} {p v : Nat} (hp : 0 < p) (h : (v : Int) = (x.tdiv (Int.gcd x y)) % p) : v = rx x y p ∧ v < p := by
  unfold rx
  rw [← h]
  have := Int.emod_lt_of_pos (x.tdiv (Int.gcd x y)) (show (0 : Int) < p by omega)
  refine ⟨by simp, by omega⟩
theorem ry_eq {x y : Int} {p v : Nat} (hp : 0 < p) (h : (v : Int) = (y.tdiv (Int.gcd x y)) % p) : v = ry x y p ∧ v < p := by
  unfold ry
  rw [← h]
  have := Int.emod_lt_of_pos (y.tdiv (Int.gcd x y)) (show (0 : Int) < p by omega)
  refine ⟨by simp, by omega⟩
theorem gcd_len {x y : Int} (hy : y ≠ 0) : Zz.zl (Int.gcd x y) ≤ Zz.zl y := by
  rw [Int.gcd_comm]; exact Zz.zl_gcd_left y x hy

/-- Two integers in a row of two. -/
theorem two_zs {w : World} {B N g : Nat} {s s' : Bool} {A A' : Option Addr} {n c n' c' : Nat} {x y : Int} (hg : g < B) (h0 : w.cell? ⟨g, 0, none⟩ = some (.bool s)) (h1 : w.cell? ⟨g, 1, none⟩ = some (.slice A n c)) (h2 : w.cell? ⟨g, 2, none⟩ = some (.bool s')) (h3 : w.cell? ⟨g, 3, none⟩ = some (.slice A' n' c'))
    (h : RdZ w B s A n c x) (h' : RdZ w B s' A' n' c' y) (hn : n ≤ N) (hn' : n' ≤ N) : RdZs w B N (some ⟨g, 0, none⟩) 2 2 [x, y] := by
  refine ⟨rfl, Nat.le_refl _, by decide, fun j z hz => ?_⟩
  match j, hz with
  | 0, hz => simp at hz; subst hz; exact ⟨_, s, A, n, c, rfl, hg, by simpa [Addr.add] using h0, by simpa [Addr.add] using h1, h, hn⟩
  | 1, hz => simp at hz; subst hz; exact ⟨_, s', A', n', c', rfl, hg, by simpa [Addr.add] using h2, by simpa [Addr.add] using h3, h', hn'⟩
  | (j + 2), hz => simp at hz

set_option maxRecDepth 100000 in
set_option maxHeartbeats 4000000 in
theorem pOfRat_any (p : Nat) {pi : Int} (hpi : pi = p) {s s' : Bool} {A A' : Option Addr} {n c n' c' : Nat} {x y : Int} {w : World} (h : RdZ w w.heap.size s A n c x) (h' : RdZ w w.heap.size s' A' n' c' y) (hn : n ≤ 1000000000000) (hn' : n' ≤ 1000000000000) (hy : y ≠ 0) (hp : p < 4294967296) (hpr : Nt.Pr p) (hT : Tabs w) :
    Calls Tryd.prog 6 #[.agg #[.bool s, .slice A n c, .bool s', .slice A' n' c'], .int .u32 pi] w fun e w' => ∃ (v : Nat) (k : Int), e = .returned (.tuple #[.int .u32 v, .int .i64 k]) ∧ Hid ((ry x y p = 0 ∧ v = 0 ∧ k = 5) ∨ (ry x y p ≠ 0 ∧ v = rx x y p * (ry x y p ^ (p - 2) % p) % p ∧ k = 0)) ∧ Below w.heap.size w w' := by
  subst hpi
  have HL := Lib.hid (And.intro h.len h'.len)
  obtain ⟨W1, HW1⟩ : ∃ W, W = w.alloc (.cells #[.bool s, .slice A n c, .bool s', .slice A' n' c'] 27) := ⟨_, rfl⟩
  have hZ : QC W1 w.heap.size s A n c s' A' n' c' := by rw [HW1]; exact QC.new w s A n c s' A' n' c'
  have hB : Below w.heap.size w W1 := by rw [HW1]; exact (Below.refl w.heap.size w).alloc (Nat.le_refl _) _
  have HW1 := Lib.hid HW1
  have HX := Lib.hid h
  have HY := Lib.hid h'
  have HNE := Lib.hid hy
  have HT := Lib.hid hT
  have hpp := hpr.pos
  clear h h' hy hT
  go_enter Tryd.func6, Tryd.ntmps6
  go_wp2_with fail
  rw [← HW1.out]
  clear HW1
  clear HW1
  refine (is_true hpr rfl hp _ (HT.out.below hB)).mono ?_
  rintro _ _ ⟨rfl, rfl⟩
  have hc0 := hZ.c0
  have hc1 := hZ.c1
  have hc2 := hZ.c2
  have hc3 := hZ.c3
  obtain ⟨M, h1, hz⟩ := (HY.out.next hB).raw
  go_wp2_with fail
  refine (norm_any h1 (by omega)).mono ?_
  rintro _ W2 ⟨A2, m2, c2, x2, rfl, ho2, hx2, hb2⟩
  have hm2 : 0 < m2 := by
    rcases Nat.eq_zero_or_pos m2 with e | e
    · exfalso
      have e2 := ho2.len
      rw [e, List.length_eq_zero_iff, Dg.dg_nil, hx2.out] at e2
      exact HNE.out (by rw [hz.out, e2, Zz.sg_zero])
    · exact e
  have hmb : ((m2 : Int) == 0) = false := by simp; omega
  have HZ2 := Lib.hid (hZ.next hb2)
  have HB2 := Lib.hid (hB.trans (hb2.mono hB.size))
  clear hc0 hc1 hc2 hc3 h1 hb2 ho2 hZ hB hz hx2 hm2
  have hc0 := HZ2.out.c0
  have hc1 := HZ2.out.c1
  have hc2 := HZ2.out.c2
  have hc3 := HZ2.out.c3
  obtain ⟨W3, HW3⟩ : ∃ W, W = W2.alloc (.cells #[.bool s, .slice A n c, .bool s', .slice A' n' c'] 25) := ⟨_, rfl⟩
  have hb3 : Below W2.heap.size W2 W3 := by rw [HW3]; exact (Below.refl W2.heap.size W2).alloc (Nat.le_refl _) _
  have HB3 := Lib.hid (HB2.out.trans (hb3.mono HB2.out.size))
  have HR3 : Hid (RdZs W3 W3.heap.size (max n n') (some ⟨W2.heap.size, 0, none⟩) 2 2 [x, y]) := Lib.hid (by
    refine two_zs (s := s) (A := A) (n := n) (c := c) (s' := s') (A' := A') (n' := n') (c' := c') ?_ ?_ ?_ ?_ ?_ (HX.out.next HB3.out) (HY.out.next HB3.out) (by omega) (by omega)
    · rw [HW3]; simp
    all_goals rw [HW3]; simp [World.cell?_alloc_new])
  have HW3 := Lib.hid HW3
  go_wp2_with fail
  rw [← HW3.out]
  clear HW3 hc0 hc1 hc2 hc3
  clear HW3
  refine (gcdl_any HR3.out (by omega)).mono ?_
  rintro _ W4 ⟨s4, A4, m4, c4, z4, rfl, ho4, hz4, hb4⟩
  have HG4 := Lib.hid (show z4 = Int.gcd x y by
    rw [hz4.out]
    simp [Int.gcd])
  obtain ⟨W5, HW5⟩ : ∃ W, W = W4.alloc (.cells #[.bool s4, .slice A4 m4 c4] 25) := ⟨_, rfl⟩
  have hCW5 : ZC W5 W4.heap.size s4 A4 m4 c4 := by rw [HW5]; exact ZC.new W4 s4 A4 m4 c4
  have hbW5 : Below W4.heap.size W4 W5 := by rw [HW5]; exact (Below.refl W4.heap.size W4).alloc (Nat.le_refl _) _
  have HO5 := Lib.hid (ho4.next hbW5)
  have HB25 := Lib.hid (hb3.trans ((hb4.trans (hbW5.mono hb4.size)).mono hb3.size))
  have HB5 := Lib.hid (HB2.out.trans (HB25.out.mono HB2.out.size))
  have HZ5 := Lib.hid (HZ2.out.next HB25.out)
  have HC5 := Lib.hid hCW5
  have HM5 := Lib.hid (show m4 ≤ 1000000000000 by rw [ho4.len, HG4.out]; have := gcd_len (x := x) HNE.out; have := HL.out; omega)
  have hd0 := HZ5.out.c0
  have hd1 := HZ5.out.c1
  have hd2 := hCW5.c0
  have hd3 := hCW5.c1
  rw [HW5] at hd0 hd1 hd2 hd3
  have HW5 := Lib.hid HW5
  go_wp2_with fail
  rw [← HW5.out]
  clear HW5
  clear HW5
  clear hd0 hd1 hd2 hd3 hb4 hb3 hbW5 ho4 hCW5 hz4
  have hg4 : z4 ≠ 0 := by rw [HG4.out]; exact gcd_ne HNE.out
  refine (exact_any (HX.out.next HB5.out) HO5.out.rd hn HM5.out hg4).mono ?_
  rintro _ W6 ⟨s6, A6, m6, c6, z6, k6, rfl, ho6, hz6, hb6⟩
  have HF6 := Lib.hid (show z6 = x.tdiv (Int.gcd x y) ∧ k6 = 0 by
    rcases hz6.out with ⟨_, e1, e2⟩ | ⟨e, _⟩
    · exact ⟨by rw [e1, HG4.out], e2⟩
    · exact absurd (by rw [HG4.out]; exact tmod_left x y) e)
  obtain ⟨W7, HW7⟩ : ∃ W, W = W6.alloc (.cells #[.bool s6, .slice A6 m6 c6] 25) := ⟨_, rfl⟩
  have hCW7 : ZC W7 W6.heap.size s6 A6 m6 c6 := by rw [HW7]; exact ZC.new W6 s6 A6 m6 c6
  have hbW7 : Below W6.heap.size W6 W7 := by rw [HW7]; exact (Below.refl W6.heap.size W6).alloc (Nat.le_refl _) _
  have HO7 := Lib.hid (ho6.next hbW7)
  have HB57 := Lib.hid (hb6.trans (hbW7.mono hb6.size))
  have HB7 := Lib.hid (HB5.out.trans (HB57.out.mono HB5.out.size))
  have HZ7 := Lib.hid (HZ5.out.next HB57.out)
  have HG7 := Lib.hid (HC5.out.next HB57.out)
  have HC7 := Lib.hid hCW7
  have HP7 := Lib.hid (HO5.out.next HB57.out)
  have HM7 := Lib.hid (show m6 ≤ 1000000000000 by rw [ho6.len, HF6.out.1]; have := Zz.zl_tdiv x (Int.gcd x y); have := HL.out; omega)
  have hd0 := HZ7.out.c2
  have hd1 := HZ7.out.c3
  have hd2 := HG7.out.c0
  have hd3 := HG7.out.c1
  rw [HW7] at hd0 hd1 hd2 hd3
  have HW7 := Lib.hid HW7
  go_wp2_with fail
  rw [← HW7.out]
  clear HW7
  clear HW7
  clear hd0 hd1 hd2 hd3 hb6 hbW7 ho6 hCW7 hz6
  refine (exact_any (HY.out.next HB7.out) HP7.out.rd hn' HM5.out hg4).mono ?_
  rintro _ W8 ⟨s8, A8, m8, c8, z8, k8, rfl, ho8, hz8, hb8⟩
  have HF8 := Lib.hid (show z8 = y.tdiv (Int.gcd x y) ∧ k8 = 0 by
    rcases hz8.out with ⟨_, e1, e2⟩ | ⟨e, _⟩
    · exact ⟨by rw [e1, HG4.out], e2⟩
    · exact absurd (by rw [HG4.out]; exact tmod_right x y) e)
  obtain ⟨W9, HW9⟩ : ∃ W, W = W8.alloc (.cells #[.bool s8, .slice A8 m8 c8] 25) := ⟨_, rfl⟩
  have hCW9 : ZC W9 W8.heap.size s8 A8 m8 c8 := by rw [HW9]; exact ZC.new W8 s8 A8 m8 c8
  have hbW9 : Below W8.heap.size W8 W9 := by rw [HW9]; exact (Below.refl W8.heap.size W8).alloc (Nat.le_refl _) _
  have HO9 := Lib.hid (ho8.next hbW9)
  have HB79 := Lib.hid (hb8.trans (hbW9.mono hb8.size))
  have HB9 := Lib.hid (HB7.out.trans (HB79.out.mono HB7.out.size))
  have HD9 := Lib.hid (HC7.out.next HB79.out)
  have HC9 := Lib.hid hCW9
  have HP9 := Lib.hid (HO7.out.next HB79.out)
  have HM9 := Lib.hid (show m8 ≤ 1000000000000 by rw [ho8.len, HF8.out.1]; have := Zz.zl_tdiv y (Int.gcd x y); have := HL.out; omega)
  have hd2 := HD9.out.c0
  have hd3 := HD9.out.c1
  rw [HW9] at hd2 hd3
  have HW9 := Lib.hid HW9
  go_wp2_with fail
  rw [← HW9.out]
  clear HW9
  clear HW9
  clear hd2 hd3 hb8 hbW9 ho8 hCW9 hz8
  refine (imod_any p rfl HP9.out.rd HM7.out hp hpp).mono ?_
  rintro _ W10 ⟨a, rfl, ha, hb10⟩
  have HA := Lib.hid (rx_eq hpp (by rw [ha.out, HF6.out.1]))
  have HC10 := Lib.hid (HC9.out.next hb10)
  have HO10 := Lib.hid (HO9.out.next hb10)
  have HB10 := Lib.hid (HB9.out.trans (hb10.mono HB9.out.size))
  have hd2 := HC10.out.c0
  have hd3 := HC10.out.c1
  clear hb10 ha
  go_wp2_with fail
  clear hd2 hd3
  refine (imod_any p rfl HO10.out.rd HM9.out hp hpp).mono ?_
  rintro _ W11 ⟨b, rfl, hb, hb11⟩
  have HBB := Lib.hid (ry_eq hpp (by rw [hb.out, HF8.out.1]))
  have HB11 := Lib.hid (HB10.out.trans (hb11.mono HB10.out.size))
  clear hb hb11
  go_wp2_with fail
  by_cases hz : b = 0
  · refine (quo_zero a b p rfl rfl rfl hp hpr (by rw [hz]; exact Nat.zero_mod _) _ (HT.out.below HB11.out)).mono ?_
    rintro _ _ ⟨v, rfl, hv, j, rfl⟩
    go_wp2
    go_ret2
    exact ⟨v, 5, rfl, Lib.hid (.inl ⟨by rw [← HBB.out.1, hz], hv.out, rfl⟩), below_drewN HB11.out j⟩
  · have HBZ := Lib.hid hz
    refine (quo_ok a b p rfl rfl rfl (by have := HA.out.2; omega) (by have := HBB.out.2; omega) hp hpr (by rw [Nat.mod_eq_of_lt HBB.out.2]; exact hz) _ (HT.out.below HB11.out)).mono ?_
    rintro _ _ ⟨v, rfl, hv, j, rfl⟩
    clear hz
    go_wp2
    go_ret2
    exact ⟨v, 0, rfl, Lib.hid (.inr ⟨by rw [← HBB.out.1]; exact HBZ.out, by rw [hv.out, HA.out.1, HBB.out.1], rfl⟩), below_drewN HB11.out j⟩

set_option maxRecDepth 100000 in
set_option maxHeartbeats 4000000 in
theorem rOfRat_any (p : Nat) {pi : Int} (hpi : pi = p) {s s' : Bool} {A A' : Option Addr} {n c n' c' : Nat} {x y : Int} {w : World} (h : RdZ w w.heap.size s A n c x) (h' : RdZ w w.heap.size s' A' n' c' y) (hn : n ≤ 1000000000000) (hn' : n' ≤ 1000000000000) (hy : y ≠ 0) (hp : p < 4294967296) (hp2 : 2 ≤ p) :
    Calls Tryd.prog 12 #[.agg #[.bool s, .slice A n c, .bool s', .slice A' n' c'], .int .u32 pi] w fun e w' => ∃ (v : Nat) (k : Bool), e = .returned (.tuple #[.int .u32 v, .bool k]) ∧ Hid ((ry x y p = 0 ∧ v = 0 ∧ k = false) ∨ (ry x y p ≠ 0 ∧ v = rx x y p * (ry x y p ^ (p - 2) % p) % p ∧ k = true)) ∧ Below w.heap.size w w' := by
  subst hpi
  have HL := Lib.hid (And.intro h.len h'.len)
  obtain ⟨W1, HW1⟩ : ∃ W, W = w.alloc (.cells #[.bool s, .slice A n c, .bool s', .slice A' n' c'] 27) := ⟨_, rfl⟩
  have hZ : QC W1 w.heap.size s A n c s' A' n' c' := by rw [HW1]; exact QC.new w s A n c s' A' n' c'
  have hB : Below w.heap.size w W1 := by rw [HW1]; exact (Below.refl w.heap.size w).alloc (Nat.le_refl _) _
  have HX := Lib.hid h
  have HY := Lib.hid h'
  have HNE := Lib.hid hy
  have hpp : 0 < p := by omega
  clear h h' hy
  have hc0 := hZ.c0
  have hc1 := hZ.c1
  have hc2 := hZ.c2
  have hc3 := hZ.c3
  rw [HW1] at hc0 hc1 hc2 hc3
  have HW1 := Lib.hid HW1
  go_enter Tryd.func12, Tryd.ntmps12
  go_wp2_with fail
  rw [← HW1.out]
  clear HW1 hc0 hc1 hc2 hc3
  clear HW1
  refine (rIGcd_any (HX.out.next hB) (HY.out.next hB) (by omega) (by omega)).mono ?_
  rintro _ W4 ⟨s4, A4, m4, c4, z4, rfl, ho4, hz4, hb4⟩
  have HG4 := Lib.hid hz4.out
  obtain ⟨W5, HW5⟩ : ∃ W, W = W4.alloc (.cells #[.bool s4, .slice A4 m4 c4] 25) := ⟨_, rfl⟩
  have hCW5 : ZC W5 W4.heap.size s4 A4 m4 c4 := by rw [HW5]; exact ZC.new W4 s4 A4 m4 c4
  have hbW5 : Below W4.heap.size W4 W5 := by rw [HW5]; exact (Below.refl W4.heap.size W4).alloc (Nat.le_refl _) _
  have HO5 := Lib.hid (ho4.next hbW5)
  have HB15 := Lib.hid (hb4.trans (hbW5.mono hb4.size))
  have HB5 := Lib.hid (hB.trans (HB15.out.mono hB.size))
  have HZ5 := Lib.hid (hZ.next HB15.out)
  have HC5 := Lib.hid hCW5
  have HM5 := Lib.hid (show m4 ≤ 1000000000000 by rw [ho4.len, HG4.out]; have := gcd_len (x := x) HNE.out; have := HL.out; omega)
  have hd0 := HZ5.out.c0
  have hd1 := HZ5.out.c1
  have hd2 := hCW5.c0
  have hd3 := hCW5.c1
  rw [HW5] at hd0 hd1 hd2 hd3
  have HW5 := Lib.hid HW5
  go_wp2_with fail
  rw [← HW5.out]
  clear HW5
  clear HW5
  clear hd0 hd1 hd2 hd3 hb4 hbW5 ho4 hCW5 hz4 hZ hB
  have hg4 : z4 ≠ 0 := by rw [HG4.out]; exact gcd_ne HNE.out
  refine (rIExact_any (HX.out.next HB5.out) HO5.out.rd (by omega) (by have := HM5.out; omega) hg4).mono ?_
  rintro _ W6 ⟨s6, A6, m6, c6, z6, k6, rfl, ho6, hz6, hb6⟩
  have HF6 := Lib.hid (show z6 = x.tdiv (Int.gcd x y) ∧ k6 = true by
    rcases hz6.out with ⟨_, e1, e2⟩ | ⟨e, _⟩
    · exact ⟨by rw [e1, HG4.out], e2⟩
    · exact absurd (by rw [HG4.out]; exact tmod_left x y) e)
  obtain ⟨W7, HW7⟩ : ∃ W, W = W6.alloc (.cells #[.bool s6, .slice A6 m6 c6] 25) := ⟨_, rfl⟩
  have hCW7 : ZC W7 W6.heap.size s6 A6 m6 c6 := by rw [HW7]; exact ZC.new W6 s6 A6 m6 c6
  have hbW7 : Below W6.heap.size W6 W7 := by rw [HW7]; exact (Below.refl W6.heap.size W6).alloc (Nat.le_refl _) _
  have HO7 := Lib.hid (ho6.next hbW7)
  have HB57 := Lib.hid (hb6.trans (hbW7.mono hb6.size))
  have HB7 := Lib.hid (HB5.out.trans (HB57.out.mono HB5.out.size))
  have HZ7 := Lib.hid (HZ5.out.next HB57.out)
  have HG7 := Lib.hid (HC5.out.next HB57.out)
  have HC7 := Lib.hid hCW7
  have HP7 := Lib.hid (HO5.out.next HB57.out)
  have HM7 := Lib.hid (show m6 ≤ 1000000000000 by rw [ho6.len, HF6.out.1]; have := Zz.zl_tdiv x (Int.gcd x y); have := HL.out; omega)
  have hd0 := HZ7.out.c2
  have hd1 := HZ7.out.c3
  have hd2 := HG7.out.c0
  have hd3 := HG7.out.c1
  rw [HW7] at hd0 hd1 hd2 hd3
  have HW7 := Lib.hid HW7
  go_wp2_with fail
  rw [← HW7.out]
  clear HW7
  clear HW7
  clear hd0 hd1 hd2 hd3 hb6 hbW7 ho6 hCW7 hz6
  refine (rIExact_any (HY.out.next HB7.out) HP7.out.rd (by omega) (by have := HM5.out; omega) hg4).mono ?_
  rintro _ W8 ⟨s8, A8, m8, c8, z8, k8, rfl, ho8, hz8, hb8⟩
  have HF8 := Lib.hid (show z8 = y.tdiv (Int.gcd x y) ∧ k8 = true by
    rcases hz8.out with ⟨_, e1, e2⟩ | ⟨e, _⟩
    · exact ⟨by rw [e1, HG4.out], e2⟩
    · exact absurd (by rw [HG4.out]; exact tmod_right x y) e)
  obtain ⟨W9, HW9⟩ : ∃ W, W = W8.alloc (.cells #[.bool s8, .slice A8 m8 c8] 25) := ⟨_, rfl⟩
  have hCW9 : ZC W9 W8.heap.size s8 A8 m8 c8 := by rw [HW9]; exact ZC.new W8 s8 A8 m8 c8
  have hbW9 : Below W8.heap.size W8 W9 := by rw [HW9]; exact (Below.refl W8.heap.size W8).alloc (Nat.le_refl _) _
  have HO9 := Lib.hid (ho8.next hbW9)
  have HB79 := Lib.hid (hb8.trans (hbW9.mono hb8.size))
  have HB9 := Lib.hid (HB7.out.trans (HB79.out.mono HB7.out.size))
  have HD9 := Lib.hid (HC7.out.next HB79.out)
  have HC9 := Lib.hid hCW9
  have HP9 := Lib.hid (HO7.out.next HB79.out)
  have HM9 := Lib.hid (show m8 ≤ 1000000000000 by rw [ho8.len, HF8.out.1]; have := Zz.zl_tdiv y (Int.gcd x y); have := HL.out; omega)
  have hd2 := hCW9.c0
  have hd3 := hCW9.c1
  rw [HW9] at hd2 hd3
  have HW9 := Lib.hid HW9
  go_wp2_with fail
  rw [← HW9.out]
  clear HW9
  clear HW9
  clear hd2 hd3 hb8 hbW9 ho8 hCW9 hz8
  refine (rOf_any p rfl HO9.out.rd HM9.out hp hpp).mono ?_
  rintro _ W10 ⟨b, rfl, hb, hb10⟩
  have HBB := Lib.hid (ry_eq hpp (by rw [hb.out, HF8.out.1]))
  have HD10 := Lib.hid (HD9.out.next hb10)
  have HO10 := Lib.hid (HP9.out.next hb10)
  have HB10 := Lib.hid (HB9.out.trans (hb10.mono HB9.out.size))
  clear hb10 hb
  by_cases hz : b = 0
  · have HBZ := Lib.hid hz
    subst hz
    go_wp2
    go_ret2
    exact ⟨0, false, rfl, Lib.hid (.inl ⟨HBB.out.1.symm, rfl, rfl⟩), HB10.out⟩
  · have HBZ := Lib.hid hz
    have hzb : ((b : Int) == 0) = false := by simp; omega
    clear hz
    have hd2 := HD10.out.c0
    have hd3 := HD10.out.c1
    go_wp2_with fail
    clear hd2 hd3
    refine (rOf_any p rfl HO10.out.rd HM7.out hp hpp).mono ?_
    rintro _ W11 ⟨a, rfl, ha, hb11⟩
    have HA := Lib.hid (rx_eq hpp (by rw [ha.out, HF6.out.1]))
    have HB11 := Lib.hid (HB10.out.trans (hb11.mono HB10.out.size))
    clear ha hb11
    go_wp2_with fail
    refine (refInv_any b p rfl rfl (by have := HBB.out.2; omega) hp hp2 _).mono ?_
    rintro _ _ ⟨i, rfl, hi, rfl⟩
    have hil : i < 4294967296 := by rw [hi.out]; exact Nat.lt_trans (Nat.mod_lt _ hpp) hp
    go_wp2_with fail
    refine (refMul_any a i p rfl rfl rfl (by have := HA.out.2; omega) hil hp hpp _).mono ?_
    rintro _ _ ⟨v, rfl, hv, rfl⟩
    go_wp2
    go_ret2
    exact ⟨v, true, rfl, Lib.hid (.inr ⟨by rw [← HBB.out.1]; exact HBZ.out, by rw [hv.out, HA.out.1, hi.out, HBB.out.1], rfl⟩), HB11.out⟩
end Go.Proofs.YtipbpdiahemmpaaDoor

/- The law PrimeOf: the walk. -/
namespace Go.Proofs.YtipbpdiahemmpaaDoor
open Go.RowKit Go.IntWalk
attribute [local go_sem ↓] Go.wp_at_zero Go.wp_at_succ

set_option maxHeartbeats 400000 in
theorem tell_ok {v u : Int} (h : v = u) (w : World) : Calls Tryd.prog 8 #[.int .u32 v, .int .i64 0, .int .u32 u, .int .i64 0] w fun e w' => e = .returned (.bool true) ∧ w = w' := by
  subst h
  go_enter Tryd.func8, Tryd.ntmps8
  go_wp2_with (go_at_call 19; refine (num_any _ _).mono ?_; rintro _ _ ⟨rfl, rfl⟩)
  go_ret
  exact ⟨rfl, rfl⟩
set_option maxHeartbeats 400000 in
theorem tell_err {c u : Int} (hc : (c != 0) = true) (w : World) : Calls Tryd.prog 8 #[.int .u32 0, .int .i64 c, .int .u32 u, .int .i64 c] w fun e w' => e = .returned (.bool true) ∧ w = w' := by
  go_enter Tryd.func8, Tryd.ntmps8
  go_wp2_with (go_at_call 19; refine (num_any _ _).mono ?_; rintro _ _ ⟨rfl, rfl⟩)
  go_ret
  exact ⟨rfl, rfl⟩
theorem rIs_true {n : Nat} (h : Nt.Pr n) {ni : Int} (hni : ni = n) (hn : n < 4294967296) (w : World) :
    Calls Tryd.prog 7 #[.int .u32 ni] w fun e w' => e = .returned (.bool true) ∧ w = w' := by
  have := refIs_any n hni hn w
  rw [Nt.isP_iff.2 h] at this
  exact this
theorem rIs_false {n : Nat} (h : ¬ Nt.Pr n) {ni : Int} (hni : ni = n) (hn : n < 4294967296) (w : World) :
    Calls Tryd.prog 7 #[.int .u32 ni] w fun e w' => e = .returned (.bool false) ∧ w = w' := by
  have := refIs_any n hni hn w
  rw [Nt.isP_false_iff.2 h] at this
  exact this

set_option maxRecDepth 100000 in
set_option maxHeartbeats 4000000 in
theorem walk_PrimeOf {s s1 s2 : Bool} {A A1 A2 : Option Addr} {n c n1 c1 n2 c2 : Nat} {z x y : Int} {w : World} (h : RdZ w w.heap.size s A n c z) (hn : n ≤ 1048576)
    (h1 : RdZ w w.heap.size s1 A1 n1 c1 x) (h2 : RdZ w w.heap.size s2 A2 n2 c2 y) (hn1 : n1 ≤ 1048576) (hn2 : n2 ≤ 1048576) (p : Nat) (hp : p < 4294967296) (hT : Tabs w) :
    Calls Tryd.prog 3 #[.agg #[.bool s, .slice A n c], .agg #[.bool s1, .slice A1 n1 c1, .bool s2, .slice A2 n2 c2], .int .u32 p] w (RetT w) := by
  obtain ⟨W1, HW1⟩ : ∃ W, W = (w.alloc (.cells #[.bool s, .slice A n c] 25)).alloc (.cells #[.bool s1, .slice A1 n1 c1, .bool s2, .slice A2 n2 c2] 27) := ⟨_, rfl⟩
  have hZ : ZC W1 w.heap.size s A n c := by rw [HW1]; exact (ZC.new w s A n c).alloc _
  have hQ : QC W1 (w.heap.size + 1) s1 A1 n1 c1 s2 A2 n2 c2 := by rw [HW1]; simpa using QC.new (w.alloc (.cells #[.bool s, .slice A n c] 25)) s1 A1 n1 c1 s2 A2 n2 c2
  have hB : Below w.heap.size w W1 := by rw [HW1]; exact ((Below.refl w.heap.size w).alloc (Nat.le_refl _) _).alloc (by simp) _
  have hc0 := hZ.c0
  have hc1 := hZ.c1
  rw [HW1] at hc0 hc1
  have HW1 := Lib.hid HW1
  have HX := Lib.hid h
  have HN := Lib.hid h1
  have HD := Lib.hid h2
  have HT := Lib.hid hT
  clear h h1 h2 hT
  go_enter Tryd.func3, Tryd.ntmps3
  go_wp2_with fail
  rw [← HW1.out]
  clear HW1 hc0 hc1
  clear HW1
  by_cases hpr : Nt.Pr p
  · refine (pOf_ok p rfl (HX.out.next hB) (by omega) hp hpr (HT.out.below hB)).mono ?_
    rintro _ W2 ⟨a, rfl, ha, hb2⟩
    have HZ2 := Lib.hid (hZ.next hb2)
    have HQ2 := Lib.hid (hQ.next hb2)
    have HB2 := Lib.hid (hB.trans (hb2.mono hB.size))
    have hd0 := HQ2.out.c0
    have hd1 := HQ2.out.c1
    have hd2 := HQ2.out.c2
    have hd3 := HQ2.out.c3
    clear hb2 hZ hQ hB
    go_wp2_with fail
    clear hd0 hd1 hd2 hd3
    by_cases hy : y = 0
    · subst hy
      refine (pOfRat_den p rfl (HD.out.next HB2.out) (by omega) hp hpr (HT.out.below HB2.out)).mono ?_
      rintro _ W3 ⟨b, rfl, hb, hb3⟩
      obtain rfl : b = 0 := hb.out
      have HZ3 := Lib.hid (HZ2.out.next hb3)
      have HQ3 := Lib.hid (HQ2.out.next hb3)
      have HB3 := Lib.hid (HB2.out.trans (hb3.mono HB2.out.size))
      clear hb3 hb
      go_wp2_with fail
      refine (rIs_true hpr rfl hp _).mono ?_
      rintro _ _ ⟨rfl, rfl⟩
      have hd0 := HZ3.out.c0
      have hd1 := HZ3.out.c1
      go_wp2_with fail
      clear hd0 hd1
      refine (rOf_any p rfl (HX.out.next HB3.out) (by omega) hp hpr.pos).mono ?_
      rintro _ W4 ⟨a2, rfl, ha2, hb4⟩
      have hq : (a : Int) = a2 := by rw [ha.out, ha2.out]
      have HQ4 := Lib.hid (HQ3.out.next hb4)
      have HB4 := Lib.hid (HB3.out.trans (hb4.mono HB3.out.size))
      have HEQ := Lib.hid hq
      clear hb4 hq
      go_wp2_with fail
      refine (tell_ok HEQ.out _).mono ?_
      rintro _ _ ⟨rfl, rfl⟩
      have hd2 := HQ4.out.c2
      have hd3 := HQ4.out.c3
      go_wp2_with fail
      clear hd2 hd3
      refine (rISign_any (HD.out.next HB4.out) (by omega)).mono ?_
      rintro _ W5 ⟨k, rfl, hk, hb5⟩
      obtain rfl : k = 0 := hk.out
      have HB5 := Lib.hid (HB4.out.trans (hb5.mono HB4.out.size))
      clear hb5 hk
      go_wp2_with fail
      refine (tell_err (by decide) _).mono ?_
      rintro _ _ ⟨rfl, rfl⟩
      go_wp2_with fail
      refine (awake_any _ (HT.out.below HB5.out)).mono ?_
      rintro _ W6 ⟨rfl, hb6⟩
      go_wp2
      go_ret
      exact ⟨rfl, HB5.out.trans (hb6.mono HB5.out.size)⟩
    · have HY := Lib.hid hy
      refine (pOfRat_any p rfl (HN.out.next HB2.out) (HD.out.next HB2.out) (by omega) (by omega) hy hp hpr (HT.out.below HB2.out)).mono ?_
      rintro _ W3 ⟨b, kb, rfl, hb, hb3⟩
      have HZ3 := Lib.hid (HZ2.out.next hb3)
      have HQ3 := Lib.hid (HQ2.out.next hb3)
      have HB3 := Lib.hid (HB2.out.trans (hb3.mono HB2.out.size))
      clear hb3 hy
      go_wp2_with fail
      refine (rIs_true hpr rfl hp _).mono ?_
      rintro _ _ ⟨rfl, rfl⟩
      have hd0 := HZ3.out.c0
      have hd1 := HZ3.out.c1
      go_wp2_with fail
      clear hd0 hd1
      refine (rOf_any p rfl (HX.out.next HB3.out) (by omega) hp hpr.pos).mono ?_
      rintro _ W4 ⟨a2, rfl, ha2, hb4⟩
      have HEQ := Lib.hid (show (a : Int) = a2 by rw [ha.out, ha2.out])
      have HQ4 := Lib.hid (HQ3.out.next hb4)
      have HB4 := Lib.hid (HB3.out.trans (hb4.mono HB3.out.size))
      clear hb4
      go_wp2_with fail
      refine (tell_ok HEQ.out _).mono ?_
      rintro _ _ ⟨rfl, rfl⟩
      have hd2 := HQ4.out.c2
      have hd3 := HQ4.out.c3
      go_wp2_with fail
      clear hd2 hd3
      refine (rISign_any (HD.out.next HB4.out) (by omega)).mono ?_
      rintro _ W5 ⟨k, rfl, hk, hb5⟩
      have hkb : (k == 0) = false := by
        have e : k ≠ 0 := by rw [hk.out]; exact mt Int.sign_eq_zero_iff_zero.1 HY.out
        simpa using e
      have HQ5 := Lib.hid (HQ4.out.next hb5)
      have HB5 := Lib.hid (HB4.out.trans (hb5.mono HB4.out.size))
      clear hb5 hk
      have hd0 := HQ5.out.c0
      have hd1 := HQ5.out.c1
      have hd2 := HQ5.out.c2
      have hd3 := HQ5.out.c3
      go_wp2_with fail
      clear hd0 hd1 hd2 hd3 hkb
      refine (rOfRat_any p rfl (HN.out.next HB5.out) (HD.out.next HB5.out) (by omega) (by omega) HY.out hp hpr.1).mono ?_
      rintro _ W6 ⟨v, kk, rfl, hv, hb6⟩
      have HB6 := Lib.hid (HB5.out.trans (hb6.mono HB5.out.size))
      clear hb6
      have HV := Lib.hid (show (b = 0 ∧ kb = 5 ∧ kk = false) ∨ (b = v ∧ kb = 0 ∧ kk = true) by
        rcases hb.out with ⟨e1, e2, e3⟩ | ⟨e1, e2, e3⟩ <;> rcases hv.out with ⟨f1, f2, f3⟩ | ⟨f1, f2, f3⟩
        · exact .inl ⟨e2, e3, f3⟩
        · exact absurd e1 f1
        · exact absurd f1 e1
        · exact .inr ⟨by rw [e2, f2], e3, f3⟩)
      clear hb hv
      rcases HV.out with ⟨rfl, rfl, rfl⟩ | ⟨rfl, rfl, rfl⟩
      · go_wp2_with fail
        refine (tell_err (by decide) _).mono ?_
        rintro _ _ ⟨rfl, rfl⟩
        go_wp2_with fail
        refine (awake_any _ (HT.out.below HB6.out)).mono ?_
        rintro _ W7 ⟨rfl, hb7⟩
        go_wp2
        go_ret
        exact ⟨rfl, HB6.out.trans (hb7.mono HB6.out.size)⟩
      · go_wp2_with fail
        refine (tell_ok rfl _).mono ?_
        rintro _ _ ⟨rfl, rfl⟩
        go_wp2_with fail
        refine (awake_any _ (HT.out.below HB6.out)).mono ?_
        rintro _ W7 ⟨rfl, hb7⟩
        go_wp2
        go_ret
        exact ⟨rfl, HB6.out.trans (hb7.mono HB6.out.size)⟩
  · refine (pOf_none p rfl hp hpr (HT.out.below hB)).mono ?_
    rintro _ W2 ⟨a, rfl, ha, hb2⟩
    obtain rfl : a = 0 := ha.out
    have HQ2 := Lib.hid (hQ.next hb2)
    have HB2 := Lib.hid (hB.trans (hb2.mono hB.size))
    have hd0 := HQ2.out.c0
    have hd1 := HQ2.out.c1
    have hd2 := HQ2.out.c2
    have hd3 := HQ2.out.c3
    clear hb2 hZ hQ hB ha
    go_wp2_with fail
    clear hd0 hd1 hd2 hd3
    refine (pOfRat_none p rfl hp hpr (HT.out.below HB2.out)).mono ?_
    rintro _ W3 ⟨b, rfl, hb, hb3⟩
    obtain rfl : b = 0 := hb.out
    have HB3 := Lib.hid (HB2.out.trans (hb3.mono HB2.out.size))
    clear hb3 hb
    go_wp2_with fail
    refine (rIs_false hpr rfl hp _).mono ?_
    rintro _ _ ⟨rfl, rfl⟩
    go_wp2_with fail
    refine (tell_err (by decide) _).mono ?_
    rintro _ _ ⟨rfl, rfl⟩
    go_wp2_with fail
    refine (tell_err (by decide) _).mono ?_
    rintro _ _ ⟨rfl, rfl⟩
    go_wp2_with fail
    refine (awake_any _ (HT.out.below HB3.out)).mono ?_
    rintro _ W7 ⟨rfl, hb7⟩
    go_wp2
    go_ret
    exact ⟨rfl, HB3.out.trans (hb7.mono HB3.out.size)⟩
end Go.Proofs.YtipbpdiahemmpaaDoor
