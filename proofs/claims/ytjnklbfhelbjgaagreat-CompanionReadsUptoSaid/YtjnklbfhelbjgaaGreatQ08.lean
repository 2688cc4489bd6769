/- Reference 07: content, the primitive part. -/
import Derived.Test.YtjnklbfhelbjgaaGreatQ07
/- Fractions: in lowest terms. Nothing of the program. -/
namespace Qz
def gs (a b : Int) : Int := if b < 0 then -(Int.gcd a b : Int) else (Int.gcd a b : Int)
theorem gs_ne {a b : Int} (hb : b ≠ 0) : gs a b ≠ 0 := by
 have h : Int.gcd a b ≠ 0 := fun e => hb (Int.gcd_eq_zero_iff.1 e).2
 unfold gs
 split <;> omega
theorem gs_left (a b : Int) : gs a b ∣ a := by
 unfold gs
 split
 ·exact Int.neg_dvd.2 (Int.gcd_dvd_left a b)
 ·exact Int.gcd_dvd_left a b
theorem gs_right (a b : Int) : gs a b ∣ b := by
 unfold gs
 split
 ·exact Int.neg_dvd.2 (Int.gcd_dvd_right a b)
 ·exact Int.gcd_dvd_right a b
theorem make_num {a b : Int} (hb : b ≠ 0) : a.tdiv (gs a b) = (Rat.divInt a b).num := by
 rw [Rat.num_divInt, Int.gcd_comm b a]
 unfold gs
 split
 ·rw [Int.tdiv_neg, Int.sign_eq_neg_one_of_neg (by assumption), Int.tdiv_eq_ediv_of_dvd (Int.gcd_dvd_left a b), Int.neg_one_mul, Int.neg_ediv_of_dvd (Int.gcd_dvd_left a b)]
 ·rw [Int.sign_eq_one_of_pos (by omega), Int.one_mul, Int.tdiv_eq_ediv_of_dvd (Int.gcd_dvd_left a b)]
theorem make_den {a b : Int} (hb : b ≠ 0) : b.tdiv (gs a b) = ((Rat.divInt a b).den : Int) := by
 rw [Rat.den_divInt, if_neg hb, Int.gcd_comm b a]
 unfold gs
 split
 ·rename_i h
  obtain ⟨k, hk⟩ : ∃ k : Nat, b = -(k : Int) := ⟨b.natAbs, by omega⟩
  have e : b.natAbs = k := by omega
  rw [Int.tdiv_neg, Int.tdiv_eq_ediv_of_dvd (Int.gcd_dvd_right a b), ← Int.neg_ediv_of_dvd (Int.gcd_dvd_right a b), e]
  rw [show -b = (k : Int) by omega]
  rfl
 ·rename_i h
  obtain ⟨k, hk⟩ : ∃ k : Nat, b = (k : Int) := ⟨b.natAbs, by omega⟩
  have e : b.natAbs = k := by omega
  rw [Int.tdiv_eq_ediv_of_dvd (Int.gcd_dvd_right a b), e]
  conv => lhs; arg 1; rw [hk]
  rfl
theorem gcd_list (a b : Int) : [a, b].foldl (fun (g x : Int) => (Int.gcd g x : Int)) 0 = (Int.gcd a b : Int) := by
 simp [Int.gcd]
end Qz

/- Fractions in memory; rat.Make. -/
namespace Go.Proofs.YtjnklbfhelbjgaaGreat
open Go.RowKit Go.IntWalk
attribute [local go_sem ↓] Go.wp_at_zero Go.wp_at_succ
def QC (w : World) (g : Nat) (s : Bool) (A : Option Addr) (n c : Nat) (s' : Bool) (A' : Option Addr) (n' c' : Nat) : Prop := w.heap[g]? = some (.cells #[.bool s, .slice A n c, .bool s', .slice A' n' c'] 47 (0, 0))
structure OwQ (w : World) (b : Nat) (s : Bool) (A : Option Addr) (n c : Nat) (s' : Bool) (A' : Option Addr) (n' c' : Nat) (x : Rat) : Prop where
 num : OwZ w b s A n c x.num
 den : OwZ w b s' A' n' c' (x.den : Int)
section
variable {w w' : World} {g b b' B : Nat} {s s' : Bool} {A A' : Option Addr} {n c n' c' : Nat} {x : Rat}
theorem QC.lt (h : QC w g s A n c s' A' n' c') : g < w.heap.size := (Array.getElem?_eq_some_iff.1 h).1
theorem QC.c0 (h : QC w g s A n c s' A' n' c') : w.cell? ⟨g, 0, none⟩ = some (.bool s) := by rw [cell_of_row w g 0 _ _ _ h]; rfl
theorem QC.c1 (h : QC w g s A n c s' A' n' c') : w.cell? ⟨g, 1, none⟩ = some (.slice A n c) := by rw [cell_of_row w g 1 _ _ _ h]; rfl
theorem QC.c2 (h : QC w g s A n c s' A' n' c') : w.cell? ⟨g, 2, none⟩ = some (.bool s') := by rw [cell_of_row w g 2 _ _ _ h]; rfl
theorem QC.c3 (h : QC w g s A n c s' A' n' c') : w.cell? ⟨g, 3, none⟩ = some (.slice A' n' c') := by rw [cell_of_row w g 3 _ _ _ h]; rfl
theorem QC.fz (h : QC w g s A n c s' A' n' c') (j : Nat) : w.frozen? ⟨g, j, none⟩ = false := frozen_of_row w g j _ _ h
theorem QC.next (h : QC w g s A n c s' A' n' c') (hb : Below w.heap.size w w') : QC w' g s A n c s' A' n' c' := (hb.block g h.lt).trans h
theorem QC.new (w : World) (s : Bool) (A : Option Addr) (n c : Nat) (s' : Bool) (A' : Option Addr) (n' c' : Nat) : QC (w.alloc (.cells #[.bool s, .slice A n c, .bool s', .slice A' n' c'] 47)) w.heap.size s A n c s' A' n' c' := heap_alloc_new w _
def putQ (w : World) (g : Nat) (s : Bool) (A : Option Addr) (n c : Nat) (s' : Bool) (A' : Option Addr) (n' c' : Nat) : World := (((w.setCell ⟨g, 0, none⟩ (.bool s)).setCell ⟨g, 1, none⟩ (.slice A n c)).setCell ⟨g, 2, none⟩ (.bool s')).setCell ⟨g, 3, none⟩ (.slice A' n' c')
theorem QC.store (h : QC w g s A n c s' A' n' c') (t : Bool) (D : Option Addr) (k m : Nat) (t' : Bool) (D' : Option Addr) (k' m' : Nat) : QC (putQ w g t D k m t' D' k' m') g t D k m t' D' k' m' := by
 unfold QC putQ at *
 simp [World.setCell, Array.getElem?_modify, h]
theorem keep_putQ (h : QC w g s A n c s' A' n' c') (t : Bool) (D : Option Addr) (k m : Nat) (t' : Bool) (D' : Option Addr) (k' m' : Nat) : KeepT w (putQ w g t D k m t' D' k' m') := fun i cs f e => by
 have hne : i ≠ g := by
  rintro rfl
  unfold QC at h
  rw [h] at e
  simp at e
 unfold putQ
 rw [Below.heap_setCell _ (⟨g, 3, none⟩ : Addr) _ i hne, Below.heap_setCell _ (⟨g, 2, none⟩ : Addr) _ i hne, Below.heap_setCell _ (⟨g, 1, none⟩ : Addr) _ i hne, Below.heap_setCell _ (⟨g, 0, none⟩ : Addr) _ i hne]
 exact e
theorem below_putQ (hb : Below B w w') (hg : B ≤ g) (t : Bool) (D : Option Addr) (k m : Nat) (t' : Bool) (D' : Option Addr) (k' m' : Nat) : Below B w (putQ w' g t D k m t' D' k' m') :=
 (((hb.setCell (p := ⟨g, 0, none⟩) hg _).setCell (p := ⟨g, 1, none⟩) hg _).setCell (p := ⟨g, 2, none⟩) hg _).setCell (p := ⟨g, 3, none⟩) hg _
theorem OwQ.next (h : OwQ w b s A n c s' A' n' c' x) (hb : Below w.heap.size w w') : OwQ w' b s A n c s' A' n' c' x := ⟨h.num.next hb, h.den.next hb⟩
theorem OwQ.base (h : OwQ w b s A n c s' A' n' c' x) (hb : b' ≤ b) : OwQ w b' s A n c s' A' n' c' x := ⟨h.num.base hb, h.den.base hb⟩
theorem OwQ.keep (h : OwQ w b s A n c s' A' n' c' x) (hk : KeepT w w') : OwQ w' b s A n c s' A' n' c' x := ⟨h.num.keep hk, h.den.keep hk⟩
theorem zs_two {N : Nat} {z z' : Int} (h : RdZ w w.heap.size s A n c z) (h' : RdZ w w.heap.size s' A' n' c' z') (hn : n ≤ N) (hn' : n' ≤ N) {w1 : World} (hw : w1 = w.alloc (.cells #[.bool s, .slice A n c, .bool s', .slice A' n' c'] 25)) :
  RdZs w1 w1.heap.size N (some ⟨w.heap.size, 0, none⟩) 2 2 [z, z'] := by
 have hb : Below w.heap.size w w1 := by rw [hw]; exact (Below.refl _ _).alloc (Nat.le_refl _) _
 have hr : w1.heap[w.heap.size]? = some (.cells #[.bool s, .slice A n c, .bool s', .slice A' n' c'] 25 (0, 0)) := by rw [hw]; exact heap_alloc_new w _
 have hlt : w.heap.size < w1.heap.size := (Array.getElem?_eq_some_iff.1 hr).1
 refine ⟨rfl, Nat.le_refl _, by unfold maxLen; omega, fun j y hy => ?_⟩
 match j, hy with
 | 0, hy =>
   simp at hy
   subst hy
   exact ⟨_, s, A, n, c, rfl, hlt, by rw [add_base, cell_of_row w1 _ _ _ _ _ hr]; rfl, by rw [add_base]; exact (cell_of_row w1 _ _ _ _ _ hr).trans rfl, h.next hb, hn⟩
 | 1, hy =>
   simp at hy
   subst hy
   exact ⟨_, s', A', n', c', rfl, hlt, by rw [add_base, cell_of_row w1 _ _ _ _ _ hr]; rfl, by rw [add_base]; exact (cell_of_row w1 _ _ _ _ _ hr).trans rfl, h'.next hb, hn'⟩
 | j + 2, hy => simp at hy
end
def RetQ (x : Rat) (w : World) (e : Ending) (w' : World) : Prop :=
 ∃ (s : Bool) (A : Option Addr) (n c : Nat) (s' : Bool) (A' : Option Addr) (n' c' : Nat) (y : Rat), e = .returned (.tuple #[.agg #[.bool s, .slice A n c, .bool s', .slice A' n' c'], .int .i64 0]) ∧ OwQ w' w.heap.size s A n c s' A' n' c' y ∧ Hid (y = x) ∧ Below w.heap.size w w'
def RetQ0 (k : Int) (w : World) (e : Ending) (w' : World) : Prop := e = .returned (.tuple #[.agg #[.bool false, .slice none 0 0, .bool false, .slice none 0 0], .int .i64 k]) ∧ Below w.heap.size w w'
end Go.Proofs.YtjnklbfhelbjgaaGreat

/- rat.Make. -/
namespace Go.Proofs.YtjnklbfhelbjgaaGreat
open Go.RowKit Go.IntWalk
attribute [local go_sem ↓] Go.wp_at_zero Go.wp_at_succ
theorem q_boxes (w : World) (s : Bool) (A : Option Addr) (n c : Nat) (s' : Bool) (A' : Option Addr) (n' c' : Nat) :
  ∀ W1 : World, W1 = ((w.alloc (.cells #[.bool s, .slice A n c] 25)).alloc (.cells #[.bool s', .slice A' n' c'] 25)).alloc (.cells #[.bool false, .slice none 0 0, .bool false, .slice none 0 0] 47) →
   ZC W1 w.heap.size s A n c ∧ ZC W1 (w.heap.size + 1) s' A' n' c' ∧ QC W1 (w.heap.size + 1 + 1) false none 0 0 false none 0 0 ∧ Below w.heap.size w W1 := by
 rintro W1 rfl
 refine ⟨((ZC.new w s A n c).alloc _).alloc _, by simpa using (ZC.new (w.alloc (.cells #[.bool s, .slice A n c] 25)) s' A' n' c').alloc (.cells #[.bool false, .slice none 0 0, .bool false, .slice none 0 0] 47), by simpa using QC.new ((w.alloc (.cells #[.bool s, .slice A n c] 25)).alloc (.cells #[.bool s', .slice A' n' c'] 25)) false none 0 0 false none 0 0, ?_⟩
 exact (((Below.refl w.heap.size w).alloc (Nat.le_refl _) _).alloc (by simp) _).alloc (by simp; omega) _
set_option maxRecDepth 100000 in
set_option maxHeartbeats 2000000 in
theorem qmake_zero {s s' : Bool} {A A' : Option Addr} {n c n' c' : Nat} {w : World} (h' : RdZ w w.heap.size s' A' n' c' 0) (hn' : n' ≤ 1000000000000) :
  Calls Tryz.prog 83 #[.agg #[.bool s, .slice A n c], .agg #[.bool s', .slice A' n' c']] w (RetQ0 6 w) := by
 obtain ⟨W1, HW1⟩ : ∃ W, W = ((w.alloc (.cells #[.bool s, .slice A n c] 25)).alloc (.cells #[.bool s', .slice A' n' c'] 25)).alloc (.cells #[.bool false, .slice none 0 0, .bool false, .slice none 0 0] 47) := ⟨_, rfl⟩
 obtain ⟨hX, hY, hR, hB⟩ := q_boxes w s A n c s' A' n' c' W1 HW1
 have a0 := hY.c0
 have a1 := hY.c1
 rw [HW1] at a0 a1
 have h1 := h'.next hB
 have HW1 := Lib.hid HW1
 go_enter Tryz.func83, Tryz.ntmps83
 go_wp2_with fail
 rw [← HW1.out]
 clear HW1 a0 a1
 clear HW1
 refine (sign_any h1 (by omega)).mono ?_
 rintro _ W2 ⟨k, rfl, hk, hb2⟩
 obtain rfl : k = 0 := hk.out
 have hR2 := hR.next hb2
 have hB2 := hB.trans (hb2.mono hB.size)
 have r0 := hR2.c0
 have r1 := hR2.c1
 have r2 := hR2.c2
 have r3 := hR2.c3
 have f0 := hR2.fz 0
 have f1 := hR2.fz 1
 have f2 := hR2.fz 2
 have f3 := hR2.fz 3
 have HR9 := Lib.hid (hR2.store false none 0 0 false none 0 0)
 have HB9 := Lib.hid (below_putQ hB2 (show w.heap.size ≤ w.heap.size + 1 + 1 by omega) false none 0 0 false none 0 0)
 unfold putQ at HR9 HB9
 clear hX hY hR hR2 hB hB2 hb2 h1 h'
 go_wp2_with fail
 generalize (((W2.setCell ⟨w.heap.size + 1 + 1, 0, none⟩ (.bool false)).setCell ⟨w.heap.size + 1 + 1, 1, none⟩ (.slice none 0 0)).setCell ⟨w.heap.size + 1 + 1, 2, none⟩ (.bool false)).setCell ⟨w.heap.size + 1 + 1, 3, none⟩ (.slice none 0 0) = W9 at *
 have z0 := HR9.out.c0
 have z1 := HR9.out.c1
 have z2 := HR9.out.c2
 have z3 := HR9.out.c3
 exact bodyPost_ret (by simp [results, Tryz.results83, go_sem, z0, z1, z2, z3]) rfl ⟨rfl, HB9.out⟩
set_option maxRecDepth 100000 in
set_option maxHeartbeats 4000000 in
theorem qmake_any {s s' : Bool} {A A' : Option Addr} {n c n' c' : Nat} {z d : Int} {w : World} (h : RdZ w w.heap.size s A n c z) (h' : RdZ w w.heap.size s' A' n' c' d) (hn : n ≤ 1000000000000) (hn' : n' ≤ 1000000000000) (hd : d ≠ 0) :
  Calls Tryz.prog 83 #[.agg #[.bool s, .slice A n c], .agg #[.bool s', .slice A' n' c']] w (RetQ (Rat.divInt z d) w) := by
 obtain ⟨W1, HW1⟩ : ∃ W, W = ((w.alloc (.cells #[.bool s, .slice A n c] 25)).alloc (.cells #[.bool s', .slice A' n' c'] 25)).alloc (.cells #[.bool false, .slice none 0 0, .bool false, .slice none 0 0] 47) := ⟨_, rfl⟩
 obtain ⟨hX, hY, hR, hB⟩ := q_boxes w s A n c s' A' n' c' W1 HW1
 have a0 := hY.c0
 have a1 := hY.c1
 rw [HW1] at a0 a1
 have HRD := Lib.hid (show ∀ W : World, Below W1.heap.size W1 W → RdZ W W.heap.size s A n c z ∧ RdZ W W.heap.size s' A' n' c' d from fun W hb => ⟨(h.next hB).next hb, (h'.next hB).next hb⟩)
 have HCE := Lib.hid (show ∀ W : World, Below W1.heap.size W1 W → ZC W w.heap.size s A n c ∧ ZC W (w.heap.size + 1) s' A' n' c' ∧ QC W (w.heap.size + 1 + 1) false none 0 0 false none 0 0 from fun W hb => ⟨hX.next hb, hY.next hb, hR.next hb⟩)
 have HB := Lib.hid hB
 have HS := Lib.hid (show w.heap.size + 1 + 1 < W1.heap.size from hR.lt)
 have HLZ := Lib.hid (And.intro h.len h'.len)
 have HD0 := Lib.hid hd
 have HW1 := Lib.hid HW1
 clear hX hY hR hB h h' hd
 go_enter Tryz.func83, Tryz.ntmps83
 go_wp2_with fail
 rw [← HW1.out]
 clear HW1 a0 a1
 clear HW1
 refine (sign_any (HRD.out _ (Below.refl _ _)).2 (by omega)).mono ?_
 rintro _ W2 ⟨k, rfl, hk, hb2⟩
 have hkb : (k == 0) = false := by
  have e := hk.out
  have e2 := mt Int.sign_eq_zero_iff_zero.1 HD0.out
  rw [← e] at e2
  simpa using e2
 have HB2 := Lib.hid hb2
 obtain ⟨W3, HW3⟩ : ∃ W, W = W2.alloc (.cells #[.bool s, .slice A n c, .bool s', .slice A' n' c'] 25) := ⟨_, rfl⟩
 have hr3 := zs_two (N := 1000000000000) (HRD.out _ hb2).1 (HRD.out _ hb2).2 hn hn' HW3
 have hb3 : Below W2.heap.size W2 W3 := by rw [HW3]; exact (Below.refl _ _).alloc (Nat.le_refl _) _
 have HB3 := Lib.hid (hb2.trans (hb3.mono hb2.size))
 have x0 := (HCE.out _ hb2).1.c0
 have x1 := (HCE.out _ hb2).1.c1
 have y0 := (HCE.out _ hb2).2.1.c0
 have y1 := (HCE.out _ hb2).2.1.c1
 have HW3 := Lib.hid HW3
 clear hb2 hb3
 go_wp2_with fail
 rw [← HW3.out]
 clear HW3 x0 x1 y0 y1
 clear HW3
 refine (gcdl_any hr3 (by decide)).mono ?_
 rintro _ W4 ⟨s4, A4, n4, c4, g4, rfl, ho4, hg4, hb4⟩
 have HB4 := Lib.hid (HB3.out.trans (hb4.mono HB3.out.size))
 obtain ⟨W5, HW5⟩ : ∃ W, W = W4.alloc (.cells #[.bool s4, .slice A4 n4 c4] 25) := ⟨_, rfl⟩
 have hb5 : Below W4.heap.size W4 W5 := by rw [HW5]; exact (Below.refl _ _).alloc (Nat.le_refl _) _
 have HX5 := Lib.hid (show ZC W5 W4.heap.size s4 A4 n4 c4 by rw [HW5]; exact ZC.new W4 s4 A4 n4 c4)
 have HB5 := Lib.hid (HB4.out.trans (hb5.mono HB4.out.size))
 have HO5 := Lib.hid ((ho4.base (b' := W1.heap.size) HB3.out.size).next hb5)
 have HGC := Lib.hid (show W1.heap.size ≤ W4.heap.size from HB4.out.size)
 have HG4 := Lib.hid (show g4 = (Int.gcd z d : Int) by rw [hg4.out]; exact Qz.gcd_list z d)
 have HN4 := Lib.hid (show n4 ≤ 1000000000000 by
  rw [ho4.len, HG4.out]
  have e1 := Zz.zl_gcd z d
  have e2 := HLZ.out
  omega)
 have y0 := (HCE.out _ HB5.out).2.1.c0
 have y1 := (HCE.out _ HB5.out).2.1.c1
 rw [HW5] at y0 y1
 have HW5 := Lib.hid HW5
 clear hr3 ho4 hg4 hb4 hb5
 go_wp2_with fail
 rw [← HW5.out]
 clear HW5 y0 y1
 clear HW5
 generalize W4.heap.size = gc at *
 refine (sign_any (HRD.out _ HB5.out).2 (by omega)).mono ?_
 rintro _ W6 ⟨k6, rfl, hk6, hb6⟩
 have HB6 := Lib.hid (HB5.out.trans (hb6.mono HB5.out.size))
 have HX6 := Lib.hid (HX5.out.next hb6)
 have HO6 := Lib.hid (HO5.out.next hb6)
 clear hb6 HX5 HO5
 go_upto_if 21 with fail
 go_cut [] from 21 (fun wr => ∃ (s' : Bool) (A' : Option Addr) (n' c' : Nat) (y : Int), ZC wr gc s' A' n' c' ∧ OwZ wr W1.heap.size s' A' n' c' y ∧ Hid (y = Qz.gs z d) ∧ Below W1.heap.size W1 wr)
 case first =>
  by_cases hneg : k6 < 0
  ·have HP := Lib.hid (show -g4 = Qz.gs z d by
    have h5 := hk6.out
    rw [h5] at hneg
    unfold Qz.gs
    rw [if_pos (Int.sign_neg_iff.1 hneg), HG4.out])
   have a0 := HX6.out.c0
   have a1 := HX6.out.c1
   go_wp2_with fail
   refine (neg_any HO6.out.rd (by have := HN4.out; omega)).mono ?_
   rintro _ W7 ⟨s7, A7, n7, c7, z7, rfl, ho7, hz7, hb7⟩
   have hX7 := HX6.out.next hb7
   have g0 := hX7.fz 0
   have g1 := hX7.fz 1
   have b0 := hX7.c0
   have b1 := hX7.c1
   have hZ8 := hX7.store s7 A7 n7 c7
   have ho8 := (ho7.base (b' := W1.heap.size) HB6.out.size).keep (keep_set2 hX7 (.bool s7) (.slice A7 n7 c7))
   have hB8 := ((HB6.out.trans (hb7.mono HB6.out.size)).setCell (p := ⟨gc, 0, none⟩) HGC.out (.bool s7)).setCell (p := ⟨gc, 1, none⟩) HGC.out (.slice A7 n7 c7)
   have HV8 := Lib.hid (show z7 = Qz.gs z d by rw [hz7.out, HP.out])
   have HALL := Lib.hid (And.intro hZ8 (And.intro ho8 hB8))
   clear a0 a1 hX7 hZ8 ho8 hB8 ho7 hb7
   go_wp2
   go_meet
   exact ⟨_, _, _, _, _, HALL.out.1, HALL.out.2.1, HV8, HALL.out.2.2⟩
  ·have HP := Lib.hid (show g4 = Qz.gs z d by
    have h5 := hk6.out
    rw [h5] at hneg
    unfold Qz.gs
    rw [if_neg (mt Int.sign_neg_iff.2 hneg), HG4.out])
   have hneg' : 0 ≤ k6 := by omega
   clear hneg
   go_wp2
   go_meet
   exact ⟨_, _, _, _, _, HX6.out, HO6.out, HP, HB6.out⟩
 case rest =>
  clear HX6 HO6
  obtain ⟨s7, A7, n7, c7, y, hZ7, ho7, hy, hB7⟩ := hcut
  have HX7 := Lib.hid (And.intro hZ7 ho7)
  have HB7 := Lib.hid hB7
  have HYN := Lib.hid (show n7 ≤ 1000000000000 by
   rw [ho7.len, hy.out]
   have e1 : Zz.zl (Qz.gs z d) = Zz.zl g4 := by
    unfold Qz.gs
    split
    ·rw [Zz.zl_neg, HG4.out]
    ·rw [HG4.out]
   rw [e1, HG4.out]
   have e2 := Zz.zl_gcd z d
   have e3 := HLZ.out
   omega)
  have HY0 := Lib.hid (show y ≠ 0 by rw [hy.out]; exact Qz.gs_ne HD0.out)
  have a0 := hZ7.c0
  have a1 := hZ7.c1
  have x0 := (HCE.out _ hB7).1.c0
  have x1 := (HCE.out _ hB7).1.c1
  clear hZ7 ho7 hB7
  go_wp2_with fail
  clear a0 a1 x0 x1
  refine (exact_any (HRD.out _ HB7.out).1 HX7.out.2.rd hn HYN.out HY0.out).mono ?_
  rintro _ W8 ⟨s8, A8, n8, c8, q8, e8, rfl, ho8, hq8, hb8⟩
  have HQ8 := Lib.hid (show q8 = (Rat.divInt z d).num by
   rw [← Qz.make_num HD0.out, ← hy.out]
   rcases hq8.out with ⟨_, f2, _⟩ | ⟨f1, _, _⟩
   ·exact f2
   ·exact absurd (Int.tmod_eq_zero_of_dvd (by rw [hy.out]; exact Qz.gs_left z d)) f1)
  obtain ⟨W9, HW9⟩ : ∃ W, W = W8.alloc (.cells #[.bool s8, .slice A8 n8 c8] 25) := ⟨_, rfl⟩
  have hb9 : Below W8.heap.size W8 W9 := by rw [HW9]; exact (Below.refl _ _).alloc (Nat.le_refl _) _
  have hb79 := hb8.trans (hb9.mono hb8.size)
  have HB9 := Lib.hid (HB7.out.trans (hb79.mono HB7.out.size))
  have HX9 := Lib.hid (show ZC W9 W8.heap.size s8 A8 n8 c8 by rw [HW9]; exact ZC.new W8 s8 A8 n8 c8)
  have HO9 := Lib.hid ((ho8.base (b' := W1.heap.size) HB7.out.size).next hb9)
  have HY9 := Lib.hid (And.intro (HX7.out.1.next hb79) (HX7.out.2.next hb79))
  have a0 := HY9.out.1.c0
  have a1 := HY9.out.1.c1
  have y0 := (HCE.out _ HB9.out).2.1.c0
  have y1 := (HCE.out _ HB9.out).2.1.c1
  rw [HW9] at a0 a1 y0 y1
  have HW9 := Lib.hid HW9
  clear ho8 hq8 hb8 hb9 hb79
  go_wp2_with fail
  rw [← HW9.out]
  clear HW9 a0 a1 y0 y1
  clear HW9
  generalize W8.heap.size = gn at *
  refine (exact_any (HRD.out _ HB9.out).2 HY9.out.2.rd hn' HYN.out HY0.out).mono ?_
  rintro _ V1 ⟨t1, D1, m1, l1, q1, e1, rfl, ho1, hq1, hv1⟩
  have HQ1 := Lib.hid (show q1 = ((Rat.divInt z d).den : Int) by
   rw [← Qz.make_den HD0.out, ← hy.out]
   rcases hq1.out with ⟨_, f2, _⟩ | ⟨f1, _, _⟩
   ·exact f2
   ·exact absurd (Int.tmod_eq_zero_of_dvd (by rw [hy.out]; exact Qz.gs_right z d)) f1)
  obtain ⟨V2, HV2⟩ : ∃ W, W = V1.alloc (.cells #[.bool t1, .slice D1 m1 l1] 25) := ⟨_, rfl⟩
  have hv2 : Below V1.heap.size V1 V2 := by rw [HV2]; exact (Below.refl _ _).alloc (Nat.le_refl _) _
  have hv12 := hv1.trans (hv2.mono hv1.size)
  have HU2 := Lib.hid (HB9.out.trans (hv12.mono HB9.out.size))
  have hN := HX9.out.next hv12
  have hR := (HCE.out _ HU2.out).2.2
  have HF := Lib.hid (show OwQ V2 w.heap.size s8 A8 n8 c8 t1 D1 m1 l1 (Rat.divInt z d) from ⟨by rw [← HQ8.out]; exact (HO9.out.next hv12).base HB.out.size, by rw [← HQ1.out]; exact (ho1.next hv2).base (Nat.le_trans HB.out.size HB9.out.size)⟩)
  have HF9 := Lib.hid (HF.out.keep (keep_putQ hR s8 A8 n8 c8 t1 D1 m1 l1))
  have HR9 := Lib.hid (hR.store s8 A8 n8 c8 t1 D1 m1 l1)
  have HBF := Lib.hid (below_putQ (HB.out.trans (HU2.out.mono HB.out.size)) (show w.heap.size ≤ w.heap.size + 1 + 1 by omega) s8 A8 n8 c8 t1 D1 m1 l1)
  have a0 := hN.c0
  have a1 := hN.c1
  have r0 := hR.c0
  have r1 := hR.c1
  have r2 := hR.c2
  have r3 := hR.c3
  have f0 := hR.fz 0
  have f1 := hR.fz 1
  have f2 := hR.fz 2
  have f3 := hR.fz 3
  rw [HV2] at a0 a1 r0 r1 r2 r3 f0 f1 f2 f3
  unfold putQ at HF9 HR9 HBF
  have HV2 := Lib.hid HV2
  clear ho1 hq1 hv1 hv2 hv12 hN hR
  go_wp2_with fail
  rw [← HV2.out]
  clear HV2 a0 a1 r0 r1 r2 r3 f0 f1 f2 f3
  clear HV2
  generalize (((V2.setCell ⟨w.heap.size + 1 + 1, 0, none⟩ (.bool s8)).setCell ⟨w.heap.size + 1 + 1, 1, none⟩ (.slice A8 n8 c8)).setCell ⟨w.heap.size + 1 + 1, 2, none⟩ (.bool t1)).setCell ⟨w.heap.size + 1 + 1, 3, none⟩ (.slice D1 m1 l1) = V9 at *
  have z0 := HR9.out.c0
  have z1 := HR9.out.c1
  have z2 := HR9.out.c2
  have z3 := HR9.out.c3
  exact bodyPost_ret (by simp [results, Tryz.results83, go_sem, z0, z1, z2, z3]) rfl ⟨_, _, _, _, _, _, _, _, _, rfl, HF9.out, Lib.hid rfl, HBF.out⟩
end Go.Proofs.YtjnklbfhelbjgaaGreat

/- rat.Norm, rat.Of. -/
namespace Go.Proofs.YtjnklbfhelbjgaaGreat
open Go.RowKit Go.IntWalk
attribute [local go_sem ↓] Go.wp_at_zero Go.wp_at_succ
theorem q_box1 (w : World) (s : Bool) (A : Option Addr) (n c : Nat) (s' : Bool) (A' : Option Addr) (n' c' : Nat) :
  ∀ W1 : World, W1 = (w.alloc (.cells #[.bool s, .slice A n c, .bool s', .slice A' n' c'] 47)).alloc (.cells #[.bool false, .slice none 0 0, .bool false, .slice none 0 0] 47) →
   QC W1 w.heap.size s A n c s' A' n' c' ∧ QC W1 (w.heap.size + 1) false none 0 0 false none 0 0 ∧ Below w.heap.size w W1 := by
 rintro W1 rfl
 exact ⟨(QC.new w s A n c s' A' n' c').next ((Below.refl _ _).alloc (Nat.le_refl _) _), by simpa using QC.new (w.alloc (.cells #[.bool s, .slice A n c, .bool s', .slice A' n' c'] 47)) false none 0 0 false none 0 0, ((Below.refl w.heap.size w).alloc (Nat.le_refl _) _).alloc (by simp) _⟩
set_option maxRecDepth 100000 in
set_option maxHeartbeats 2000000 in
theorem qnorm_zero {s s' : Bool} {A A' : Option Addr} {n c n' c' : Nat} {w : World} (h' : RdZ w w.heap.size s' A' n' c' 0) (hn' : n' ≤ 1000000000000) :
  Calls Tryz.prog 64 #[.agg #[.bool s, .slice A n c, .bool s', .slice A' n' c']] w (RetQ0 6 w) := by
 obtain ⟨W1, HW1⟩ : ∃ W, W = (w.alloc (.cells #[.bool s, .slice A n c, .bool s', .slice A' n' c'] 47)).alloc (.cells #[.bool false, .slice none 0 0, .bool false, .slice none 0 0] 47) := ⟨_, rfl⟩
 obtain ⟨hX, hR, hB⟩ := q_box1 w s A n c s' A' n' c' W1 HW1
 have a0 := hX.c0
 have a1 := hX.c1
 have a2 := hX.c2
 have a3 := hX.c3
 rw [HW1] at a0 a1 a2 a3
 have h1 := h'.next hB
 have HW1 := Lib.hid HW1
 go_enter Tryz.func64, Tryz.ntmps64
 go_wp2_with fail
 rw [← HW1.out]
 clear HW1 a0 a1 a2 a3
 clear HW1
 refine (qmake_zero h1 hn').mono ?_
 rintro _ W2 ⟨rfl, hb2⟩
 have hR2 := hR.next hb2
 have hB2 := hB.trans (hb2.mono hB.size)
 have r0 := hR2.c0
 have r1 := hR2.c1
 have r2 := hR2.c2
 have r3 := hR2.c3
 have f0 := hR2.fz 0
 have f1 := hR2.fz 1
 have f2 := hR2.fz 2
 have f3 := hR2.fz 3
 have HR9 := Lib.hid (hR2.store false none 0 0 false none 0 0)
 have HB9 := Lib.hid (below_putQ hB2 (show w.heap.size ≤ w.heap.size + 1 by omega) false none 0 0 false none 0 0)
 unfold putQ at HR9 HB9
 clear hX hR hR2 hB hB2 hb2 h1 h'
 go_wp2_with fail
 generalize (((W2.setCell ⟨w.heap.size + 1, 0, none⟩ (.bool false)).setCell ⟨w.heap.size + 1, 1, none⟩ (.slice none 0 0)).setCell ⟨w.heap.size + 1, 2, none⟩ (.bool false)).setCell ⟨w.heap.size + 1, 3, none⟩ (.slice none 0 0) = W9 at *
 have z0 := HR9.out.c0
 have z1 := HR9.out.c1
 have z2 := HR9.out.c2
 have z3 := HR9.out.c3
 exact bodyPost_ret (by simp [results, Tryz.results64, go_sem, z0, z1, z2, z3]) rfl ⟨rfl, HB9.out⟩
set_option maxRecDepth 100000 in
set_option maxHeartbeats 2000000 in
theorem qnorm_any {s s' : Bool} {A A' : Option Addr} {n c n' c' : Nat} {z d : Int} {w : World} (h : RdZ w w.heap.size s A n c z) (h' : RdZ w w.heap.size s' A' n' c' d) (hn : n ≤ 1000000000000) (hn' : n' ≤ 1000000000000) (hd : d ≠ 0) :
  Calls Tryz.prog 64 #[.agg #[.bool s, .slice A n c, .bool s', .slice A' n' c']] w (RetQ (Rat.divInt z d) w) := by
 obtain ⟨W1, HW1⟩ : ∃ W, W = (w.alloc (.cells #[.bool s, .slice A n c, .bool s', .slice A' n' c'] 47)).alloc (.cells #[.bool false, .slice none 0 0, .bool false, .slice none 0 0] 47) := ⟨_, rfl⟩
 obtain ⟨hX, hR, hB⟩ := q_box1 w s A n c s' A' n' c' W1 HW1
 have a0 := hX.c0
 have a1 := hX.c1
 have a2 := hX.c2
 have a3 := hX.c3
 rw [HW1] at a0 a1 a2 a3
 have h1 := h.next hB
 have h2 := h'.next hB
 have HW1 := Lib.hid HW1
 go_enter Tryz.func64, Tryz.ntmps64
 go_wp2_with fail
 rw [← HW1.out]
 clear HW1 a0 a1 a2 a3
 clear HW1
 refine (qmake_any h1 h2 hn hn' hd).mono ?_
 rintro _ W2 ⟨s2, A2, n2, c2, s3, A3, n3, c3, y, rfl, ho, hy, hb2⟩
 have hR2 := hR.next hb2
 have hB2 := hB.trans (hb2.mono hB.size)
 have r0 := hR2.c0
 have r1 := hR2.c1
 have r2 := hR2.c2
 have r3 := hR2.c3
 have f0 := hR2.fz 0
 have f1 := hR2.fz 1
 have f2 := hR2.fz 2
 have f3 := hR2.fz 3
 have HR9 := Lib.hid (hR2.store s2 A2 n2 c2 s3 A3 n3 c3)
 have HO9 := Lib.hid ((ho.base (b' := w.heap.size) hB.size).keep (keep_putQ hR2 s2 A2 n2 c2 s3 A3 n3 c3))
 have HB9 := Lib.hid (below_putQ hB2 (show w.heap.size ≤ w.heap.size + 1 by omega) s2 A2 n2 c2 s3 A3 n3 c3)
 unfold putQ at HR9 HB9 HO9
 clear hX hR hR2 hB hB2 hb2 h1 h2 h h' ho
 go_wp2_with fail
 generalize (((W2.setCell ⟨w.heap.size + 1, 0, none⟩ (.bool s2)).setCell ⟨w.heap.size + 1, 1, none⟩ (.slice A2 n2 c2)).setCell ⟨w.heap.size + 1, 2, none⟩ (.bool s3)).setCell ⟨w.heap.size + 1, 3, none⟩ (.slice A3 n3 c3) = W9 at *
 have z0 := HR9.out.c0
 have z1 := HR9.out.c1
 have z2 := HR9.out.c2
 have z3 := HR9.out.c3
 exact bodyPost_ret (by simp [results, Tryz.results64, go_sem, z0, z1, z2, z3]) rfl ⟨_, _, _, _, _, _, _, _, _, rfl, HO9.out, hy, HB9.out⟩
set_option maxRecDepth 100000 in
set_option maxHeartbeats 2000000 in
theorem qof_any (z : Int) (h1 : -9223372036854775808 ≤ z) (h2 : z < 9223372036854775808) (w : World) :
  Calls Tryz.prog 38 #[.int .i64 z] w fun e w' => ∃ (s : Bool) (A : Option Addr) (n c : Nat) (s' : Bool) (A' : Option Addr) (n' c' : Nat) (y : Rat), e = .returned (.agg #[.bool s, .slice A n c, .bool s', .slice A' n' c']) ∧ OwQ w' w.heap.size s A n c s' A' n' c' y ∧ Hid (y = (z : Rat)) ∧ Below w.heap.size w w' := by
 obtain ⟨W1, HW1⟩ : ∃ W, W = w.alloc (.cells #[.bool false, .slice none 0 0, .bool false, .slice none 0 0] 47) := ⟨_, rfl⟩
 have hR : QC W1 w.heap.size false none 0 0 false none 0 0 := by rw [HW1]; exact QC.new w false none 0 0 false none 0 0
 have hB : Below w.heap.size w W1 := by rw [HW1]; exact (Below.refl _ _).alloc (Nat.le_refl _) _
 have HW1 := Lib.hid HW1
 go_enter Tryz.func38, Tryz.ntmps38
 go_wp2_with fail
 rw [← HW1.out]
 clear HW1
 clear HW1
 refine (of_any z h1 h2 W1).mono ?_
 rintro _ W2 ⟨s2, A2, n2, c2, y2, rfl, ho2, hy2, hb2⟩
 go_wp2_with fail
 refine (of_any 1 (by decide) (by decide) W2).mono ?_
 rintro _ W3 ⟨s3, A3, n3, c3, y3, rfl, ho3, hy3, hb3⟩
 have hb13 := hb2.trans (hb3.mono hb2.size)
 have hR3 := hR.next hb13
 have hB3 := hB.trans (hb13.mono hB.size)
 have HO := Lib.hid (show OwQ W3 w.heap.size s2 A2 n2 c2 s3 A3 n3 c3 (z : Rat) from ⟨by have := (ho2.next hb3).base hB.size; rw [hy2.out] at this; exact this, by have := ho3.base (b' := w.heap.size) (Nat.le_trans hB.size hb2.size); rw [hy3.out] at this; exact this⟩)
 have r0 := hR3.c0
 have r1 := hR3.c1
 have r2 := hR3.c2
 have r3 := hR3.c3
 have f0 := hR3.fz 0
 have f1 := hR3.fz 1
 have f2 := hR3.fz 2
 have f3 := hR3.fz 3
 have HR9 := Lib.hid (hR3.store s2 A2 n2 c2 s3 A3 n3 c3)
 have HO9 := Lib.hid (HO.out.keep (keep_putQ hR3 s2 A2 n2 c2 s3 A3 n3 c3))
 have HB9 := Lib.hid (below_putQ hB3 (Nat.le_refl w.heap.size) s2 A2 n2 c2 s3 A3 n3 c3)
 unfold putQ at HR9 HB9 HO9
 clear hR hR3 hB hB3 hb2 hb3 hb13 ho2 ho3 hy2 hy3
 go_wp2_with fail
 generalize (((W3.setCell ⟨w.heap.size, 0, none⟩ (.bool s2)).setCell ⟨w.heap.size, 1, none⟩ (.slice A2 n2 c2)).setCell ⟨w.heap.size, 2, none⟩ (.bool s3)).setCell ⟨w.heap.size, 3, none⟩ (.slice A3 n3 c3) = W9 at *
 have z0 := HR9.out.c0
 have z1 := HR9.out.c1
 have z2 := HR9.out.c2
 have z3 := HR9.out.c3
 exact bodyPost_ret (by simp [results, Tryz.results38, go_sem, z0, z1, z2, z3]) rfl ⟨_, _, _, _, _, _, _, _, _, rfl, HO9.out, Lib.hid rfl, HB9.out⟩
end Go.Proofs.YtjnklbfhelbjgaaGreat

/- Lists of fractions: those that came in, those of the call's own. -/
namespace Go.Proofs.YtjnklbfhelbjgaaGreat
open Go.RowKit Go.IntWalk
structure RdQs (w : World) (B N : Nat) (A : Option Addr) (n c : Nat) (L : List (Int × Int)) : Prop where
 len : L.length = n
 le : n ≤ c
 mx : c ≤ maxLen
 at_ : ∀ (j : Nat) (p : Int × Int), L[j]? = some p → ∃ (ad : Addr) (s : Bool) (A1 : Option Addr) (n1 c1 : Nat) (s' : Bool) (A1' : Option Addr) (n1' c1' : Nat), A = some ad ∧ ad.block < B ∧ w.cell? (ad.add (j * 4)) = some (.bool s) ∧ w.cell? ⟨(ad.add (j * 4)).block, (ad.add (j * 4)).off + 1, none⟩ = some (.slice A1 n1 c1) ∧ w.cell? ⟨(ad.add (j * 4)).block, (ad.add (j * 4)).off + 2, none⟩ = some (.bool s') ∧ w.cell? ⟨(ad.add (j * 4)).block, (ad.add (j * 4)).off + 3, none⟩ = some (.slice A1' n1' c1') ∧ RdZ w B s A1 n1 c1 p.1 ∧ RdZ w B s' A1' n1' c1' p.2 ∧ n1 ≤ N ∧ n1' ≤ N
theorem qs_cells {w w' : World} {B : Nat} {ad : Addr} {j : Nat} {s s' : Bool} {A A' : Option Addr} {n c n' c' : Nat} (hb : Below B w w') (h2 : ad.block < B) (h3 : w.cell? (ad.add (j * 4)) = some (.bool s)) (h4 : w.cell? ⟨(ad.add (j * 4)).block, (ad.add (j * 4)).off + 1, none⟩ = some (.slice A n c)) (h5 : w.cell? ⟨(ad.add (j * 4)).block, (ad.add (j * 4)).off + 2, none⟩ = some (.bool s')) (h6 : w.cell? ⟨(ad.add (j * 4)).block, (ad.add (j * 4)).off + 3, none⟩ = some (.slice A' n' c')) :
  w'.cell? (ad.add (j * 4)) = some (.bool s) ∧ w'.cell? ⟨(ad.add (j * 4)).block, (ad.add (j * 4)).off + 1, none⟩ = some (.slice A n c) ∧ w'.cell? ⟨(ad.add (j * 4)).block, (ad.add (j * 4)).off + 2, none⟩ = some (.bool s') ∧ w'.cell? ⟨(ad.add (j * 4)).block, (ad.add (j * 4)).off + 3, none⟩ = some (.slice A' n' c') :=
 have hk : (ad.add (j * 4)).block < B := by rw [add_blk]; exact h2
 ⟨(hb.cell (p := ad.add (j * 4)) hk).trans h3, (hb.cell (p := ⟨(ad.add (j * 4)).block, (ad.add (j * 4)).off + 1, none⟩) hk).trans h4, (hb.cell (p := ⟨(ad.add (j * 4)).block, (ad.add (j * 4)).off + 2, none⟩) hk).trans h5, (hb.cell (p := ⟨(ad.add (j * 4)).block, (ad.add (j * 4)).off + 3, none⟩) hk).trans h6⟩
section
variable {w w' : World} {B B' N : Nat} {A : Option Addr} {n c : Nat} {L : List (Int × Int)}
theorem RdQs.below (h : RdQs w B N A n c L) (hb : Below B w w') : RdQs w' B N A n c L :=
 ⟨h.len, h.le, h.mx, fun j p hp => by
  obtain ⟨ad, s, A1, n1, c1, s', A1', n1', c1', h1, h2, h3, h4, h5, h6, h7, h8, h9, h10⟩ := h.at_ j p hp
  obtain ⟨k3, k4, k5, k6⟩ := qs_cells hb h2 h3 h4 h5 h6
  exact ⟨ad, s, A1, n1, c1, s', A1', n1', c1', h1, h2, k3, k4, k5, k6, h7.below hb, h8.below hb, h9, h10⟩⟩
theorem RdQs.more (h : RdQs w B N A n c L) (hB : B ≤ B') : RdQs w B' N A n c L :=
 ⟨h.len, h.le, h.mx, fun j p hp => by
  obtain ⟨ad, s, A1, n1, c1, s', A1', n1', c1', h1, h2, h3, h4, h5, h6, h7, h8, h9, h10⟩ := h.at_ j p hp
  exact ⟨ad, s, A1, n1, c1, s', A1', n1', c1', h1, by omega, h3, h4, h5, h6, h7.more hB, h8.more hB, h9, h10⟩⟩
theorem RdQs.next (h : RdQs w w.heap.size N A n c L) (hb : Below w.heap.size w w') : RdQs w' w'.heap.size N A n c L := (h.below hb).more hb.size
theorem qs_at (h : RdQs w B N A n c L) {j : Nat} (hj : j < n) :
  ∃ (ad : Addr) (s : Bool) (A1 : Option Addr) (n1 c1 : Nat) (s' : Bool) (A1' : Option Addr) (n1' c1' : Nat) (z d : Int), A = some ad ∧ ad.block < B ∧ w.cell? (ad.add (j * 4)) = some (.bool s) ∧ w.cell? ⟨(ad.add (j * 4)).block, (ad.add (j * 4)).off + 1, none⟩ = some (.slice A1 n1 c1) ∧ w.cell? ⟨(ad.add (j * 4)).block, (ad.add (j * 4)).off + 2, none⟩ = some (.bool s') ∧ w.cell? ⟨(ad.add (j * 4)).block, (ad.add (j * 4)).off + 3, none⟩ = some (.slice A1' n1' c1') ∧ RdZ w B s A1 n1 c1 z ∧ RdZ w B s' A1' n1' c1' d ∧ n1 ≤ N ∧ n1' ≤ N ∧ Hid (L[j]? = some (z, d)) := by
 have hl : j < L.length := by rw [h.len]; exact hj
 obtain ⟨ad, s, A1, n1, c1, s', A1', n1', c1', h1, h2, h3, h4, h5, h6, h7, h8, h9, h10⟩ := h.at_ j L[j] (List.getElem?_eq_getElem hl)
 exact ⟨ad, s, A1, n1, c1, s', A1', n1', c1', _, _, h1, h2, h3, h4, h5, h6, h7, h8, h9, h10, Lib.hid (List.getElem?_eq_getElem hl)⟩
end
def qc (e : Ent × Ent) : List Value := [.bool e.1.1, .slice e.1.2.1 e.1.2.2.1 e.1.2.2.2, .bool e.2.1, .slice e.2.2.1 e.2.2.2.1 e.2.2.2.2]
def qcs (E : List (Ent × Ent)) : List Value := E.flatMap qc
theorem qcs_cons (e : Ent × Ent) (E : List (Ent × Ent)) : qcs (e :: E) = qc e ++ qcs E := by simp [qcs]
theorem qcs_append (E F : List (Ent × Ent)) : qcs (E ++ F) = qcs E ++ qcs F := by simp [qcs]
theorem qcs_one (e : Ent × Ent) : qcs [e] = [.bool e.1.1, .slice e.1.2.1 e.1.2.2.1 e.1.2.2.2, .bool e.2.1, .slice e.2.2.1 e.2.2.2.1 e.2.2.2.2] := rfl
theorem qcs_len (E : List (Ent × Ent)) : (qcs E).length = E.length * 4 := by
 induction E with
 | nil => rfl
 | cons e E ih => rw [qcs_cons, List.length_append, ih]; simp [qc]; omega
theorem qcs_at : ∀ (E : List (Ent × Ent)) (j : Nat) (e : Ent × Ent), E[j]? = some e → ∀ i, i < 4 → (qcs E)[j * 4 + i]? = (qc e)[i]?
 | [], _, _, h, _, _ => by simp at h
 | x :: E, 0, e, h, i, hi => by
   simp at h
   subst h
   rw [qcs_cons, Nat.zero_mul, Nat.zero_add, List.getElem?_append_left (by simp [qc]; omega)]
 | x :: E, j + 1, e, h, i, hi => by
   have ih := qcs_at E j e (by simpa using h) i hi
   rw [qcs_cons, List.getElem?_append_right (by simp [qc]; omega), ← ih]
   congr 1
   simp [qc]
   omega
def EntQ (w : World) (b : Nat) (E : List (Ent × Ent)) (L : List Rat) : Prop := E.length = L.length ∧ ∀ (j : Nat) (e : Ent × Ent) (x : Rat), E[j]? = some e → L[j]? = some x → OwQ w b e.1.1 e.1.2.1 e.1.2.2.1 e.1.2.2.2 e.2.1 e.2.2.1 e.2.2.2.1 e.2.2.2.2 x
def OwQs (w : World) (b : Nat) (A : Option Addr) (n c : Nat) (L : List Rat) : Prop :=
 ∃ E : List (Ent × Ent), w.ownsRow b 47 4 (.slice A n c) n (qcs E) ∧ E.length = n ∧ EntQ w b E L
section
variable {w w' : World} {b b' : Nat} {A : Option Addr} {n c : Nat} {L : List Rat} {E : List (Ent × Ent)}
theorem EntQ.next (h : EntQ w b E L) (hb : Below w.heap.size w w') : EntQ w' b E L := ⟨h.1, fun j e z he hz => (h.2 j e z he hz).next hb⟩
theorem EntQ.base (h : EntQ w b E L) (hb : b' ≤ b) : EntQ w b' E L := ⟨h.1, fun j e z he hz => (h.2 j e z he hz).base hb⟩
theorem EntQ.snoc (h : EntQ w b E L) {e : Ent × Ent} {x : Rat} (he : OwQ w b e.1.1 e.1.2.1 e.1.2.2.1 e.1.2.2.2 e.2.1 e.2.2.1 e.2.2.2.1 e.2.2.2.2 x) : EntQ w b (E ++ [e]) (L ++ [x]) := by
 refine ⟨by rw [List.length_append, List.length_append, h.1]; rfl, fun j e' z' h1 h2 => ?_⟩
 rcases Nat.lt_or_ge j E.length with hj | hj
 ·rw [List.getElem?_append_left hj] at h1
  rw [List.getElem?_append_left (by rw [← h.1]; exact hj)] at h2
  exact h.2 j e' z' h1 h2
 ·rw [List.getElem?_append_right hj] at h1
  rw [List.getElem?_append_right (by rw [← h.1]; exact hj)] at h2
  rw [← h.1] at h2
  have hj0 : j - E.length = 0 := by
   rcases Nat.eq_zero_or_pos (j - E.length) with e0 | e0
   ·exact e0
   ·rw [List.getElem?_eq_none (by simp; omega)] at h1; cases h1
  rw [hj0] at h1 h2
  simp at h1 h2
  subst h1 h2
  exact he
theorem OwQs.len (h : OwQs w b A n c L) : L.length = n := by
 obtain ⟨E, _, h2, h3⟩ := h
 rw [← h3.1, h2]
theorem OwQs.nil (w : World) (b : Nat) : OwQs w b none 0 0 [] := ⟨[], World.ownsRow_nil _ _ _ _, rfl, rfl, fun j e z he _ => by simp at he⟩
theorem OwQs.next (h : OwQs w b A n c L) (hb : Below w.heap.size w w') : OwQs w' b A n c L := by
 obtain ⟨E, h1, h2, h3⟩ := h
 exact ⟨E, row_next h1 hb, h2, h3.next hb⟩
theorem OwQs.form (h : OwQs w b A n c L) : (A = none ∧ n = 0 ∧ c = 0) ∨ ∃ g, A = some ⟨g, 0, none⟩ ∧ b ≤ g ∧ g < w.heap.size ∧ n ≤ c ∧ c ≤ maxLen := by
 obtain ⟨E, h, _, _⟩ := h
 rcases h.2 with ⟨h1, h2⟩ | ⟨g, cap, cur, h1, h2, h3, h4, h5, _⟩
 ·injection h1 with h1 h1' h1''
  exact .inl ⟨h1, h2, h1''⟩
 ·injection h1 with h1 h1' h1''
  subst h1''
  exact .inr ⟨g, h1, h2, (Array.getElem?_eq_some_iff.1 h3).1, h4, h5⟩
theorem oq_at (h : OwQs w b A n c L) {j : Nat} (hj : j < n) :
  ∃ (ad : Addr) (s : Bool) (A1 : Option Addr) (n1 c1 : Nat) (s' : Bool) (A1' : Option Addr) (n1' c1' : Nat) (x : Rat), A = some ad ∧ ad.block < w.heap.size ∧ w.cell? (ad.add (j * 4)) = some (.bool s) ∧ w.cell? ⟨(ad.add (j * 4)).block, (ad.add (j * 4)).off + 1, none⟩ = some (.slice A1 n1 c1) ∧ w.cell? ⟨(ad.add (j * 4)).block, (ad.add (j * 4)).off + 2, none⟩ = some (.bool s') ∧ w.cell? ⟨(ad.add (j * 4)).block, (ad.add (j * 4)).off + 3, none⟩ = some (.slice A1' n1' c1') ∧ OwQ w b s A1 n1 c1 s' A1' n1' c1' x ∧ Hid (L[j]? = some x) := by
 have hl := h.len
 rcases h.form with ⟨_, h0, _⟩ | ⟨g, rfl, h1, h2, h3, h4⟩
 ·omega
 ·obtain ⟨E, hr, hE, hel⟩ := h
  have hjE : j < E.length := by omega
  have hjL : j < L.length := by omega
  have he := List.getElem?_eq_getElem hjE
  have hq := qcs_at E j _ he
  have hx := hel.2 j _ _ he (List.getElem?_eq_getElem hjL)
  refine ⟨_, _, _, _, _, _, _, _, _, _, rfl, h2, ?_, ?_, ?_, ?_, hx, Lib.hid (List.getElem?_eq_getElem hjL)⟩
  ·rw [add_base, hr.cellAt (j * 4) (by omega)]; exact hq 0 (by omega)
  ·rw [add_base]; exact (hr.cellAt (j * 4 + 1) (by omega)).trans (hq 1 (by omega))
  ·rw [add_base]; exact (hr.cellAt (j * 4 + 2) (by omega)).trans (hq 2 (by omega))
  ·rw [add_base]; exact (hr.cellAt (j * 4 + 3) (by omega)).trans (hq 3 (by omega))
theorem own_otherT {t : TypeId} (ht : t ≠ 171) {k m g : Nat} {M : List Nat} {A : Option Addr} {cur : Array Value} {f : Nat × Nat} (h : OwU w b A k m M) (hg : w.heap[g]? = some (.cells cur t f)) {w1 : World} (hb : ∀ i, i < w.heap.size → i ≠ g → w1.heap[i]? = w.heap[i]?) : OwU w1 b A k m M := by
 refine ⟨⟨h.own.1, ?_⟩, h.wd⟩
 rcases h.own.2 with h0 | ⟨g2, cap, cur2, h1, h2, h3, h4⟩
 ·exact .inl h0
 ·have hne : g2 ≠ g := by
   rintro rfl
   rw [hg] at h3
   injection h3 with h3
   injection h3 with _ h3
   exact ht h3
  exact .inr ⟨g2, cap, cur2, h1, h2, (hb g2 (Array.getElem?_eq_some_iff.1 h3).1 hne).trans h3, h4⟩
theorem qs_more {wb w1 : World} {v' : Value} {e : Ent × Ent} {x : Rat} {t : TypeId} (he : OwQ w b e.1.1 e.1.2.1 e.1.2.2.1 e.1.2.2.2 e.2.1 e.2.2.1 e.2.2.2.1 e.2.2.2.2 x) (hwb : wb = w.alloc (.cells #[.bool e.1.1, .slice e.1.2.1 e.1.2.2.1 e.1.2.2.2, .bool e.2.1, .slice e.2.2.1 e.2.2.2.1 e.2.2.2.2] t)) {E : List (Ent × Ent)} (hE : wb.ownsRow b 47 4 (.slice A n c) n (qcs E)) (hEl : E.length = n) (hEn : EntQ w b E L)
  (hown' : w1.ownsRow b 47 4 v' (n + 1) (qcs E ++ [.bool e.1.1, .slice e.1.2.1 e.1.2.2.1 e.1.2.2.2, .bool e.2.1, .slice e.2.2.1 e.2.2.2.1 e.2.2.2.2])) (hg : wb.grownBy w1 (Value.slice A n c).ownBlock) :
  ∃ (A' : Option Addr) (c' : Nat), v' = .slice A' (n + 1) c' ∧ OwQs w1 b A' (n + 1) c' (L ++ [x]) := by
 obtain ⟨A', c', rfl⟩ := row_sl hown'
 have hba : Below w.heap.size w wb := by rw [hwb]; exact (Below.refl w.heap.size w).alloc (Nat.le_refl _) _
 have key : ∀ {s : Bool} {B : Option Addr} {k m : Nat} {y : Int}, OwZ w b s B k m y → OwZ w1 b s B k m y := by
  intro s B k m y hy
  have hy2 := hy.next hba
  refine ⟨?_, hy2.sgn⟩
  rcases hE.2 with ⟨h1, h2⟩ | ⟨g, cap, cur, h1, h2, h3, _⟩
  ·refine hy2.own.next ((Below.refl _ _).grown hg (Nat.le_refl _) fun k hk => ?_)
   rw [h1] at hk
   cases hk
  ·refine own_otherT (by decide) hy2.own h3 fun i hi hne => hg.block i hi ?_
   rw [h1]
   intro e0
   cases e0
   exact hne rfl
 refine ⟨A', c', rfl, E ++ [e], ?_, by rw [List.length_append, hEl]; rfl, ?_⟩
 ·rw [qcs_append, qcs_one]; exact hown'
 ·have h2 := hEn.snoc he
  exact ⟨h2.1, fun j e' z' h3 h4 => ⟨key (h2.2 j e' z' h3 h4).num, key (h2.2 j e' z' h3 h4).den⟩⟩
end
theorem infoQ : (Tryz.prog.info? 47).map (fun i => (i.zero, i.size, i.bytes)) = some (some (.agg #[.bool false, .slice none 0 0, .bool false, .slice none 0 0]), 4, 64) := by kernel_rfl
end Go.Proofs.YtjnklbfhelbjgaaGreat

/- rat.made: a function of fractions in lowest terms. -/
namespace Go.Proofs.YtjnklbfhelbjgaaGreat
open Go.RowKit Go.IntWalk
attribute [local go_sem ↓] Go.wp_at_zero Go.wp_at_succ
def RetZD2 (z d k : Int) (w : World) (e : Ending) (w' : World) : Prop :=
 ∃ (s : Bool) (A : Option Addr) (n c : Nat) (y : Int) (s' : Bool) (A' : Option Addr) (n' c' : Nat) (y' : Int) (kk : Int), e = .returned (.tuple #[.agg #[.bool s, .slice A n c, .bool s', .slice A' n' c'], .int .i64 kk]) ∧ OwZ w' w.heap.size s A n c y ∧ OwZ w' w.heap.size s' A' n' c' y' ∧ Hid (y = z ∧ y' = d ∧ kk = k) ∧ Below w.heap.size w w'
theorem make_qroom (k : Nat) (hk : k ≤ 1099511627776) (w : World) :
  (Instr.makeSlice 72 (.int .i64 0) (.int .i64 (k : Int))).run Tryz.prog w = .ok (.slice (some ⟨w.heap.size, 0, none⟩) 0 k) (w.alloc (.cells (madeCells #[.bool false, .slice none 0 0, .bool false, .slice none 0 0] (k * 4)) 47)) := by
 obtain ⟨i, hi, hz, hs, hb⟩ := info_parts infoQ
 have hr := run_make (P := Tryz.prog) w 72 47 i _ Tryz.underlying72 hi hz .i64 .i64 0 k (by omega) (by omega) (by rw [hb]; omega) (by omega)
 rw [hs] at hr
 exact hr
theorem OwQs.room (w : World) (k : Nat) (hk : k ≤ maxLen) : OwQs (w.alloc (.cells (madeCells #[.bool false, .slice none 0 0, .bool false, .slice none 0 0] (k * 4)) 47)) w.heap.size (some ⟨w.heap.size, 0, none⟩) 0 k [] :=
 ⟨[], ⟨rfl, .inr ⟨w.heap.size, k, _, rfl, Nat.le_refl _, heap_alloc_new w _, Nat.zero_le _, hk, by simp [madeCells], rfl⟩⟩, rfl, rfl, fun j e z he _ => by simp at he⟩
theorem qcell_new (w : World) (x y u v : Value) (t : TypeId) : ∀ j a, [x, y, u, v][j]? = some a → (w.alloc (.cells #[x, y, u, v] t)).cell? ((⟨w.heap.size, 0, none⟩ : Addr).add j) = some a := by
 intro j a hj
 match j, hj with
 | 0, hj => simp at hj; subst hj; simp [Addr.add]
 | 1, hj => simp at hj; subst hj; simp [Addr.add]
 | 2, hj => simp at hj; subst hj; simp [Addr.add]
 | 3, hj => simp at hj; subst hj; simp [Addr.add]
 | (j + 4), hj => simp at hj
theorem mapq_snoc {f : Int × Int → Rat} {L : List (Int × Int)} {j : Nat} {p : Int × Int} (h : L[j]? = some p) : (L.take j).map f ++ [f p] = (L.take (j + 1)).map f := by
 rw [List.take_add_one, h]
 simp
abbrev qval (p : Int × Int) : Rat := Rat.divInt p.1 p.2
set_option maxRecDepth 100000 in
set_option maxHeartbeats 8000000 in
theorem made_any {f N : Nat} {A : Option Addr} {n c : Nat} {L : List (Int × Int)} {w : World} {z d k : Int} (h : RdQs w w.heap.size N A n c L) (hn : n ≤ 1048576) (hN : N ≤ 1000000000000) (heg : ∀ args w, (callFunc f args).run Tryz.prog w = .ok (.enter f args) w)
  (hdo : (∀ p ∈ L, p.2 ≠ 0) → ∀ (W : World) (A' : Option Addr) (c' : Nat) (b : Nat), Below w.heap.size w W → w.heap.size ≤ b → OwQs W b A' n c' (L.map qval) → Calls Tryz.prog f #[.slice A' n c'] W (RetZD2 z d k W)) :
  Calls Tryz.prog 85 #[.func (.func f) #[] #[], .slice A n c] w fun e w' => ((∀ p ∈ L, p.2 ≠ 0) ∧ RetZD2 z d k w e w') ∨ ((∃ p ∈ L, p.2 = 0) ∧ RetQ0 6 w e w') := by
 have HD := Lib.hid hdo
 have HLEN := Lib.hid h.len
 have hmk := fun W : World => make_qroom n (by omega) W
 obtain ⟨i0, hi, hz0, hz1, hz2⟩ := info_parts infoQ
 have hX0 := QC.new w false none 0 0 false none 0 0
 have hb0 : Below w.heap.size w (w.alloc (.cells #[.bool false, .slice none 0 0, .bool false, .slice none 0 0] 47)) := (Below.refl _ _).alloc (Nat.le_refl _) _
 obtain ⟨W0, HW0⟩ : ∃ W, W = (w.alloc (.cells #[.bool false, .slice none 0 0, .bool false, .slice none 0 0] 47)).alloc (.cells #[.bool false, .slice none 0 0, .bool false, .slice none 0 0] 47) := ⟨_, rfl⟩
 obtain ⟨hR0, hZ0, hB0⟩ := q_box1 w false none 0 0 false none 0 0 W0 HW0
 have hs0 : W0.heap.size = w.heap.size + 1 + 1 := by rw [HW0]; simp
 obtain ⟨W1, HW1⟩ : ∃ W, W = W0.alloc (.cells (madeCells #[.bool false, .slice none 0 0, .bool false, .slice none 0 0] (n * 4)) 47) := ⟨_, rfl⟩
 have hb1 : Below W0.heap.size W0 W1 := by rw [HW1]; exact (Below.refl _ _).alloc (Nat.le_refl _) _
 have hO1 : OwQs W1 W0.heap.size (some ⟨W0.heap.size, 0, none⟩) 0 n [] := by rw [HW1]; exact OwQs.room W0 n (by unfold maxLen; omega)
 have HRZ := Lib.hid (show ∀ W : World, Below W0.heap.size W0 W → QC W w.heap.size false none 0 0 false none 0 0 ∧ QC W (w.heap.size + 1) false none 0 0 false none 0 0 from fun W hb => ⟨hR0.next hb, hZ0.next hb⟩)
 have HB0 := Lib.hid hB0
 have HS0 := Lib.hid hs0
 rw [hs0] at hO1
 rw [HW0] at HW1
 have HW1 := Lib.hid HW1
 clear hdo hX0 hb0 hR0 hZ0 hB0 hs0 HW0
 go_enter Tryz.func85, Tryz.ntmps85
 go_wp2_with fail
 rw [← HW1.out]
 clear HW1
 clear HW1
 have HLT := Lib.hid (show w.heap.size + 1 < W0.heap.size by rw [HS0.out]; exact Nat.lt_succ_self _)
 rw [← HS0.out] at hO1
 go_loopw [7, 17] (fun ov iv wr => ∃ (j c' : Nat) (A' : Option Addr) (M : List Rat), ov = .slice A' j c' ∧ iv = .int .i64 j ∧ j ≤ n ∧ OwQs wr W0.heap.size A' j c' M ∧ Hid (M = (L.take j).map qval) ∧ Hid (∀ (i : Nat) (p : Int × Int), i < j → L[i]? = some p → p.2 ≠ 0) ∧ Below W0.heap.size W0 wr) (fun _ iv _ => n - (intOf iv).toNat)
 case atStart => exact ⟨0, n, _, [], by rw [HS0.out], rfl, Nat.zero_le _, hO1, Lib.hid rfl, Lib.hid fun i p hi => absurd hi (Nat.not_lt_zero _), hb1⟩
 case round =>
  clear hO1 hb1
  obtain ⟨j, c', A', M, rfl, rfl, hj, ho, hM, hne, hB⟩ := hrel
  by_cases hjn : j = n
  ·subst hjn
   have HALL := Lib.hid (show ∀ p ∈ L, p.2 ≠ 0 from fun p hp => by
    obtain ⟨i, hi, e⟩ := List.mem_iff_getElem.1 hp
    exact hne.out i p (by rw [← HLEN.out]; exact hi) (by rw [List.getElem?_eq_getElem hi, e]))
   have HBW := Lib.hid (HB0.out.trans (hB.mono HB0.out.size))
   have HO := Lib.hid (show OwQs wr W0.heap.size A' j c' (L.map qval) by rw [← List.take_of_length_le (l := L) (by rw [HLEN.out]; exact Nat.le_refl _), ← hM.out]; exact ho)
   have HR := Lib.hid (HRZ.out _ hB).1
   clear ho hB hM hne
   go_wp2_with fail
   refine (HD.out HALL.out wr A' c' _ HBW.out HB0.out.size HO.out).mono ?_
   rintro _ W5 ⟨s5, A5, n5, c5, y5, s6, A6, n6, c6, y6, kk, rfl, ho5, ho6, hy, hb5⟩
   have hR5 := HR.out.next hb5
   have r0 := hR5.c0
   have r1 := hR5.c1
   have r2 := hR5.c2
   have r3 := hR5.c3
   have f0 := hR5.fz 0
   have f1 := hR5.fz 1
   have f2 := hR5.fz 2
   have f3 := hR5.fz 3
   have HR9 := Lib.hid (hR5.store s5 A5 n5 c5 s6 A6 n6 c6)
   have HO9 := Lib.hid (And.intro ((ho5.base (b' := w.heap.size) HBW.out.size).keep (keep_putQ hR5 s5 A5 n5 c5 s6 A6 n6 c6)) ((ho6.base (b' := w.heap.size) HBW.out.size).keep (keep_putQ hR5 s5 A5 n5 c5 s6 A6 n6 c6)))
   have HB9 := Lib.hid (below_putQ (HBW.out.trans (hb5.mono HBW.out.size)) (Nat.le_refl w.heap.size) s5 A5 n5 c5 s6 A6 n6 c6)
   unfold putQ at HR9 HB9 HO9
   clear ho5 ho6 hb5 hR5
   go_wp2_with fail
   generalize (((W5.setCell ⟨w.heap.size, 0, none⟩ (.bool s5)).setCell ⟨w.heap.size, 1, none⟩ (.slice A5 n5 c5)).setCell ⟨w.heap.size, 2, none⟩ (.bool s6)).setCell ⟨w.heap.size, 3, none⟩ (.slice A6 n6 c6) = W9 at *
   have z0 := HR9.out.c0
   have z1 := HR9.out.c1
   have z2 := HR9.out.c2
   have z3 := HR9.out.c3
   exact bodyPost_ret (by simp [results, Tryz.results85, go_sem, z0, z1, z2, z3]) rfl (.inl ⟨HALL.out, _, _, _, _, _, _, _, _, _, _, _, rfl, HO9.out.1, HO9.out.2, hy, HB9.out⟩)
  ·have hjl : j < n := by omega
   clear hjn
   have hjli : (j : Int) < (n : Int) := by omega
   have hBW := HB0.out.trans (hB.mono HB0.out.size)
   obtain ⟨ad, s1, A1, n1, c1, s2, A2, n2, c2, z1, d1, rfl, hbk, hx0, hx1, hx2, hx3, hr1, hr2, hn1, hn2, hp⟩ := qs_at h hjl
   obtain ⟨hy0, hy1, hy2, hy3⟩ := qs_cells hBW hbk hx0 hx1 hx2 hx3
   obtain ⟨W2, HW2⟩ : ∃ W, W = wr.alloc (.cells #[.bool s1, .slice A1 n1 c1, .bool s2, .slice A2 n2 c2] 47) := ⟨_, rfl⟩
   have hb2 : Below wr.heap.size wr W2 := by rw [HW2]; exact (Below.refl _ _).alloc (Nat.le_refl _) _
   have hB2 := hB.trans (hb2.mono hB.size)
   have hBW2 := hBW.trans (hb2.mono hBW.size)
   have HO := Lib.hid (ho.next hb2)
   have HRD := Lib.hid (And.intro (hr1.next hBW2) (hr2.next hBW2))
   have HB2 := Lib.hid hB2
   have HBW2 := Lib.hid hBW2
   have HNN := Lib.hid (And.intro (Nat.le_trans hn1 hN) (Nat.le_trans hn2 hN))
   have HW2 := Lib.hid HW2
   clear ho hB hb2 hB2 hBW hBW2 hr1 hr2 hx0 hx1 hx2 hx3
   go_wp2_with fail
   rw [← HW2.out]
   clear HW2 hy0 hy1 hy2 hy3
   clear HW2
   by_cases hd0 : d1 = 0
   ·subst hd0
    have HEX := Lib.hid (show ∃ p ∈ L, p.2 = 0 from ⟨(z1, 0), List.mem_of_getElem? hp.out, rfl⟩)
    refine (qnorm_zero HRD.out.2 HNN.out.2).mono ?_
    rintro _ W3 ⟨rfl, hb3⟩
    obtain ⟨W4, HW4⟩ : ∃ W, W = W3.alloc (.cells #[.bool false, .slice none 0 0, .bool false, .slice none 0 0] 47) := ⟨_, rfl⟩
    have hb4 : Below W3.heap.size W3 W4 := by rw [HW4]; exact (Below.refl _ _).alloc (Nat.le_refl _) _
    have hb24 := hb3.trans (hb4.mono hb3.size)
    have hRZ := HRZ.out _ (HB2.out.trans (hb24.mono HB2.out.size))
    have hR := hRZ.1
    have r0 := hR.c0
    have r1 := hR.c1
    have r2 := hR.c2
    have r3 := hR.c3
    have f0 := hR.fz 0
    have f1 := hR.fz 1
    have f2 := hR.fz 2
    have f3 := hR.fz 3
    have g0 := hRZ.2.c0
    have g1 := hRZ.2.c1
    have g2 := hRZ.2.c2
    have g3 := hRZ.2.c3
    rw [HW4] at r0 r1 r2 r3 f0 f1 f2 f3 g0 g1 g2 g3
    have HR9 := Lib.hid (hR.store false none 0 0 false none 0 0)
    have HB9 := Lib.hid (below_putQ (HBW2.out.trans (hb24.mono HBW2.out.size)) (Nat.le_refl w.heap.size) false none 0 0 false none 0 0)
    unfold putQ at HR9 HB9
    have HW4 := Lib.hid HW4
    clear hb3 hb4 hb24 hR hRZ
    go_wp2_with fail
    rw [← HW4.out]
    clear HW4 r0 r1 r2 r3 f0 f1 f2 f3 g0 g1 g2 g3
    clear HW4
    generalize (((W4.setCell ⟨w.heap.size, 0, none⟩ (.bool false)).setCell ⟨w.heap.size, 1, none⟩ (.slice none 0 0)).setCell ⟨w.heap.size, 2, none⟩ (.bool false)).setCell ⟨w.heap.size, 3, none⟩ (.slice none 0 0) = W9 at *
    have z0 := HR9.out.c0
    have z1 := HR9.out.c1
    have z2 := HR9.out.c2
    have z3 := HR9.out.c3
    exact bodyPost_ret (by simp [results, Tryz.results85, go_sem, z0, z1, z2, z3]) rfl (.inr ⟨HEX.out, rfl, HB9.out⟩)
   ·have HD1 := Lib.hid hd0
    clear hd0
    refine (qnorm_any HRD.out.1 HRD.out.2 HNN.out.1 HNN.out.2 HD1.out).mono ?_
    rintro _ W3 ⟨s3, A3, n3, c3, s4, A4, n4, c4, y, rfl, ho3, hy, hb3⟩
    have hB3 := HB2.out.trans (hb3.mono HB2.out.size)
    obtain ⟨W4, HW4⟩ : ∃ W, W = W3.alloc (.cells #[.bool s3, .slice A3 n3 c3, .bool s4, .slice A4 n4 c4] 47) := ⟨_, rfl⟩
    have hb4 : Below W3.heap.size W3 W4 := by rw [HW4]; exact (Below.refl _ _).alloc (Nat.le_refl _) _
    have hB4 := hB3.trans (hb4.mono hB3.size)
    obtain ⟨E, hE, hEl, hEn⟩ := (HO.out.next hb3).next hb4
    have HO4 := Lib.hid ((ho3.base HB2.out.size).next hb4)
    rw [HW4] at hE hB4 hEn
    rw [HW4] at HO4
    have HE := Lib.hid hE
    have HEN := Lib.hid (And.intro hEl hEn)
    have HM2 := Lib.hid (show M ++ [y] = (L.take (j + 1)).map qval by rw [hM.out, hy.out]; exact mapq_snoc hp.out)
    have HNE2 := Lib.hid (show ∀ (i : Nat) (p : Int × Int), i < j + 1 → L[i]? = some p → p.2 ≠ 0 from fun i p hi hq => by
     rcases Nat.lt_or_ge i j with h1 | h1
     ·exact hne.out i p h1 hq
     ·rw [show i = j by omega, hp.out] at hq
      injection hq with hq
      rw [← hq]
      exact HD1.out)
    have HB4 := Lib.hid hB4
    clear hE hEl hEn hb3 ho3 hb4 hB3 hB4 hy HO hne hM
    clear HW4
    go_wp2_with (at_builtin; refine wpList_append_own _ rfl _ _ 72 rfl W0.heap.size 47 i0 (.agg #[.bool false, .slice none 0 0, .bool false, .slice none 0 0]) 4 64 Tryz.underlying72 hi hz0 hz1 hz2 rfl (by decide) _ _ _ rfl (HE.out.alloc _) ⟨W3.heap.size + 1, 0, none⟩ 1 1 [.bool s3, .slice A3 n3 c3, .bool s4, .slice A4 n4 c4] rfl rfl (by simpa using qcell_new (W3.alloc (.cells #[.bool s3, .slice A3 n3 c3, .bool s4, .slice A4 n4 c4] 47)) (.bool s3) (.slice A3 n3 c3) (.bool s4) (.slice A4 n4 c4) 47) (by simp [Value.oneCell']) (by unfold maxLen; omega) (by omega) (by have := HB4.out.size; simp at this ⊢; omega) ?_; intro v' w1 hown' hgrow _)
    have hmore := qs_more (e := ((s3, A3, n3, c3), (s4, A4, n4, c4))) (x := y) HO4.out rfl (HE.out.alloc _) HEN.out.1 HEN.out.2 hown' hgrow
    have HB5 := Lib.hid ((HB4.out.alloc HB4.out.size (.cells #[.bool s3, .slice A3 n3 c3, .bool s4, .slice A4 n4 c4] 47)).grown hgrow (by have := HB4.out.size; simp at this ⊢; omega) (own_block HE.out))
    obtain ⟨A5, c5, rfl, ho5⟩ := hmore
    clear hown' hgrow HE HEN HO4
    go_wp2
    go_roundw
    case rel => exact ⟨j + 1, c5, A5, M ++ [y], rfl, by go_num, by omega, ho5, HM2, HNE2, HB5.out⟩
    case measure => simp [intOf]; omega
end Go.Proofs.YtjnklbfhelbjgaaGreat
