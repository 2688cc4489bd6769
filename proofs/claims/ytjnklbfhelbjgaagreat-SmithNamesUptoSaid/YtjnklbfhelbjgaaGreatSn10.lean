/- zpoly: a division that leaves nothing. -/
import Derived.Test.YtjnklbfhelbjgaaGreatSn09
import Derived.Test.YtjnklbfhelbjgaaGreatSn06
namespace Go.Proofs.YtjnklbfhelbjgaaGreat
open Go.RowKit Go.IntWalk
attribute [local go_sem ↓] Go.wp_at_zero Go.wp_at_succ
theorem keep_set2 {w : World} {g : Nat} {s : Bool} {A : Option Addr} {n c : Nat} (h : ZC w g s A n c) (x y : Value) : KeepT w ((w.setCell ⟨g, 0, none⟩ x).setCell ⟨g, 1, none⟩ y) := fun i cs f e => by
 have hne : i ≠ g := by
  rintro rfl
  unfold ZC at h
  rw [h] at e
  simp at e
 exact ((Below.heap_setCell _ (⟨g, 1, none⟩ : Addr) y i hne).trans (Below.heap_setCell _ (⟨g, 0, none⟩ : Addr) x i hne)).trans e
end Go.Proofs.YtjnklbfhelbjgaaGreat

/- A round of the reference's division: the coefficient may be nought. Nothing of the program. -/
namespace Pz
end Pz

/- Reference 07: degree, lead, the exact division. -/
namespace Go.Proofs.YtjnklbfhelbjgaaGreat
open Go.RowKit Go.IntWalk
attribute [local go_sem ↓] Go.wp_at_zero Go.wp_at_succ
end Go.Proofs.YtjnklbfhelbjgaaGreat

/- Integer polynomials: the degree, the lead. -/
namespace Go.Proofs.YtjnklbfhelbjgaaGreat
open Go.RowKit Go.IntWalk
attribute [local go_sem ↓] Go.wp_at_zero Go.wp_at_succ
theorem OwZs.far {w : World} {b : Nat} {A : Option Addr} {n c : Nat} {L : List Int} (h : OwZs w b A n c L) {p : Addr} (hp : p.block < b) (u : Value) : OwZs (w.setCell p u) b A n c L := by
 obtain ⟨E, h1, h2, h3⟩ := h
 exact ⟨E, row_far h1 hp u, h2, h3.1, fun j e z he hz => (h3.2 j e z he hz).far hp u⟩
end Go.Proofs.YtjnklbfhelbjgaaGreat

/- zpoly: equality, content, the primitive part. -/
namespace Go.Proofs.YtjnklbfhelbjgaaGreat
open Go.RowKit Go.IntWalk
attribute [local go_sem ↓] Go.wp_at_zero Go.wp_at_succ
abbrev gcdl (L : List Int) : Int := L.foldl (fun (g x : Int) => (Int.gcd g x : Int)) 0
def prC (M : List Int) : Int := if Pz.co M (M.length - 1) < 0 then -gcdl M else gcdl M
def exq (c z : Int) : Int := if z.tmod c = 0 then z.tdiv c else 0
end Go.Proofs.YtjnklbfhelbjgaaGreat

/- zpoly: the primitive part. -/
namespace Go.Proofs.YtjnklbfhelbjgaaGreat
open Go.RowKit Go.IntWalk
attribute [local go_sem ↓] Go.wp_at_zero Go.wp_at_succ
end Go.Proofs.YtjnklbfhelbjgaaGreat

/- Reference 07: content, the primitive part. -/
namespace Go.Proofs.YtjnklbfhelbjgaaGreat
open Go.RowKit Go.IntWalk
attribute [local go_sem ↓] Go.wp_at_zero Go.wp_at_succ
end Go.Proofs.YtjnklbfhelbjgaaGreat

/- Fractions: in lowest terms. Nothing of the program. -/
namespace Qz
def gs (a b : Int) : Int := if b < 0 then -(Int.gcd a b : Int) else (Int.gcd a b : Int)
theorem gs_ne {a b : Int} (hb : b ≠ 0) : gs a b ≠ 0 := by
 have h : Int.gcd a b ≠ 0 := fun e => hb (Int.gcd_eq_zero_iff.1 e).2
 unfold gs
 split <;> omega
theorem gs_left (a b : Int) : gs a b ∣ a := by
 unfold gs
 split
 ·exact Int.neg_dvd.2 (Int.gcd_dvd_left a b)
 ·exact Int.gcd_dvd_left a b
theorem gs_right (a b : Int) : gs a b ∣ b := by
 unfold gs
 split
 ·exact Int.neg_dvd.2 (Int.gcd_dvd_right a b)
 ·exact Int.gcd_dvd_right a b
theorem make_num {a b : Int} (hb : b ≠ 0) : a.tdiv (gs a b) = (Rat.divInt a b).num := by
 rw [Rat.num_divInt, Int.gcd_comm b a]
 unfold gs
 split
 ·rw [Int.tdiv_neg, Int.sign_eq_neg_one_of_neg (by assumption), Int.tdiv_eq_ediv_of_dvd (Int.gcd_dvd_left a b), Int.neg_one_mul, Int.neg_ediv_of_dvd (Int.gcd_dvd_left a b)]
 ·rw [Int.sign_eq_one_of_pos (by omega), Int.one_mul, Int.tdiv_eq_ediv_of_dvd (Int.gcd_dvd_left a b)]
theorem make_den {a b : Int} (hb : b ≠ 0) : b.tdiv (gs a b) = ((Rat.divInt a b).den : Int) := by
 rw [Rat.den_divInt, if_neg hb, Int.gcd_comm b a]
 unfold gs
 split
 ·rename_i h
  obtain ⟨k, hk⟩ : ∃ k : Nat, b = -(k : Int) := ⟨b.natAbs, by omega⟩
  have e : b.natAbs = k := by omega
  rw [Int.tdiv_neg, Int.tdiv_eq_ediv_of_dvd (Int.gcd_dvd_right a b), ← Int.neg_ediv_of_dvd (Int.gcd_dvd_right a b), e]
  rw [show -b = (k : Int) by omega]
  rfl
 ·rename_i h
  obtain ⟨k, hk⟩ : ∃ k : Nat, b = (k : Int) := ⟨b.natAbs, by omega⟩
  have e : b.natAbs = k := by omega
  rw [Int.tdiv_eq_ediv_of_dvd (Int.gcd_dvd_right a b), e]
  conv => lhs; arg 1; rw [hk]
  rfl
theorem gcd_list (a b : Int) : [a, b].foldl (fun (g x : Int) => (Int.gcd g x : Int)) 0 = (Int.gcd a b : Int) := by
 simp [Int.gcd]
end Qz

/- Fractions in memory; rat.Make. -/
namespace Go.Proofs.YtjnklbfhelbjgaaGreat
open Go.RowKit Go.IntWalk
attribute [local go_sem ↓] Go.wp_at_zero Go.wp_at_succ
def QC (w : World) (g : Nat) (s : Bool) (A : Option Addr) (n c : Nat) (s' : Bool) (A' : Option Addr) (n' c' : Nat) : Prop := w.heap[g]? = some (.cells #[.bool s, .slice A n c, .bool s', .slice A' n' c'] 47 (0, 0))
structure OwQ (w : World) (b : Nat) (s : Bool) (A : Option Addr) (n c : Nat) (s' : Bool) (A' : Option Addr) (n' c' : Nat) (x : Rat) : Prop where
 num : OwZ w b s A n c x.num
 den : OwZ w b s' A' n' c' (x.den : Int)
section
variable {w w' : World} {g b b' B : Nat} {s s' : Bool} {A A' : Option Addr} {n c n' c' : Nat} {x : Rat}
theorem QC.lt (h : QC w g s A n c s' A' n' c') : g < w.heap.size := (Array.getElem?_eq_some_iff.1 h).1
theorem QC.c0 (h : QC w g s A n c s' A' n' c') : w.cell? ⟨g, 0, none⟩ = some (.bool s) := by rw [cell_of_row w g 0 _ _ _ h]; rfl
theorem QC.c1 (h : QC w g s A n c s' A' n' c') : w.cell? ⟨g, 1, none⟩ = some (.slice A n c) := by rw [cell_of_row w g 1 _ _ _ h]; rfl
theorem QC.c2 (h : QC w g s A n c s' A' n' c') : w.cell? ⟨g, 2, none⟩ = some (.bool s') := by rw [cell_of_row w g 2 _ _ _ h]; rfl
theorem QC.c3 (h : QC w g s A n c s' A' n' c') : w.cell? ⟨g, 3, none⟩ = some (.slice A' n' c') := by rw [cell_of_row w g 3 _ _ _ h]; rfl
theorem QC.fz (h : QC w g s A n c s' A' n' c') (j : Nat) : w.frozen? ⟨g, j, none⟩ = false := frozen_of_row w g j _ _ h
theorem QC.next (h : QC w g s A n c s' A' n' c') (hb : Below w.heap.size w w') : QC w' g s A n c s' A' n' c' := (hb.block g h.lt).trans h
theorem QC.new (w : World) (s : Bool) (A : Option Addr) (n c : Nat) (s' : Bool) (A' : Option Addr) (n' c' : Nat) : QC (w.alloc (.cells #[.bool s, .slice A n c, .bool s', .slice A' n' c'] 47)) w.heap.size s A n c s' A' n' c' := heap_alloc_new w _
def putQ (w : World) (g : Nat) (s : Bool) (A : Option Addr) (n c : Nat) (s' : Bool) (A' : Option Addr) (n' c' : Nat) : World := (((w.setCell ⟨g, 0, none⟩ (.bool s)).setCell ⟨g, 1, none⟩ (.slice A n c)).setCell ⟨g, 2, none⟩ (.bool s')).setCell ⟨g, 3, none⟩ (.slice A' n' c')
theorem QC.store (h : QC w g s A n c s' A' n' c') (t : Bool) (D : Option Addr) (k m : Nat) (t' : Bool) (D' : Option Addr) (k' m' : Nat) : QC (putQ w g t D k m t' D' k' m') g t D k m t' D' k' m' := by
 unfold QC putQ at *
 simp [World.setCell, Array.getElem?_modify, h]
theorem keep_putQ (h : QC w g s A n c s' A' n' c') (t : Bool) (D : Option Addr) (k m : Nat) (t' : Bool) (D' : Option Addr) (k' m' : Nat) : KeepT w (putQ w g t D k m t' D' k' m') := fun i cs f e => by
 have hne : i ≠ g := by
  rintro rfl
  unfold QC at h
  rw [h] at e
  simp at e
 unfold putQ
 rw [Below.heap_setCell _ (⟨g, 3, none⟩ : Addr) _ i hne, Below.heap_setCell _ (⟨g, 2, none⟩ : Addr) _ i hne, Below.heap_setCell _ (⟨g, 1, none⟩ : Addr) _ i hne, Below.heap_setCell _ (⟨g, 0, none⟩ : Addr) _ i hne]
 exact e
theorem below_putQ (hb : Below B w w') (hg : B ≤ g) (t : Bool) (D : Option Addr) (k m : Nat) (t' : Bool) (D' : Option Addr) (k' m' : Nat) : Below B w (putQ w' g t D k m t' D' k' m') :=
 (((hb.setCell (p := ⟨g, 0, none⟩) hg _).setCell (p := ⟨g, 1, none⟩) hg _).setCell (p := ⟨g, 2, none⟩) hg _).setCell (p := ⟨g, 3, none⟩) hg _
theorem OwQ.next (h : OwQ w b s A n c s' A' n' c' x) (hb : Below w.heap.size w w') : OwQ w' b s A n c s' A' n' c' x := ⟨h.num.next hb, h.den.next hb⟩
theorem OwQ.base (h : OwQ w b s A n c s' A' n' c' x) (hb : b' ≤ b) : OwQ w b' s A n c s' A' n' c' x := ⟨h.num.base hb, h.den.base hb⟩
theorem OwQ.keep (h : OwQ w b s A n c s' A' n' c' x) (hk : KeepT w w') : OwQ w' b s A n c s' A' n' c' x := ⟨h.num.keep hk, h.den.keep hk⟩
theorem zs_two {N : Nat} {z z' : Int} (h : RdZ w w.heap.size s A n c z) (h' : RdZ w w.heap.size s' A' n' c' z') (hn : n ≤ N) (hn' : n' ≤ N) {w1 : World} (hw : w1 = w.alloc (.cells #[.bool s, .slice A n c, .bool s', .slice A' n' c'] 25)) :
  RdZs w1 w1.heap.size N (some ⟨w.heap.size, 0, none⟩) 2 2 [z, z'] := by
 have hb : Below w.heap.size w w1 := by rw [hw]; exact (Below.refl _ _).alloc (Nat.le_refl _) _
 have hr : w1.heap[w.heap.size]? = some (.cells #[.bool s, .slice A n c, .bool s', .slice A' n' c'] 25 (0, 0)) := by rw [hw]; exact heap_alloc_new w _
 have hlt : w.heap.size < w1.heap.size := (Array.getElem?_eq_some_iff.1 hr).1
 refine ⟨rfl, Nat.le_refl _, by unfold maxLen; omega, fun j y hy => ?_⟩
 match j, hy with
 | 0, hy =>
   simp at hy
   subst hy
   exact ⟨_, s, A, n, c, rfl, hlt, by rw [add_base, cell_of_row w1 _ _ _ _ _ hr]; rfl, by rw [add_base]; exact (cell_of_row w1 _ _ _ _ _ hr).trans rfl, h.next hb, hn⟩
 | 1, hy =>
   simp at hy
   subst hy
   exact ⟨_, s', A', n', c', rfl, hlt, by rw [add_base, cell_of_row w1 _ _ _ _ _ hr]; rfl, by rw [add_base]; exact (cell_of_row w1 _ _ _ _ _ hr).trans rfl, h'.next hb, hn'⟩
 | j + 2, hy => simp at hy
end
def RetQ (x : Rat) (w : World) (e : Ending) (w' : World) : Prop :=
 ∃ (s : Bool) (A : Option Addr) (n c : Nat) (s' : Bool) (A' : Option Addr) (n' c' : Nat) (y : Rat), e = .returned (.tuple #[.agg #[.bool s, .slice A n c, .bool s', .slice A' n' c'], .int .i64 0]) ∧ OwQ w' w.heap.size s A n c s' A' n' c' y ∧ Hid (y = x) ∧ Below w.heap.size w w'
def RetQ0 (k : Int) (w : World) (e : Ending) (w' : World) : Prop := e = .returned (.tuple #[.agg #[.bool false, .slice none 0 0, .bool false, .slice none 0 0], .int .i64 k]) ∧ Below w.heap.size w w'
end Go.Proofs.YtjnklbfhelbjgaaGreat

/- rat.Make. -/
namespace Go.Proofs.YtjnklbfhelbjgaaGreat
open Go.RowKit Go.IntWalk
attribute [local go_sem ↓] Go.wp_at_zero Go.wp_at_succ
theorem q_boxes (w : World) (s : Bool) (A : Option Addr) (n c : Nat) (s' : Bool) (A' : Option Addr) (n' c' : Nat) :
  ∀ W1 : World, W1 = ((w.alloc (.cells #[.bool s, .slice A n c] 25)).alloc (.cells #[.bool s', .slice A' n' c'] 25)).alloc (.cells #[.bool false, .slice none 0 0, .bool false, .slice none 0 0] 47) →
   ZC W1 w.heap.size s A n c ∧ ZC W1 (w.heap.size + 1) s' A' n' c' ∧ QC W1 (w.heap.size + 1 + 1) false none 0 0 false none 0 0 ∧ Below w.heap.size w W1 := by
 rintro W1 rfl
 refine ⟨((ZC.new w s A n c).alloc _).alloc _, by simpa using (ZC.new (w.alloc (.cells #[.bool s, .slice A n c] 25)) s' A' n' c').alloc (.cells #[.bool false, .slice none 0 0, .bool false, .slice none 0 0] 47), by simpa using QC.new ((w.alloc (.cells #[.bool s, .slice A n c] 25)).alloc (.cells #[.bool s', .slice A' n' c'] 25)) false none 0 0 false none 0 0, ?_⟩
 exact (((Below.refl w.heap.size w).alloc (Nat.le_refl _) _).alloc (by simp) _).alloc (by simp; omega) _
set_option maxRecDepth 100000 in
set_option maxHeartbeats 2000000 in
theorem qmake_zero {s s' : Bool} {A A' : Option Addr} {n c n' c' : Nat} {w : World} (h' : RdZ w w.heap.size s' A' n' c' 0) (hn' : n' ≤ 1000000000000) :
  Calls Tryz.prog 83 #[.agg #[.bool s, .slice A n c], .agg #[.bool s', .slice A' n' c']] w (RetQ0 6 w) := by
 obtain ⟨W1, HW1⟩ : ∃ W, W = ((w.alloc (.cells #[.bool s, .slice A n c] 25)).alloc (.cells #[.bool s', .slice A' n' c'] 25)).alloc (.cells #[.bool false, .slice none 0 0, .bool false, .slice none 0 0] 47) := ⟨_, rfl⟩
 obtain ⟨hX, hY, hR, hB⟩ := q_boxes w s A n c s' A' n' c' W1 HW1
 have a0 := hY.c0
 have a1 := hY.c1
 rw [HW1] at a0 a1
 have h1 := h'.next hB
 have HW1 := Lib.hid HW1
 go_enter Tryz.func83, Tryz.ntmps83
 go_wp2_with fail
 rw [← HW1.out]
 clear HW1 a0 a1
 clear HW1
 refine (sign_any h1 (by omega)).mono ?_
 rintro _ W2 ⟨k, rfl, hk, hb2⟩
 obtain rfl : k = 0 := hk.out
 have hR2 := hR.next hb2
 have hB2 := hB.trans (hb2.mono hB.size)
 have r0 := hR2.c0
 have r1 := hR2.c1
 have r2 := hR2.c2
 have r3 := hR2.c3
 have f0 := hR2.fz 0
 have f1 := hR2.fz 1
 have f2 := hR2.fz 2
 have f3 := hR2.fz 3
 have HR9 := Lib.hid (hR2.store false none 0 0 false none 0 0)
 have HB9 := Lib.hid (below_putQ hB2 (show w.heap.size ≤ w.heap.size + 1 + 1 by omega) false none 0 0 false none 0 0)
 unfold putQ at HR9 HB9
 clear hX hY hR hR2 hB hB2 hb2 h1 h'
 go_wp2_with fail
 generalize (((W2.setCell ⟨w.heap.size + 1 + 1, 0, none⟩ (.bool false)).setCell ⟨w.heap.size + 1 + 1, 1, none⟩ (.slice none 0 0)).setCell ⟨w.heap.size + 1 + 1, 2, none⟩ (.bool false)).setCell ⟨w.heap.size + 1 + 1, 3, none⟩ (.slice none 0 0) = W9 at *
 have z0 := HR9.out.c0
 have z1 := HR9.out.c1
 have z2 := HR9.out.c2
 have z3 := HR9.out.c3
 exact bodyPost_ret (by simp [results, Tryz.results83, go_sem, z0, z1, z2, z3]) rfl ⟨rfl, HB9.out⟩
set_option maxRecDepth 100000 in
set_option maxHeartbeats 4000000 in
theorem qmake_any {s s' : Bool} {A A' : Option Addr} {n c n' c' : Nat} {z d : Int} {w : World} (h : RdZ w w.heap.size s A n c z) (h' : RdZ w w.heap.size s' A' n' c' d) (hn : n ≤ 1000000000000) (hn' : n' ≤ 1000000000000) (hd : d ≠ 0) :
  Calls Tryz.prog 83 #[.agg #[.bool s, .slice A n c], .agg #[.bool s', .slice A' n' c']] w (RetQ (Rat.divInt z d) w) := by
 obtain ⟨W1, HW1⟩ : ∃ W, W = ((w.alloc (.cells #[.bool s, .slice A n c] 25)).alloc (.cells #[.bool s', .slice A' n' c'] 25)).alloc (.cells #[.bool false, .slice none 0 0, .bool false, .slice none 0 0] 47) := ⟨_, rfl⟩
 obtain ⟨hX, hY, hR, hB⟩ := q_boxes w s A n c s' A' n' c' W1 HW1
 have a0 := hY.c0
 have a1 := hY.c1
 rw [HW1] at a0 a1
 have HRD := Lib.hid (show ∀ W : World, Below W1.heap.size W1 W → RdZ W W.heap.size s A n c z ∧ RdZ W W.heap.size s' A' n' c' d from fun W hb => ⟨(h.next hB).next hb, (h'.next hB).next hb⟩)
 have HCE := Lib.hid (show ∀ W : World, Below W1.heap.size W1 W → ZC W w.heap.size s A n c ∧ ZC W (w.heap.size + 1) s' A' n' c' ∧ QC W (w.heap.size + 1 + 1) false none 0 0 false none 0 0 from fun W hb => ⟨hX.next hb, hY.next hb, hR.next hb⟩)
 have HB := Lib.hid hB
 have HS := Lib.hid (show w.heap.size + 1 + 1 < W1.heap.size from hR.lt)
 have HLZ := Lib.hid (And.intro h.len h'.len)
 have HD0 := Lib.hid hd
 have HW1 := Lib.hid HW1
 clear hX hY hR hB h h' hd
 go_enter Tryz.func83, Tryz.ntmps83
 go_wp2_with fail
 rw [← HW1.out]
 clear HW1 a0 a1
 clear HW1
 refine (sign_any (HRD.out _ (Below.refl _ _)).2 (by omega)).mono ?_
 rintro _ W2 ⟨k, rfl, hk, hb2⟩
 have hkb : (k == 0) = false := by
  have e := hk.out
  have e2 := mt Int.sign_eq_zero_iff_zero.1 HD0.out
  rw [← e] at e2
  simpa using e2
 have HB2 := Lib.hid hb2
 obtain ⟨W3, HW3⟩ : ∃ W, W = W2.alloc (.cells #[.bool s, .slice A n c, .bool s', .slice A' n' c'] 25) := ⟨_, rfl⟩
 have hr3 := zs_two (N := 1000000000000) (HRD.out _ hb2).1 (HRD.out _ hb2).2 hn hn' HW3
 have hb3 : Below W2.heap.size W2 W3 := by rw [HW3]; exact (Below.refl _ _).alloc (Nat.le_refl _) _
 have HB3 := Lib.hid (hb2.trans (hb3.mono hb2.size))
 have x0 := (HCE.out _ hb2).1.c0
 have x1 := (HCE.out _ hb2).1.c1
 have y0 := (HCE.out _ hb2).2.1.c0
 have y1 := (HCE.out _ hb2).2.1.c1
 have HW3 := Lib.hid HW3
 clear hb2 hb3
 go_wp2_with fail
 rw [← HW3.out]
 clear HW3 x0 x1 y0 y1
 clear HW3
 refine (gcdl_any hr3 (by decide)).mono ?_
 rintro _ W4 ⟨s4, A4, n4, c4, g4, rfl, ho4, hg4, hb4⟩
 have HB4 := Lib.hid (HB3.out.trans (hb4.mono HB3.out.size))
 obtain ⟨W5, HW5⟩ : ∃ W, W = W4.alloc (.cells #[.bool s4, .slice A4 n4 c4] 25) := ⟨_, rfl⟩
 have hb5 : Below W4.heap.size W4 W5 := by rw [HW5]; exact (Below.refl _ _).alloc (Nat.le_refl _) _
 have HX5 := Lib.hid (show ZC W5 W4.heap.size s4 A4 n4 c4 by rw [HW5]; exact ZC.new W4 s4 A4 n4 c4)
 have HB5 := Lib.hid (HB4.out.trans (hb5.mono HB4.out.size))
 have HO5 := Lib.hid ((ho4.base (b' := W1.heap.size) HB3.out.size).next hb5)
 have HGC := Lib.hid (show W1.heap.size ≤ W4.heap.size from HB4.out.size)
 have HG4 := Lib.hid (show g4 = (Int.gcd z d : Int) by rw [hg4.out]; exact Qz.gcd_list z d)
 have HN4 := Lib.hid (show n4 ≤ 1000000000000 by
  rw [ho4.len, HG4.out]
  have e1 := Zz.zl_gcd z d
  have e2 := HLZ.out
  omega)
 have y0 := (HCE.out _ HB5.out).2.1.c0
 have y1 := (HCE.out _ HB5.out).2.1.c1
 rw [HW5] at y0 y1
 have HW5 := Lib.hid HW5
 clear hr3 ho4 hg4 hb4 hb5
 go_wp2_with fail
 rw [← HW5.out]
 clear HW5 y0 y1
 clear HW5
 generalize W4.heap.size = gc at *
 refine (sign_any (HRD.out _ HB5.out).2 (by omega)).mono ?_
 rintro _ W6 ⟨k6, rfl, hk6, hb6⟩
 have HB6 := Lib.hid (HB5.out.trans (hb6.mono HB5.out.size))
 have HX6 := Lib.hid (HX5.out.next hb6)
 have HO6 := Lib.hid (HO5.out.next hb6)
 clear hb6 HX5 HO5
 go_upto_if 21 with fail
 go_cut [] from 21 (fun wr => ∃ (s' : Bool) (A' : Option Addr) (n' c' : Nat) (y : Int), ZC wr gc s' A' n' c' ∧ OwZ wr W1.heap.size s' A' n' c' y ∧ Hid (y = Qz.gs z d) ∧ Below W1.heap.size W1 wr)
 case first =>
  by_cases hneg : k6 < 0
  ·have HP := Lib.hid (show -g4 = Qz.gs z d by
    have h5 := hk6.out
    rw [h5] at hneg
    unfold Qz.gs
    rw [if_pos (Int.sign_neg_iff.1 hneg), HG4.out])
   have a0 := HX6.out.c0
   have a1 := HX6.out.c1
   go_wp2_with fail
   refine (neg_any HO6.out.rd (by have := HN4.out; omega)).mono ?_
   rintro _ W7 ⟨s7, A7, n7, c7, z7, rfl, ho7, hz7, hb7⟩
   have hX7 := HX6.out.next hb7
   have g0 := hX7.fz 0
   have g1 := hX7.fz 1
   have b0 := hX7.c0
   have b1 := hX7.c1
   have hZ8 := hX7.store s7 A7 n7 c7
   have ho8 := (ho7.base (b' := W1.heap.size) HB6.out.size).keep (keep_set2 hX7 (.bool s7) (.slice A7 n7 c7))
   have hB8 := ((HB6.out.trans (hb7.mono HB6.out.size)).setCell (p := ⟨gc, 0, none⟩) HGC.out (.bool s7)).setCell (p := ⟨gc, 1, none⟩) HGC.out (.slice A7 n7 c7)
   have HV8 := Lib.hid (show z7 = Qz.gs z d by rw [hz7.out, HP.out])
   have HALL := Lib.hid (And.intro hZ8 (And.intro ho8 hB8))
   clear a0 a1 hX7 hZ8 ho8 hB8 ho7 hb7
   go_wp2
   go_meet
   exact ⟨_, _, _, _, _, HALL.out.1, HALL.out.2.1, HV8, HALL.out.2.2⟩
  ·have HP := Lib.hid (show g4 = Qz.gs z d by
    have h5 := hk6.out
    rw [h5] at hneg
    unfold Qz.gs
    rw [if_neg (mt Int.sign_neg_iff.2 hneg), HG4.out])
   have hneg' : 0 ≤ k6 := by omega
   clear hneg
   go_wp2
   go_meet
   exact ⟨_, _, _, _, _, HX6.out, HO6.out, HP, HB6.out⟩
 case rest =>
  clear HX6 HO6
  obtain ⟨s7, A7, n7, c7, y, hZ7, ho7, hy, hB7⟩ := hcut
  have HX7 := Lib.hid (And.intro hZ7 ho7)
  have HB7 := Lib.hid hB7
  have HYN := Lib.hid (show n7 ≤ 1000000000000 by
   rw [ho7.len, hy.out]
   have e1 : Zz.zl (Qz.gs z d) = Zz.zl g4 := by
    unfold Qz.gs
    split
    ·rw [Zz.zl_neg, HG4.out]
    ·rw [HG4.out]
   rw [e1, HG4.out]
   have e2 := Zz.zl_gcd z d
   have e3 := HLZ.out
   omega)
  have HY0 := Lib.hid (show y ≠ 0 by rw [hy.out]; exact Qz.gs_ne HD0.out)
  have a0 := hZ7.c0
  have a1 := hZ7.c1
  have x0 := (HCE.out _ hB7).1.c0
  have x1 := (HCE.out _ hB7).1.c1
  clear hZ7 ho7 hB7
  go_wp2_with fail
  clear a0 a1 x0 x1
  refine (exact_any (HRD.out _ HB7.out).1 HX7.out.2.rd hn HYN.out HY0.out).mono ?_
  rintro _ W8 ⟨s8, A8, n8, c8, q8, e8, rfl, ho8, hq8, hb8⟩
  have HQ8 := Lib.hid (show q8 = (Rat.divInt z d).num by
   rw [← Qz.make_num HD0.out, ← hy.out]
   rcases hq8.out with ⟨_, f2, _⟩ | ⟨f1, _, _⟩
   ·exact f2
   ·exact absurd (Int.tmod_eq_zero_of_dvd (by rw [hy.out]; exact Qz.gs_left z d)) f1)
  obtain ⟨W9, HW9⟩ : ∃ W, W = W8.alloc (.cells #[.bool s8, .slice A8 n8 c8] 25) := ⟨_, rfl⟩
  have hb9 : Below W8.heap.size W8 W9 := by rw [HW9]; exact (Below.refl _ _).alloc (Nat.le_refl _) _
  have hb79 := hb8.trans (hb9.mono hb8.size)
  have HB9 := Lib.hid (HB7.out.trans (hb79.mono HB7.out.size))
  have HX9 := Lib.hid (show ZC W9 W8.heap.size s8 A8 n8 c8 by rw [HW9]; exact ZC.new W8 s8 A8 n8 c8)
  have HO9 := Lib.hid ((ho8.base (b' := W1.heap.size) HB7.out.size).next hb9)
  have HY9 := Lib.hid (And.intro (HX7.out.1.next hb79) (HX7.out.2.next hb79))
  have a0 := HY9.out.1.c0
  have a1 := HY9.out.1.c1
  have y0 := (HCE.out _ HB9.out).2.1.c0
  have y1 := (HCE.out _ HB9.out).2.1.c1
  rw [HW9] at a0 a1 y0 y1
  have HW9 := Lib.hid HW9
  clear ho8 hq8 hb8 hb9 hb79
  go_wp2_with fail
  rw [← HW9.out]
  clear HW9 a0 a1 y0 y1
  clear HW9
  generalize W8.heap.size = gn at *
  refine (exact_any (HRD.out _ HB9.out).2 HY9.out.2.rd hn' HYN.out HY0.out).mono ?_
  rintro _ V1 ⟨t1, D1, m1, l1, q1, e1, rfl, ho1, hq1, hv1⟩
  have HQ1 := Lib.hid (show q1 = ((Rat.divInt z d).den : Int) by
   rw [← Qz.make_den HD0.out, ← hy.out]
   rcases hq1.out with ⟨_, f2, _⟩ | ⟨f1, _, _⟩
   ·exact f2
   ·exact absurd (Int.tmod_eq_zero_of_dvd (by rw [hy.out]; exact Qz.gs_right z d)) f1)
  obtain ⟨V2, HV2⟩ : ∃ W, W = V1.alloc (.cells #[.bool t1, .slice D1 m1 l1] 25) := ⟨_, rfl⟩
  have hv2 : Below V1.heap.size V1 V2 := by rw [HV2]; exact (Below.refl _ _).alloc (Nat.le_refl _) _
  have hv12 := hv1.trans (hv2.mono hv1.size)
  have HU2 := Lib.hid (HB9.out.trans (hv12.mono HB9.out.size))
  have hN := HX9.out.next hv12
  have hR := (HCE.out _ HU2.out).2.2
  have HF := Lib.hid (show OwQ V2 w.heap.size s8 A8 n8 c8 t1 D1 m1 l1 (Rat.divInt z d) from ⟨by rw [← HQ8.out]; exact (HO9.out.next hv12).base HB.out.size, by rw [← HQ1.out]; exact (ho1.next hv2).base (Nat.le_trans HB.out.size HB9.out.size)⟩)
  have HF9 := Lib.hid (HF.out.keep (keep_putQ hR s8 A8 n8 c8 t1 D1 m1 l1))
  have HR9 := Lib.hid (hR.store s8 A8 n8 c8 t1 D1 m1 l1)
  have HBF := Lib.hid (below_putQ (HB.out.trans (HU2.out.mono HB.out.size)) (show w.heap.size ≤ w.heap.size + 1 + 1 by omega) s8 A8 n8 c8 t1 D1 m1 l1)
  have a0 := hN.c0
  have a1 := hN.c1
  have r0 := hR.c0
  have r1 := hR.c1
  have r2 := hR.c2
  have r3 := hR.c3
  have f0 := hR.fz 0
  have f1 := hR.fz 1
  have f2 := hR.fz 2
  have f3 := hR.fz 3
  rw [HV2] at a0 a1 r0 r1 r2 r3 f0 f1 f2 f3
  unfold putQ at HF9 HR9 HBF
  have HV2 := Lib.hid HV2
  clear ho1 hq1 hv1 hv2 hv12 hN hR
  go_wp2_with fail
  rw [← HV2.out]
  clear HV2 a0 a1 r0 r1 r2 r3 f0 f1 f2 f3
  clear HV2
  generalize (((V2.setCell ⟨w.heap.size + 1 + 1, 0, none⟩ (.bool s8)).setCell ⟨w.heap.size + 1 + 1, 1, none⟩ (.slice A8 n8 c8)).setCell ⟨w.heap.size + 1 + 1, 2, none⟩ (.bool t1)).setCell ⟨w.heap.size + 1 + 1, 3, none⟩ (.slice D1 m1 l1) = V9 at *
  have z0 := HR9.out.c0
  have z1 := HR9.out.c1
  have z2 := HR9.out.c2
  have z3 := HR9.out.c3
  exact bodyPost_ret (by simp [results, Tryz.results83, go_sem, z0, z1, z2, z3]) rfl ⟨_, _, _, _, _, _, _, _, _, rfl, HF9.out, Lib.hid rfl, HBF.out⟩
end Go.Proofs.YtjnklbfhelbjgaaGreat

/- rat.Norm, rat.Of. -/
namespace Go.Proofs.YtjnklbfhelbjgaaGreat
open Go.RowKit Go.IntWalk
attribute [local go_sem ↓] Go.wp_at_zero Go.wp_at_succ
theorem q_box1 (w : World) (s : Bool) (A : Option Addr) (n c : Nat) (s' : Bool) (A' : Option Addr) (n' c' : Nat) :
  ∀ W1 : World, W1 = (w.alloc (.cells #[.bool s, .slice A n c, .bool s', .slice A' n' c'] 47)).alloc (.cells #[.bool false, .slice none 0 0, .bool false, .slice none 0 0] 47) →
   QC W1 w.heap.size s A n c s' A' n' c' ∧ QC W1 (w.heap.size + 1) false none 0 0 false none 0 0 ∧ Below w.heap.size w W1 := by
 rintro W1 rfl
 exact ⟨(QC.new w s A n c s' A' n' c').next ((Below.refl _ _).alloc (Nat.le_refl _) _), by simpa using QC.new (w.alloc (.cells #[.bool s, .slice A n c, .bool s', .slice A' n' c'] 47)) false none 0 0 false none 0 0, ((Below.refl w.heap.size w).alloc (Nat.le_refl _) _).alloc (by simp) _⟩
set_option maxRecDepth 100000 in
set_option maxHeartbeats 2000000 in
theorem qnorm_zero {s s' : Bool} {A A' : Option Addr} {n c n' c' : Nat} {w : World} (h' : RdZ w w.heap.size s' A' n' c' 0) (hn' : n' ≤ 1000000000000) :
  Calls Tryz.prog 64 #[.agg #[.bool s, .slice A n c, .bool s', .slice A' n' c']] w (RetQ0 6 w) := by
 obtain ⟨W1, HW1⟩ : ∃ W, W = (w.alloc (.cells #[.bool s, .slice A n c, .bool s', .slice A' n' c'] 47)).alloc (.cells #[.bool false, .slice none 0 0, .bool false, .slice none 0 0] 47) := ⟨_, rfl⟩
 obtain ⟨hX, hR, hB⟩ := q_box1 w s A n c s' A' n' c' W1 HW1
 have a0 := hX.c0
 have a1 := hX.c1
 have a2 := hX.c2
 have a3 := hX.c3
 rw [HW1] at a0 a1 a2 a3
 have h1 := h'.next hB
 have HW1 := Lib.hid HW1
 go_enter Tryz.func64, Tryz.ntmps64
 go_wp2_with fail
 rw [← HW1.out]
 clear HW1 a0 a1 a2 a3
 clear HW1
 refine (qmake_zero h1 hn').mono ?_
 rintro _ W2 ⟨rfl, hb2⟩
 have hR2 := hR.next hb2
 have hB2 := hB.trans (hb2.mono hB.size)
 have r0 := hR2.c0
 have r1 := hR2.c1
 have r2 := hR2.c2
 have r3 := hR2.c3
 have f0 := hR2.fz 0
 have f1 := hR2.fz 1
 have f2 := hR2.fz 2
 have f3 := hR2.fz 3
 have HR9 := Lib.hid (hR2.store false none 0 0 false none 0 0)
 have HB9 := Lib.hid (below_putQ hB2 (show w.heap.size ≤ w.heap.size + 1 by omega) false none 0 0 false none 0 0)
 unfold putQ at HR9 HB9
 clear hX hR hR2 hB hB2 hb2 h1 h'
 go_wp2_with fail
 generalize (((W2.setCell ⟨w.heap.size + 1, 0, none⟩ (.bool false)).setCell ⟨w.heap.size + 1, 1, none⟩ (.slice none 0 0)).setCell ⟨w.heap.size + 1, 2, none⟩ (.bool false)).setCell ⟨w.heap.size + 1, 3, none⟩ (.slice none 0 0) = W9 at *
 have z0 := HR9.out.c0
 have z1 := HR9.out.c1
 have z2 := HR9.out.c2
 have z3 := HR9.out.c3
 exact bodyPost_ret (by simp [results, Tryz.results64, go_sem, z0, z1, z2, z3]) rfl ⟨rfl, HB9.out⟩
set_option maxRecDepth 100000 in
set_option maxHeartbeats 2000000 in
theorem qnorm_any {s s' : Bool} {A A' : Option Addr} {n c n' c' : Nat} {z d : Int} {w : World} (h : RdZ w w.heap.size s A n c z) (h' : RdZ w w.heap.size s' A' n' c' d) (hn : n ≤ 1000000000000) (hn' : n' ≤ 1000000000000) (hd : d ≠ 0) :
  Calls Tryz.prog 64 #[.agg #[.bool s, .slice A n c, .bool s', .slice A' n' c']] w (RetQ (Rat.divInt z d) w) := by
 obtain ⟨W1, HW1⟩ : ∃ W, W = (w.alloc (.cells #[.bool s, .slice A n c, .bool s', .slice A' n' c'] 47)).alloc (.cells #[.bool false, .slice none 0 0, .bool false, .slice none 0 0] 47) := ⟨_, rfl⟩
 obtain ⟨hX, hR, hB⟩ := q_box1 w s A n c s' A' n' c' W1 HW1
 have a0 := hX.c0
 have a1 := hX.c1
 have a2 := hX.c2
 have a3 := hX.c3
 rw [HW1] at a0 a1 a2 a3
 have h1 := h.next hB
 have h2 := h'.next hB
 have HW1 := Lib.hid HW1
 go_enter Tryz.func64, Tryz.ntmps64
 go_wp2_with fail
 rw [← HW1.out]
 clear HW1 a0 a1 a2 a3
 clear HW1
 refine (qmake_any h1 h2 hn hn' hd).mono ?_
 rintro _ W2 ⟨s2, A2, n2, c2, s3, A3, n3, c3, y, rfl, ho, hy, hb2⟩
 have hR2 := hR.next hb2
 have hB2 := hB.trans (hb2.mono hB.size)
 have r0 := hR2.c0
 have r1 := hR2.c1
 have r2 := hR2.c2
 have r3 := hR2.c3
 have f0 := hR2.fz 0
 have f1 := hR2.fz 1
 have f2 := hR2.fz 2
 have f3 := hR2.fz 3
 have HR9 := Lib.hid (hR2.store s2 A2 n2 c2 s3 A3 n3 c3)
 have HO9 := Lib.hid ((ho.base (b' := w.heap.size) hB.size).keep (keep_putQ hR2 s2 A2 n2 c2 s3 A3 n3 c3))
 have HB9 := Lib.hid (below_putQ hB2 (show w.heap.size ≤ w.heap.size + 1 by omega) s2 A2 n2 c2 s3 A3 n3 c3)
 unfold putQ at HR9 HB9 HO9
 clear hX hR hR2 hB hB2 hb2 h1 h2 h h' ho
 go_wp2_with fail
 generalize (((W2.setCell ⟨w.heap.size + 1, 0, none⟩ (.bool s2)).setCell ⟨w.heap.size + 1, 1, none⟩ (.slice A2 n2 c2)).setCell ⟨w.heap.size + 1, 2, none⟩ (.bool s3)).setCell ⟨w.heap.size + 1, 3, none⟩ (.slice A3 n3 c3) = W9 at *
 have z0 := HR9.out.c0
 have z1 := HR9.out.c1
 have z2 := HR9.out.c2
 have z3 := HR9.out.c3
 exact bodyPost_ret (by simp [results, Tryz.results64, go_sem, z0, z1, z2, z3]) rfl ⟨_, _, _, _, _, _, _, _, _, rfl, HO9.out, hy, HB9.out⟩
set_option maxRecDepth 100000 in
set_option maxHeartbeats 2000000 in
theorem qof_any (z : Int) (h1 : -9223372036854775808 ≤ z) (h2 : z < 9223372036854775808) (w : World) :
  Calls Tryz.prog 38 #[.int .i64 z] w fun e w' => ∃ (s : Bool) (A : Option Addr) (n c : Nat) (s' : Bool) (A' : Option Addr) (n' c' : Nat) (y : Rat), e = .returned (.agg #[.bool s, .slice A n c, .bool s', .slice A' n' c']) ∧ OwQ w' w.heap.size s A n c s' A' n' c' y ∧ Hid (y = (z : Rat)) ∧ Below w.heap.size w w' := by
 obtain ⟨W1, HW1⟩ : ∃ W, W = w.alloc (.cells #[.bool false, .slice none 0 0, .bool false, .slice none 0 0] 47) := ⟨_, rfl⟩
 have hR : QC W1 w.heap.size false none 0 0 false none 0 0 := by rw [HW1]; exact QC.new w false none 0 0 false none 0 0
 have hB : Below w.heap.size w W1 := by rw [HW1]; exact (Below.refl _ _).alloc (Nat.le_refl _) _
 have HW1 := Lib.hid HW1
 go_enter Tryz.func38, Tryz.ntmps38
 go_wp2_with fail
 rw [← HW1.out]
 clear HW1
 clear HW1
 refine (of_any z h1 h2 W1).mono ?_
 rintro _ W2 ⟨s2, A2, n2, c2, y2, rfl, ho2, hy2, hb2⟩
 go_wp2_with fail
 refine (of_any 1 (by decide) (by decide) W2).mono ?_
 rintro _ W3 ⟨s3, A3, n3, c3, y3, rfl, ho3, hy3, hb3⟩
 have hb13 := hb2.trans (hb3.mono hb2.size)
 have hR3 := hR.next hb13
 have hB3 := hB.trans (hb13.mono hB.size)
 have HO := Lib.hid (show OwQ W3 w.heap.size s2 A2 n2 c2 s3 A3 n3 c3 (z : Rat) from ⟨by have := (ho2.next hb3).base hB.size; rw [hy2.out] at this; exact this, by have := ho3.base (b' := w.heap.size) (Nat.le_trans hB.size hb2.size); rw [hy3.out] at this; exact this⟩)
 have r0 := hR3.c0
 have r1 := hR3.c1
 have r2 := hR3.c2
 have r3 := hR3.c3
 have f0 := hR3.fz 0
 have f1 := hR3.fz 1
 have f2 := hR3.fz 2
 have f3 := hR3.fz 3
 have HR9 := Lib.hid (hR3.store s2 A2 n2 c2 s3 A3 n3 c3)
 have HO9 := Lib.hid (HO.out.keep (keep_putQ hR3 s2 A2 n2 c2 s3 A3 n3 c3))
 have HB9 := Lib.hid (below_putQ hB3 (Nat.le_refl w.heap.size) s2 A2 n2 c2 s3 A3 n3 c3)
 unfold putQ at HR9 HB9 HO9
 clear hR hR3 hB hB3 hb2 hb3 hb13 ho2 ho3 hy2 hy3
 go_wp2_with fail
 generalize (((W3.setCell ⟨w.heap.size, 0, none⟩ (.bool s2)).setCell ⟨w.heap.size, 1, none⟩ (.slice A2 n2 c2)).setCell ⟨w.heap.size, 2, none⟩ (.bool s3)).setCell ⟨w.heap.size, 3, none⟩ (.slice A3 n3 c3) = W9 at *
 have z0 := HR9.out.c0
 have z1 := HR9.out.c1
 have z2 := HR9.out.c2
 have z3 := HR9.out.c3
 exact bodyPost_ret (by simp [results, Tryz.results38, go_sem, z0, z1, z2, z3]) rfl ⟨_, _, _, _, _, _, _, _, _, rfl, HO9.out, Lib.hid rfl, HB9.out⟩
end Go.Proofs.YtjnklbfhelbjgaaGreat
