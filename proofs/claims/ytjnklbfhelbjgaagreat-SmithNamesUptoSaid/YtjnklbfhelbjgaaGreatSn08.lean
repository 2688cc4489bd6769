/- zpoly: a list made of another one. -/
import Derived.Test.YtjnklbfhelbjgaaGreatSn07
import Derived.Test.YtjnklbfhelbjgaaGreatSn06
import Derived.Deep.QuietTactic
import Derived.Deep.AppendLies
import Derived.Deep.AppendSrc
import Derived.Deep.Upon
import Derived.Deep.RegionLaw
import Derived.Deep.CutBlock
import Derived.Deep.CutRange
namespace Go.Proofs.YtjnklbfhelbjgaaGreat
open Go.RowKit Go.IntWalk
attribute [local go_sem ↓] Go.wp_at_zero Go.wp_at_succ
theorem own_block {w : World} {base : Nat} {e : TypeId} {size : Nat} {v : Value} {n : Nat} {xs : List Value} (h : w.ownsRow base e size v n xs) : ∀ k, v.ownBlock = some k → base ≤ k := by
 intro k hk
 rcases h.2 with ⟨rfl, _⟩ | ⟨g, cap, cur, rfl, hb, _⟩
 ·cases hk
 ·cases hk; exact hb
theorem zs_at {w : World} {B N : Nat} {A : Option Addr} {n c : Nat} {L : List Int} (h : RdZs w B N A n c L) {j : Nat} (hj : j < n) :
  ∃ (ad : Addr) (s : Bool) (A' : Option Addr) (n' c' : Nat) (z : Int), A = some ad ∧ ad.block < B ∧ w.cell? (ad.add (j * 2)) = some (.bool s) ∧ w.cell? ⟨(ad.add (j * 2)).block, (ad.add (j * 2)).off + 1, none⟩ = some (.slice A' n' c') ∧ RdZ w B s A' n' c' z ∧ n' ≤ N ∧ Hid (L[j]? = some z) := by
 obtain ⟨z, hz⟩ := zs_get (L := L) (j := j) (by rw [h.len]; exact hj)
 obtain ⟨ad, s, A', n', c', h1, h2, h3, h4, h5, h6⟩ := h.at_ j z hz
 exact ⟨ad, s, A', n', c', z, h1, h2, h3, h4, h5, h6, Lib.hid hz⟩
theorem zs_cells {w w' : World} {B : Nat} {ad : Addr} {j : Nat} {s : Bool} {A' : Option Addr} {n' c' : Nat} (hb : Below B w w') (h2 : ad.block < B) (h3 : w.cell? (ad.add (j * 2)) = some (.bool s)) (h4 : w.cell? ⟨(ad.add (j * 2)).block, (ad.add (j * 2)).off + 1, none⟩ = some (.slice A' n' c')) :
  w'.cell? (ad.add (j * 2)) = some (.bool s) ∧ w'.cell? ⟨(ad.add (j * 2)).block, (ad.add (j * 2)).off + 1, none⟩ = some (.slice A' n' c') :=
 ⟨(hb.cell (p := ad.add (j * 2)) (by rw [add_blk]; exact h2)).trans h3, (hb.cell (p := ⟨(ad.add (j * 2)).block, (ad.add (j * 2)).off + 1, none⟩) (by show (ad.add (j * 2)).block < B; rw [add_blk]; exact h2)).trans h4⟩
theorem zcell_new (w : World) (x y : Value) (t : TypeId) : ∀ j u, [x, y][j]? = some u → (w.alloc (.cells #[x, y] t)).cell? ((⟨w.heap.size, 0, none⟩ : Addr).add j) = some u := by
 intro j u hj
 match j, hj with
 | 0, hj => simp at hj; subst hj; simp [Addr.add]
 | 1, hj => simp at hj; subst hj; simp [Addr.add]
 | (j + 2), hj => simp at hj
theorem map_snoc {f : Int → Int} {L : List Int} {j : Nat} {z : Int} (h : L[j]? = some z) : (L.take j).map f ++ [f z] = (L.take (j + 1)).map f := by
 rw [List.take_add_one, h]
 simp
set_option maxRecDepth 100000 in
set_option maxHeartbeats 4000000 in
theorem mapped_any {f N : Nat} (φ : Int → Int) {A : Option Addr} {n c : Nat} {L : List Int} {w : World} (h : RdZs w w.heap.size N A n c L) (hn : n ≤ 4398046511103) (heg : ∀ args w, (callFunc f args).run Tryz.prog w = .ok (.enter f args) w)
  (hdo : ∀ (W : World) (s : Bool) (A : Option Addr) (m c : Nat) (z : Int), Below w.heap.size w W → RdZ W W.heap.size s A m c z → m ≤ N → Calls Tryz.prog f #[.agg #[.bool s, .slice A m c]] W (RetI (φ z) W)) :
  Calls Tryz.prog 250 #[.slice A n c, .func (.func f) #[] #[]] w (RetL (L.map φ) w) := by
 have HD := Lib.hid hdo
 have HLEN := Lib.hid h.len
 obtain ⟨i0, hi, hz0, hz1, hz2⟩ := info_parts infoZ
 clear hdo
 go_enter Tryz.func250, Tryz.ntmps250
 go_wp2_with fail
 go_loopw [5, 10] (fun ov iv wr => ∃ (j c' : Nat) (A' : Option Addr) (M : List Int), ov = .slice A' j c' ∧ iv = .int .i64 j ∧ j ≤ n ∧ OwZs wr w.heap.size A' j c' M ∧ Hid (M = (L.take j).map φ) ∧ Below w.heap.size w wr) (fun _ iv _ => n - (intOf iv).toNat)
 case atStart => exact ⟨0, 0, none, [], rfl, rfl, Nat.zero_le _, OwZs.nil _ _, Lib.hid rfl, Below.refl _ _⟩
 case round =>
  obtain ⟨j, c', A', M, rfl, rfl, hj, ho, hM, hB⟩ := hrel
  by_cases hjn : j = n
  ·subst hjn
   go_wp2
   go_ret
   exact ⟨_, _, _, _, rfl, ho, Lib.hid (by rw [hM.out, List.take_of_length_le (by rw [HLEN.out]; exact Nat.le_refl _)]), hB⟩
  ·have hjl : j < n := by omega
   clear hjn
   have hjli : (j : Int) < (n : Int) := by omega
   obtain ⟨ad, s, A1, n1, c1, z, rfl, hbk, hx0, hx1, hr, hn1, hz⟩ := zs_at h hjl
   obtain ⟨hy0, hy1⟩ := zs_cells hB hbk hx0 hx1
   obtain ⟨W2, HW2⟩ : ∃ W, W = wr.alloc (.cells #[.bool s, .slice A1 n1 c1] 25) := ⟨_, rfl⟩
   have hb2 : Below wr.heap.size wr W2 := by rw [HW2]; exact (Below.refl wr.heap.size wr).alloc (Nat.le_refl _) _
   have HW2 := Lib.hid HW2
   have HO := Lib.hid (ho.next hb2)
   have hB2 := hB.trans (hb2.mono hB.size)
   have HDO := Lib.hid (HD.out W2 s A1 n1 c1 z hB2 (hr.next hB2) hn1)
   go_wp2_with fail
   rw [← HW2.out]
   clear HW2 hy0 hy1 ho
   clear HW2
   refine HDO.out.mono ?_
   rintro _ W3 ⟨s3, A3, m3, c3, z3, rfl, ho3, hz3, hb3⟩
   have hB3 := hB2.trans (hb3.mono hB2.size)
   have HO3 := HO.out.next hb3
   obtain ⟨E, hE, hEl, hEn⟩ := HO3
   have HO4 := Lib.hid (ho3.base hB2.size)
   have HE := Lib.hid hE
   have HEN := Lib.hid (And.intro hEl hEn)
   have HM2 := Lib.hid (show M ++ [z3] = (L.take (j + 1)).map φ by rw [hM.out, hz3.out]; exact map_snoc hz.out)
   clear hE hEl hEn hx0 hx1 hr hb2 hb3 ho3
   go_wp2_with (at_builtin; refine wpList_append_own _ rfl _ _ 65 rfl w.heap.size 25 i0 (.agg #[.bool false, .slice none 0 0]) 2 32 Tryz.underlying65 hi hz0 hz1 hz2 rfl (by decide) _ _ _ rfl (HE.out.alloc _) ⟨W3.heap.size, 0, none⟩ 1 1 [.bool s3, .slice A3 m3 c3] rfl rfl (zcell_new _ _ _ _) (by simp [Value.oneCell']) (by unfold maxLen; omega) (by omega) (by have := hB3.size; simp; omega) ?_; intro v' w1 hown' hgrow _)
   have hmore := zs_more (e := (s3, A3, m3, c3)) (z := z3) HO4.out rfl (HE.out.alloc _) HEN.out.1 HEN.out.2 hown' hgrow
   have HB5 := Lib.hid ((hB3.alloc hB3.size (.cells #[.bool s3, .slice A3 m3 c3] 25)).grown hgrow (by have := hB3.size; simp; omega) (own_block HE.out))
   obtain ⟨A5, c5, rfl, ho5⟩ := hmore
   clear hown' hgrow HE HEN HO4 hB3 hB2 hB
   go_wp2
   go_roundw
   case rel => exact ⟨j + 1, c5, A5, M ++ [z3], rfl, by go_num, by omega, ho5, HM2, HB5.out⟩
   case measure => simp [intOf]; omega
end Go.Proofs.YtjnklbfhelbjgaaGreat

/- Lists of integers as polynomials: coefficients, the normal list. Nothing of the program. -/
namespace Pz
def co (L : List Int) (i : Nat) : Int := L.getD i 0
def Nz (L : List Int) : Prop := ∀ h : L ≠ [], L.getLast h ≠ 0
theorem co_ge {L : List Int} {i : Nat} (h : L.length ≤ i) : co L i = 0 := by simp [co, h]
theorem co_nil (i : Nat) : co [] i = 0 := by simp [co]
theorem co_get {L : List Int} {i : Nat} {z : Int} (h : L[i]? = some z) : co L i = z := by simp [co, List.getD_eq_getElem?_getD, h]
theorem get_co {L : List Int} {i : Nat} (h : i < L.length) : L[i]? = some (co L i) := by simp [co, h]
theorem mem_co {L : List Int} {z : Int} (h : z ∈ L) : ∃ i, i < L.length ∧ co L i = z := by
 obtain ⟨i, hi⟩ := List.getElem?_of_mem h
 refine ⟨i, ?_, co_get hi⟩
 rcases Nat.lt_or_ge i L.length with h1 | h1
 ·exact h1
 ·rw [List.getElem?_eq_none h1] at hi; cases hi
theorem co_take {L : List Int} {k i : Nat} (h : i < k) : co (L.take k) i = co L i := by
 simp only [co, List.getD_eq_getElem?_getD, List.getElem?_take_of_lt h]
theorem co_take_all {L : List Int} {k : Nat} (h : ∀ i, k ≤ i → co L i = 0) (i : Nat) : co (L.take k) i = co L i := by
 rcases Nat.lt_or_ge i k with h1 | h1
 ·exact co_take h1
 ·rw [h i h1]; exact co_ge (by rw [List.length_take]; omega)
theorem nz_nil : Nz [] := fun h => absurd rfl h
theorem nz_take {L : List Int} {k : Nat} (hk : k ≤ L.length) (h : k = 0 ∨ co L (k - 1) ≠ 0) : Nz (L.take k) := by
 intro hne
 have hk0 : k ≠ 0 := by rintro rfl; simp at hne
 have hl := h.resolve_left hk0
 rw [List.getLast_eq_getElem]
 simp only [List.length_take, Nat.min_eq_left hk, List.getElem_take]
 have e := get_co (L := L) (i := k - 1) (by omega)
 rw [List.getElem?_eq_getElem (by omega)] at e
 injection e with e
 rw [e]
 exact hl
theorem nz_top {L : List Int} (h : Nz L) (h0 : 0 < L.length) : co L (L.length - 1) ≠ 0 := by
 have hne : L ≠ [] := by rintro rfl; simp at h0
 have e := h hne
 rw [List.getLast_eq_getElem] at e
 have e2 := get_co (L := L) (i := L.length - 1) (by omega)
 rw [List.getElem?_eq_getElem (by omega)] at e2
 injection e2 with e2
 rw [← e2]
 exact e
theorem nz_len {L : List Int} (h : Nz L) {k : Nat} (hk : ∀ i, k ≤ i → co L i = 0) : L.length ≤ k := by
 apply Classical.byContradiction
 intro hc
 exact nz_top h (by omega) (hk _ (by omega))
def IsP (f : Nat → Int) (M : List Int) : Prop := Nz M ∧ ∀ i, co M i = f i
theorem IsP.congr {f g : Nat → Int} {L : List Int} (h : IsP f L) (e : ∀ i, f i = g i) : IsP g L := ⟨h.1, fun i => by rw [h.2, e]⟩
theorem IsP.len {f : Nat → Int} {L : List Int} (h : IsP f L) {k : Nat} (hk : ∀ i, k ≤ i → f i = 0) : L.length ≤ k := nz_len h.1 fun i hi => by rw [h.2]; exact hk i hi
end Pz

/- zpoly: a list made of another one by a function with a variable of its own; the normal form. -/
namespace Go.Proofs.YtjnklbfhelbjgaaGreat
open Go.RowKit Go.IntWalk
attribute [local go_sem ↓] Go.wp_at_zero Go.wp_at_succ
def RetP (f : Nat → Int) (w : World) (e : Ending) (w' : World) : Prop :=
 ∃ (A : Option Addr) (n c : Nat) (M : List Int), e = .returned (.slice A n c) ∧ OwZs w' w.heap.size A n c M ∧ Hid (Pz.IsP f M) ∧ Below w.heap.size w w'
theorem RdZs.take {w : World} {B N : Nat} {A : Option Addr} {n c : Nat} {L : List Int} (h : RdZs w B N A n c L) {k : Nat} (hk : k ≤ n) : RdZs w B N A k c (L.take k) :=
 ⟨by rw [List.length_take, h.len]; omega, Nat.le_trans hk h.le, h.mx, fun j z hz => by
  have hj : j < k := by
   rcases Nat.lt_or_ge j k with h1 | h1
   ·exact h1
   ·rw [List.getElem?_eq_none (by rw [List.length_take]; omega)] at hz; cases hz
  rw [List.getElem?_take_of_lt hj] at hz
  exact h.at_ j z hz⟩
set_option maxRecDepth 100000 in
set_option maxHeartbeats 4000000 in
theorem znorm_any {N : Nat} {A : Option Addr} {n c : Nat} {L : List Int} {w : World} (h : RdZs w w.heap.size N A n c L) (hn : n ≤ 4398046511103) (hN : N ≤ 17592186044416) :
  Calls Tryz.prog 240 #[.slice A n c] w (RetP (Pz.co L) w) := by
 have HLEN := Lib.hid h.len
 have hle := h.le
 have hmx := h.mx
 have hEN := enters_of Tryz.func251 (by kernel_rfl) rfl
 go_enter Tryz.func240, Tryz.ntmps240
 go_wp2_with fail
 go_loopw [3] (fun kv wr => ∃ k : Nat, kv = .int .i64 k ∧ k ≤ n ∧ Hid (∀ i, k ≤ i → Pz.co L i = 0) ∧ Below w.heap.size w wr) (fun kv _ => (intOf kv).toNat)
 case atStart => exact ⟨n, rfl, Nat.le_refl _, Lib.hid fun i hi => Pz.co_ge (by rw [HLEN.out]; exact hi), Below.refl _ _⟩
 case round =>
  obtain ⟨k, rfl, hk, hZ, hB⟩ := hrel
  rcases Nat.eq_zero_or_pos k with h0 | h0
  ·subst h0
   go_wp2_with fail
   refine (mapped_any (N := N) id ((h.next hB).take (Nat.zero_le _)) (by omega) hEN (fun W s A m c z _ hr hm => inorm_any hr (by omega))).mono ?_
   rintro _ W4 ⟨A4, n4, c4, M4, rfl, ho4, hM4, hb4⟩
   go_wp2
   go_ret
   exact ⟨_, _, _, M4, rfl, ho4.base hB.size, Lib.hid (by rw [hM4.out, List.map_id]; exact ⟨Pz.nz_take (Nat.zero_le _) (.inl rfl), Pz.co_take_all hZ.out⟩), hB.trans (hb4.mono hB.size)⟩
  ·obtain ⟨j, rfl⟩ : ∃ j, k = j + 1 := ⟨k - 1, by omega⟩
   obtain ⟨ad, s, A1, n1, c1, z, rfl, hbk, hx0, hx1, hr, hn1, hz⟩ := zs_at h (show j < n by omega)
   obtain ⟨hy0, hy1⟩ := zs_cells hB hbk hx0 hx1
   go_wp2_with fail
   refine (sign_any (hr.next hB) (by omega)).mono ?_
   rintro _ W2 ⟨kz, rfl, hkz, hb2⟩
   have HB2 := Lib.hid (hB.trans (hb2.mono hB.size))
   have HZ := Lib.hid (show kz = 0 ↔ Pz.co L j = 0 by rw [hkz.out, Int.sign_eq_zero_iff_zero, Pz.co_get hz.out])
   clear hb2 hy0 hy1
   by_cases hk0 : kz = 0
   ·have HC := Lib.hid (HZ.out.1 hk0)
    subst hk0
    go_wp2
    go_roundw
    case rel => exact ⟨j, by go_num, by omega, Lib.hid fun i hi => by
     rcases Nat.lt_or_ge j i with h1 | h1
     ·exact hZ.out i h1
     ·rw [show i = j by omega]; exact HC.out, HB2.out⟩
    case measure => simp [intOf]
   ·have HC := Lib.hid (mt HZ.out.2 hk0)
    have hkb : (kz == 0) = false := by simpa using hk0
    clear hk0
    go_wp2_with fail
    refine (mapped_any (N := N) id ((h.next HB2.out).take hk) (by omega) hEN (fun W s A m c z _ hr hm => inorm_any hr (by omega))).mono ?_
    rintro _ W4 ⟨A4, n4, c4, M4, rfl, ho4, hM4, hb4⟩
    go_wp2
    go_ret
    exact ⟨_, _, _, M4, rfl, ho4.base HB2.out.size, Lib.hid (by rw [hM4.out, List.map_id]; exact ⟨Pz.nz_take (by rw [HLEN.out]; exact hk) (.inr HC.out), Pz.co_take_all hZ.out⟩), HB2.out.trans (hb4.mono HB2.out.size)⟩
end Go.Proofs.YtjnklbfhelbjgaaGreat

/- zpoly: a block of integers that is known whole; a coefficient; two lists coefficient by coefficient. -/
namespace Go.Proofs.YtjnklbfhelbjgaaGreat
open Go.RowKit Go.IntWalk
attribute [local go_sem ↓] Go.wp_at_zero Go.wp_at_succ
def ZB (w : World) (g : Nat) (E : List Ent) : Prop := w.heap[g]? = some (.cells (zcs E).toArray 25 (0, 0))
def EntF (w : World) (b : Nat) (E : List Ent) (f : Nat → Int) : Prop := ∀ (i : Nat) (e : Ent), E[i]? = some e → OwZ w b e.1 e.2.1 e.2.2.1 e.2.2.2 (f i)
theorem zcs_set (E : List Ent) (j : Nat) (e : Ent) : zcs (E.set j e) = ((zcs E).set (j * 2) (.bool e.1)).set (j * 2 + 1) (.slice e.2.1 e.2.2.1 e.2.2.2) := by
 induction E generalizing j with
 | nil => rfl
 | cons x E ih =>
   cases j with
   | zero => rw [List.set_cons_zero, zcs_cons, zcs_cons]; rfl
   | succ j =>
     rw [List.set_cons_succ, zcs_cons, zcs_cons, ih]
     rw [show (j + 1) * 2 = j * 2 + 2 by omega]
     rfl
section
variable {w w' : World} {g b : Nat} {E : List Ent} {f : Nat → Int}
theorem ZB.lt (h : ZB w g E) : g < w.heap.size := (Array.getElem?_eq_some_iff.1 h).1
theorem ZB.frozen (h : ZB w g E) (j : Nat) : w.frozen? ⟨g, j, none⟩ = false := frozen_of_row w g j _ _ h
theorem ZB.cells (h : ZB w g E) {j : Nat} {e : Ent} (he : E[j]? = some e) : w.cell? ⟨g, j * 2, none⟩ = some (.bool e.1) ∧ w.cell? ⟨g, j * 2 + 1, none⟩ = some (.slice e.2.1 e.2.2.1 e.2.2.2) := by
 obtain ⟨h1, h2⟩ := zcs_at E j e he
 exact ⟨by rw [cell_of_row w g _ _ _ _ h]; simpa using h1, by rw [cell_of_row w g _ _ _ _ h]; simpa using h2⟩
theorem ZB.store (h : ZB w g E) (j : Nat) (e : Ent) : ZB ((w.setCell ⟨g, j * 2, none⟩ (.bool e.1)).setCell ⟨g, j * 2 + 1, none⟩ (.slice e.2.1 e.2.2.1 e.2.2.2)) g (E.set j e) := by
 unfold ZB at h ⊢
 rw [zcs_set]
 simp [World.setCell, Array.getElem?_modify, h]
theorem ZB.next (h : ZB w g E) (hb : Below w.heap.size w w') : ZB w' g E := (hb.block g h.lt).trans h
theorem EntF.next (h : EntF w b E f) (hb : Below w.heap.size w w') : EntF w' b E f := fun i e he => (h i e he).next hb
theorem ent_put {s : Bool} {A : Option Addr} {k m : Nat} {z : Int} (h : OwZ w b s A k m z) (hz : ZB w g E) (j : Nat) (e : Ent) : OwZ ((w.setCell ⟨g, j * 2, none⟩ (.bool e.1)).setCell ⟨g, j * 2 + 1, none⟩ (.slice e.2.1 e.2.2.1 e.2.2.2)) b s A k m z := by
 refine ⟨own_other h.own hz fun i _ hne => ?_, h.sgn⟩
 exact (Below.heap_setCell _ (⟨g, j * 2 + 1, none⟩ : Addr) _ i hne).trans (Below.heap_setCell _ (⟨g, j * 2, none⟩ : Addr) _ i hne)
theorem EntF.store (h : EntF w b E f) (hz : ZB w g E) {j : Nat} {e : Ent} {z : Int} (he : OwZ w b e.1 e.2.1 e.2.2.1 e.2.2.2 z) : EntF ((w.setCell ⟨g, j * 2, none⟩ (.bool e.1)).setCell ⟨g, j * 2 + 1, none⟩ (.slice e.2.1 e.2.2.1 e.2.2.2)) b (E.set j e) (fun i => if i = j then z else f i) := by
 intro i e' h'
 by_cases hij : i = j
 ·subst hij
  simp only [if_true]
  have hl : i < E.length := by
   rcases Nat.lt_or_ge i E.length with h1 | h1
   ·exact h1
   ·rw [List.getElem?_eq_none (by rw [List.length_set]; exact h1)] at h'; cases h'
  rw [List.getElem?_set_self hl] at h'
  injection h' with h'
  subst h'
  exact ent_put he hz i e
 ·simp only [if_neg hij]
  rw [List.getElem?_set_ne (Ne.symm hij)] at h'
  exact ent_put (h i e' h') hz j e
theorem ZB.own (h : ZB w g E) (hE : EntF w b E f) (hb : b ≤ g) {m : Nat} (hm : E.length = m) (hx : m ≤ maxLen) : OwZs w b (some ⟨g, 0, none⟩) m m ((List.range m).map f) := by
 refine ⟨E, ⟨by rw [zcs_len, hm], .inr ⟨g, m, _, rfl, hb, h, Nat.le_refl _, hx, by simp [zcs_len, hm], ?_⟩⟩, hm, by simp [hm], fun j e z he hz => ?_⟩
 ·rw [List.take_of_length_le (by simp [zcs_len, hm])]
 ·have hj : j < m := by
   rcases Nat.lt_or_ge j m with h1 | h1
   ·exact h1
   ·rw [List.getElem?_eq_none (by omega)] at he; cases he
  rw [List.getElem?_map, List.getElem?_range hj] at hz
  simp at hz
  rw [← hz]
  exact hE j e he
end
theorem zcs_zeros (n : Nat) : (zcs (List.replicate n (false, none, 0, 0))).toArray = madeCells #[.bool false, .slice none 0 0] (n * 2) := by
 apply Array.ext
 ·simp [zcs_len, size_madeCells]
 ·intro i h1 h2
  have hi : i < n * 2 := by simpa [zcs_len] using h1
  have hj : i / 2 < n := by omega
  obtain ⟨c0, c1⟩ := zcs_at (List.replicate n ((false, none, 0, 0) : Ent)) (i / 2) (false, none, 0, 0) (by simp [hj])
  rcases Nat.mod_two_eq_zero_or_one i with e | e
  ·rw [show i / 2 * 2 = i by omega] at c0
   have e2 : (zcs (List.replicate n ((false, none, 0, 0) : Ent)))[i]'(by rw [zcs_len]; simpa using hi) = .bool false := by
    rw [List.getElem?_eq_getElem (by rw [zcs_len]; simpa using hi)] at c0
    injection c0
   simp only [List.getElem_toArray]
   rw [e2]
   simp [madeCells, e]
  ·rw [show i / 2 * 2 + 1 = i by omega] at c1
   have e2 : (zcs (List.replicate n ((false, none, 0, 0) : Ent)))[i]'(by rw [zcs_len]; simpa using hi) = .slice none 0 0 := by
    rw [List.getElem?_eq_getElem (by rw [zcs_len]; simpa using hi)] at c1
    injection c1
   simp only [List.getElem_toArray]
   rw [e2]
   simp [madeCells, e]
theorem make_zs (n : Nat) (hn : n ≤ 8796093022208) (w : World) :
  (Instr.makeSlice 230 (.int .i64 (n : Int)) (.int .i64 (n : Int))).run Tryz.prog w = .ok (.slice (some ⟨w.heap.size, 0, none⟩) n n) (w.alloc (.cells (zcs (List.replicate n (false, none, 0, 0))).toArray 25)) := by
 obtain ⟨i0, hi, hz0, hz1, hz2⟩ := info_parts infoZ
 have h := run_make (P := Tryz.prog) w 230 25 i0 _ Tryz.underlying230 hi hz0 .i64 .i64 (n : Int) (n : Int) (by omega) (Int.le_refl _) (by rw [hz2]; omega) (by omega)
 rw [hz1] at h
 rw [zcs_zeros]
 exact h
theorem ZB.made (w : World) (n : Nat) : ZB (w.alloc (.cells (zcs (List.replicate n (false, none, 0, 0))).toArray 25)) w.heap.size (List.replicate n (false, none, 0, 0)) := heap_alloc_new w _
theorem EntF.zeros (w : World) (b n : Nat) : EntF w b (List.replicate n (false, none, 0, 0)) (fun _ => 0) := by
 intro i e he
 have e1 : e = (false, none, 0, 0) := by
  have := List.mem_of_getElem? he
  exact List.eq_of_mem_replicate this
 subst e1
 exact OwZ.zero w b
end Go.Proofs.YtjnklbfhelbjgaaGreat

/- The reference's integers, third part: division rounded to nought, exact division. -/
namespace Go.Proofs.YtjnklbfhelbjgaaGreat
open Go.RowKit Go.IntWalk
attribute [local go_sem ↓] Go.wp_at_zero Go.wp_at_succ
end Go.Proofs.YtjnklbfhelbjgaaGreat

/- Lists of integers word by word: are two the very same? -/
namespace Go.Proofs.YtjnklbfhelbjgaaGreat
open Go.RowKit Go.IntWalk
attribute [local go_sem ↓] Go.wp_at_zero Go.wp_at_succ
structure RdRs (w : World) (B N : Nat) (A : Option Addr) (n c : Nat) (R : List (Bool × List Nat)) : Prop where
 len : R.length = n
 le : n ≤ c
 mx : c ≤ maxLen
 at_ : ∀ (j : Nat) (r : Bool × List Nat), R[j]? = some r → ∃ (ad : Addr) (A' : Option Addr) (n' c' : Nat), A = some ad ∧ ad.block < B ∧ w.cell? (ad.add (j * 2)) = some (.bool r.1) ∧ w.cell? ⟨(ad.add (j * 2)).block, (ad.add (j * 2)).off + 1, none⟩ = some (.slice A' n' c') ∧ RdU w B A' n' c' r.2 ∧ n' ≤ N
def toZ (r : Bool × List Nat) : Int := Zz.sg r.1 (Dg.val r.2)
def ofZ (z : Int) : Bool × List Nat := (decide (z < 0), Dg.dg z.natAbs)
section
variable {w w' : World} {B B' N : Nat} {A : Option Addr} {n c : Nat} {R : List (Bool × List Nat)}
theorem RdRs.below (h : RdRs w B N A n c R) (hb : Below B w w') : RdRs w' B N A n c R :=
 ⟨h.len, h.le, h.mx, fun j r hr => by
  obtain ⟨ad, A', n', c', h1, h2, h3, h4, h5, h6⟩ := h.at_ j r hr
  obtain ⟨k3, k4⟩ := zs_cells hb h2 h3 h4
  exact ⟨ad, A', n', c', h1, h2, k3, k4, h5.below hb, h6⟩⟩
theorem RdRs.more (h : RdRs w B N A n c R) (hB : B ≤ B') : RdRs w B' N A n c R :=
 ⟨h.len, h.le, h.mx, fun j r hr => by
  obtain ⟨ad, A', n', c', h1, h2, h3, h4, h5, h6⟩ := h.at_ j r hr
  exact ⟨ad, A', n', c', h1, by omega, h3, h4, h5.more hB, h6⟩⟩
theorem RdRs.next (h : RdRs w w.heap.size N A n c R) (hb : Below w.heap.size w w') : RdRs w' w'.heap.size N A n c R := (h.below hb).more hb.size
end
theorem below_dr {B : Nat} {a w : World} (h : Below B a w) (n : Nat) : Below B a (w.drewN n) := ⟨h.os, h.tape, h.output, h.size, h.block⟩
def RetBo (P : Prop) (w : World) (e : Ending) (w' : World) : Prop := ∃ b : Bool, e = .returned (.bool b) ∧ Hid (b = true ↔ P) ∧ Below w.heap.size w w'
set_option maxRecDepth 100000 in
set_option maxHeartbeats 2000000 in
theorem same01_any {A A' : Option Addr} {n c n' c' : Nat} {L L' : List Nat} {w : World} (h : RdU w w.heap.size A n c L) (h' : RdU w w.heap.size A' n' c' L') :
  Calls Tryz.prog 95 #[.slice A n c, .slice A' n' c'] w (RetBo (L = L') w) := by
 have hlen := Lib.hid (And.intro h.len h'.len)
 have hn : n ≤ 9223372036854775807 := by
  have h1 := h.mx
  have h2 := h.le
  unfold maxLen at h1
  omega
 go_enter Tryz.func95, Tryz.ntmps95
 by_cases hne : n = n'
 ·subst hne
  go_wp2_with fail
  go_loopw [13] (fun iv wr => ∃ i : Nat, iv = .int .i64 i ∧ i ≤ n ∧ Hid (∀ t, t < i → Dg.ld L t = Dg.ld L' t) ∧ Below w.heap.size w wr) (fun iv _ => n - (intOf iv).toNat)
  case atStart => exact ⟨0, rfl, Nat.zero_le _, Lib.hid fun t ht => by omega, Below.refl _ _⟩
  case round =>
   obtain ⟨i, rfl, hi, hE, hB⟩ := hrel
   by_cases hin : i = n
   ·have hni := hin.symm
    subst hni
    clear hin
    go_wp2
    go_ret
    exact ⟨true, rfl, Lib.hid ⟨fun _ => by
     apply List.ext_getElem?
     intro t
     rcases Nat.lt_or_ge t n with ht | ht
     ·rw [Dg.get_of_ld (by rw [hlen.out.1]; exact ht), Dg.get_of_ld (by rw [hlen.out.2]; exact ht), hE.out t ht]
     ·rw [List.getElem?_eq_none (by rw [hlen.out.1]; exact ht), List.getElem?_eq_none (by rw [hlen.out.2]; exact ht)], fun _ => rfl⟩, hB⟩
   ·have hil : i < n := by omega
    clear hin
    have hili : (i : Int) < (n : Int) := by omega
    obtain ⟨hx, ad, rfl, hbx, hcx⟩ := h.at_ i _ (Dg.get_of_ld (by rw [hlen.out.1]; exact hil))
    obtain ⟨hy, ad', rfl, hby, hcy⟩ := h'.at_ i _ (Dg.get_of_ld (by rw [hlen.out.2]; exact hil))
    have hcx := (hB.cell (p := ad.add i) (by rw [add_blk]; exact hbx)).trans hcx
    have hcy := (hB.cell (p := ad'.add i) (by rw [add_blk]; exact hby)).trans hcy
    obtain ⟨x, ex⟩ : ∃ x, x = Dg.ld L i := ⟨_, rfl⟩
    obtain ⟨y, ey⟩ : ∃ y, y = Dg.ld L' i := ⟨_, rfl⟩
    rw [← ex] at hcx
    rw [← ey] at hcy
    have EX := Lib.hid (And.intro ex ey)
    clear ex ey
    by_cases hxy : x = y
    ·subst hxy
     go_wp2
     go_quiet (fail)
     go_wp2
     go_roundw
     case rel => exact ⟨i + 1, by go_num, by omega, Lib.hid fun t ht => by
      rcases Nat.lt_or_ge t i with h1 | h1
      ·exact hE.out t h1
      ·rw [show t = i by omega, ← EX.out.1, ← EX.out.2], by first | exact hB.drew | exact below_dr hB _⟩
     case measure => simp [intOf]; omega
    ·have hb : ((x : Int) != (y : Int)) = true := by simp; omega
     have HXY := Lib.hid hxy
     clear hxy
     go_wp2
     go_quiet (fail)
     go_wp2
     go_ret
     exact ⟨false, rfl, Lib.hid ⟨fun e => by simp at e, fun e => absurd (by rw [EX.out.1, EX.out.2, e]) HXY.out⟩, by first | exact hB.drew | exact below_dr hB _⟩
 ·have hb : ((n : Int) != (n' : Int)) = true := by simp; omega
  have HNE := Lib.hid hne
  clear hne
  go_wp2
  go_ret
  exact ⟨false, rfl, Lib.hid ⟨fun e => by simp at e, fun e => absurd (by rw [← hlen.out.1, ← hlen.out.2, e]) HNE.out⟩, Below.refl _ _⟩
end Go.Proofs.YtjnklbfhelbjgaaGreat

/- Are two integers, two lists, the very same? -/
namespace Go.Proofs.YtjnklbfhelbjgaaGreat
open Go.RowKit Go.IntWalk
attribute [local go_sem ↓] Go.wp_at_zero Go.wp_at_succ
set_option maxRecDepth 100000 in
set_option maxHeartbeats 2000000 in
theorem same03_any {s s' : Bool} {A A' : Option Addr} {n c n' c' : Nat} {M M' : List Nat} {w : World} (h : RdU w w.heap.size A n c M) (h' : RdU w w.heap.size A' n' c' M') :
  Calls Tryz.prog 42 #[.agg #[.bool s, .slice A n c], .agg #[.bool s', .slice A' n' c']] w (RetBo ((s, M) = (s', M')) w) := by
 obtain ⟨W1, HW1⟩ : ∃ W, W = (w.alloc (.cells #[.bool s, .slice A n c] 25)).alloc (.cells #[.bool s', .slice A' n' c'] 25) := ⟨_, rfl⟩
 have hZ : ZC W1 w.heap.size s A n c := by rw [HW1]; exact (ZC.new w s A n c).alloc _
 have hY : ZC W1 (w.heap.size + 1) s' A' n' c' := by rw [HW1]; simpa using ZC.new (w.alloc (.cells #[.bool s, .slice A n c] 25)) s' A' n' c'
 have hB : Below w.heap.size w W1 := by rw [HW1]; exact ((Below.refl w.heap.size w).alloc (Nat.le_refl _) _).alloc (by simp) _
 have h1 := h.next hB
 have h1' := h'.next hB
 have HB := Lib.hid hB
 by_cases hss : s = s'
 ·subst hss
  have HW1 := Lib.hid HW1
  go_enter Tryz.func42, Tryz.ntmps42
  go_wp2_with fail
  rw [← HW1.out]
  clear HW1
  clear HW1
  refine (same01_any h1 h1').mono ?_
  rintro _ W2 ⟨b, rfl, hb, hb2⟩
  go_wp2
  go_ret
  exact ⟨b, rfl, Lib.hid ⟨fun e => by rw [hb.out.1 e], fun e => hb.out.2 (by injection e)⟩, HB.out.trans (hb2.mono HB.out.size)⟩
 ·have hbe : (s == s') = false := by simpa using hss
  have HSS := Lib.hid hss
  have HB0 := Lib.hid (show Below w.heap.size w ((w.alloc (.cells #[.bool s, .slice A n c] 25)).alloc (.cells #[.bool s', .slice A' n' c'] 25)) by rw [← HW1]; exact hB)
  clear hss hZ hY hB h1 h1'
  clear HW1
  go_enter Tryz.func42, Tryz.ntmps42
  go_wp2
  go_ret
  exact ⟨false, rfl, Lib.hid ⟨fun e => by simp at e, fun e => absurd (by injection e) HSS.out⟩, HB0.out⟩
theorem rs_at {w : World} {B N : Nat} {A : Option Addr} {n c : Nat} {R : List (Bool × List Nat)} (h : RdRs w B N A n c R) {j : Nat} (hj : j < n) :
  ∃ (ad : Addr) (s : Bool) (M : List Nat) (A' : Option Addr) (n' c' : Nat), A = some ad ∧ ad.block < B ∧ w.cell? (ad.add (j * 2)) = some (.bool s) ∧ w.cell? ⟨(ad.add (j * 2)).block, (ad.add (j * 2)).off + 1, none⟩ = some (.slice A' n' c') ∧ RdU w B A' n' c' M ∧ n' ≤ N ∧ Hid (R[j]? = some (s, M)) := by
 have hz : R[j]? = some (R[j]'(by rw [h.len]; exact hj)) := List.getElem?_eq_getElem _
 obtain ⟨ad, A', n', c', h1, h2, h3, h4, h5, h6⟩ := h.at_ j _ hz
 exact ⟨ad, _, _, A', n', c', h1, h2, h3, h4, h5, h6, Lib.hid hz⟩
end Go.Proofs.YtjnklbfhelbjgaaGreat

/- Copies; append in any case. -/
namespace Go.Proofs.YtjnklbfhelbjgaaGreat
open Go.RowKit Go.IntWalk
attribute [local go_sem ↓] Go.wp_at_zero Go.wp_at_succ
theorem wp_append_sl {P : Program} {w : World} {o : Oper} {a : Act} {K : Act → World → Prop} {Q : Exit → Act → World → Prop} (s x : Operand) (t : TypeId)
  (ho : o.op = .call { callee := .builtin .append, args := #[s, x], argTypes := #[t, t] })
  (base : Nat) (e : TypeId) (i : TypeInfo) (z : Value) (size bytes : Nat) (ht : P.underlying t = some (.slice e)) (hi : P.info? e = some i) (hz : i.zero = some z)
  (hsize : i.size = size) (hby : i.bytes = bytes) (hzs : z.cells.size = size) (hsz : 0 < size)
  (v : Value) (n : Nat) (xs : List Value) (hs : a.eval s = v) (hown : w.ownsRow base e size v n xs)
  (X : Option Addr) (m c : Nat) (news : List Value) (hx : a.eval x = .slice X m c) (hl : news.length = m * size) (hnil : X = none → m = 0) (hnews : ∀ ad, X = some ad → ∀ j u, news[j]? = some u → w.cell? (ad.add j) = some u) (h1 : ∀ u ∈ news, u.oneCell' = true)
  (h63 : n + m ≤ maxLen) (hbytes : (n + m) * bytes ≤ 140737488355328) (hbase : base ≤ w.heap.size)
  (h : ∀ A' c' w', w'.ownsRow base e size (.slice A' (n + m) c') (n + m) (xs ++ news) → w.grownBy w' v.ownBlock → K (a.put o.dst (.slice A' (n + m) c')) w') : o.wp P a w K Q := by
 rcases X with _ | ad
 ·obtain rfl := hnil rfl
  have hn0 : news = [] := List.eq_nil_of_length_eq_zero (by simpa using hl)
  subst hn0
  obtain ⟨A', c', rfl⟩ := row_sl hown
  have hle : n ≤ c' := by
   rcases hown.2 with ⟨e1, e2⟩ | ⟨g, cap, cur, e1, _, _, e4, _⟩
   ·omega
   ·injection e1 with e1 e2 e3
    omega
  have hr := run_append_nothing (P := P) w t t o.type e i ht hi A' n c' hle (.slice none 0 c) (Src.ofNil w ht c)
  unfold Oper.wp execOp
  simp only [ho, resolve, invoke, builtin, Sem.run_bind, Sem.run_pure, Result.andThen_ok, List.map_toArray, List.map_cons, List.map_nil, hs, hx, hr]
  exact h A' c' w (by simpa using hown) (World.grownBy.refl w _)
 ·obtain ⟨v', w', hr, h2, h3, _⟩ := run_append_own_at (P := P) w base t o.type e i z size bytes ht hi hz hsize hby hzs hsz v n xs hown ad m c news hl (hnews ad rfl) h1 h63 hbytes hbase
  obtain ⟨A', c', rfl⟩ := row_sl h2
  unfold Oper.wp execOp
  simp only [ho, resolve, invoke, builtin, Sem.run_bind, Sem.run_pure, Result.andThen_ok, List.map_toArray, List.map_cons, List.map_nil, hs, hx, hr]
  exact h A' c' w' h2 h3
section
variable {w w' : World} {g b : Nat} {E : List Ent} {F : Nat → Bool × List Nat}
end
end Go.Proofs.YtjnklbfhelbjgaaGreat

/- The law's polynomials of written numbers. -/
namespace Go.Proofs.YtjnklbfhelbjgaaGreat
open Go.RowKit Go.IntWalk
attribute [local go_sem ↓] Go.wp_at_zero Go.wp_at_succ
structure RdK (w : World) (B : Nat) (A : Option Addr) (n c : Nat) (L : List Int) : Prop where
 len : L.length = n
 le : n ≤ c
 mx : c ≤ maxLen
 at_ : ∀ (j : Nat) (z : Int), L[j]? = some z → -9223372036854775808 ≤ z ∧ z < 9223372036854775808 ∧ ∃ ad, A = some ad ∧ ad.block < B ∧ w.cell? (ad.add j) = some (.int .i64 z)
theorem RdK.next {w w' : World} {A : Option Addr} {n c : Nat} {L : List Int} (h : RdK w w.heap.size A n c L) (hb : Below w.heap.size w w') : RdK w' w'.heap.size A n c L :=
 ⟨h.len, h.le, h.mx, fun j z hz => by
  obtain ⟨h1, h2, ad, h3, h4, h5⟩ := h.at_ j z hz
  exact ⟨h1, h2, ad, h3, by have := hb.size; omega, (hb.cell (p := ad.add j) (by rw [add_blk]; exact h4)).trans h5⟩⟩
theorem RdK.new (w : World) (t : TypeId) (L : List Int) (hL : ∀ z ∈ L, -9223372036854775808 ≤ z ∧ z < 9223372036854775808) (hm : L.length ≤ maxLen) {C : Array Value} (hC : C = (L.map fun z : Int => Value.int .i64 z).toArray) {n : Nat} (hn : n = L.length) :
  RdK (w.alloc (.cells C t)) (w.alloc (.cells C t)).heap.size (some ⟨w.heap.size, 0, none⟩) n n L := by
 subst hn
 refine ⟨rfl, Nat.le_refl _, hm, fun j z hz => ?_⟩
 obtain ⟨h1, h2⟩ := hL z (List.mem_of_getElem? hz)
 refine ⟨h1, h2, _, rfl, by simp, ?_⟩
 have e : (⟨w.heap.size, 0, none⟩ : Addr).add j = ⟨w.heap.size, j, none⟩ := by unfold Addr.add; by_cases h : j = 0 <;> simp [h]
 rw [e, cell_of_row _ w.heap.size j _ _ _ (heap_alloc_new w _), hC]
 simp [hz]
end Go.Proofs.YtjnklbfhelbjgaaGreat

/- zpoly: a coefficient; two lists coefficient by coefficient; sum and difference; times a number. -/
namespace Go.Proofs.YtjnklbfhelbjgaaGreat
open Go.RowKit Go.IntWalk
attribute [local go_sem ↓] Go.wp_at_zero Go.wp_at_succ
theorem EntF.congr {w : World} {b : Nat} {E : List Ent} {f g : Nat → Int} (h : EntF w b E f) (e : ∀ i, f i = g i) : EntF w b E g := fun i x hx => by rw [← e]; exact h i x hx
theorem zl_co {w : World} {B N : Nat} {A : Option Addr} {n c : Nat} {L : List Int} (h : RdZs w B N A n c L) (i : Nat) : Zz.zl (Pz.co L i) ≤ N := by
 rcases Nat.lt_or_ge i n with hi | hi
 ·obtain ⟨_, _, _, _, _, z, _, _, _, _, hr, hn, hz⟩ := zs_at h hi
  rw [Pz.co_get hz.out]
  exact Nat.le_trans hr.len hn
 ·rw [Pz.co_ge (by rw [h.len]; exact hi), Zz.zl_zero]
  exact Nat.zero_le _
end Go.Proofs.YtjnklbfhelbjgaaGreat

/- Reference 07, first part: in normal form; a coefficient; sum; times a number. -/
namespace Go.Proofs.YtjnklbfhelbjgaaGreat
open Go.RowKit Go.IntWalk
attribute [local go_sem ↓] Go.wp_at_zero Go.wp_at_succ
end Go.Proofs.YtjnklbfhelbjgaaGreat

/- Reference 07, second part: a coefficient, the sum, times a number, the difference. -/
namespace Go.Proofs.YtjnklbfhelbjgaaGreat
open Go.RowKit Go.IntWalk
attribute [local go_sem ↓] Go.wp_at_zero Go.wp_at_succ
end Go.Proofs.YtjnklbfhelbjgaaGreat
