/- rat.Common: fractions over one denominator. -/
import Derived.Test.YtjnklbfhelbjgaaGreatSn17
import Derived.Test.YtjnklbfhelbjgaaGreatSn18
import Derived.Test.YtjnklbfhelbjgaaGreatSn16
import Derived.Deep.AppendLies
import Derived.Deep.RegionLaw
import Derived.Test.YtjnklbfhelbjgaaGreatSn13
import Derived.Test.YtjnklbfhelbjgaaGreatSn08
import Derived.Test.YtjnklbfhelbjgaaGreatSn15
namespace Go.Proofs.YtjnklbfhelbjgaaGreat
open Go.RowKit Go.IntWalk
attribute [local go_sem ↓] Go.wp_at_zero Go.wp_at_succ
def denF (g : Int) (L : List Rat) : Int := L.foldl (fun (g : Int) x => ((Nat.lcm g.natAbs x.den : Nat) : Int)) g
abbrev denL (L : List Rat) : Int := denF 1 L
theorem denF_take {L : List Rat} {j : Nat} {x : Rat} (h : L[j]? = some x) (g : Int) : denF g (L.take (j + 1)) = ((Nat.lcm (denF g (L.take j)).natAbs x.den : Nat) : Int) := by
 unfold denF
 rw [List.take_add_one, h, Option.toList_some, List.foldl_append]
 rfl
theorem denF_pos : ∀ (L : List Rat) (g : Int), 0 < g → 0 < denF g L
 | [], _, h => h
 | x :: L, g, h => by
   refine denF_pos L _ ?_
   have := Nat.lcm_pos (m := g.natAbs) (n := x.den) (by omega) x.den_pos
   show 0 < ((Nat.lcm g.natAbs x.den : Nat) : Int)
   omega
theorem denF_dvd : ∀ (L : List Rat) (g : Int), g ∣ denF g L
 | [], _ => Int.dvd_refl _
 | x :: L, g => by
   refine Int.dvd_trans ?_ (denF_dvd L _)
   exact Int.natAbs_dvd.1 (Int.natCast_dvd_natCast.2 (Nat.dvd_lcm_left _ _))
theorem den_dvd : ∀ (L : List Rat) (g : Int) (x : Rat), x ∈ L → (x.den : Int) ∣ denF g L
 | y :: L, g, x, h => by
   rcases List.mem_cons.1 h with rfl | h
   ·exact Int.dvd_trans (Int.natCast_dvd_natCast.2 (Nat.dvd_lcm_right _ _)) (denF_dvd L _)
   ·exact den_dvd L _ x h
def numL (L : List Rat) : List Int := L.map fun x => x.num * (denL L).tdiv x.den
theorem two_lcm {y : Int} (_ : 0 < y) (d : Nat) : [y, (d : Int)].foldl (fun (g x : Int) => ((Nat.lcm g.natAbs x.natAbs : Nat) : Int)) 1 = ((Nat.lcm y.natAbs d : Nat) : Int) := by
 simp [Nat.lcm_one_left]
theorem cc_grown {w w1 : World} {b : Nat} {A : Option Addr} {n c : Nat} {xs : List Value} {g : Nat} {s : Bool} {A1 A2 : Option Addr} {n1 c1 n2 c2 : Nat} (hE : w.ownsRow b 25 2 (.slice A n c) n xs) (hg : w.grownBy w1 (Value.slice A n c).ownBlock) (h : CC w g s A1 n1 c1 A2 n2 c2) : CC w1 g s A1 n1 c1 A2 n2 c2 := by
 unfold CC at *
 rw [← h]
 refine hg.block g (Array.getElem?_eq_some_iff.1 h).1 ?_
 rcases hE.2 with ⟨h1, _⟩ | ⟨g2, cap, cur, h1, h2, h3, _⟩
 ·rw [h1]
  intro e0
  cases e0
 ·rw [h1]
  intro e0
  cases e0
  rw [h] at h3
  injection h3 with h3
  injection h3 with _ h3
  exact absurd h3 (by decide)
theorem keepT_grownZ {w w1 : World} {b : Nat} {A : Option Addr} {n c : Nat} {xs : List Value} (hE : w.ownsRow b 25 2 (.slice A n c) n xs) (hg : w.grownBy w1 (Value.slice A n c).ownBlock) : KeepT w w1 := fun i cs f hi => by
 rw [← hi]
 refine hg.block i (Array.getElem?_eq_some_iff.1 hi).1 ?_
 rcases hE.2 with ⟨h1, _⟩ | ⟨g, cap, cur, h1, h2, h3, _⟩
 ·rw [h1]
  intro e0
  cases e0
 ·rw [h1]
  intro e0
  cases e0
  rw [hi] at h3
  injection h3 with h3
  injection h3 with _ h3
  exact absurd h3 (by decide)
theorem keep_setC {w : World} {g j : Nat} {s : Bool} {A A' : Option Addr} {n c n' c' : Nat} (h : CC w g s A n c A' n' c') (x : Value) : KeepT w (w.setCell ⟨g, j, none⟩ x) := fun i cs f e => by
 have hne : i ≠ g := by
  rintro rfl
  unfold CC at h
  rw [h] at e
  simp at e
 rw [Below.heap_setCell _ (⟨g, j, none⟩ : Addr) _ i hne]
 exact e
theorem keep_setC2 {w : World} {g : Nat} {s : Bool} {A A' : Option Addr} {n c n' c' : Nat} (h : CC w g s A n c A' n' c') (x y : Value) : KeepT w ((w.setCell ⟨g, 0, none⟩ x).setCell ⟨g, 1, none⟩ y) := fun i cs f e => by
 have hne : i ≠ g := by
  rintro rfl
  unfold CC at h
  rw [h] at e
  simp at e
 rw [Below.heap_setCell _ (⟨g, 1, none⟩ : Addr) _ i hne, Below.heap_setCell _ (⟨g, 0, none⟩ : Addr) _ i hne]
 exact e
theorem ents_keep {w w' : World} {b : Nat} {E : List Ent} {L : List Int} (h : Ents w b E L) (hk : KeepT w w') : Ents w' b E L := ⟨h.1, fun j e z he hz => (h.2 j e z he hz).keep hk⟩
theorem zs_setC {w : World} {g j b : Nat} {s : Bool} {A A' A1 : Option Addr} {n c n' c' n1 c1 : Nat} {L : List Int} (hz : OwZs w b A1 n1 c1 L) (h : CC w g s A n c A' n' c') (x : Value) : OwZs (w.setCell ⟨g, j, none⟩ x) b A1 n1 c1 L := by
 obtain ⟨E, hr, hE, hel⟩ := hz
 refine ⟨E, ⟨hr.1, ?_⟩, hE, ents_keep hel (keep_setC h x)⟩
 rcases hr.2 with h0 | ⟨g2, cap, cur, h1, h2, h3, h4⟩
 ·exact .inl h0
 ·have hne : g2 ≠ g := by
   rintro rfl
   unfold CC at h
   rw [h] at h3
   simp at h3
  exact .inr ⟨g2, cap, cur, h1, h2, (Below.heap_setCell _ (⟨g, j, none⟩ : Addr) _ g2 hne).trans h3, h4⟩
theorem CC.store2 {w : World} {g : Nat} {s : Bool} {A A' : Option Addr} {n c n' c' : Nat} (h : CC w g s A n c A' n' c') (t : Bool) (D : Option Addr) (k m : Nat) : CC ((w.setCell ⟨g, 0, none⟩ (.bool t)).setCell ⟨g, 1, none⟩ (.slice D k m)) g t D k m A' n' c' := by
 unfold CC at *
 simp [World.setCell, Array.getElem?_modify, h]
theorem CC.store1 {w : World} {g : Nat} {s : Bool} {A A' : Option Addr} {n c n' c' : Nat} (h : CC w g s A n c A' n' c') (D : Option Addr) (k m : Nat) : CC (w.setCell ⟨g, 2, none⟩ (.slice D k m)) g s A n c D k m := by
 unfold CC at *
 simp [World.setCell, Array.getElem?_modify, h]
set_option maxRecDepth 100000 in
set_option maxHeartbeats 8000000 in
theorem common_in {N M b : Nat} {A : Option Addr} {n c : Nat} {L : List Rat} {w : World} (h : OwQs w b A n c L) (hz : ∀ x ∈ L, Qs N x) (hS : ∀ j, Zz.zl (denF 1 (L.take j)) ≤ M) (hn : n ≤ 1048576) (hN : N ≤ 200000000000) (hM : M ≤ 200000000000) (h1N : 1 ≤ N) :
  Calls Tryz.prog 170 #[.slice A n c] w (RetCm (denL L) (numL L) w) := by
 have HLEN := Lib.hid h.len
 have HRD := Lib.hid (h.p.rd hz)
 have HSZ := Lib.hid hS
 have HQ := Lib.hid hz
 obtain ⟨i0, hi, hz0, hz1, hz2⟩ := info_parts infoZ
 obtain ⟨W1, HW1⟩ : ∃ W, W = w.alloc (.cells #[.bool false, .slice none 0 0, .slice none 0 0] 194) := ⟨_, rfl⟩
 have hR : CC W1 w.heap.size false none 0 0 none 0 0 := by rw [HW1]; exact CC.new w false none 0 0 none 0 0
 have hB : Below w.heap.size w W1 := by rw [HW1]; exact (Below.refl _ _).alloc (Nat.le_refl _) _
 have HW1 := Lib.hid HW1
 clear h hz hS
 go_enter Tryz.func170, Tryz.ntmps170
 go_wp2_with fail
 rw [← HW1.out]
 clear HW1
 clear HW1
 refine (of_any 1 (by decide) (by decide) W1).mono ?_
 rintro _ W2 ⟨s2, A2, n2, c2, y2, rfl, ho2, hy2, hb2⟩
 obtain rfl : y2 = 1 := hy2.out
 obtain ⟨W3, HW3⟩ : ∃ W, W = W2.alloc (.cells #[.bool s2, .slice A2 n2 c2, .slice none 0 0] 194) := ⟨_, rfl⟩
 have hb3 : Below W2.heap.size W2 W3 := by rw [HW3]; exact (Below.refl _ _).alloc (Nat.le_refl _) _
 have hb13 := hb2.trans (hb3.mono hb2.size)
 have hC : CC W3 W2.heap.size s2 A2 n2 c2 none 0 0 := by rw [HW3]; exact CC.new W2 s2 A2 n2 c2 none 0 0
 have hR3 := hR.next hb13
 have hB3 := hB.trans (hb13.mono hB.size)
 have ho3 := ho2.next hb3
 have HGR := Lib.hid (show w.heap.size < W1.heap.size ∧ W1.heap.size ≤ W2.heap.size from ⟨hR.lt, hb2.size⟩)
 have HG3 := Lib.hid (show W2.heap.size < W3.heap.size from hC.lt)
 have HW3 := Lib.hid HW3
 clear hR hB hb2 hb3 hb13 ho2 hy2
 obtain ⟨gc, hgc⟩ : ∃ g, g = W2.heap.size := ⟨_, rfl⟩
 go_wp2_with fail
 rw [← HW3.out]
 clear HW3
 clear HW3
 rw [← hgc] at hC HG3 HGR ⊢
 clear hgc
 go_loopw [15] (fun iv wr => ∃ (j : Nat) (s : Bool) (A' : Option Addr) (n' c' : Nat) (y : Int), iv = .int .i64 j ∧ j ≤ n ∧ CC wr gc s A' n' c' none 0 0 ∧ CC wr w.heap.size false none 0 0 none 0 0 ∧ OwZ wr W1.heap.size s A' n' c' y ∧ Hid (y = denF 1 (L.take j) ∧ W3.heap.size ≤ wr.heap.size) ∧ Below w.heap.size w wr) (fun iv _ => n - (intOf iv).toNat)
 case atStart => exact ⟨0, s2, A2, n2, c2, 1, rfl, Nat.zero_le _, hC, hR3, ho3, Lib.hid ⟨rfl, Nat.le_refl _⟩, hB3⟩
 case round =>
  clear hC hR3 ho3 hB3
  obtain ⟨j, s, A', n', c', y, rfl, hj, hC, hR, ho, hy, hB⟩ := hrel
  by_cases hjn : j = n
  ·have HDV := Lib.hid (show y = denL L by rw [hy.out.1, List.take_of_length_le (by rw [HLEN.out]; omega)])
   have HDN := Lib.hid (show n' ≤ M by rw [ho.len, hy.out.1]; exact HSZ.out j)
   have HSY := Lib.hid (show W3.heap.size ≤ wr.heap.size from hy.out.2)
   have HDP := Lib.hid (show 0 < y by rw [HDV.out]; exact denF_pos L 1 (by decide))
   subst hjn
   clear hy
   go_wp2_with fail
   go_loopw [29] (fun iv we => ∃ (i : Nat) (A5 : Option Addr) (c5 : Nat) (M5 : List Int), iv = .int .i64 i ∧ i ≤ j ∧ CC we gc s A' n' c' A5 i c5 ∧ CC we w.heap.size false none 0 0 none 0 0 ∧ OwZ we W1.heap.size s A' n' c' y ∧ OwZs we W1.heap.size A5 i c5 M5 ∧ Hid (M5 = (L.take i).map fun x => x.num * y.tdiv x.den) ∧ Hid (W3.heap.size ≤ we.heap.size) ∧ Below w.heap.size w we) (fun iv _ => j - (intOf iv).toNat)
   case atStart => exact ⟨0, none, 0, [], rfl, Nat.zero_le _, hC, hR, ho, OwZs.nil _ _, Lib.hid rfl, Lib.hid HSY.out, hB⟩
   case round =>
    clear hC hR ho hB
    obtain ⟨i, A5, c5, M5, rfl, hi5, hC, hR, ho, hoz, hM5, HSW, hB⟩ := hrel
    by_cases hij : i = j
    ·subst hij
     have HV := Lib.hid (show M5 = numL L by rw [hM5.out, List.take_of_length_le (by rw [HLEN.out]; exact Nat.le_refl _), HDV.out]; rfl)
     have r0 := hR.c0
     have r1 := hR.c1
     have r2 := hR.c2
     have f0 := hR.fz 0
     have f1 := hR.fz 1
     have f2 := hR.fz 2
     have a0 := hC.c0
     have a1 := hC.c1
     have a2 := hC.c2
     have HR9 := Lib.hid (hR.store s A' n' c' A5 i c5)
     have HO9 := Lib.hid (And.intro ((((ho.far (p := ⟨w.heap.size, 0, none⟩) HGR.out.1 (.bool s)).far (p := ⟨w.heap.size, 1, none⟩) HGR.out.1 (.slice A' n' c')).far (p := ⟨w.heap.size, 2, none⟩) HGR.out.1 (.slice A5 i c5)).base (b' := w.heap.size) (Nat.le_of_lt HGR.out.1)) ((((hoz.far (p := ⟨w.heap.size, 0, none⟩) HGR.out.1 (.bool s)).far (p := ⟨w.heap.size, 1, none⟩) HGR.out.1 (.slice A' n' c')).far (p := ⟨w.heap.size, 2, none⟩) HGR.out.1 (.slice A5 i c5)).base (b' := w.heap.size) (Nat.le_of_lt HGR.out.1)))
     have HB9 := Lib.hid (below_putC hB (Nat.le_refl w.heap.size) (.bool s) (.slice A' n' c') (.slice A5 i c5))
     clear hC hR ho hoz hB
     go_wp2_with fail
     generalize ((wr.setCell ⟨w.heap.size, 0, none⟩ (.bool s)).setCell ⟨w.heap.size, 1, none⟩ (.slice A' n' c')).setCell ⟨w.heap.size, 2, none⟩ (.slice A5 i c5) = W9 at *
     have z0 := HR9.out.c0
     have z1 := HR9.out.c1
     have z2 := HR9.out.c2
     exact bodyPost_ret (by simp [results, Tryz.results170, go_sem, z0, z1, z2]) rfl ⟨s, A', n', c', y, A5, i, c5, M5, 0, rfl, HO9.out.1, HO9.out.2, Lib.hid ⟨HDV.out, HV.out, rfl⟩, HB9.out⟩
    ·have hil : i < j := by omega
     clear hij
     have hili : (i : Int) < (j : Int) := by omega
     obtain ⟨ad, s1, A1, n1, c1, s4, A4, n4, c4, x, hA, hbk, hx0, hx1, hx2, hx3, hr1, hr2, hn1, hn2, hp⟩ := qp_at (HRD.out.next hB) hil
     subst hA
     obtain ⟨W4, HW4⟩ : ∃ W, W = wr.alloc (.cells #[.bool s1, .slice A1 n1 c1, .bool s4, .slice A4 n4 c4] 47) := ⟨_, rfl⟩
     have hb4 : Below wr.heap.size wr W4 := by rw [HW4]; exact (Below.refl _ _).alloc (Nat.le_refl _) _
     have hX4 : QC W4 wr.heap.size s1 A1 n1 c1 s4 A4 n4 c4 := by rw [HW4]; exact QC.new wr s1 A1 n1 c1 s4 A4 n4 c4
     have HC4 := Lib.hid (hC.next hb4)
     have b0 := HC4.out.c0
     have b1 := HC4.out.c1
     have a2 := hX4.c2
     have a3 := hX4.c3
     rw [HW4] at b0 b1 a2 a3
     have HX4 := Lib.hid hX4
     have HB4 := Lib.hid (hB.trans (hb4.mono hB.size))
     have HO4 := Lib.hid (And.intro (ho.next hb4) (And.intro (hoz.next hb4) (And.intro (hr1.next hb4) (hr2.next hb4))))
     have HR4 := Lib.hid (hR.next hb4)
     have HXS := Lib.hid (show wr.heap.size < W4.heap.size ∧ W3.heap.size ≤ wr.heap.size from ⟨hX4.lt, HSW.out⟩)
     have HW4 := Lib.hid HW4
     clear hC hR ho hoz hb4 hX4 hr1 hr2
     go_wp2_with fail
     rw [← HW4.out]
     clear HW4 hx0 hx1 hx2 hx3 b0 b1 a2 a3
     clear HW4
     generalize wr.heap.size = gx at *
     refine (exact_any HO4.out.1.rd HO4.out.2.2.2 (by have := HDN.out; omega) (by omega) (qden_ne x)).mono ?_
     rintro _ W5 ⟨s5, D5, n5, l5, q, e5, rfl, ho5, hq, hb5⟩
     have HQV := Lib.hid (show q = y.tdiv x.den by
      rcases hq.out with ⟨_, f2, _⟩ | ⟨f1, _, _⟩
      ·exact f2
      ·exact absurd (Int.tmod_eq_zero_of_dvd (by rw [HDV.out]; exact den_dvd L 1 x (List.mem_of_getElem? hp.out))) f1)
     obtain ⟨W6, HW6⟩ : ∃ W, W = W5.alloc (.cells #[.bool s5, .slice D5 n5 l5] 25) := ⟨_, rfl⟩
     have hb6 : Below W5.heap.size W5 W6 := by rw [HW6]; exact (Below.refl _ _).alloc (Nat.le_refl _) _
     have hQ6 : ZC W6 W5.heap.size s5 D5 n5 l5 := by rw [HW6]; exact ZC.new W5 s5 D5 n5 l5
     have hb46 := hb5.trans (hb6.mono hb5.size)
     have HB6 := Lib.hid (HB4.out.trans (hb46.mono HB4.out.size))
     have HB46 := Lib.hid hb46
     have HQN := Lib.hid (show n5 ≤ M by
      rw [ho5.len, HQV.out]
      refine Nat.le_trans (Zz.zl_tdiv _ _) ?_
      have := HO4.out.1.len
      have := HDN.out
      omega)
     have HQ6 := Lib.hid (And.intro hQ6 ((ho5.base (b' := W1.heap.size) (by have := HXS.out; have := HG3.out; have := HGR.out; have := hb5.size; omega)).next hb6))
     have HGQ := Lib.hid (show gc < W5.heap.size ∧ gx < W5.heap.size from ⟨by have := HXS.out; have := HG3.out; have := hb5.size; omega, by have := HXS.out; have := hb5.size; omega⟩)
     have HW6 := Lib.hid HW6
     clear ho5 hq hb5 hb6 hb46 hQ6
     go_upto_region 11 with fail
     rw [← HW6.out]
     clear HW6
     clear HW6
     generalize W5.heap.size = gq at *
     have HBD := Lib.hid (Below.refl W6.heap.size W6).drew
     have HC6 := Lib.hid (HC4.out.next HB46.out)
     have HXX := Lib.hid (show ∀ W : World, Below W6.heap.size W6 W → (CC W gc s A' n' c' A5 i c5 ∧ QC W gx s1 A1 n1 c1 s4 A4 n4 c4 ∧ ZC W gq s5 D5 n5 l5 ∧ CC W w.heap.size false none 0 0 none 0 0) ∧ RdZ W W.heap.size s1 A1 n1 c1 x.num ∧ OwZ W W1.heap.size s5 D5 n5 l5 q ∧ OwZs W W1.heap.size A5 i c5 M5 ∧ OwZ W W1.heap.size s A' n' c' y from fun W hb => ⟨⟨HC6.out.next hb, (HX4.out.next HB46.out).next hb, HQ6.out.1.next hb, (HR4.out.next HB46.out).next hb⟩, (HO4.out.2.2.1.next HB46.out).next hb, HQ6.out.2.next hb, (HO4.out.2.1.next HB46.out).next hb, (HO4.out.1.next HB46.out).next hb⟩)
     obtain ⟨⟨hC7, hX7, hQ7, _⟩, _⟩ := HXX.out W6 (Below.refl _ _)
     have x2 := hC7.c2
     have x3 := hX7.c0
     have x4 := hX7.c1
     have x5 := hQ7.c0
     have x6 := hQ7.c1
     obtain ⟨E, hE, hEl, hEn⟩ := HO4.out.2.1.next HB46.out
     have HE := Lib.hid hE
     have HEN := Lib.hid (And.intro hEl hEn)
     have HIL := Lib.hid hil
     clear hE hEl hEn hC7 hX7 hQ7 hil
     go_region_law (first
      | (refine step_append_lies _ rfl _ _ 65 rfl W1.heap.size 25 i0 (.agg #[.bool false, .slice none 0 0]) 2 32 Tryz.underlying65 hi hz0 hz1 hz2 rfl (by decide) _ _ _ rfl ((row_next HE.out HB7.out).alloc _) ⟨W7.heap.size, 0, none⟩ 1 1 [.bool s7, .slice A7 n7 c7] rfl rfl (zcell_new _ _ _ _) (by simp [Value.oneCell']) (by omega) (by have := HIL.out; unfold maxLen; omega) (by have := HIL.out; omega) HSZ7.out _ rfl ?_; intro g9 c9 W9 hown9 hgrow9 _ _; have hC9 := cc_grown ((row_next HE.out HB7.out).alloc _) hgrow9 (((HXX.out _ HB7.out).1.1).next ((Below.refl _ _).alloc (Nat.le_refl _) (.cells #[.bool s7, .slice A7 n7 c7] 25))); have k2 := hC9.c2; have k3 := hC9.fz 2)
      | (go_simp; go_at_call 146; refine (imul_any (HXX.out _ HBD.out).2.1 (HXX.out _ HBD.out).2.2.1.rd (by omega) (by have := HQN.out; omega)).mono ?_; rintro _ W7 ⟨s7, A7, n7, c7, z7, rfl, ho7, hz7, hb7⟩; have HB7 := Lib.hid (HBD.out.trans hb7); have l2 := (HXX.out _ HB7.out).1.1.c2; have l3 := (((HXX.out _ HB7.out).1.1).next ((Below.refl _ _).alloc (Nat.le_refl _) (.cells #[.bool s7, .slice A7 n7 c7] 25))).c2; have HSZ7 := Lib.hid (show W1.heap.size ≤ (W7.alloc (.cells #[.bool s7, .slice A7 n7 c7] 25)).heap.size by { have h1 := HGR.out; have h2 := HGQ.out; have h3 := HQ6.out.1.lt; have h4 := HB7.out.size; simp; omega })))
     all_goals
      have hB7 := HB6.out.trans (HB7.out.mono HB6.out.size)
      have hk9 := keepT_grownZ ((row_next HE.out HB7.out).alloc (.cells #[.bool s7, .slice A7 n7 c7] 25)) hgrow9
      have hr9 := cc_grown ((row_next HE.out HB7.out).alloc (.cells #[.bool s7, .slice A7 n7 c7] 25)) hgrow9 ((HXX.out _ HB7.out).1.2.2.2.next ((Below.refl _ _).alloc (Nat.le_refl _) (.cells #[.bool s7, .slice A7 n7 c7] 25)))
      have hy9 := ((HXX.out _ HB7.out).2.2.2.2.next ((Below.refl _ _).alloc (Nat.le_refl _) (.cells #[.bool s7, .slice A7 n7 c7] 25))).keep hk9
      have hmore := zs_more (A := A5) (n := i) (c := c5) (b := W1.heap.size) (e := (s7, A7, n7, c7)) (z := z7) (t := 25) (w := W7) (w1 := W9) (E := E) (L := M5) (v' := .slice (some ⟨g9, 0, none⟩) (i + 1) c9) (ho7.base (by have h1 := HGR.out; have h2 := HGQ.out; have h3 := HQ6.out.1.lt; have h4 := HBD.out.size; omega)) rfl ((row_next HE.out HB7.out).alloc _) HEN.out.1 (HEN.out.2.next HB7.out) hown9 hgrow9
      have hBB := (hB7.alloc hB7.size (.cells #[.bool s7, .slice A7 n7 c7] 25)).grown hgrow9 (by have := hB7.size; simp; omega) (fun k hk => Nat.le_trans (Nat.le_of_lt HGR.out.1) (own_block HE.out k hk))
      obtain ⟨A9, c9', e9, ho9⟩ := hmore
      injection e9 with e9 _ e9'
      subst e9 e9'
      have HM9 := Lib.hid (show M5 ++ [z7] = (L.take (i + 1)).map (fun x => x.num * y.tdiv x.den) by rw [List.take_add_one, hp.out, List.map_append, hM5.out, hz7.out, HQV.out]; rfl)
      have HC9 := Lib.hid (hC9.store1 (some ⟨g9, 0, none⟩) (i + 1) c9)
      have HR9 := Lib.hid (hr9.far (p := ⟨gc, 2, none⟩) (by have := HGR.out; simp; omega) (.slice (some ⟨g9, 0, none⟩) (i + 1) c9))
      have HO9 := Lib.hid (And.intro (hy9.keep (keep_setC (j := 2) hC9 (.slice (some ⟨g9, 0, none⟩) (i + 1) c9))) (zs_setC (j := 2) ho9 hC9 (.slice (some ⟨g9, 0, none⟩) (i + 1) c9)))
      have HB9 := Lib.hid (hBB.setCell (p := ⟨gc, 2, none⟩) (by have := HGR.out; show w.heap.size ≤ gc; omega) (.slice (some ⟨g9, 0, none⟩) (i + 1) c9))
      have HS9 := Lib.hid (show W3.heap.size ≤ (W9.setCell ⟨gc, 2, none⟩ (.slice (some ⟨g9, 0, none⟩) (i + 1) c9)).heap.size by
       have h1 := HB6.out.size
       have h2 := HB7.out.size
       have h3 := HXS.out
       have h4 := HB46.out.size
       have h5 := hgrow9.size
       simp at h5 ⊢
       omega)
      clear hC9 hr9 hy9 hk9 hBB ho9 hown9 hgrow9 hB7 k2 k3 x2 x3 x4 x5 x6 hb7 ho7 hz7 l2 l3
      go_wp2
      generalize W9.setCell ⟨gc, 2, none⟩ (.slice (some ⟨g9, 0, none⟩) (i + 1) c9) = V9 at *
      go_roundw
      case rel => exact ⟨i + 1, some ⟨g9, 0, none⟩, c9, M5 ++ [z7], by go_num, by have := HIL.out; omega, HC9.out, HR9.out, HO9.out.1, HO9.out.2, HM9, HS9, HB9.out⟩
      case measure => simp [intOf]; have := HIL.out; omega
  ·have hjl : j < n := by omega
   clear hjn
   have hjli : (j : Int) < (n : Int) := by omega
   obtain ⟨ad, s1, A1, n1, c1, s4, A4, n4, c4, x, hA, hbk, hx0, hx1, hx2, hx3, hr1, hr2, hn1, hn2, hp⟩ := qp_at (HRD.out.next hB) hjl
   subst hA
   have HYP := Lib.hid (show 0 < y by rw [hy.out.1]; exact denF_pos _ 1 (by decide))
   have HYN := Lib.hid (show Zz.zl y ≤ M ∧ Zz.zl ((Nat.lcm y.natAbs x.den : Nat) : Int) ≤ M from ⟨by rw [hy.out.1]; exact HSZ.out j, by rw [hy.out.1, ← denF_take hp.out]; exact HSZ.out (j + 1)⟩)
   obtain ⟨W4, HW4⟩ : ∃ W, W = wr.alloc (.cells #[.bool s1, .slice A1 n1 c1, .bool s4, .slice A4 n4 c4] 47) := ⟨_, rfl⟩
   have hb4 : Below wr.heap.size wr W4 := by rw [HW4]; exact (Below.refl _ _).alloc (Nat.le_refl _) _
   have hX4 : QC W4 wr.heap.size s1 A1 n1 c1 s4 A4 n4 c4 := by rw [HW4]; exact QC.new wr s1 A1 n1 c1 s4 A4 n4 c4
   have hC4 := hC.next hb4
   obtain ⟨W5, HW5⟩ : ∃ W, W = W4.alloc (.cells #[.bool s, .slice A' n' c', .bool s4, .slice A4 n4 c4] 25) := ⟨_, rfl⟩
   have hb5 : Below W4.heap.size W4 W5 := by rw [HW5]; exact (Below.refl _ _).alloc (Nat.le_refl _) _
   have hq := zs_two (N := max N M) (ho.next hb4).rd (hr2.next hb4) (by rw [ho.len]; have := HYN.out; omega) (by omega) HW5
   have hs4 : W4.heap.size = wr.heap.size + 1 := by rw [HW4]; simp
   have hb45 := hb4.trans (hb5.mono hb4.size)
   have b0 := hC4.c0
   have b1 := hC4.c1
   have a2 := hX4.c2
   have a3 := hX4.c3
   rw [hs4] at hq
   rw [HW4] at b0 b1 a2 a3 HW5
   have HQ := Lib.hid hq
   have HC5 := Lib.hid (hC.next hb45)
   have HR5 := Lib.hid (hR.next hb45)
   have HB5 := Lib.hid (hB.trans (hb45.mono hB.size))
   have HW35 := Lib.hid (show W3.heap.size ≤ W5.heap.size from Nat.le_trans hy.out.2 hb45.size)
   have HYV := Lib.hid hy.out.1
   have HW5 := Lib.hid HW5
   clear hC hR ho hb4 hb5 hb45 hX4 hC4 hr1 hr2 hq hs4 hB hy HW4
   go_wp2_with fail
   rw [← HW5.out]
   clear HW5 hx0 hx1 hx2 hx3 b0 b1 a2 a3
   clear HW5
   refine (lcml_any (N := max N M) (M := M + 1) HQ.out (fun u hu => by
    simp at hu
    rcases hu with rfl | rfl
    ·exact HYP.out
    ·have := x.den_pos; omega) (by omega) (by omega) (fun t => by
    match t with
    | 0 =>
      show Zz.zl 1 ≤ M + 1
      exact Nat.le_trans (Zz.zl_small (by decide)) (by omega)
    | 1 =>
      have e : ([y, (x.den : Int)].take 1).foldl (fun (g x : Int) => ((Nat.lcm g.natAbs x.natAbs : Nat) : Int)) 1 = (y.natAbs : Int) := by simp [Nat.lcm_one_left]
      rw [e, Zz.zl_abs]
      have := HYN.out.1
      omega
    | t + 2 =>
      rw [List.take_of_length_le (by simp), two_lcm HYP.out]
      have := HYN.out.2
      omega)).mono ?_
   rintro _ W6 ⟨s6, A6, n6, c6, y6, rfl, ho6, hy6, hb6⟩
   have hC6 := HC5.out.next hb6
   have g0 := hC6.c0
   have g1 := hC6.c1
   have f0 := hC6.fz 0
   have f1 := hC6.fz 1
   have HC9 := Lib.hid (hC6.store2 s6 A6 n6 c6)
   have HR9 := Lib.hid (((HR5.out.next hb6).far (p := ⟨gc, 0, none⟩) (by have := HGR.out; simp; omega) (.bool s6)).far (p := ⟨gc, 1, none⟩) (by have := HGR.out; simp; omega) (.slice A6 n6 c6))
   have HO9 := Lib.hid ((ho6.base (b' := W1.heap.size) (by have := HW35.out; have := HG3.out; have := HGR.out; omega)).keep (keep_setC2 hC6 (.bool s6) (.slice A6 n6 c6)))
   have HB9 := Lib.hid (below_put2 (HB5.out.trans (hb6.mono HB5.out.size)) (show w.heap.size ≤ gc by have := HGR.out; omega) (.bool s6) (.slice A6 n6 c6))
   have HV9 := Lib.hid (show y6 = denF 1 (L.take (j + 1)) by rw [hy6.out, two_lcm HYP.out, denF_take hp.out, HYV.out])
   have HS9 := Lib.hid (show W3.heap.size ≤ ((W6.setCell ⟨gc, 0, none⟩ (.bool s6)).setCell ⟨gc, 1, none⟩ (.slice A6 n6 c6)).heap.size by have := HW35.out; have := hb6.size; simp; omega)
   clear hC6 ho6 hb6 hy6
   go_wp2_with fail
   generalize (W6.setCell ⟨gc, 0, none⟩ (.bool s6)).setCell ⟨gc, 1, none⟩ (.slice A6 n6 c6) = W9 at *
   go_roundw
   case rel => exact ⟨j + 1, s6, A6, n6, c6, y6, by go_num, by omega, HC9.out, HR9.out, HO9.out, Lib.hid ⟨HV9.out, HS9.out⟩, HB9.out⟩
   case measure => simp [intOf]; omega
end Go.Proofs.YtjnklbfhelbjgaaGreat

/- Reference 05: numbers as fractions; law 09: polynomials of written numbers. -/
namespace Go.Proofs.YtjnklbfhelbjgaaGreat
open Go.RowKit Go.IntWalk
attribute [local go_sem ↓] Go.wp_at_zero Go.wp_at_succ
def RetV4 (x : Rat) (w : World) (e : Ending) (w' : World) : Prop :=
 ∃ (s : Bool) (A : Option Addr) (n c : Nat) (s' : Bool) (A' : Option Addr) (n' c' : Nat) (y : Rat), e = .returned (.agg #[.bool s, .slice A n c, .bool s', .slice A' n' c']) ∧ OwQ w' w.heap.size s A n c s' A' n' c' y ∧ Hid (y = x) ∧ Below w.heap.size w w'
set_option maxRecDepth 100000 in
set_option maxHeartbeats 2000000 in
theorem rQOf_any (z : Int) (h1 : -9223372036854775808 ≤ z) (h2 : z < 9223372036854775808) (w : World) :
  Calls Tryz.prog 55 #[.int .i64 z] w (RetV4 (z : Rat) w) := by
 obtain ⟨W1, HW1⟩ : ∃ W, W = w.alloc (.cells #[.bool false, .slice none 0 0, .bool false, .slice none 0 0] 47) := ⟨_, rfl⟩
 have hR : QC W1 w.heap.size false none 0 0 false none 0 0 := by rw [HW1]; exact QC.new w false none 0 0 false none 0 0
 have hB : Below w.heap.size w W1 := by rw [HW1]; exact (Below.refl _ _).alloc (Nat.le_refl _) _
 have HW1 := Lib.hid HW1
 go_enter Tryz.func55, Tryz.ntmps55
 go_wp2_with fail
 rw [← HW1.out]
 clear HW1
 clear HW1
 refine (rIOf_any z h1 h2 W1).mono ?_
 rintro _ W2 ⟨s2, A2, n2, c2, y2, rfl, ho2, hy2, hb2⟩
 go_wp2_with fail
 refine (rIOf_any 1 (by decide) (by decide) W2).mono ?_
 rintro _ W3 ⟨s3, A3, n3, c3, y3, rfl, ho3, hy3, hb3⟩
 have hb13 := hb2.trans (hb3.mono hb2.size)
 have hR3 := hR.next hb13
 have hB3 := hB.trans (hb13.mono hB.size)
 have HO := Lib.hid (show OwQ W3 w.heap.size s2 A2 n2 c2 s3 A3 n3 c3 (z : Rat) from ⟨by have := (ho2.next hb3).base hB.size; rw [hy2.out] at this; exact this, by have := ho3.base (b' := w.heap.size) (Nat.le_trans hB.size hb2.size); rw [hy3.out] at this; exact this⟩)
 have r0 := hR3.c0
 have r1 := hR3.c1
 have r2 := hR3.c2
 have r3 := hR3.c3
 have f0 := hR3.fz 0
 have f1 := hR3.fz 1
 have f2 := hR3.fz 2
 have f3 := hR3.fz 3
 have HR9 := Lib.hid (hR3.store s2 A2 n2 c2 s3 A3 n3 c3)
 have HO9 := Lib.hid (HO.out.keep (keep_putQ hR3 s2 A2 n2 c2 s3 A3 n3 c3))
 have HB9 := Lib.hid (below_putQ hB3 (Nat.le_refl w.heap.size) s2 A2 n2 c2 s3 A3 n3 c3)
 unfold putQ at HR9 HB9 HO9
 clear hR hR3 hB hB3 hb2 hb3 hb13 ho2 ho3 hy2 hy3
 go_wp2_with fail
 generalize (((W3.setCell ⟨w.heap.size, 0, none⟩ (.bool s2)).setCell ⟨w.heap.size, 1, none⟩ (.slice A2 n2 c2)).setCell ⟨w.heap.size, 2, none⟩ (.bool s3)).setCell ⟨w.heap.size, 3, none⟩ (.slice A3 n3 c3) = W9 at *
 have z0 := HR9.out.c0
 have z1 := HR9.out.c1
 have z2 := HR9.out.c2
 have z3 := HR9.out.c3
 exact bodyPost_ret (by simp [results, Tryz.results55, go_sem, z0, z1, z2, z3]) rfl ⟨_, _, _, _, _, _, _, _, _, rfl, HO9.out, Lib.hid rfl, HB9.out⟩
end Go.Proofs.YtjnklbfhelbjgaaGreat

/- Reference 05: in lowest terms. -/
namespace Go.Proofs.YtjnklbfhelbjgaaGreat
open Go.RowKit Go.IntWalk
attribute [local go_sem ↓] Go.wp_at_zero Go.wp_at_succ
end Go.Proofs.YtjnklbfhelbjgaaGreat

/- Reference 05: the normal form, the sign, does it mean something. -/
namespace Go.Proofs.YtjnklbfhelbjgaaGreat
open Go.RowKit Go.IntWalk
attribute [local go_sem ↓] Go.wp_at_zero Go.wp_at_succ
end Go.Proofs.YtjnklbfhelbjgaaGreat

/- Reference 05: product and sum. -/
namespace Go.Proofs.YtjnklbfhelbjgaaGreat
open Go.RowKit Go.IntWalk
attribute [local go_sem ↓] Go.wp_at_zero Go.wp_at_succ
end Go.Proofs.YtjnklbfhelbjgaaGreat

/- A block of fractions that is known whole; reference 09: a coefficient, the normal form. -/
namespace Go.Proofs.YtjnklbfhelbjgaaGreat
open Go.RowKit Go.IntWalk
attribute [local go_sem ↓] Go.wp_at_zero Go.wp_at_succ
def QB (w : World) (g : Nat) (E : List (Ent × Ent)) : Prop := w.heap[g]? = some (.cells (qcs E).toArray 47 (0, 0))
def EntJ (w : World) (b : Nat) (E : List (Ent × Ent)) (f : Nat → Rat) (m : Nat) : Prop := ∀ (i : Nat) (e : Ent × Ent), E[i]? = some e → i < m → OwQ w b e.1.1 e.1.2.1 e.1.2.2.1 e.1.2.2.2 e.2.1 e.2.2.1 e.2.2.2.1 e.2.2.2.2 (f i)
def setQ (w : World) (g j : Nat) (e : Ent × Ent) : World := (((w.setCell ⟨g, j * 4, none⟩ (.bool e.1.1)).setCell ⟨g, j * 4 + 1, none⟩ (.slice e.1.2.1 e.1.2.2.1 e.1.2.2.2)).setCell ⟨g, j * 4 + 2, none⟩ (.bool e.2.1)).setCell ⟨g, j * 4 + 3, none⟩ (.slice e.2.2.1 e.2.2.2.1 e.2.2.2.2)
theorem qcs_set (E : List (Ent × Ent)) (j : Nat) (e : Ent × Ent) : qcs (E.set j e) = ((((qcs E).set (j * 4) (.bool e.1.1)).set (j * 4 + 1) (.slice e.1.2.1 e.1.2.2.1 e.1.2.2.2)).set (j * 4 + 2) (.bool e.2.1)).set (j * 4 + 3) (.slice e.2.2.1 e.2.2.2.1 e.2.2.2.2) := by
 induction E generalizing j with
 | nil => rfl
 | cons x E ih =>
   cases j with
   | zero => rw [List.set_cons_zero, qcs_cons, qcs_cons]; rfl
   | succ j =>
     rw [List.set_cons_succ, qcs_cons, qcs_cons, ih]
     rw [show (j + 1) * 4 = j * 4 + 4 by omega]
     rfl
section
variable {w w' : World} {g b b' : Nat} {E : List (Ent × Ent)} {f : Nat → Rat} {m : Nat}
theorem QB.lt (h : QB w g E) : g < w.heap.size := (Array.getElem?_eq_some_iff.1 h).1
theorem QB.frozen (h : QB w g E) (j : Nat) : w.frozen? ⟨g, j, none⟩ = false := frozen_of_row w g j _ _ h
theorem QB.cells (h : QB w g E) {j : Nat} {e : Ent × Ent} (he : E[j]? = some e) : w.cell? ⟨g, j * 4, none⟩ = some (.bool e.1.1) ∧ w.cell? ⟨g, j * 4 + 1, none⟩ = some (.slice e.1.2.1 e.1.2.2.1 e.1.2.2.2) ∧ w.cell? ⟨g, j * 4 + 2, none⟩ = some (.bool e.2.1) ∧ w.cell? ⟨g, j * 4 + 3, none⟩ = some (.slice e.2.2.1 e.2.2.2.1 e.2.2.2.2) := by
 have hq := qcs_at E j e he
 have hc : ∀ i, i < 4 → ∀ v, (qc e)[i]? = some v → w.cell? ⟨g, j * 4 + i, none⟩ = some v := fun i hi v hv => by
  rw [cell_of_row w g _ _ _ _ h]
  simpa using (hq i hi).trans hv
 exact ⟨hc 0 (by omega) _ rfl, hc 1 (by omega) _ rfl, hc 2 (by omega) _ rfl, hc 3 (by omega) _ rfl⟩
theorem QB.store (h : QB w g E) (j : Nat) (e : Ent × Ent) : QB (setQ w g j e) g (E.set j e) := by
 unfold QB setQ at *
 rw [qcs_set]
 simp [World.setCell, Array.getElem?_modify, h]
theorem QB.next (h : QB w g E) (hb : Below w.heap.size w w') : QB w' g E := (hb.block g h.lt).trans h
theorem keep_setQ {g : Nat} {cs : Array Value} {t : TypeId} {fr : Nat × Nat} (ht : t ≠ 171) (h : w.heap[g]? = some (.cells cs t fr)) (j : Nat) (e : Ent × Ent) : KeepT w (setQ w g j e) := fun i cs' f' hi => by
 have hne : i ≠ g := by
  rintro rfl
  rw [h] at hi
  injection hi with hi
  injection hi with _ hi
  exact ht hi
 unfold setQ
 rw [Below.heap_setCell _ (⟨g, j * 4 + 3, none⟩ : Addr) _ i hne, Below.heap_setCell _ (⟨g, j * 4 + 2, none⟩ : Addr) _ i hne, Below.heap_setCell _ (⟨g, j * 4 + 1, none⟩ : Addr) _ i hne, Below.heap_setCell _ (⟨g, j * 4, none⟩ : Addr) _ i hne]
 exact hi
theorem QB.keep (h : QB w g E) (j : Nat) (e : Ent × Ent) : KeepT w (setQ w g j e) := keep_setQ (by decide) h j e
theorem below_setQ {B : Nat} (hb : Below B w w') (hg : B ≤ g) (j : Nat) (e : Ent × Ent) : Below B w (setQ w' g j e) :=
 (((hb.setCell (p := ⟨g, j * 4, none⟩) hg _).setCell (p := ⟨g, j * 4 + 1, none⟩) hg _).setCell (p := ⟨g, j * 4 + 2, none⟩) hg _).setCell (p := ⟨g, j * 4 + 3, none⟩) hg _
theorem EntJ.next (h : EntJ w b E f m) (hb : Below w.heap.size w w') : EntJ w' b E f m := fun i e he hi => (h i e he hi).next hb
theorem EntJ.keep (h : EntJ w b E f m) (hk : KeepT w w') : EntJ w' b E f m := fun i e he hi => (h i e he hi).keep hk
theorem EntJ.store (h : EntJ w b E f m) (hz : QB w g E) {e : Ent × Ent} (he : OwQ w b e.1.1 e.1.2.1 e.1.2.2.1 e.1.2.2.2 e.2.1 e.2.2.1 e.2.2.2.1 e.2.2.2.2 (f m)) : EntJ (setQ w g m e) b (E.set m e) f (m + 1) := by
 intro i e' h' hi
 by_cases hij : i = m
 ·subst hij
  have hl : i < E.length := by
   rcases Nat.lt_or_ge i E.length with h1 | h1
   ·exact h1
   ·rw [List.getElem?_eq_none (by rw [List.length_set]; exact h1)] at h'; cases h'
  rw [List.getElem?_set_self hl] at h'
  injection h' with h'
  subst h'
  exact he.keep (hz.keep i e)
 ·rw [List.getElem?_set_ne (Ne.symm hij)] at h'
  exact (h i e' h' (by omega)).keep (hz.keep m e)
theorem QB.own (h : QB w g E) (hE : EntJ w b E f m) (hb : b ≤ g) (hm : E.length = m) (hx : m ≤ maxLen) : OwQp w b (some ⟨g, 0, none⟩) m m ((List.range m).map f) := by
 refine ⟨E, hm, ⟨by simp [hm], fun j e z he hz => ?_⟩, Nat.le_refl _, hx, .inr ⟨g, _, rfl, hb, h, fun i v hv => by simpa using hv⟩⟩
 have hj : j < m := by
  rcases Nat.lt_or_ge j m with h1 | h1
  ·exact h1
  ·rw [List.getElem?_eq_none (by omega)] at he; cases he
 rw [List.getElem?_map, List.getElem?_range hj] at hz
 simp at hz
 rw [← hz]
 exact hE j e he hj
end
def zq : Ent × Ent := ((false, none, 0, 0), (false, none, 0, 0))
theorem qcs_zeros (n : Nat) : (qcs (List.replicate n zq)).toArray = madeCells #[.bool false, .slice none 0 0, .bool false, .slice none 0 0] (n * 4) := by
 apply Array.ext
 ·simp [qcs_len, size_madeCells]
 ·intro i h1 h2
  have hi : i < n * 4 := by simpa [qcs_len] using h1
  have hj : i / 4 < n := by omega
  have hq := qcs_at (List.replicate n zq) (i / 4) zq (by simp [hj]) (i % 4) (by omega)
  rw [show i / 4 * 4 + i % 4 = i by omega, List.getElem?_eq_getElem (by rw [qcs_len]; simpa using hi)] at hq
  simp only [List.getElem_toArray]
  have h4 : i % 4 < 4 := by omega
  have e0 : some ((qcs (List.replicate n zq))[i]'(by rw [qcs_len]; simpa using hi)) = (#[Value.bool false, .slice none 0 0, .bool false, .slice none 0 0])[i % 4]? := by
   rw [hq]
   rcases (show i % 4 = 0 ∨ i % 4 = 1 ∨ i % 4 = 2 ∨ i % 4 = 3 by omega) with e | e | e | e <;> rw [e] <;> rfl
  have e1 : (madeCells #[Value.bool false, .slice none 0 0, .bool false, .slice none 0 0] (n * 4))[i] = (#[Value.bool false, .slice none 0 0, .bool false, .slice none 0 0])[i % 4]'h4 := by
   simp [madeCells]
   rw [List.getElem?_eq_getElem h4]
   rfl
  rw [Array.getElem?_eq_getElem h4] at e0
  injection e0 with e0
  rw [e0, e1]
theorem make_qs {t : TypeId} (ht : Tryz.prog.underlying t = some (.slice 47)) (n : Nat) (hn : n ≤ 1099511627776) (w : World) :
  (Instr.makeSlice t (.int .i64 (n : Int)) (.int .i64 (n : Int))).run Tryz.prog w = .ok (.slice (some ⟨w.heap.size, 0, none⟩) n n) (w.alloc (.cells (qcs (List.replicate n zq)).toArray 47)) := by
 obtain ⟨i0, hi, hz0, hz1, hz2⟩ := info_parts infoQ
 have h := run_make (P := Tryz.prog) w t 47 i0 _ ht hi hz0 .i64 .i64 (n : Int) (n : Int) (by omega) (Int.le_refl _) (by rw [hz2]; omega) (by omega)
 rw [hz1] at h
 rw [qcs_zeros]
 exact h
theorem QB.made (w : World) (n : Nat) : QB (w.alloc (.cells (qcs (List.replicate n zq)).toArray 47)) w.heap.size (List.replicate n zq) := heap_alloc_new w _
theorem EntJ.zero (w : World) (b : Nat) (E : List (Ent × Ent)) (f : Nat → Rat) : EntJ w b E f 0 := fun _ _ _ hi => absurd hi (Nat.not_lt_zero _)
end Go.Proofs.YtjnklbfhelbjgaaGreat

/- Reference 09: sum, product with a number, difference. -/
namespace Go.Proofs.YtjnklbfhelbjgaaGreat
open Go.RowKit Go.IntWalk
attribute [local go_sem ↓] Go.wp_at_zero Go.wp_at_succ
theorem map_qval_pr (M : List Rat) : (M.map pr).map qval = M := by rw [List.map_map, show (qval ∘ pr) = id from funext qval_pr, List.map_id]
end Go.Proofs.YtjnklbfhelbjgaaGreat
