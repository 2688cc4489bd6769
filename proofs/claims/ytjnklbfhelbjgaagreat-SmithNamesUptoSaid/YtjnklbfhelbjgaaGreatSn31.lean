/- rat.made of a function that hands out its argument's own words; rat.Neg. -/
import Derived.Test.YtjnklbfhelbjgaaGreatSn17
import Derived.Test.YtjnklbfhelbjgaaGreatSn16
import Derived.Test.YtjnklbfhelbjgaaGreatSn13
import Derived.Test.YtjnklbfhelbjgaaGreatSn19
import Derived.Test.YtjnklbfhelbjgaaGreatSn08
import Derived.Test.YtjnklbfhelbjgaaGreatSn09
namespace Go.Proofs.YtjnklbfhelbjgaaGreat
open Go.RowKit Go.IntWalk
attribute [local go_sem ↓] Go.wp_at_zero Go.wp_at_succ
def RetZD2B (b : Nat) (z d k : Int) (w : World) (e : Ending) (w' : World) : Prop :=
 ∃ (s : Bool) (A : Option Addr) (n c : Nat) (y : Int) (s' : Bool) (A' : Option Addr) (n' c' : Nat) (y' : Int) (kk : Int), e = .returned (.tuple #[.agg #[.bool s, .slice A n c, .bool s', .slice A' n' c'], .int .i64 kk]) ∧ OwZ w' b s A n c y ∧ OwZ w' b s' A' n' c' y' ∧ Hid (y = z ∧ y' = d ∧ kk = k) ∧ Below w.heap.size w w'
set_option maxRecDepth 100000 in
set_option maxHeartbeats 8000000 in
theorem made_base {f N : Nat} {A : Option Addr} {n c : Nat} {L : List (Int × Int)} {w : World} {z d k : Int} (h : RdQs w w.heap.size N A n c L) (hn : n ≤ 1048576) (hN : N ≤ 1000000000000) (heg : ∀ args w, (callFunc f args).run Tryz.prog w = .ok (.enter f args) w)
  (hdo : (∀ p ∈ L, p.2 ≠ 0) → ∀ (W : World) (A' : Option Addr) (c' : Nat) (b : Nat), Below w.heap.size w W → w.heap.size ≤ b → b ≤ W.heap.size → OwQs W b A' n c' (L.map qval) → Calls Tryz.prog f #[.slice A' n c'] W (RetZD2B w.heap.size z d k W)) :
  Calls Tryz.prog 85 #[.func (.func f) #[] #[], .slice A n c] w fun e w' => ((∀ p ∈ L, p.2 ≠ 0) ∧ RetZD2 z d k w e w') ∨ ((∃ p ∈ L, p.2 = 0) ∧ RetQ0 6 w e w') := by
 have HD := Lib.hid hdo
 have HLEN := Lib.hid h.len
 have hmk := fun W : World => make_qroom n (by omega) W
 obtain ⟨i0, hi, hz0, hz1, hz2⟩ := info_parts infoQ
 have hX0 := QC.new w false none 0 0 false none 0 0
 have hb0 : Below w.heap.size w (w.alloc (.cells #[.bool false, .slice none 0 0, .bool false, .slice none 0 0] 47)) := (Below.refl _ _).alloc (Nat.le_refl _) _
 obtain ⟨W0, HW0⟩ : ∃ W, W = (w.alloc (.cells #[.bool false, .slice none 0 0, .bool false, .slice none 0 0] 47)).alloc (.cells #[.bool false, .slice none 0 0, .bool false, .slice none 0 0] 47) := ⟨_, rfl⟩
 obtain ⟨hR0, hZ0, hB0⟩ := q_box1 w false none 0 0 false none 0 0 W0 HW0
 have hs0 : W0.heap.size = w.heap.size + 1 + 1 := by rw [HW0]; simp
 obtain ⟨W1, HW1⟩ : ∃ W, W = W0.alloc (.cells (madeCells #[.bool false, .slice none 0 0, .bool false, .slice none 0 0] (n * 4)) 47) := ⟨_, rfl⟩
 have hb1 : Below W0.heap.size W0 W1 := by rw [HW1]; exact (Below.refl _ _).alloc (Nat.le_refl _) _
 have hO1 : OwQs W1 W0.heap.size (some ⟨W0.heap.size, 0, none⟩) 0 n [] := by rw [HW1]; exact OwQs.room W0 n (by unfold maxLen; omega)
 have HRZ := Lib.hid (show ∀ W : World, Below W0.heap.size W0 W → QC W w.heap.size false none 0 0 false none 0 0 ∧ QC W (w.heap.size + 1) false none 0 0 false none 0 0 from fun W hb => ⟨hR0.next hb, hZ0.next hb⟩)
 have HB0 := Lib.hid hB0
 have HS0 := Lib.hid hs0
 rw [hs0] at hO1
 rw [HW0] at HW1
 have HW1 := Lib.hid HW1
 clear hdo hX0 hb0 hR0 hZ0 hB0 hs0 HW0
 go_enter Tryz.func85, Tryz.ntmps85
 go_wp2_with fail
 rw [← HW1.out]
 clear HW1
 clear HW1
 have HLT := Lib.hid (show w.heap.size + 1 < W0.heap.size by rw [HS0.out]; exact Nat.lt_succ_self _)
 rw [← HS0.out] at hO1
 go_loopw [7, 17] (fun ov iv wr => ∃ (j c' : Nat) (A' : Option Addr) (M : List Rat), ov = .slice A' j c' ∧ iv = .int .i64 j ∧ j ≤ n ∧ OwQs wr W0.heap.size A' j c' M ∧ Hid (M = (L.take j).map qval) ∧ Hid (∀ (i : Nat) (p : Int × Int), i < j → L[i]? = some p → p.2 ≠ 0) ∧ Below W0.heap.size W0 wr) (fun _ iv _ => n - (intOf iv).toNat)
 case atStart => exact ⟨0, n, _, [], by rw [HS0.out], rfl, Nat.zero_le _, hO1, Lib.hid rfl, Lib.hid fun i p hi => absurd hi (Nat.not_lt_zero _), hb1⟩
 case round =>
  clear hO1 hb1
  obtain ⟨j, c', A', M, rfl, rfl, hj, ho, hM, hne, hB⟩ := hrel
  by_cases hjn : j = n
  ·subst hjn
   have HALL := Lib.hid (show ∀ p ∈ L, p.2 ≠ 0 from fun p hp => by
    obtain ⟨i, hi, e⟩ := List.mem_iff_getElem.1 hp
    exact hne.out i p (by rw [← HLEN.out]; exact hi) (by rw [List.getElem?_eq_getElem hi, e]))
   have HBW := Lib.hid (HB0.out.trans (hB.mono HB0.out.size))
   have HO := Lib.hid (show OwQs wr W0.heap.size A' j c' (L.map qval) by rw [← List.take_of_length_le (l := L) (by rw [HLEN.out]; exact Nat.le_refl _), ← hM.out]; exact ho)
   have HR := Lib.hid (HRZ.out _ hB).1
   have HLW := Lib.hid hB.size
   clear ho hB hM hne
   go_wp2_with fail
   refine (HD.out HALL.out wr A' c' _ HBW.out HB0.out.size HLW.out HO.out).mono ?_
   rintro _ W5 ⟨s5, A5, n5, c5, y5, s6, A6, n6, c6, y6, kk, rfl, ho5, ho6, hy, hb5⟩
   have hR5 := HR.out.next hb5
   have r0 := hR5.c0
   have r1 := hR5.c1
   have r2 := hR5.c2
   have r3 := hR5.c3
   have f0 := hR5.fz 0
   have f1 := hR5.fz 1
   have f2 := hR5.fz 2
   have f3 := hR5.fz 3
   have HR9 := Lib.hid (hR5.store s5 A5 n5 c5 s6 A6 n6 c6)
   have HO9 := Lib.hid (And.intro (ho5.keep (keep_putQ hR5 s5 A5 n5 c5 s6 A6 n6 c6)) (ho6.keep (keep_putQ hR5 s5 A5 n5 c5 s6 A6 n6 c6)))
   have HB9 := Lib.hid (below_putQ (HBW.out.trans (hb5.mono HBW.out.size)) (Nat.le_refl w.heap.size) s5 A5 n5 c5 s6 A6 n6 c6)
   unfold putQ at HR9 HB9 HO9
   clear ho5 ho6 hb5 hR5
   go_wp2_with fail
   generalize (((W5.setCell ⟨w.heap.size, 0, none⟩ (.bool s5)).setCell ⟨w.heap.size, 1, none⟩ (.slice A5 n5 c5)).setCell ⟨w.heap.size, 2, none⟩ (.bool s6)).setCell ⟨w.heap.size, 3, none⟩ (.slice A6 n6 c6) = W9 at *
   have z0 := HR9.out.c0
   have z1 := HR9.out.c1
   have z2 := HR9.out.c2
   have z3 := HR9.out.c3
   exact bodyPost_ret (by simp [results, Tryz.results85, go_sem, z0, z1, z2, z3]) rfl (.inl ⟨HALL.out, _, _, _, _, _, _, _, _, _, _, _, rfl, HO9.out.1, HO9.out.2, hy, HB9.out⟩)
  ·have hjl : j < n := by omega
   clear hjn
   have hjli : (j : Int) < (n : Int) := by omega
   have hBW := HB0.out.trans (hB.mono HB0.out.size)
   obtain ⟨ad, s1, A1, n1, c1, s2, A2, n2, c2, z1, d1, rfl, hbk, hx0, hx1, hx2, hx3, hr1, hr2, hn1, hn2, hp⟩ := qs_at h hjl
   obtain ⟨hy0, hy1, hy2, hy3⟩ := qs_cells hBW hbk hx0 hx1 hx2 hx3
   obtain ⟨W2, HW2⟩ : ∃ W, W = wr.alloc (.cells #[.bool s1, .slice A1 n1 c1, .bool s2, .slice A2 n2 c2] 47) := ⟨_, rfl⟩
   have hb2 : Below wr.heap.size wr W2 := by rw [HW2]; exact (Below.refl _ _).alloc (Nat.le_refl _) _
   have hB2 := hB.trans (hb2.mono hB.size)
   have hBW2 := hBW.trans (hb2.mono hBW.size)
   have HO := Lib.hid (ho.next hb2)
   have HRD := Lib.hid (And.intro (hr1.next hBW2) (hr2.next hBW2))
   have HB2 := Lib.hid hB2
   have HBW2 := Lib.hid hBW2
   have HNN := Lib.hid (And.intro (Nat.le_trans hn1 hN) (Nat.le_trans hn2 hN))
   have HW2 := Lib.hid HW2
   clear ho hB hb2 hB2 hBW hBW2 hr1 hr2 hx0 hx1 hx2 hx3
   go_wp2_with fail
   rw [← HW2.out]
   clear HW2 hy0 hy1 hy2 hy3
   clear HW2
   by_cases hd0 : d1 = 0
   ·subst hd0
    have HEX := Lib.hid (show ∃ p ∈ L, p.2 = 0 from ⟨(z1, 0), List.mem_of_getElem? hp.out, rfl⟩)
    refine (qnorm_zero HRD.out.2 HNN.out.2).mono ?_
    rintro _ W3 ⟨rfl, hb3⟩
    obtain ⟨W4, HW4⟩ : ∃ W, W = W3.alloc (.cells #[.bool false, .slice none 0 0, .bool false, .slice none 0 0] 47) := ⟨_, rfl⟩
    have hb4 : Below W3.heap.size W3 W4 := by rw [HW4]; exact (Below.refl _ _).alloc (Nat.le_refl _) _
    have hb24 := hb3.trans (hb4.mono hb3.size)
    have hRZ := HRZ.out _ (HB2.out.trans (hb24.mono HB2.out.size))
    have hR := hRZ.1
    have r0 := hR.c0
    have r1 := hR.c1
    have r2 := hR.c2
    have r3 := hR.c3
    have f0 := hR.fz 0
    have f1 := hR.fz 1
    have f2 := hR.fz 2
    have f3 := hR.fz 3
    have g0 := hRZ.2.c0
    have g1 := hRZ.2.c1
    have g2 := hRZ.2.c2
    have g3 := hRZ.2.c3
    rw [HW4] at r0 r1 r2 r3 f0 f1 f2 f3 g0 g1 g2 g3
    have HR9 := Lib.hid (hR.store false none 0 0 false none 0 0)
    have HB9 := Lib.hid (below_putQ (HBW2.out.trans (hb24.mono HBW2.out.size)) (Nat.le_refl w.heap.size) false none 0 0 false none 0 0)
    unfold putQ at HR9 HB9
    have HW4 := Lib.hid HW4
    clear hb3 hb4 hb24 hR hRZ
    go_wp2_with fail
    rw [← HW4.out]
    clear HW4 r0 r1 r2 r3 f0 f1 f2 f3 g0 g1 g2 g3
    clear HW4
    generalize (((W4.setCell ⟨w.heap.size, 0, none⟩ (.bool false)).setCell ⟨w.heap.size, 1, none⟩ (.slice none 0 0)).setCell ⟨w.heap.size, 2, none⟩ (.bool false)).setCell ⟨w.heap.size, 3, none⟩ (.slice none 0 0) = W9 at *
    have z0 := HR9.out.c0
    have z1 := HR9.out.c1
    have z2 := HR9.out.c2
    have z3 := HR9.out.c3
    exact bodyPost_ret (by simp [results, Tryz.results85, go_sem, z0, z1, z2, z3]) rfl (.inr ⟨HEX.out, rfl, HB9.out⟩)
   ·have HD1 := Lib.hid hd0
    clear hd0
    refine (qnorm_any HRD.out.1 HRD.out.2 HNN.out.1 HNN.out.2 HD1.out).mono ?_
    rintro _ W3 ⟨s3, A3, n3, c3, s4, A4, n4, c4, y, rfl, ho3, hy, hb3⟩
    have hB3 := HB2.out.trans (hb3.mono HB2.out.size)
    obtain ⟨W4, HW4⟩ : ∃ W, W = W3.alloc (.cells #[.bool s3, .slice A3 n3 c3, .bool s4, .slice A4 n4 c4] 47) := ⟨_, rfl⟩
    have hb4 : Below W3.heap.size W3 W4 := by rw [HW4]; exact (Below.refl _ _).alloc (Nat.le_refl _) _
    have hB4 := hB3.trans (hb4.mono hB3.size)
    obtain ⟨E, hE, hEl, hEn⟩ := (HO.out.next hb3).next hb4
    have HO4 := Lib.hid ((ho3.base HB2.out.size).next hb4)
    rw [HW4] at hE hB4 hEn
    rw [HW4] at HO4
    have HE := Lib.hid hE
    have HEN := Lib.hid (And.intro hEl hEn)
    have HM2 := Lib.hid (show M ++ [y] = (L.take (j + 1)).map qval by rw [hM.out, hy.out]; exact mapq_snoc hp.out)
    have HNE2 := Lib.hid (show ∀ (i : Nat) (p : Int × Int), i < j + 1 → L[i]? = some p → p.2 ≠ 0 from fun i p hi hq => by
     rcases Nat.lt_or_ge i j with h1 | h1
     ·exact hne.out i p h1 hq
     ·rw [show i = j by omega, hp.out] at hq
      injection hq with hq
      rw [← hq]
      exact HD1.out)
    have HB4 := Lib.hid hB4
    clear hE hEl hEn hb3 ho3 hb4 hB3 hB4 hy HO hne hM
    clear HW4
    go_wp2_with (at_builtin; refine wpList_append_own _ rfl _ _ 72 rfl W0.heap.size 47 i0 (.agg #[.bool false, .slice none 0 0, .bool false, .slice none 0 0]) 4 64 Tryz.underlying72 hi hz0 hz1 hz2 rfl (by decide) _ _ _ rfl (HE.out.alloc _) ⟨W3.heap.size + 1, 0, none⟩ 1 1 [.bool s3, .slice A3 n3 c3, .bool s4, .slice A4 n4 c4] rfl rfl (by simpa using qcell_new (W3.alloc (.cells #[.bool s3, .slice A3 n3 c3, .bool s4, .slice A4 n4 c4] 47)) (.bool s3) (.slice A3 n3 c3) (.bool s4) (.slice A4 n4 c4) 47) (by simp [Value.oneCell']) (by unfold maxLen; omega) (by omega) (by have := HB4.out.size; simp at this ⊢; omega) ?_; intro v' w1 hown' hgrow _)
    have hmore := qs_more (e := ((s3, A3, n3, c3), (s4, A4, n4, c4))) (x := y) HO4.out rfl (HE.out.alloc _) HEN.out.1 HEN.out.2 hown' hgrow
    have HB5 := Lib.hid ((HB4.out.alloc HB4.out.size (.cells #[.bool s3, .slice A3 n3 c3, .bool s4, .slice A4 n4 c4] 47)).grown hgrow (by have := HB4.out.size; simp at this ⊢; omega) (own_block HE.out))
    obtain ⟨A5, c5, rfl, ho5⟩ := hmore
    clear hown' hgrow HE HEN HO4
    go_wp2
    go_roundw
    case rel => exact ⟨j + 1, c5, A5, M ++ [y], rfl, by go_num, by omega, ho5, HM2, HNE2, HB5.out⟩
    case measure => simp [intOf]; omega
theorem oq_one {w : World} {b : Nat} {A : Option Addr} {c : Nat} {x : Rat} (h : OwQs w b A 1 c [x]) :
  ∃ (g : Nat) (s1 : Bool) (A1 : Option Addr) (n1 c1 : Nat) (s2 : Bool) (A2 : Option Addr) (n2 c2 : Nat), A = some ⟨g, 0, none⟩ ∧ g < w.heap.size ∧
   (w.cell? ⟨g, 0, none⟩ = some (.bool s1) ∧ w.cell? ⟨g, 1, none⟩ = some (.slice A1 n1 c1) ∧ w.cell? ⟨g, 2, none⟩ = some (.bool s2) ∧ w.cell? ⟨g, 3, none⟩ = some (.slice A2 n2 c2)) ∧ OwQ w b s1 A1 n1 c1 s2 A2 n2 c2 x := by
 rcases h.form with ⟨_, h0, _⟩ | ⟨g, rfl, h1, h2, h3, h4⟩
 ·omega
 ·obtain ⟨ad, s1, A1, n1, c1, s2, A2, n2, c2, x', e1, k1, a0, a1, a2, a3, hx, hx'⟩ := oq_at h (show 0 < 1 by omega)
  injection e1 with e1
  subst e1
  obtain rfl : x = x' := by simpa using hx'.out
  rw [add_base] at a0 a1 a2 a3
  exact ⟨g, s1, A1, n1, c1, s2, A2, n2, c2, rfl, h2, ⟨a0, a1, a2, a3⟩, hx⟩
set_option maxRecDepth 100000 in
set_option maxHeartbeats 4000000 in
theorem qnegIn_any {N b : Nat} {A : Option Addr} {c : Nat} {x : Rat} {w : World} (h : OwQs w b A 1 c [x]) (hb : b ≤ w.heap.size) (hx : Zz.zl x.num ≤ N ∧ Zz.zl x.den ≤ N) (hN : N ≤ 1000000000000) :
  Calls Tryz.prog 86 #[.slice A 1 c] w (RetZD2B b (-x).num (-x).den 0 w) := by
 obtain ⟨g, s1, A1, n1, c1, s2, A2, n2, c2, rfl, hg, ⟨a0, a1, a2, a3⟩, ox⟩ := oq_one h
 obtain ⟨W1, HW1⟩ : ∃ W, W = w.alloc (.cells #[.bool false, .slice none 0 0, .bool false, .slice none 0 0] 47) := ⟨_, rfl⟩
 have hR : QC W1 w.heap.size false none 0 0 false none 0 0 := by rw [HW1]; exact QC.new w false none 0 0 false none 0 0
 have hB : Below w.heap.size w W1 := by rw [HW1]; exact (Below.refl _ _).alloc (Nat.le_refl _) _
 have HCE := Lib.hid (show ∀ W : World, Below W1.heap.size W1 W → (W.cell? ⟨g, 0, none⟩ = some (.bool s1) ∧ W.cell? ⟨g, 1, none⟩ = some (.slice A1 n1 c1) ∧ W.cell? ⟨g, 2, none⟩ = some (.bool s2) ∧ W.cell? ⟨g, 3, none⟩ = some (.slice A2 n2 c2)) from fun W hb => by
  have hb' := hB.trans (hb.mono hB.size)
  exact ⟨(hb'.cell hg).trans a0, (hb'.cell hg).trans a1, (hb'.cell hg).trans a2, (hb'.cell hg).trans a3⟩)
 have HCP := Lib.hid (show ∀ (W : World) (t : Bool) (D : Option Addr) (k m : Nat) (t' : Bool) (D' : Option Addr) (k' m' : Nat), Below W1.heap.size W1 W → ((putQ W w.heap.size t D k m t' D' k' m').cell? ⟨g, 0, none⟩ = some (.bool s1) ∧ (putQ W w.heap.size t D k m t' D' k' m').cell? ⟨g, 1, none⟩ = some (.slice A1 n1 c1) ∧ (putQ W w.heap.size t D k m t' D' k' m').cell? ⟨g, 2, none⟩ = some (.bool s2) ∧ (putQ W w.heap.size t D k m t' D' k' m').cell? ⟨g, 3, none⟩ = some (.slice A2 n2 c2)) from fun W t D k m t' D' k' m' hb => by
  have hP := below_putQ (Below.refl w.heap.size W) (Nat.le_refl w.heap.size) t D k m t' D' k' m'
  obtain ⟨e0, e1, e2, e3⟩ := HCE.out W hb
  exact ⟨(hP.cell hg).trans e0, (hP.cell hg).trans e1, (hP.cell hg).trans e2, (hP.cell hg).trans e3⟩)
 unfold putQ at HCP
 have HX := Lib.hid (show ∀ W : World, Below W1.heap.size W1 W → RdZ W W.heap.size s1 A1 n1 c1 x.num ∧ OwZ W b s2 A2 n2 c2 x.den from fun W hb => by
  have hb' := hB.trans (hb.mono hB.size)
  exact ⟨(ox.num.next hb').rd, ox.den.next hb'⟩)
 have HNN := Lib.hid (show n1 ≤ N from by rw [ox.num.len]; exact hx.1)
 have HB := Lib.hid hB
 have HBW := Lib.hid (Nat.le_trans hb hB.size)
 have HRR := Lib.hid (show ∀ W : World, Below W1.heap.size W1 W → QC W w.heap.size false none 0 0 false none 0 0 from fun W hb => hR.next hb)
 have HD := Lib.hid (Below.refl W1.heap.size W1).drew
 have HGN := Lib.hid (show g ≠ w.heap.size by omega)
 have HW1 := Lib.hid HW1
 clear a0 a1 a2 a3 ox hR hB h hx
 obtain ⟨a0, a1, a2, a3⟩ := HCE.out W1 (Below.refl _ _)
 go_enter Tryz.func86, Tryz.ntmps86
 go_upto_region 1 with fail
 rw [← HW1.out]
 clear HW1
 clear HW1
 go_region_held3 (fun w' => w'.cell? ⟨g, 0, none⟩ = some (.bool s1) ∧ w'.cell? ⟨g, 1, none⟩ = some (.slice A1 n1 c1) ∧ w'.cell? ⟨g, 2, none⟩ = some (.bool s2) ∧ w'.cell? ⟨g, 3, none⟩ = some (.slice A2 n2 c2))
  (first | exact HCE.out _ HB2.out | exact HCE.out _ HD.out | exact HCP.out _ _ _ _ _ _ _ _ _ HB2.out)
  (first
   | (go_at_call 87; refine (neg_any (HX.out _ HD.out).1 (by have := HNN.out; omega)).mono ?_; rintro _ W2 ⟨s7, A7, n7, c7, y2, rfl, ho2, hy2, hb2⟩; have HB2 := Lib.hid (HD.out.trans hb2); have hR4 := HRR.out _ HB2.out; have r0 := hR4.c0; have r1 := hR4.c1; have r2 := hR4.c2; have r3 := hR4.c3; have f0 := hR4.fz 0; have f1 := hR4.fz 1; have f2 := hR4.fz 2; have f3 := hR4.fz 3))
 all_goals
  have hR4' := HRR.out _ HB2.out
  have HR9 := Lib.hid (hR4'.store s7 A7 n7 c7 s2 A2 n2 c2)
  have HO9 := Lib.hid (And.intro ((ho2.base (b' := b) (Nat.le_trans HBW.out HD.out.size)).keep (keep_putQ hR4' s7 A7 n7 c7 s2 A2 n2 c2)) ((HX.out _ HB2.out).2.keep (keep_putQ hR4' s7 A7 n7 c7 s2 A2 n2 c2)))
  have HB9 := Lib.hid (below_putQ (HB.out.trans (HB2.out.mono HB.out.size)) (Nat.le_refl w.heap.size) s7 A7 n7 c7 s2 A2 n2 c2)
  have HV := Lib.hid (show y2 = (-x).num by rw [hy2.out]; rfl)
  unfold putQ at HR9 HO9 HB9
  clear a0 a1 a2 a3 r0 r1 r2 r3 f0 f1 f2 f3 hR4 hR4' ho2 hb2 hy2
  generalize (((W2.setCell ⟨w.heap.size, 0, none⟩ (.bool s7)).setCell ⟨w.heap.size, 1, none⟩ (.slice A7 n7 c7)).setCell ⟨w.heap.size, 2, none⟩ (.bool s2)).setCell ⟨w.heap.size, 3, none⟩ (.slice A2 n2 c2) = W9 at *
  have z0 := HR9.out.c0
  have z1 := HR9.out.c1
  have z2 := HR9.out.c2
  have z3 := HR9.out.c3
  go_wp2
  exact bodyPost_ret (by simp [results, Tryz.results86, go_sem, z0, z1, z2, z3]; rfl) rfl ⟨_, _, _, _, _, _, _, _, _, _, _, rfl, HO9.out.1, HO9.out.2, Lib.hid (by rw [HV.out]; exact ⟨rfl, rfl, rfl⟩), HB9.out⟩
end Go.Proofs.YtjnklbfhelbjgaaGreat

/- rat.Neg; reference 05: Neg. -/
namespace Go.Proofs.YtjnklbfhelbjgaaGreat
open Go.RowKit Go.IntWalk
attribute [local go_sem ↓] Go.wp_at_zero Go.wp_at_succ
set_option maxRecDepth 100000 in
set_option maxHeartbeats 4000000 in
theorem qneg_any {N : Nat} {s s' : Bool} {A A' : Option Addr} {n c n' c' : Nat} {z d : Int} {w : World} (h : RdZ w w.heap.size s A n c z) (h' : RdZ w w.heap.size s' A' n' c' d) (hn : n ≤ N ∧ n' ≤ N) (hN : N ≤ 200000000000) :
  Calls Tryz.prog 37 #[.agg #[.bool s, .slice A n c, .bool s', .slice A' n' c']] w (RetQE (d ≠ 0) (-(Rat.divInt z d)) w) := by
 have heg := enters_of Tryz.func86 (by kernel_rfl) rfl
 obtain ⟨W1, HW1⟩ : ∃ W, W = (w.alloc (.cells #[.bool s, .slice A n c, .bool s', .slice A' n' c'] 47)).alloc (.cells #[.bool false, .slice none 0 0, .bool false, .slice none 0 0] 47) := ⟨_, rfl⟩
 obtain ⟨hX, hR, hB⟩ := q_box1 w s A n c s' A' n' c' W1 HW1
 obtain ⟨W2, HW2⟩ : ∃ W, W = W1.alloc (.cells #[.bool s, .slice A n c, .bool s', .slice A' n' c'] 47) := ⟨_, rfl⟩
 have hq := qs_one (h.next hB) (h'.next hB) hn.1 hn.2 HW2
 have hb2 : Below W1.heap.size W1 W2 := by rw [HW2]; exact (Below.refl _ _).alloc (Nat.le_refl _) _
 have a0 := hX.c0
 have a1 := hX.c1
 have a2 := hX.c2
 have a3 := hX.c3
 have hs1 : W1.heap.size = w.heap.size + 1 + 1 := by rw [HW1]; simp
 rw [hs1] at hq
 rw [HW1] at a0 a1 a2 a3 HW2
 have HQ := Lib.hid hq
 have HR2 := Lib.hid (hR.next hb2)
 have HB2 := Lib.hid (hB.trans (hb2.mono hB.size))
 have HSW := Lib.hid (show w.heap.size ≤ W2.heap.size from Nat.le_trans hB.size hb2.size)
 have HLZ := Lib.hid (show Zz.zl z ≤ N ∧ Zz.zl d ≤ N from ⟨Nat.le_trans h.len hn.1, Nat.le_trans h'.len hn.2⟩)
 have HW2 := Lib.hid HW2
 clear hX hR hB hq hb2 hs1 HW1 h h'
 go_enter Tryz.func37, Tryz.ntmps37
 go_wp2_with fail
 rw [← HW2.out]
 clear HW2 a0 a1 a2 a3
 clear HW2
 refine (made_base (N := N) (z := (-(Rat.divInt z d)).num) (d := (-(Rat.divInt z d)).den) (k := 0) HQ.out (by decide) (by omega) heg (fun hne W A' c' b hb hwb hbb ho => by
  have e1 : d ≠ 0 := hne (z, d) (by simp)
  have h5 := qnegIn_any (N := N) (x := Rat.divInt z d) ho hbb ⟨Nat.le_trans (zl_qnum e1) HLZ.out.1, Nat.le_trans (zl_qden e1) HLZ.out.2⟩ (by omega)
  exact h5.mono fun e w' ⟨s5, A5, n5, c5, y5, s6, A6, n6, c6, y6, kk, k1, k2, k3, k4, k5⟩ => ⟨s5, A5, n5, c5, y5, s6, A6, n6, c6, y6, kk, k1, k2.base hwb, k3.base hwb, k4, k5⟩)).mono ?_
 intro e3 W3 hpost
 obtain ⟨s5, A5, n5, c5, y5, s6, A6, n6, c6, y6, kk, rfl, ho5, ho6, hy, hb3⟩ : RetQE (d ≠ 0) (-(Rat.divInt z d)) W2 e3 W3 := by
  rcases hpost with ⟨hall, s5, A5, n5, c5, y5, s6, A6, n6, c6, y6, kk, k1, k2, k3, k4, k5⟩ | ⟨⟨p, hp, hp0⟩, k1, k2⟩
  ·exact ⟨s5, A5, n5, c5, y5, s6, A6, n6, c6, y6, kk, k1, k2, k3, Lib.hid (.inl ⟨hall (z, d) (by simp), k4.out⟩), k5⟩
  ·refine ⟨false, none, 0, 0, 0, false, none, 0, 0, 0, 6, k1, OwZ.zero _ _, OwZ.zero _ _, Lib.hid (.inr ⟨?_, rfl, rfl, rfl⟩), k2⟩
   intro e1
   obtain rfl := List.mem_singleton.1 hp
   exact e1 hp0
 have hR5 := HR2.out.next hb3
 have r0 := hR5.c0
 have r1 := hR5.c1
 have r2 := hR5.c2
 have r3 := hR5.c3
 have f0 := hR5.fz 0
 have f1 := hR5.fz 1
 have f2 := hR5.fz 2
 have f3 := hR5.fz 3
 have HR9 := Lib.hid (hR5.store s5 A5 n5 c5 s6 A6 n6 c6)
 have HO9 := Lib.hid (And.intro ((ho5.base (b' := w.heap.size) HSW.out).keep (keep_putQ hR5 s5 A5 n5 c5 s6 A6 n6 c6)) ((ho6.base (b' := w.heap.size) HSW.out).keep (keep_putQ hR5 s5 A5 n5 c5 s6 A6 n6 c6)))
 have HB9 := Lib.hid (below_putQ (HB2.out.trans (hb3.mono HB2.out.size)) (show w.heap.size ≤ w.heap.size + 1 by omega) s5 A5 n5 c5 s6 A6 n6 c6)
 unfold putQ at HR9 HB9 HO9
 clear ho5 ho6 hb3 hR5 hpost
 go_wp2_with fail
 generalize (((W3.setCell ⟨w.heap.size + 1, 0, none⟩ (.bool s5)).setCell ⟨w.heap.size + 1, 1, none⟩ (.slice A5 n5 c5)).setCell ⟨w.heap.size + 1, 2, none⟩ (.bool s6)).setCell ⟨w.heap.size + 1, 3, none⟩ (.slice A6 n6 c6) = W9 at *
 have z0 := HR9.out.c0
 have z1 := HR9.out.c1
 have z2 := HR9.out.c2
 have z3 := HR9.out.c3
 exact bodyPost_ret (by simp [results, Tryz.results37, go_sem, z0, z1, z2, z3]) rfl ⟨_, _, _, _, _, _, _, _, _, _, _, rfl, HO9.out.1, HO9.out.2, hy, HB9.out⟩
end Go.Proofs.YtjnklbfhelbjgaaGreat

/- Rows of integers that came in, word by word; are the rows equally long? -/
namespace Go.Proofs.YtjnklbfhelbjgaaGreat
open Go.RowKit Go.IntWalk
attribute [local go_sem ↓] Go.wp_at_zero Go.wp_at_succ
abbrev RawRow := List (Bool × List Nat)
structure RdRss (w : World) (B N K : Nat) (A : Option Addr) (n c : Nat) (RR : List RawRow) : Prop where
 len : RR.length = n
 le : n ≤ c
 mx : c ≤ maxLen
 at_ : ∀ (j : Nat) (R : RawRow), RR[j]? = some R → ∃ (ad : Addr) (A1 : Option Addr) (n1 c1 : Nat), A = some ad ∧ ad.block < B ∧ w.cell? (ad.add j) = some (.slice A1 n1 c1) ∧ RdRs w B N A1 n1 c1 R ∧ n1 ≤ K
section
variable {w w' : World} {B B' N K : Nat} {A : Option Addr} {n c : Nat} {RR : List RawRow}
theorem RdRss.below (h : RdRss w B N K A n c RR) (hb : Below B w w') : RdRss w' B N K A n c RR :=
 ⟨h.len, h.le, h.mx, fun j L hp => by
  obtain ⟨ad, A1, n1, c1, h1, h2, h3, h4, h5⟩ := h.at_ j L hp
  exact ⟨ad, A1, n1, c1, h1, h2, (hb.cell (p := ad.add j) (by rw [add_blk]; exact h2)).trans h3, h4.below hb, h5⟩⟩
theorem RdRss.more (h : RdRss w B N K A n c RR) (hB : B ≤ B') : RdRss w B' N K A n c RR :=
 ⟨h.len, h.le, h.mx, fun j L hp => by
  obtain ⟨ad, A1, n1, c1, h1, h2, h3, h4, h5⟩ := h.at_ j L hp
  exact ⟨ad, A1, n1, c1, h1, Nat.lt_of_lt_of_le h2 hB, h3, h4.more hB, h5⟩⟩
theorem RdRss.next (h : RdRss w w.heap.size N K A n c RR) (hb : Below w.heap.size w w') : RdRss w' w'.heap.size N K A n c RR := (h.below hb).more hb.size
theorem rss_at (h : RdRss w B N K A n c RR) {j : Nat} (hj : j < n) :
  ∃ (ad : Addr) (A1 : Option Addr) (n1 c1 : Nat) (R : RawRow), A = some ad ∧ ad.block < B ∧ w.cell? (ad.add j) = some (.slice A1 n1 c1) ∧ RdRs w B N A1 n1 c1 R ∧ n1 ≤ K ∧ Hid (RR[j]? = some R) := by
 have hl : j < RR.length := by rw [h.len]; exact hj
 obtain ⟨ad, A1, n1, c1, h1, h2, h3, h4, h5⟩ := h.at_ j RR[j] (List.getElem?_eq_getElem hl)
 exact ⟨ad, A1, n1, c1, _, h1, h2, h3, h4, h5, Lib.hid (List.getElem?_eq_getElem hl)⟩
end
def colsOf (RR : List RawRow) : Nat := (RR.headD []).length
def Evn (RR : List RawRow) : Prop := ∀ R ∈ RR, R.length = colsOf RR
set_option maxRecDepth 100000 in
set_option maxHeartbeats 2000000 in
theorem even_any {N K : Nat} {A : Option Addr} {n c : Nat} {RR : List RawRow} {w : World} (h : RdRss w w.heap.size N K A n c RR) (hn : n ≤ 1048576) :
  Calls Tryz.prog 136 #[.slice A n c] w (RetBo (Evn RR) w) := by
 have H := Lib.hid h
 clear h
 go_enter Tryz.func136, Tryz.ntmps136
 go_wp2_with fail
 go_loopw [7] (fun iv wr => ∃ (j : Nat), iv = .int .i64 (j : Int) ∧ j ≤ n ∧ Hid (∀ (i : Nat) (R : RawRow), i < j → RR[i]? = some R → R.length = colsOf RR) ∧ Below w.heap.size w wr) (fun iv _ => n - (intOf iv).toNat)
 case atStart => exact ⟨0, rfl, Nat.zero_le _, Lib.hid fun i R hi => absurd hi (Nat.not_lt_zero _), Below.refl _ _⟩
 case round =>
  obtain ⟨j, rfl, hj, hall, hB⟩ := hrel
  by_cases hjn : j = n
  ·have HE := Lib.hid (show Evn RR from fun R hR => by
    obtain ⟨i, hi, e⟩ := List.mem_iff_getElem.1 hR
    exact hall.out i R (by rw [hjn, ← H.out.len]; exact hi) (by rw [List.getElem?_eq_getElem hi, e]))
   subst hjn
   have HB := Lib.hid hB
   clear hB hall
   go_wp2
   go_ret
   exact ⟨true, rfl, Lib.hid ⟨fun _ => HE.out, fun _ => rfl⟩, HB.out⟩
  ·have hjl : j < n := by omega
   have hjli : (j : Int) < (n : Int) := by omega
   have hn0 : (0 : Int) < (n : Int) := by omega
   have h0n : 0 < n := by omega
   clear hjn
   have h' := H.out.next hB
   obtain ⟨ad, A1, n1, c1, R, rfl, hbk, hx, hr, hn1, hp⟩ := rss_at h' hjl
   obtain ⟨ad', A2, n2, c2, R0, e, _, hy, hr0, hn2, hp0⟩ := rss_at h' h0n
   injection e with e
   subst e
   have HC := Lib.hid (show colsOf RR = n2 from by
    unfold colsOf
    have e1 := hp0.out
    cases RR with
    | nil => simp at e1
    | cons a t => simp at e1; subst e1; exact hr0.len)
   have HR := Lib.hid (show R.length = n1 from hr.len)
   have hy' : wr.cell? ad = some (.slice A2 n2 c2) := by
    have : ad.add 0 = ad := by simp [Addr.add]
    rw [← this]; exact hy
   have HB := Lib.hid hB
   clear hr hr0 hB h'
   by_cases hne : n1 = n2
   ·have hb : decide ((n1 : Int) = (n2 : Int)) = true := by simp [hne]
    have hb2 : ((n1 : Int) == (n2 : Int)) = true := by simp [hne]
    have hb3 : (n1 : Int) = (n2 : Int) := by omega
    have HA := Lib.hid (show ∀ (i : Nat) (R : RawRow), i < j + 1 → RR[i]? = some R → R.length = colsOf RR from fun i R' hi hq => by
     rcases Nat.lt_or_ge i j with h1 | h1
     ·exact hall.out i R' h1 hq
     ·rw [show i = j by omega, hp.out] at hq
      injection hq with hq
      rw [← hq, HR.out, HC.out, hne])
    clear hne hall
    go_wp2
    go_roundw
    case rel => exact ⟨j + 1, by go_num, by omega, HA, HB.out⟩
    case measure => simp [intOf]; omega
   ·have hb2 : ((n1 : Int) == (n2 : Int)) = false := by simp; omega
    have hb3 : ¬(n1 : Int) = (n2 : Int) := by omega
    have HA := Lib.hid (show ¬Evn RR from fun e => hne (by rw [← HR.out, ← HC.out]; exact e R (List.mem_of_getElem? hp.out)))
    clear hne hall
    go_wp2
    go_ret
    exact ⟨false, rfl, Lib.hid ⟨fun e => by simp at e, fun e => absurd e HA.out⟩, HB.out⟩
set_option maxRecDepth 100000 in
set_option maxHeartbeats 2000000 in
theorem cols_any {N K : Nat} {A : Option Addr} {n c : Nat} {RR : List RawRow} {w : World} (h : RdRss w w.heap.size N K A n c RR) (hn : n ≤ 1048576) :
  Calls Tryz.prog 174 #[.slice A n c] w (RetK (colsOf RR : Int) w) := by
 have HB := Lib.hid (Below.refl w.heap.size w)
 have HL := Lib.hid h.len
 go_enter Tryz.func174, Tryz.ntmps174
 by_cases h0 : n = 0
 ·have HC := Lib.hid (show colsOf RR = 0 from by
   have e := HL.out
   unfold colsOf
   cases RR with
   | nil => rfl
   | cons a t => simp at e; omega)
  subst h0
  go_wp2
  go_ret
  exact ⟨0, rfl, Lib.hid (by rw [HC.out]; rfl), HB.out⟩
 ·have h0n : 0 < n := by omega
  have hn0 : (0 : Int) < (n : Int) := by omega
  have hnz : ((n : Int) == 0) = false := by simp; omega
  have hnz2 : ¬(n : Int) = 0 := by omega
  clear h0
  obtain ⟨ad, A2, n2, c2, R0, rfl, _, hy, hr0, hn2, hp0⟩ := rss_at h h0n
  have HC := Lib.hid (show colsOf RR = n2 from by
   unfold colsOf
   have e1 := hp0.out
   cases RR with
   | nil => simp at e1
   | cons a t => simp at e1; subst e1; exact hr0.len)
  have hy' : w.cell? ad = some (.slice A2 n2 c2) := by
   have : ad.add 0 = ad := by simp [Addr.add]
   rw [← this]; exact hy
  clear hr0 h hp0
  go_wp2
  go_ret
  exact ⟨_, rfl, Lib.hid (by rw [HC.out]), HB.out⟩
end Go.Proofs.YtjnklbfhelbjgaaGreat

/- A matrix's cells; qmat: Check, size, Size. -/
namespace Go.Proofs.YtjnklbfhelbjgaaGreat
open Go.RowKit Go.IntWalk
attribute [local go_sem ↓] Go.wp_at_zero Go.wp_at_succ
def MC (w : World) (g : Nat) (s : Bool) (A : Option Addr) (n c : Nat) (G : Option Addr) (r k : Nat) : Prop := w.heap[g]? = some (.cells #[.bool s, .slice A n c, .slice G r k] 28 (0, 0))
section
variable {w w' : World} {g : Nat} {s : Bool} {A G : Option Addr} {n c r k : Nat}
theorem MC.lt (h : MC w g s A n c G r k) : g < w.heap.size := (Array.getElem?_eq_some_iff.1 h).1
theorem MC.c0 (h : MC w g s A n c G r k) : w.cell? ⟨g, 0, none⟩ = some (.bool s) := by rw [cell_of_row w g 0 _ _ _ h]; rfl
theorem MC.c1 (h : MC w g s A n c G r k) : w.cell? ⟨g, 1, none⟩ = some (.slice A n c) := by rw [cell_of_row w g 1 _ _ _ h]; rfl
theorem MC.c2 (h : MC w g s A n c G r k) : w.cell? ⟨g, 2, none⟩ = some (.slice G r k) := by rw [cell_of_row w g 2 _ _ _ h]; rfl
theorem MC.fz (h : MC w g s A n c G r k) (j : Nat) : w.frozen? ⟨g, j, none⟩ = false := frozen_of_row w g j _ _ h
theorem MC.next (h : MC w g s A n c G r k) (hb : Below w.heap.size w w') : MC w' g s A n c G r k := (hb.block g h.lt).trans h
theorem MC.new (w : World) (s : Bool) (A : Option Addr) (n c : Nat) (G : Option Addr) (r k : Nat) : MC (w.alloc (.cells #[.bool s, .slice A n c, .slice G r k] 28)) w.heap.size s A n c G r k := heap_alloc_new w _
end
instance (RR : List RawRow) : Decidable (Evn RR) := by unfold Evn; infer_instance
def chk (d : Int) (RR : List RawRow) : Int := if d = 0 then 6 else if Evn RR then 0 else 2
set_option maxRecDepth 100000 in
set_option maxHeartbeats 2000000 in
theorem mcheck_any {N K : Nat} {s : Bool} {A G : Option Addr} {n c r k : Nat} {d : Int} {RR : List RawRow} {w : World} (h : RdZ w w.heap.size s A n c d) (h' : RdRss w w.heap.size N K G r k RR) (hn : n ≤ 17592186044416) (hr : r ≤ 1048576) :
  Calls Tryz.prog 82 #[.agg #[.bool s, .slice A n c, .slice G r k]] w (RetK (chk d RR) w) := by
 obtain ⟨W1, HW1⟩ : ∃ W, W = w.alloc (.cells #[.bool s, .slice A n c, .slice G r k] 28) := ⟨_, rfl⟩
 have hM : MC W1 w.heap.size s A n c G r k := by rw [HW1]; exact MC.new w s A n c G r k
 have hB : Below w.heap.size w W1 := by rw [HW1]; exact (Below.refl _ _).alloc (Nat.le_refl _) _
 have HM := Lib.hid hM
 have HB := Lib.hid hB
 have HX := Lib.hid (And.intro (h.next hB) (h'.next hB))
 have HW1 := Lib.hid HW1
 clear h h' hM hB
 go_enter Tryz.func82, Tryz.ntmps82
 go_wp2_with fail
 rw [← HW1.out]
 clear HW1
 clear HW1
 refine (sign_any HX.out.1 hn).mono ?_
 rintro _ W2 ⟨v, rfl, hv, hb2⟩
 have HB2 := Lib.hid (HB.out.trans (hb2.mono HB.out.size))
 have hR2 := HX.out.2.next hb2
 have m2 := (HM.out.next hb2).c2
 by_cases h0 : v = 0
 ·have HC := Lib.hid (show chk d RR = 6 from if_pos (Int.sign_eq_zero_iff_zero.1 (by rw [← hv.out]; exact h0)))
  subst h0
  clear hv hb2 hR2
  go_wp2
  go_ret
  exact ⟨6, rfl, Lib.hid HC.out.symm, HB2.out⟩
 ·have hvb : (v == 0) = false := by simp [h0]
  have HD := Lib.hid (show d ≠ 0 from fun e => h0 (by rw [hv.out, e]; rfl))
  clear hv
  go_wp2_with fail
  refine (even_any hR2 hr).mono ?_
  rintro _ W3 ⟨b, rfl, hb, hb3⟩
  have HB3 := Lib.hid (HB2.out.trans (hb3.mono HB2.out.size))
  have HBB := Lib.hid hb.out
  clear hb hb2 hb3 hR2 m2
  cases b
  case true =>
   have HC := Lib.hid (show chk d RR = 0 from by unfold chk; rw [if_neg HD.out, if_pos (HBB.out.1 (by first | rfl | trivial))])
   clear HBB
   go_wp2
   go_ret
   exact ⟨0, rfl, Lib.hid HC.out.symm, HB3.out⟩
  case false =>
   have HC := Lib.hid (show chk d RR = 2 from by unfold chk; rw [if_neg HD.out, if_neg (fun e => by have := HBB.out.2 e; simp at this)])
   clear HBB
   go_wp2
   go_ret
   exact ⟨2, rfl, Lib.hid HC.out.symm, HB3.out⟩
end Go.Proofs.YtjnklbfhelbjgaaGreat

/- qmat: size, Size; reference 11: Check, Size. -/
namespace Go.Proofs.YtjnklbfhelbjgaaGreat
open Go.RowKit Go.IntWalk
attribute [local go_sem ↓] Go.wp_at_zero Go.wp_at_succ
def RetKK (a b : Int) (w : World) (e : Ending) (w' : World) : Prop := ∃ x y : Int, e = .returned (.tuple #[.int .i64 x, .int .i64 y]) ∧ Hid (x = a ∧ y = b) ∧ Below w.heap.size w w'
def SizV (d : Int) (RR : List RawRow) (x y z : Int) : Prop := (chk d RR = 0 ∧ x = RR.length ∧ y = colsOf RR ∧ z = 0) ∨ (chk d RR ≠ 0 ∧ x = 0 ∧ y = 0 ∧ z = chk d RR)
def RetSz (d : Int) (RR : List RawRow) (w : World) (e : Ending) (w' : World) : Prop := ∃ x y z : Int, e = .returned (.tuple #[.int .i64 x, .int .i64 y, .int .i64 z]) ∧ Hid (SizV d RR x y z) ∧ Below w.heap.size w w'
set_option maxRecDepth 100000 in
set_option maxHeartbeats 2000000 in
theorem msize_any {N K : Nat} {s : Bool} {A G : Option Addr} {n c r k : Nat} {RR : List RawRow} {w : World} (h' : RdRss w w.heap.size N K G r k RR) (hr : r ≤ 1048576) :
  Calls Tryz.prog 134 #[.agg #[.bool s, .slice A n c, .slice G r k]] w (RetKK RR.length (colsOf RR) w) := by
 obtain ⟨W1, HW1⟩ : ∃ W, W = w.alloc (.cells #[.bool s, .slice A n c, .slice G r k] 28) := ⟨_, rfl⟩
 have hM : MC W1 w.heap.size s A n c G r k := by rw [HW1]; exact MC.new w s A n c G r k
 have hB : Below w.heap.size w W1 := by rw [HW1]; exact (Below.refl _ _).alloc (Nat.le_refl _) _
 have HM := Lib.hid (show ∀ W, Below W1.heap.size W1 W → W.cell? ⟨w.heap.size, 2, none⟩ = some (.slice G r k) from fun W hb => (hM.next hb).c2)
 have HB := Lib.hid hB
 have HX := Lib.hid (h'.next hB)
 have HL := Lib.hid h'.len
 have HD := Lib.hid (Below.refl W1.heap.size W1).drew
 have HW1 := Lib.hid HW1
 clear h' hM hB
 go_enter Tryz.func134, Tryz.ntmps134
 go_upto_region 1 with fail
 rw [← HW1.out]
 clear HW1
 clear HW1
 have m2 := HM.out W1 (Below.refl _ _)
 go_region_held3 (fun w' => w'.cell? ⟨w.heap.size, 2, none⟩ = some (.slice G r k))
  (first | exact HM.out _ HB2.out | exact HM.out _ HD.out)
  (first
   | (go_at_call 174; refine (cols_any (HX.out.next HD.out) hr).mono ?_; rintro _ W2 ⟨v, rfl, hv, hb2⟩; have HB2 := Lib.hid (HD.out.trans hb2)))
 all_goals
  have HF := Lib.hid (HB.out.trans (HB2.out.mono HB.out.size))
  clear m2 hb2
  go_wp2
  go_ret2
  exact ⟨_, _, rfl, Lib.hid ⟨by rw [HL.out], hv.out⟩, HF.out⟩
set_option maxRecDepth 100000 in
set_option maxHeartbeats 2000000 in
theorem mSize_any {N K : Nat} {s : Bool} {A G : Option Addr} {n c r k : Nat} {d : Int} {RR : List RawRow} {w : World} (h : RdZ w w.heap.size s A n c d) (h' : RdRss w w.heap.size N K G r k RR) (hn : n ≤ 17592186044416) (hr : r ≤ 1048576) :
  Calls Tryz.prog 80 #[.agg #[.bool s, .slice A n c, .slice G r k]] w (RetSz d RR w) := by
 obtain ⟨W1, HW1⟩ : ∃ W, W = w.alloc (.cells #[.bool s, .slice A n c, .slice G r k] 28) := ⟨_, rfl⟩
 have hM : MC W1 w.heap.size s A n c G r k := by rw [HW1]; exact MC.new w s A n c G r k
 have hB : Below w.heap.size w W1 := by rw [HW1]; exact (Below.refl _ _).alloc (Nat.le_refl _) _
 have HM := Lib.hid hM
 have HB := Lib.hid hB
 have HX := Lib.hid (And.intro (h.next hB) (h'.next hB))
 have m0 := hM.c0
 have m1 := hM.c1
 have m2 := hM.c2
 rw [HW1] at m0 m1 m2
 have HW1 := Lib.hid HW1
 clear h h' hM hB
 go_enter Tryz.func80, Tryz.ntmps80
 go_wp2_with fail
 rw [← HW1.out]
 clear HW1
 clear HW1
 refine (mcheck_any HX.out.1 HX.out.2 hn hr).mono ?_
 rintro _ W2 ⟨v, rfl, hv, hb2⟩
 have HB2 := Lib.hid (HB.out.trans (hb2.mono HB.out.size))
 have HR2 := Lib.hid (HX.out.2.next hb2)
 have q0 := (HM.out.next hb2).c0
 have q1 := (HM.out.next hb2).c1
 have q2 := (HM.out.next hb2).c2
 clear m0 m1 m2 hb2
 by_cases h0 : v = 0
 ·have HC := Lib.hid (show chk d RR = 0 from by rw [← hv.out]; exact h0)
  subst h0
  clear hv
  go_wp2_with fail
  refine (msize_any HR2.out hr).mono ?_
  rintro _ W3 ⟨x, y, rfl, hxy, hb3⟩
  have HB3 := Lib.hid (HB2.out.trans (hb3.mono HB2.out.size))
  clear hb3 q0 q1 q2
  go_wp2
  go_ret3
  exact ⟨x, y, 0, rfl, Lib.hid (.inl ⟨HC.out, hxy.out.1, hxy.out.2, rfl⟩), HB3.out⟩
 ·have hvb : (v == 0) = false := by simp [h0]
  have HC := Lib.hid (show chk d RR ≠ 0 from by rw [← hv.out]; exact h0)
  clear q0 q1 q2
  go_wp2
  go_ret3
  exact ⟨0, 0, v, rfl, Lib.hid (.inr ⟨HC.out, rfl, rfl, hv.out⟩), HB2.out⟩
end Go.Proofs.YtjnklbfhelbjgaaGreat

/- Reference 11: Check. -/
namespace Go.Proofs.YtjnklbfhelbjgaaGreat
open Go.RowKit Go.IntWalk
attribute [local go_sem ↓] Go.wp_at_zero Go.wp_at_succ
end Go.Proofs.YtjnklbfhelbjgaaGreat

/- Reference 11: Same. -/
namespace Go.Proofs.YtjnklbfhelbjgaaGreat
open Go.RowKit Go.IntWalk
attribute [local go_sem ↓] Go.wp_at_zero Go.wp_at_succ
end Go.Proofs.YtjnklbfhelbjgaaGreat

/- Raw rows of the call's own; reference 03: CopyAll, its answer of the call's own. -/
namespace Go.Proofs.YtjnklbfhelbjgaaGreat
open Go.RowKit Go.IntWalk
attribute [local go_sem ↓] Go.wp_at_zero Go.wp_at_succ
def KeepI (w w' : World) : Prop := KeepT w w' ∧ ∀ (i : Nat) (cs : Array Value) (f : Nat × Nat), w.heap[i]? = some (.cells cs 25 f) → w'.heap[i]? = some (.cells cs 25 f)
section
variable {w w' : World} {b b' : Nat} {A : Option Addr} {n c : Nat} {R : RawRow}
end
end Go.Proofs.YtjnklbfhelbjgaaGreat
