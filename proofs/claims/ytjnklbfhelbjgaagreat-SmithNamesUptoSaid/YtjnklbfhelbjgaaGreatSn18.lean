/- zint: the least common multiple. -/
import Derived.Test.YtjnklbfhelbjgaaGreatSn10
namespace Go.Proofs.YtjnklbfhelbjgaaGreat
open Go.RowKit Go.IntWalk
attribute [local go_sem ↓] Go.wp_at_zero Go.wp_at_succ
theorem zcG1 {V W : World} (hb : Below (V.drew.alloc (.cells #[.bool false, .slice none 0 0] 25)).heap.size (V.drew.alloc (.cells #[.bool false, .slice none 0 0] 25)) W) : ZC W V.heap.size false none 0 0 := (ZC.new V.drew false none 0 0).next hb
theorem zcG2 {V W : World} (hb : Below (V.alloc (.cells #[.bool false, .slice none 0 0] 25)).heap.size (V.alloc (.cells #[.bool false, .slice none 0 0] 25)) W) : ZC W V.heap.size false none 0 0 := (ZC.new V false none 0 0).next hb
theorem below_put2 {B g : Nat} {w w' : World} (hb : Below B w w') (hg : B ≤ g) (x y : Value) : Below B w ((w'.setCell ⟨g, 0, none⟩ x).setCell ⟨g, 1, none⟩ y) :=
 (hb.setCell (p := ⟨g, 0, none⟩) hg _).setCell (p := ⟨g, 1, none⟩) hg _
theorem lcm_val (z z' : Int) : ((z.natAbs : Int).tdiv (Int.gcd z z' : Int)) * (z'.natAbs : Int) = ((Nat.lcm z.natAbs z'.natAbs : Nat) : Int) := by
 have h := Nat.gcd_dvd_left z.natAbs z'.natAbs
 rw [show (Int.gcd z z' : Int) = ((Nat.gcd z.natAbs z'.natAbs : Nat) : Int) from rfl, show ((z.natAbs : Int).tdiv ((Nat.gcd z.natAbs z'.natAbs : Nat) : Int)) = ((z.natAbs / Nat.gcd z.natAbs z'.natAbs : Nat) : Int) from rfl, ← Int.natCast_mul]
 congr 1
 rw [Nat.lcm, Nat.div_mul_right_comm h]
set_option maxRecDepth 100000 in
set_option maxHeartbeats 8000000 in
theorem ilcm_any {s s' : Bool} {A A' : Option Addr} {n c n' c' : Nat} {z z' : Int} {w : World} (h : RdZ w w.heap.size s A n c z) (h' : RdZ w w.heap.size s' A' n' c' z') (hn : n ≤ 400000000000) (hn' : n' ≤ 400000000000) (hz : 0 < z) :
  Calls Tryz.prog 210 #[.agg #[.bool s, .slice A n c], .agg #[.bool s', .slice A' n' c']] w (RetI ((Nat.lcm z.natAbs z'.natAbs : Nat) : Int) w) := by
 obtain ⟨hX, hY, hR, hB⟩ := boxed2 w s A n c s' A' n' c'
 obtain ⟨W1, HW1⟩ : ∃ W, W = ((w.alloc (.cells #[.bool s, .slice A n c] 25)).alloc (.cells #[.bool s', .slice A' n' c'] 25)).alloc (.cells #[.bool false, .slice none 0 0] 25) := ⟨_, rfl⟩
 rw [← HW1] at hX hY hR hB
 have HL := Lib.hid (show Zz.zl z ≤ 400000000000 ∧ Zz.zl z' ≤ 400000000000 from ⟨Nat.le_trans h.len hn, Nat.le_trans h'.len hn'⟩)
 have HZ := Lib.hid hz
 have HCE := Lib.hid (show ∀ W : World, Below W1.heap.size W1 W → (ZC W w.heap.size s A n c ∧ ZC W (w.heap.size + 1) s' A' n' c' ∧ ZC W (w.heap.size + 1 + 1) false none 0 0) ∧ RdZ W W.heap.size s A n c z ∧ RdZ W W.heap.size s' A' n' c' z' from fun W hb => ⟨⟨hX.next hb, hY.next hb, hR.next hb⟩, (h.next hB).next hb, (h'.next hB).next hb⟩)
 have HB := Lib.hid hB
 have HS := Lib.hid hR.lt
 have a0 := hX.c0
 have a1 := hX.c1
 have b0 := hY.c0
 have b1 := hY.c1
 rw [HW1] at a0 a1 b0 b1
 have HW1 := Lib.hid HW1
 clear hX hY hR hB h h' hz
 go_enter Tryz.func210, Tryz.ntmps210
 go_wp2_with fail
 rw [← HW1.out]
 clear HW1 a0 a1 b0 b1
 clear HW1
 refine (igcd_any (HCE.out _ (Below.refl _ _)).2.1 (HCE.out _ (Below.refl _ _)).2.2 (by omega) (by omega)).mono ?_
 rintro _ W2 ⟨s2, A2, n2, c2, g2, rfl, ho2, hg2, hb2⟩
 obtain ⟨W3, HW3⟩ : ∃ W, W = W2.alloc (.cells #[.bool s2, .slice A2 n2 c2] 25) := ⟨_, rfl⟩
 have hG : ZC W3 W2.heap.size s2 A2 n2 c2 := by rw [HW3]; exact ZC.new W2 s2 A2 n2 c2
 have hb3 : Below W2.heap.size W2 W3 := by rw [HW3]; exact (Below.refl _ _).alloc (Nat.le_refl _) _
 have HB3 := Lib.hid (hb2.trans (hb3.mono hb2.size))
 have HG3 := Lib.hid (And.intro hG ((ho2.base (b' := W1.heap.size) (Nat.le_refl _)).next hb3))
 have HGV := Lib.hid (show g2 = (Int.gcd z z' : Int) ∧ g2 ≠ 0 from ⟨hg2.out, by
  rw [hg2.out]
  have : Int.gcd z z' ≠ 0 := fun e => by have := (Int.gcd_eq_zero_iff.1 e).1; have := HZ.out; omega
  omega⟩)
 have HN2 := Lib.hid (show n2 ≤ 400000000000 by
  rw [ho2.len, HGV.out.1]
  have e1 := Zz.zl_gcd z z'
  have e2 := HL.out
  omega)
 have a0 := hG.c0
 have a1 := hG.c1
 rw [HW3] at a0 a1
 have HGN := Lib.hid (show W1.heap.size ≤ W2.heap.size from hb2.size)
 have HW3 := Lib.hid HW3
 clear hG hb2 hb3 ho2 hg2
 go_wp2_with fail
 rw [← HW3.out]
 clear HW3 a0 a1
 clear HW3
 generalize W2.heap.size = gg at *
 refine (sign_any HG3.out.2.rd (by have := HN2.out; omega)).mono ?_
 rintro _ W4 ⟨k, rfl, hk, hb4⟩
 have hkb : (k == 0) = false := by
  have e := hk.out
  have e2 := mt Int.sign_eq_zero_iff_zero.1 HGV.out.2
  rw [← e] at e2
  simpa using e2
 have HB4 := Lib.hid (HB3.out.trans (hb4.mono HB3.out.size))
 have HG4 := Lib.hid (And.intro (HG3.out.1.next hb4) (HG3.out.2.next hb4))
 clear hb4 hk HG3
 go_upto_region 4 with fail
 go_cut [6, 7] from 15 to 21 (fun pv _ V => ∃ (gq : Nat) (s5 : Bool) (A5 : Option Addr) (n5 c5 : Nat) (q : Int), pv = .pointer (some ⟨gq, 0, none⟩) ∧ ZC V gq s5 A5 n5 c5 ∧ OwZ V W1.heap.size s5 A5 n5 c5 q ∧ Hid (q = ((z.natAbs : Int).tdiv (Int.gcd z z' : Int)) ∧ W4.heap.size ≤ gq) ∧ Below W4.heap.size W4 V)
 case first =>
  have HBD := Lib.hid (Below.refl W4.heap.size W4).drew
  have HXX := Lib.hid (show ∀ W : World, Below W4.heap.size W4 W → (W.cell? ⟨w.heap.size, 0, none⟩ = some (.bool s) ∧ W.cell? ⟨w.heap.size, 1, none⟩ = some (.slice A n c) ∧ W.cell? ⟨gg, 0, none⟩ = some (.bool s2) ∧ W.cell? ⟨gg, 1, none⟩ = some (.slice A2 n2 c2)) from fun W hb => ⟨((HCE.out _ HB4.out).1.1.next hb).c0, ((HCE.out _ HB4.out).1.1.next hb).c1, (HG4.out.1.next hb).c0, (HG4.out.1.next hb).c1⟩)
  have HRZ := Lib.hid (show ∀ W : World, Below W4.heap.size W4 W → RdZ W W.heap.size s A n c z ∧ OwZ W W1.heap.size s2 A2 n2 c2 g2 from fun W hb => ⟨(HCE.out _ HB4.out).2.1.next hb, HG4.out.2.next hb⟩)
  obtain ⟨x0, x1, x2, x3⟩ := HXX.out _ (Below.refl _ _)
  go_region_held3 (fun w' => w'.cell? ⟨w.heap.size, 0, none⟩ = some (.bool s) ∧ w'.cell? ⟨w.heap.size, 1, none⟩ = some (.slice A n c) ∧ w'.cell? ⟨gg, 0, none⟩ = some (.bool s2) ∧ w'.cell? ⟨gg, 1, none⟩ = some (.slice A2 n2 c2))
   (first | exact HXX.out _ HB6.out | exact HXX.out _ HB5.out | exact HXX.out _ HBD.out | exact HXX.out _ (HBD.out.alloc HBD.out.size _) | exact HXX.out _ (HB5.out.alloc HB5.out.size _) | exact HXX.out _ (HB6.out.alloc HB6.out.size _) | exact HXX.out _ (below_put2 HB6.out (by first | exact Nat.le_refl _ | exact HB5.out.size | exact HB6.out.size) _ _))
   (first
    | (go_at_call 173; refine (abs_any (HRZ.out _ (by first | exact HBD.out | exact HBD.out.alloc HBD.out.size _)).1 (by omega)).mono ?_; rintro _ W5 ⟨t5, D5, m5, l5, y5, rfl, ho5, hy5, hb5⟩; have HB5 : Hid (Below W4.heap.size W4 W5) := Lib.hid (by first | exact HBD.out.trans hb5 | exact (HBD.out.alloc HBD.out.size _).trans (hb5.mono (by simp))); (first | have HA5 : Hid (ZC W5 W4.heap.size false none 0 0) := Lib.hid (zcG1 hb5) | skip); have HN5 := Lib.hid (show m5 ≤ 1000000000000 by { rw [ho5.len, hy5.out, Zz.zl_abs]; have := HL.out; omega }))
    | (go_at_call 138; refine (exact_any (by first | exact ho5.rd | exact (ho5.next ((Below.refl _ _).alloc (Nat.le_refl _) _)).rd) (HRZ.out _ (by first | exact HB5.out | exact HB5.out.alloc HB5.out.size _)).2.rd HN5.out (by have := HN2.out; omega) HGV.out.2).mono ?_; rintro _ W6 ⟨s5, A5, n5, c5, q, e6, rfl, ho6, hq, hb6⟩; have HB56 : Hid (Below W5.heap.size W5 W6) := Lib.hid (by first | exact hb6 | exact ((Below.refl W5.heap.size W5).alloc (Nat.le_refl _) _).trans (hb6.mono (by simp))); have HB6 := Lib.hid (HB5.out.trans (HB56.out.mono HB5.out.size)); have HO6 : Hid (OwZ W6 W1.heap.size s5 A5 n5 c5 q) := Lib.hid (by first | exact ho6.base (Nat.le_trans HB4.out.size HB5.out.size) | exact ho6.base (by have := HB5.out.size; have := HB4.out.size; simp; omega)); (try have hA6 := HA5.out.next HB56.out); (first | have hA6 : ZC W6 W5.heap.size false none 0 0 := zcG2 hb6 | skip); (try have r0 := hA6.c0); (try have r1 := hA6.c1); (try have f0 := hA6.fz 0); (try have f1 := hA6.fz 1)))
  all_goals
   have HV := Lib.hid (show q = ((z.natAbs : Int).tdiv (Int.gcd z z' : Int)) by
    rw [← HGV.out.1, ← hy5.out]
    rcases hq.out with ⟨_, f2, _⟩ | ⟨f1, _, _⟩
    ·exact f2
    ·exact absurd (Int.tmod_eq_zero_of_dvd (by rw [hy5.out, HGV.out.1]; exact Int.dvd_natAbs.2 (Int.gcd_dvd_left z z'))) f1)
   go_wp2
   go_meet
   first
    | exact ⟨W5.heap.size, s5, A5, n5, c5, q, rfl, hA6.store s5 A5 n5 c5, HO6.out.keep (keep_set2 hA6 (.bool s5) (.slice A5 n5 c5)), Lib.hid ⟨HV.out, HB5.out.size⟩, below_put2 HB6.out HB5.out.size _ _⟩
    | exact ⟨W4.heap.size, s5, A5, n5, c5, q, rfl, hA6.store s5 A5 n5 c5, HO6.out.keep (keep_set2 hA6 (.bool s5) (.slice A5 n5 c5)), Lib.hid ⟨HV.out, Nat.le_refl _⟩, below_put2 HB6.out (Nat.le_refl _) _ _⟩
    | exact ⟨W6.heap.size, s5, A5, n5, c5, q, rfl, ZC.new W6 s5 A5 n5 c5, HO6.out.next ((Below.refl _ _).alloc (Nat.le_refl _) _), Lib.hid ⟨HV.out, HB6.out.size⟩, HB6.out.alloc HB6.out.size _⟩
 case rest =>
  obtain ⟨gq, s5, A5, n5, c5, q, rfl, hQ, hoq, hq, hbq⟩ := hcut
  have HBQ := Lib.hid (HB4.out.trans (hbq.mono HB4.out.size))
  have HBD := Lib.hid (Below.refl wc.heap.size wc).drew
  have HXX := Lib.hid (show ∀ W : World, Below wc.heap.size wc W → (W.cell? ⟨w.heap.size + 1, 0, none⟩ = some (.bool s') ∧ W.cell? ⟨w.heap.size + 1, 1, none⟩ = some (.slice A' n' c') ∧ W.cell? ⟨gq, 0, none⟩ = some (.bool s5) ∧ W.cell? ⟨gq, 1, none⟩ = some (.slice A5 n5 c5)) from fun W hb => ⟨((HCE.out _ HBQ.out).1.2.1.next hb).c0, ((HCE.out _ HBQ.out).1.2.1.next hb).c1, (hQ.next hb).c0, (hQ.next hb).c1⟩)
  have HRZ := Lib.hid (show ∀ W : World, Below wc.heap.size wc W → RdZ W W.heap.size s' A' n' c' z' ∧ OwZ W W1.heap.size s5 A5 n5 c5 q ∧ ZC W (w.heap.size + 1 + 1) false none 0 0 from fun W hb => ⟨(HCE.out _ HBQ.out).2.2.next hb, hoq.next hb, (HCE.out _ HBQ.out).1.2.2.next hb⟩)
  have HQN := Lib.hid (show n5 ≤ 1000000000000 by
   rw [hoq.len, hq.out.1]
   have := Zz.zl_tdiv (z.natAbs : Int) (Int.gcd z z' : Int)
   rw [Zz.zl_abs] at this
   have := HL.out
   omega)
  have HSZ := Lib.hid (show w.heap.size + 1 + 1 < gq from Nat.lt_of_lt_of_le HS.out (Nat.le_trans HB4.out.size hq.out.2))
  have HCP := Lib.hid (show ∀ (W : World) (x y : Value), Below wc.heap.size wc W → (((W.setCell ⟨w.heap.size + 1 + 1, 0, none⟩ x).setCell ⟨w.heap.size + 1 + 1, 1, none⟩ y).cell? ⟨w.heap.size + 1, 0, none⟩ = some (.bool s') ∧ ((W.setCell ⟨w.heap.size + 1 + 1, 0, none⟩ x).setCell ⟨w.heap.size + 1 + 1, 1, none⟩ y).cell? ⟨w.heap.size + 1, 1, none⟩ = some (.slice A' n' c') ∧ ((W.setCell ⟨w.heap.size + 1 + 1, 0, none⟩ x).setCell ⟨w.heap.size + 1 + 1, 1, none⟩ y).cell? ⟨gq, 0, none⟩ = some (.bool s5) ∧ ((W.setCell ⟨w.heap.size + 1 + 1, 0, none⟩ x).setCell ⟨w.heap.size + 1 + 1, 1, none⟩ y).cell? ⟨gq, 1, none⟩ = some (.slice A5 n5 c5)) from fun W x y hb => by
   have h1 := (((HCE.out _ HBQ.out).1.2.1.next hb).far (p := ⟨w.heap.size + 1 + 1, 0, none⟩) (by simp) x).far (p := ⟨w.heap.size + 1 + 1, 1, none⟩) (by simp) y
   have h2 := ((hQ.next hb).far (p := ⟨w.heap.size + 1 + 1, 0, none⟩) (by have := HSZ.out; simp; omega) x).far (p := ⟨w.heap.size + 1 + 1, 1, none⟩) (by have := HSZ.out; simp; omega) y
   exact ⟨h1.c0, h1.c1, h2.c0, h2.c1⟩)
  obtain ⟨x0, x1, x2, x3⟩ := HXX.out _ (Below.refl _ _)
  clear hQ hoq hbq
  go_wp2_with fail
  go_region_held3 (fun w' => w'.cell? ⟨w.heap.size + 1, 0, none⟩ = some (.bool s') ∧ w'.cell? ⟨w.heap.size + 1, 1, none⟩ = some (.slice A' n' c') ∧ w'.cell? ⟨gq, 0, none⟩ = some (.bool s5) ∧ w'.cell? ⟨gq, 1, none⟩ = some (.slice A5 n5 c5))
   (first | exact HXX.out _ HB6.out | exact HXX.out _ HB5.out | exact HXX.out _ HBD.out | exact HCP.out _ _ _ HB6.out)
   (first
    | (go_at_call 173; refine (abs_any (HRZ.out _ HBD.out).1 (by omega)).mono ?_; rintro _ W5 ⟨t5, D5, m5, l5, y5, rfl, ho5, hy5, hb5⟩; have HB5 := Lib.hid (HBD.out.trans hb5); have HN5 := Lib.hid (show m5 ≤ 1000000000000 by { rw [ho5.len, hy5.out, Zz.zl_abs]; have := HL.out; omega }))
    | (go_at_call 146; refine (imul_any (HRZ.out _ HB5.out).2.1.rd ho5.rd (by have := HQN.out; omega) (by have := HN5.out; omega)).mono ?_; rintro _ W6 ⟨s6, A6, n6, c6, y6, rfl, ho6, hy6, hb6⟩; have HB6 := Lib.hid (HB5.out.trans (hb6.mono HB5.out.size)); have hR6 := (HRZ.out _ HB6.out).2.2; have r0 := hR6.c0; have r1 := hR6.c1; have f0 := hR6.fz 0; have f1 := hR6.fz 1))
  have hR6' := (HRZ.out _ HB6.out).2.2
  have hp := put_int hR6' (HB.out.trans ((HBQ.out.trans (HB6.out.mono HBQ.out.size)).mono HB.out.size)) (show w.heap.size ≤ w.heap.size + 1 + 1 by omega) (ho6.base (b' := W1.heap.size) (Nat.le_trans HBQ.out.size HB5.out.size)) HS.out
  have HV := Lib.hid (show y6 = ((Nat.lcm z.natAbs z'.natAbs : Nat) : Int) by rw [hy6.out, hq.out.1, hy5.out]; exact lcm_val z z')
  clear x0 x1 x2 x3 r0 r1 f0 f1 hR6 hR6' ho5 ho6 hb5 hb6
  generalize (W6.setCell ⟨w.heap.size + 1 + 1, 0, none⟩ (.bool s6)).setCell ⟨w.heap.size + 1 + 1, 1, none⟩ (.slice A6 n6 c6) = W9 at *
  obtain ⟨hZ9, ho9, hB9⟩ := hp
  have z0 := hZ9.c0
  have z1 := hZ9.c1
  go_wp2
  exact bodyPost_ret (by simp [results, Tryz.results210, go_sem, z0, z1]) rfl ⟨s6, A6, n6, c6, y6, rfl, ho9.base (by have := HS.out; omega), HV, hB9⟩
set_option maxRecDepth 100000 in
set_option maxHeartbeats 4000000 in
theorem folded_lcm {N M b : Nat} {s0 : Bool} {A0 : Option Addr} {n0 c0 : Nat} {A : Option Addr} {n c : Nat} {L : List Int} {w : World} (h : RdZs w w.heap.size N A n c L) (h0 : OwZ w b s0 A0 n0 c0 1) (hb : b ≤ w.heap.size) (hp : ∀ x ∈ L, 0 < x) (hN : N ≤ 400000000000) (hM : M ≤ 400000000000) (hS : ∀ j, Zz.zl ((L.take j).foldl (fun (g x : Int) => ((Nat.lcm g.natAbs x.natAbs : Nat) : Int)) 1) ≤ M) :
  Calls Tryz.prog 190 #[.agg #[.bool s0, .slice A0 n0 c0], .slice A n c, .func (.func 210) #[] #[]] w fun e w' => ∃ (s : Bool) (A : Option Addr) (n c : Nat) (y : Int), e = .returned (.agg #[.bool s, .slice A n c]) ∧ OwZ w' b s A n c y ∧ Hid (y = L.foldl (fun (g x : Int) => ((Nat.lcm g.natAbs x.natAbs : Nat) : Int)) 1 ∧ 0 < y) ∧ Below w.heap.size w w' := by
 have hEN := enters_of Tryz.func210 (by kernel_rfl) rfl
 have HLEN := Lib.hid h.len
 have HP := Lib.hid hp
 have HSZ := Lib.hid hS
 clear hp hS
 have hn48 : n ≤ 9223372036854775807 := by
  have h1 := h.mx
  have h2 := h.le
  unfold maxLen at h1
  omega
 obtain ⟨hZ, hR, hB⟩ := boxed1 w s0 A0 n0 c0
 have h01 := h0.next hB
 go_enter Tryz.func190, Tryz.ntmps190
 go_wp2_with fail
 generalize (w.alloc (.cells #[.bool s0, .slice A0 n0 c0] 25)).alloc (.cells #[.bool false, .slice none 0 0] 25) = W1 at *
 have HS1 := Lib.hid hR.lt
 have HBb := Lib.hid hb
 go_loopw [11] (fun iv wr => ∃ (j : Nat) (s : Bool) (A' : Option Addr) (n' c' : Nat) (y : Int), iv = .int .i64 j ∧ j ≤ n ∧ ZC wr w.heap.size s A' n' c' ∧ ZC wr (w.heap.size + 1) false none 0 0 ∧ Hid (W1.heap.size ≤ wr.heap.size) ∧ OwZ wr b s A' n' c' y ∧ Hid (y = (L.take j).foldl (fun (g x : Int) => ((Nat.lcm g.natAbs x.natAbs : Nat) : Int)) 1 ∧ 0 < y) ∧ Below w.heap.size w wr) (fun iv _ => n - (intOf iv).toNat)
 case atStart => exact ⟨0, s0, A0, n0, c0, 1, rfl, Nat.zero_le _, hZ, hR, Lib.hid (Nat.le_refl _), h01, Lib.hid ⟨rfl, by decide⟩, hB⟩
 case round =>
  clear hZ hR hB h01 h0 hb
  obtain ⟨j, s, A', n', c', y, rfl, hj, hZ, hR, HB1, ho, hy, hB⟩ := hrel
  by_cases hjn : j = n
  ·subst hjn
   have hc0 := hZ.c0
   have hc1 := hZ.c1
   have hr0 := hR.c0
   have hr1 := hR.c1
   have hf0 := hR.fz 0
   have hf1 := hR.fz 1
   have HZ5 := Lib.hid (hR.store s A' n' c')
   have HO5 := Lib.hid (ho.keep (keep_set2 hR (.bool s) (.slice A' n' c')))
   have HB5 := Lib.hid (below_put2 hB (Nat.le_succ w.heap.size) (.bool s) (.slice A' n' c'))
   go_wp2
   generalize (wr.setCell ⟨w.heap.size + 1, 0, none⟩ (.bool s)).setCell ⟨w.heap.size + 1, 1, none⟩ (.slice A' n' c') = W5 at *
   exact bodyPost_ret (by simp [results, Tryz.results190, go_sem, HZ5.out.c0, HZ5.out.c1]) rfl ⟨s, A', n', c', y, rfl, HO5.out, Lib.hid (by rw [hy.out.1, List.take_of_length_le (by rw [HLEN.out]; exact Nat.le_refl _)]; rw [hy.out.1, List.take_of_length_le (by rw [HLEN.out]; exact Nat.le_refl _)] at hy; exact ⟨rfl, by have := hy.out.2; exact this⟩), HB5.out⟩
  ·have hjl : j < n := by omega
   clear hjn
   obtain ⟨x, hx⟩ := zs_get (L := L) (j := j) (by rw [HLEN.out]; exact hjl)
   obtain ⟨ad, s2, A2, n2, c2, rfl, hbk, hx0, hx1, hr, hn2⟩ := h.at_ j x hx
   have hx0' := (hB.cell (p := ad.add (j * 2)) (by rw [add_blk]; exact hbk)).trans hx0
   have hx1' := (hB.cell (p := ⟨(ad.add (j * 2)).block, (ad.add (j * 2)).off + 1, none⟩) (by show (ad.add (j * 2)).block < _; rw [add_blk]; exact hbk)).trans hx1
   have hjl' : (j : Int) < (n : Int) := by omega
   obtain ⟨W2, HW2⟩ : ∃ W, W = wr.alloc (.cells #[.bool s2, .slice A2 n2 c2] 25) := ⟨_, rfl⟩
   have hX : ZC W2 wr.heap.size s2 A2 n2 c2 := by rw [HW2]; exact ZC.new wr s2 A2 n2 c2
   have hb2 : Below wr.heap.size wr W2 := by rw [HW2]; exact (Below.refl wr.heap.size wr).alloc (Nat.le_refl _) _
   have hZ2 := hZ.next hb2
   have hc0 := hZ2.c0
   have hc1 := hZ2.c1
   have hd0 := hX.c0
   have hd1 := hX.c1
   rw [HW2] at hc0 hc1 hd0 hd1
   have HW2 := Lib.hid HW2
   have HLY := Lib.hid (show n' ≤ 400000000000 by rw [ho.len, hy.out.1]; exact Nat.le_trans (HSZ.out j) hM)
   go_wp2_with fail
   clear hc0 hc1 hd0 hd1
   rw [← HW2.out]
   clear HW2
   have hR2 := hR.next hb2
   have hB2 := hB.trans (hb2.mono hB.size)
   have hr2 := (hr.next hB2)
   have ho2 := ho.next hb2
   refine (ilcm_any ho2.rd hr2 HLY.out (by omega) hy.out.2).mono ?_
   rintro _ W3 ⟨s3, A3, m3, c3, z3, rfl, ho3, hz3, hb3⟩
   have hZ3 := hZ2.next hb3
   have hR3 := hR2.next hb3
   have hB3 := hB2.trans (hb3.mono hB2.size)
   have hc0 := hZ3.c0
   have hc1 := hZ3.c1
   have hf0 := hZ3.fz 0
   have hf1 := hZ3.fz 1
   have HS2 := Lib.hid (show w.heap.size < W2.heap.size from hZ2.lt)
   have HFO := Lib.hid (show z3 = (L.take (j + 1)).foldl (fun (g x : Int) => ((Nat.lcm g.natAbs x.natAbs : Nat) : Int)) 1 ∧ 0 < z3 from ⟨by rw [foldl_take hx, hz3.out, hy.out.1], by
    rw [hz3.out]
    have h1 := hy.out.2
    have h2 := HP.out x (List.mem_of_getElem? hx)
    have := Nat.lcm_pos (m := y.natAbs) (n := x.natAbs) (by omega) (by omega)
    omega⟩)
   have HB12 := Lib.hid (show W1.heap.size ≤ W2.heap.size from Nat.le_trans HB1.out hb2.size)
   have HB23 := Lib.hid hb3.size
   have HBW := Lib.hid (show b ≤ W2.heap.size from Nat.le_trans HBb.out hB2.size)
   clear hx hx0 hx1 hx0' hx1' hr hr2 hZ hZ2 hX hR hR2 hb2 hb3 ho ho2 hy hz3
   go_wp2
   have HZ5 := Lib.hid (hZ3.store s3 A3 m3 c3)
   have HO5 := Lib.hid ((ho3.base (b' := b) HBW.out).keep (keep_set2 hZ3 (.bool s3) (.slice A3 m3 c3)))
   have HBF := Lib.hid (below_put2 hB3 (Nat.le_refl w.heap.size) (.bool s3) (.slice A3 m3 c3))
   have HS5 := Lib.hid (show W2.heap.size ≤ ((W3.setCell ⟨w.heap.size, 0, none⟩ (.bool s3)).setCell ⟨w.heap.size, 1, none⟩ (.slice A3 m3 c3)).heap.size by simpa using HB23.out)
   have hR5 := (hR3.far (p := ⟨w.heap.size, 0, none⟩) (by simp) (.bool s3)).far (p := ⟨w.heap.size, 1, none⟩) (by simp) (.slice A3 m3 c3)
   generalize (W3.setCell ⟨w.heap.size, 0, none⟩ (.bool s3)).setCell ⟨w.heap.size, 1, none⟩ (.slice A3 m3 c3) = W5 at *
   have HB15 : W1.heap.size ≤ W5.heap.size := Nat.le_trans HB12.out HS5.out
   go_roundw
   case rel => exact ⟨j + 1, s3, A3, m3, c3, z3, by go_num, by omega, HZ5.out, hR5, Lib.hid HB15, HO5.out, HFO, HBF.out⟩
   case measure => simp [intOf]; omega
set_option maxHeartbeats 1000000 in
theorem lcml_any {N M : Nat} {A : Option Addr} {n c : Nat} {L : List Int} {w : World} (h : RdZs w w.heap.size N A n c L) (hp : ∀ x ∈ L, 0 < x) (hN : N ≤ 400000000000) (hM : M ≤ 400000000000) (hS : ∀ j, Zz.zl ((L.take j).foldl (fun (g x : Int) => ((Nat.lcm g.natAbs x.natAbs : Nat) : Int)) 1) ≤ M) :
  Calls Tryz.prog 171 #[.slice A n c] w (RetI (L.foldl (fun (g x : Int) => ((Nat.lcm g.natAbs x.natAbs : Nat) : Int)) 1) w) := by
 obtain ⟨W1, HW1⟩ : ∃ W, W = w.alloc (.cells #[.bool false, .slice none 0 0] 25) := ⟨_, rfl⟩
 have hR : ZC W1 w.heap.size false none 0 0 := by rw [HW1]; exact ZC.new w false none 0 0
 have hB : Below w.heap.size w W1 := by rw [HW1]; exact (Below.refl w.heap.size w).alloc (Nat.le_refl _) _
 have HW1 := Lib.hid HW1
 have h1 := h.next hB
 have HS1 := Lib.hid hR.lt
 go_enter Tryz.func171, Tryz.ntmps171
 go_wp2_with fail
 rw [← HW1.out]
 clear HW1
 clear HW1
 refine (of_any 1 (by decide) (by decide) W1).mono ?_
 rintro _ W2 ⟨s2, A2, n2, c2, y2, rfl, ho2, hy2, hb2⟩
 obtain rfl : y2 = 1 := hy2.out
 go_wp2_with fail
 refine (folded_lcm (b := W1.heap.size) (M := M) (h1.next hb2) ho2 hb2.size hp hN hM hS).mono ?_
 rintro _ W3 ⟨s3, A3, m3, c3, z3, rfl, ho3, hz3, hb3⟩
 have hb13 := hb2.trans (hb3.mono hb2.size)
 have hR3 := hR.next hb13
 have hB3 := hB.trans (hb13.mono hB.size)
 have hc0 := hR3.c0
 have hc1 := hR3.c1
 have hf0 := hR3.fz 0
 have hf1 := hR3.fz 1
 clear hb3 hb2 hb13 hR h1 h
 go_wp2
 have hp := put_int hR3 hB3 (Nat.le_refl _) ho3 HS1.out
 generalize (W3.setCell ⟨w.heap.size, 0, none⟩ (.bool s3)).setCell ⟨w.heap.size, 1, none⟩ (.slice A3 m3 c3) = W5 at hp ⊢
 obtain ⟨hZ5, ho5, hB5⟩ := hp
 exact bodyPost_ret (by simp [results, Tryz.results171, go_sem, hZ5.c0, hZ5.c1]) rfl ⟨_, _, _, _, _, rfl, ho5.base (Nat.le_of_lt HS1.out), Lib.hid hz3.out.1, hB5⟩
end Go.Proofs.YtjnklbfhelbjgaaGreat
