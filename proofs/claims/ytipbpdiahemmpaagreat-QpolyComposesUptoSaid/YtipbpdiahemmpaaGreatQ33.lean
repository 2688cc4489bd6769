/- qpoly: the derivative; an integer polynomial by a number; by the lead. -/
import Derived.Test.YtipbpdiahemmpaaGreatQ32
namespace Go.Proofs.YtipbpdiahemmpaaGreat
open Go.RowKit Go.IntWalk
attribute [local go_sem ↓] Go.wp_at_zero Go.wp_at_succ

theorem zl_nat {k N : Nat} (h : k < 4294967296) (hN : 1 ≤ N) : Zz.zl (k : Int) ≤ N := Nat.le_trans (Zz.zl_small (by simpa using h)) hN

/-- A new fraction's cells, behind what came after. -/
theorem qcF1 {V W : World} (hb : Below (V.drew.alloc (.cells #[.bool false, .slice none 0 0, .bool false, .slice none 0 0] 56)).heap.size (V.drew.alloc (.cells #[.bool false, .slice none 0 0, .bool false, .slice none 0 0] 56)) W) : QC W V.heap.size false none 0 0 false none 0 0 := (QC.new V.drew false none 0 0 false none 0 0).next hb
theorem qcF2 {V W : World} (hb : Below (V.alloc (.cells #[.bool false, .slice none 0 0, .bool false, .slice none 0 0] 56)).heap.size (V.alloc (.cells #[.bool false, .slice none 0 0, .bool false, .slice none 0 0] 56)) W) : QC W V.heap.size false none 0 0 false none 0 0 := (QC.new V false none 0 0 false none 0 0).next hb

theorem below_put4 {B g : Nat} {w w' : World} (hb : Below B w w') (hg : B ≤ g) (x y z u : Value) : Below B w ((((w'.setCell ⟨g, 0, none⟩ x).setCell ⟨g, 1, none⟩ y).setCell ⟨g, 2, none⟩ z).setCell ⟨g, 3, none⟩ u) :=
  (((hb.setCell (p := ⟨g, 0, none⟩) hg _).setCell (p := ⟨g, 1, none⟩) hg _).setCell (p := ⟨g, 2, none⟩) hg _).setCell (p := ⟨g, 3, none⟩) hg _

set_option maxRecDepth 100000 in
set_option maxHeartbeats 8000000 in
theorem qderive_any {N : Nat} {A : Option Addr} {n c : Nat} {L : List Rat} {w : World} (h : RdQs w w.heap.size N A n c (L.map pr)) (hn : n ≤ 1048576) (hN : N ≤ 200000000000) (h1N : 1 ≤ N) :
    Calls Tryz.prog 145 #[.slice A n c] w (RetPq (fun i => Pq.co L (i + 1) * (((i + 1 : Nat) : Int) : Rat)) w) := by
  have HLEN := Lib.hid h.lenp
  have HSL := Lib.hid (h.szp h1N)
  have H := Lib.hid h
  obtain ⟨i0, hi, hz0, hz1, hz2⟩ := info_parts infoQ
  clear h
  go_enter Tryz.func145, Tryz.ntmps145
  go_wp2_with fail
  go_loopw [3, 4] (fun ov iv wr => ∃ (k j c' : Nat) (A' : Option Addr) (M : List Rat), ov = .slice A' j c' ∧ iv = .int .i64 (k : Int) ∧ Hid (k = j + 1 ∧ (k ≤ n ∨ k = 1)) ∧ OwQs wr w.heap.size A' j c' M ∧ Hid (M = (List.range j).map fun i => Pq.co L (i + 1) * (((i + 1 : Nat) : Int) : Rat)) ∧ Below w.heap.size w wr) (fun _ iv _ => n - (intOf iv).toNat)
  case atStart => exact ⟨1, 0, 0, none, [], rfl, rfl, Lib.hid ⟨rfl, .inr rfl⟩, OwQs.nil _ _, Lib.hid rfl, Below.refl _ _⟩
  case round =>
    obtain ⟨k, j, c', A', M, rfl, rfl, hkj, ho, hM, hB⟩ := hrel
    by_cases hkn : k < n
    · have hkni : (k : Int) < (n : Int) := by omega
      have HK := Lib.hid hkn
      obtain ⟨ad, s1, A1, n1, c1, s2, A2, n2, c2, x, hA, hbk, hx0, hx1, hx2, hx3, hr1, hr2, hn1, hn2, hp⟩ := qp_at H.out hkn
      subst hA
      obtain ⟨hy0, hy1, hy2, hy3⟩ := qs_cells hB hbk hx0 hx1 hx2 hx3
      have HBD := Lib.hid (Below.refl wr.heap.size wr).drew
      have HX := Lib.hid (show ∀ W : World, Below wr.heap.size wr W → RdZ W W.heap.size s1 A1 n1 c1 x.num ∧ RdZ W W.heap.size s2 A2 n2 c2 (x.den : Int) from fun W hb => ⟨(hr1.next hB).next hb, (hr2.next hB).next hb⟩)
      have HCX := Lib.hid (show ∀ W : World, Below wr.heap.size wr W → _ from fun W hb => qs_cells (hB.trans (hb.mono hB.size)) hbk hx0 hx1 hx2 hx3)
      have HO := Lib.hid ho
      have HK2 := Lib.hid (show k < 4294967296 by omega)
      clear hx0 hx1 hx2 hx3 hr1 hr2 ho hkn
      go_upto_region 5 with fail
      go_cut [5, 6] from 13 to 22 (fun pv _ V => ∃ (g : Nat) (s3 : Bool) (A3 : Option Addr) (n3 c3 : Nat) (s4 : Bool) (A4 : Option Addr) (n4 c4 : Nat) (q : Rat), pv = .pointer (some ⟨g, 0, none⟩) ∧ QC V g s3 A3 n3 c3 s4 A4 n4 c4 ∧ OwQ V wr.heap.size s3 A3 n3 c3 s4 A4 n4 c4 q ∧ Hid (q = x * ((k : Int) : Rat)) ∧ Below wr.heap.size wr V)
      case first =>
        go_region_held3 (fun w' => w'.cell? (ad.add (k * 4)) = some (.bool s1) ∧ w'.cell? ⟨(ad.add (k * 4)).block, (ad.add (k * 4)).off + 1, none⟩ = some (.slice A1 n1 c1) ∧ w'.cell? ⟨(ad.add (k * 4)).block, (ad.add (k * 4)).off + 2, none⟩ = some (.bool s2) ∧ w'.cell? ⟨(ad.add (k * 4)).block, (ad.add (k * 4)).off + 3, none⟩ = some (.slice A2 n2 c2))
          (first | exact HCX.out _ HB3.out | exact HCX.out _ HB2.out | exact HCX.out _ HBD.out | exact HCX.out _ (HBD.out.alloc HBD.out.size _) | exact HCX.out _ (HB2.out.alloc HB2.out.size _) | exact HCX.out _ (HB3.out.alloc HB3.out.size _) | exact HCX.out _ (below_put4 HB3.out (by first | exact Nat.le_refl _ | exact HB2.out.size | exact HB3.out.size) _ _ _ _))
          (first
            | (go_at_call 141; refine (qof_any (k : Int) (by have := HK2.out; omega) (by have := HK2.out; omega) _).mono ?_; rintro _ W2 ⟨s5, A5, n5, c5, s6, A6, n6, c6, y2, rfl, ho2, hy2, hb2⟩; obtain rfl := hy2.out; have HB2 : Hid (Below wr.heap.size wr W2) := Lib.hid (by first | exact HBD.out.trans hb2 | exact (HBD.out.alloc HBD.out.size _).trans (hb2.mono (by simp))); (first | have HA2 : Hid (QC W2 wr.heap.size false none 0 0 false none 0 0) := Lib.hid (qcF1 hb2) | skip); have HN2 := Lib.hid (show n5 ≤ N ∧ n6 ≤ N from ⟨by { rw [ho2.num.len]; exact (Qs.int (zl_nat HK2.out h1N) h1N).1 }, by { rw [ho2.den.len]; exact (Qs.int (zl_nat HK2.out h1N) h1N).2 }⟩))
            | (go_at_call 142; refine (qmulq_any (N := N) (HX.out _ (by first | exact HB2.out | exact HB2.out.alloc HB2.out.size _)).1 (HX.out _ (by first | exact HB2.out | exact HB2.out.alloc HB2.out.size _)).2 (by first | exact ho2.num.rd | exact (ho2.next ((Below.refl _ _).alloc (Nat.le_refl _) _)).num.rd) (by first | exact ho2.den.rd | exact (ho2.next ((Below.refl _ _).alloc (Nat.le_refl _) _)).den.rd) ⟨hn1, hn2, HN2.out.1, HN2.out.2⟩ hN).mono ?_; rintro _ W3 ⟨s3, A3, n3, c3, s4, A4, n4, c4, q, rfl, ho3, hq, hb3⟩; have HB23 : Hid (Below W2.heap.size W2 W3) := Lib.hid (by first | exact hb3 | exact ((Below.refl W2.heap.size W2).alloc (Nat.le_refl _) _).trans (hb3.mono (by simp))); have HB3 := Lib.hid (HB2.out.trans (HB23.out.mono HB2.out.size)); have HO3 : Hid (OwQ W3 wr.heap.size s3 A3 n3 c3 s4 A4 n4 c4 q) := Lib.hid (by first | exact ho3.base HB2.out.size | exact ho3.base (by have := HB2.out.size; simp; omega)); (try have hA3 := HA2.out.next HB23.out); (first | have hA3 : QC W3 W2.heap.size false none 0 0 false none 0 0 := qcF2 hb3 | skip); (try have r0 := hA3.c0); (try have r1 := hA3.c1); (try have r2 := hA3.c2); (try have r3 := hA3.c3); (try have f0 := hA3.fz 0); (try have f1 := hA3.fz 1); (try have f2 := hA3.fz 2); (try have f3 := hA3.fz 3)))
        all_goals
          have HV := Lib.hid (show q = x * ((k : Int) : Rat) from hq.out)
          go_wp2
          go_meet
          first
            | exact ⟨W2.heap.size, s3, A3, n3, c3, s4, A4, n4, c4, q, rfl, hA3.store s3 A3 n3 c3 s4 A4 n4 c4, HO3.out.keep (keep_putQ hA3 s3 A3 n3 c3 s4 A4 n4 c4), HV, below_putQ HB3.out HB2.out.size s3 A3 n3 c3 s4 A4 n4 c4⟩
            | exact ⟨wr.heap.size, s3, A3, n3, c3, s4, A4, n4, c4, q, rfl, hA3.store s3 A3 n3 c3 s4 A4 n4 c4, HO3.out.keep (keep_putQ hA3 s3 A3 n3 c3 s4 A4 n4 c4), HV, below_putQ HB3.out (Nat.le_refl _) s3 A3 n3 c3 s4 A4 n4 c4⟩
            | exact ⟨W3.heap.size, s3, A3, n3, c3, s4, A4, n4, c4, q, rfl, QC.new W3 s3 A3 n3 c3 s4 A4 n4 c4, HO3.out.next ((Below.refl _ _).alloc (Nat.le_refl _) _), HV, HB3.out.alloc HB3.out.size _⟩
      case rest =>
        obtain ⟨g, s3, A3, n3, c3, s4, A4, n4, c4, q, rfl, hQ, ho3, hq, hb3⟩ := hcut
        have hB3 := hB.trans (hb3.mono hB.size)
        obtain ⟨E, hE, hEl, hEn⟩ := HO.out.next hb3
        have a0 := hQ.c0
        have a1 := hQ.c1
        have a2 := hQ.c2
        have a3 := hQ.c3
        have HO4 := Lib.hid (ho3.base (b' := w.heap.size) hB.size)
        have HE := Lib.hid hE
        have HEN := Lib.hid (And.intro hEl hEn)
        have HM2 := Lib.hid (show M ++ [q] = (List.range (j + 1)).map fun i => Pq.co L (i + 1) * (((i + 1 : Nat) : Int) : Rat) by rw [hM.out, hq.out, ← Pq.co_get hp.out, hkj.out.1]; exact range_snoc (fun i => Pq.co L (i + 1) * (((i + 1 : Nat) : Int) : Rat)) j)
        have HB4 := Lib.hid hB3
        have HJ := Lib.hid (show j ≤ 1048576 by have := hkj.out; have := HK.out; omega)
        clear hE hEl hEn hb3 ho3 hB3 hq HO hM hQ hy0 hy1 hy2 hy3
        go_wp2_with (at_builtin; refine wpList_append_own _ rfl _ _ 38 rfl w.heap.size 56 i0 (.agg #[.bool false, .slice none 0 0, .bool false, .slice none 0 0]) 4 64 Tryz.underlying38 hi hz0 hz1 hz2 rfl (by decide) _ _ _ rfl (HE.out.alloc _) ⟨wc.heap.size, 0, none⟩ 1 1 [.bool s3, .slice A3 n3 c3, .bool s4, .slice A4 n4 c4] rfl rfl (qcell_new _ _ _ _ _ _) (by simp [Value.oneCell']) (by have := HJ.out; unfold maxLen; omega) (by have := HJ.out; omega) (by have := HB4.out.size; simp at this ⊢; omega) ?_; intro v' w1 hown' hgrow _)
        have hmore := qs_more (e := ((s3, A3, n3, c3), (s4, A4, n4, c4))) (x := q) HO4.out rfl (HE.out.alloc _) HEN.out.1 HEN.out.2 hown' hgrow
        have HB5 := Lib.hid ((HB4.out.alloc HB4.out.size (.cells #[.bool s3, .slice A3 n3 c3, .bool s4, .slice A4 n4 c4] 56)).grown hgrow (by have := HB4.out.size; simp at this ⊢; omega) (own_block HE.out))
        obtain ⟨A9, c9, rfl, ho9⟩ := hmore
        clear hown' hgrow HE HEN HO4 a0 a1 a2 a3
        go_wp2
        go_roundw
        case rel => exact ⟨k + 1, j + 1, c9, A9, M ++ [q], rfl, by go_num, Lib.hid (by have := hkj.out; have := HK.out; omega), ho9, HM2, HB5.out⟩
        case measure => simp [intOf]; omega
    · have hkni : (n : Int) ≤ (k : Int) := by omega
      have HNK := Lib.hid (show n ≤ k by omega)
      have hjn : j ≤ 1048576 := by have := hkj.out; omega
      have HSM := Lib.hid (show ∀ y ∈ M, Qs (N + N) y by
        rw [hM.out]
        intro y hy
        obtain ⟨i, hi, rfl⟩ := List.mem_map.1 hy
        have := List.mem_range.1 hi
        exact (HSL.out _).mul (Qs.int (zl_nat (by omega) h1N) h1N))
      clear hkn
      go_wp2_with fail
      refine (qtrim_any ho.p HSM.out (by omega) (by omega)).mono ?_
      rintro _ W4 ⟨A4, n4, c4, M4, rfl, ho4, hM4, hb4⟩
      go_wp2
      go_ret
      refine ⟨_, _, _, M4, rfl, ho4, Lib.hid (hM4.out.congr fun i => ?_), hB.trans (hb4.mono hB.size)⟩
      rw [hM.out, Pq.co_range]
      rcases Nat.lt_or_ge i j with h1 | h1
      · rw [if_pos h1]
      · rw [if_neg (by omega), Pq.co_ge (by rw [HLEN.out]; have := HNK.out; have := hkj.out; omega), Rat.zero_mul]
end Go.Proofs.YtipbpdiahemmpaaGreat
