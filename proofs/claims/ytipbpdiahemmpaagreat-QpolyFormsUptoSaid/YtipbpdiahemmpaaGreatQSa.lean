/- Reference 09: the derivative. -/
import Derived.Test.YtipbpdiahemmpaaGreatQ30
import Derived.Test.YtipbpdiahemmpaaGreatQ33
import Derived.Test.YtipbpdiahemmpaaGreatQ13
import Derived.Deep.RegionLaw
import Derived.Test.YtipbpdiahemmpaaGreatQ42
import Derived.Deep.RegionWith
namespace Go.Proofs.YtipbpdiahemmpaaGreat
open Go.RowKit Go.IntWalk
attribute [local go_sem ↓] Go.wp_at_zero Go.wp_at_succ

theorem qval_at {L : List (Int × Int)} {k : Nat} {p : Int × Int} (h : L[k]? = some p) : Pq.co (L.map qval) k = qval p := Pq.co_get (by rw [List.getElem?_map, h]; rfl)

set_option maxRecDepth 100000 in
set_option maxHeartbeats 8000000 in
theorem rqDerive_any {N : Nat} {A : Option Addr} {n c : Nat} {L : List (Int × Int)} {w : World} (h : RdQs w w.heap.size N A n c L) (hd : ∀ p ∈ L, p.2 ≠ 0) (hn : n ≤ 1048576) (hN : N ≤ 200000000000) (h1N : 1 ≤ N) :
    Calls Tryz.prog 51 #[.slice A n c] w (RetPq (fun i => Pq.co (L.map qval) (i + 1) * (((i + 1 : Nat) : Int) : Rat)) w) := by
  have HLEN := Lib.hid h.len
  have HSL := Lib.hid (h.sz hd h1N)
  have H := Lib.hid h
  have HD := Lib.hid hd
  obtain ⟨i0, hi, hz0, hz1, hz2⟩ := info_parts infoQ
  clear h hd
  go_enter Tryz.func51, Tryz.ntmps51
  go_wp2_with fail
  go_loopw [3, 4] (fun ov iv wr => ∃ (k j c' : Nat) (A' : Option Addr) (M : List Rat), ov = .slice A' j c' ∧ iv = .int .i64 (k : Int) ∧ Hid (k = j + 1 ∧ (k ≤ n ∨ k = 1)) ∧ OwQs wr w.heap.size A' j c' M ∧ Hid (M = (List.range j).map fun i => Pq.co (L.map qval) (i + 1) * (((i + 1 : Nat) : Int) : Rat)) ∧ Below w.heap.size w wr) (fun _ iv _ => n - (intOf iv).toNat)
  case atStart => exact ⟨1, 0, 0, none, [], rfl, rfl, Lib.hid ⟨rfl, .inr rfl⟩, OwQs.nil _ _, Lib.hid rfl, Below.refl _ _⟩
  case round =>
    obtain ⟨k, j, c', A', M, rfl, rfl, hkj, ho, hM, hB⟩ := hrel
    by_cases hkn : k < n
    · have hkni : (k : Int) < (n : Int) := by omega
      have HK := Lib.hid hkn
      obtain ⟨ad, s1, A1, n1, c1, s2, A2, n2, c2, z1, d1, hA, hbk, hx0, hx1, hx2, hx3, hr1, hr2, hn1, hn2, hp⟩ := qs_at H.out hkn
      subst hA
      obtain ⟨hy0, hy1, hy2, hy3⟩ := qs_cells hB hbk hx0 hx1 hx2 hx3
      have HBD := Lib.hid (Below.refl wr.heap.size wr).drew
      have HX := Lib.hid (show ∀ W : World, Below wr.heap.size wr W → RdZ W W.heap.size s1 A1 n1 c1 z1 ∧ RdZ W W.heap.size s2 A2 n2 c2 d1 from fun W hb => ⟨(hr1.next hB).next hb, (hr2.next hB).next hb⟩)
      have HCX := Lib.hid (show ∀ W : World, Below wr.heap.size wr W → _ from fun W hb => qs_cells (hB.trans (hb.mono hB.size)) hbk hx0 hx1 hx2 hx3)
      have HO := Lib.hid ho
      have HK2 := Lib.hid (show k < 4294967296 by omega)
      have HJ := Lib.hid (show j ≤ 1048576 by have := hkj.out; omega)
      have HD1 := Lib.hid (show d1 ≠ 0 from HD.out _ (List.mem_of_getElem? hp.out))
      have HV := Lib.hid (show Pq.co (L.map qval) k = Rat.divInt z1 d1 from qval_at hp.out)
      have HBW := Lib.hid hB
      clear hx0 hx1 hx2 hx3 hr1 hr2 ho hkn hB
      go_upto_region 5 with fail
      go_region_law (first
        | (refine step_append_sl rfl _ _ 38 rfl w.heap.size 56 i0 (.agg #[.bool false, .slice none 0 0, .bool false, .slice none 0 0]) 4 64 Tryz.underlying38 hi hz0 hz1 hz2 rfl (by decide) _ _ _ rfl (HE.out.alloc _) (some ⟨W3.heap.size, 0, none⟩) 1 1 [.bool s3, .slice A3 n3 c3, .bool s4, .slice A4 n4 c4] rfl rfl (fun e => by cases e) (fun ad e => by cases e; exact qcell_new _ _ _ _ _ _) (by simp [Value.oneCell']) (by have := HJ.out; unfold maxLen; omega) (by have := HJ.out; omega) (by have := HB4.out.size; simp at this ⊢; omega) ?_; intro A9 c9 W9 hown9 hgrow9)
        | (go_simp; go_at_call 111; refine (rQOf_any (k : Int) (by have := HK2.out; omega) (by have := HK2.out; omega) _).mono ?_; rintro _ W2 ⟨s5, A5, n5, c5, s6, A6, n6, c6, y2, rfl, ho2, hy2, hb2⟩; have HB2 := Lib.hid (HBD.out.trans hb2); have HN2 := Lib.hid (show n5 ≤ N ∧ n6 ≤ N from ⟨by { rw [ho2.num.len, hy2.out]; exact (Qs.int (zl_nat HK2.out h1N) h1N).1 }, by { rw [ho2.den.len, hy2.out]; exact (Qs.int (zl_nat HK2.out h1N) h1N).2 }⟩); obtain ⟨la0, la1, la2, la3⟩ := HCX.out W2 HB2.out)
        | (go_simp; go_at_call 79; refine (rQMul_any (N := N) (HX.out _ HB2.out).1 (HX.out _ HB2.out).2 ho2.num.rd ho2.den.rd ⟨hn1, hn2, HN2.out.1, HN2.out.2⟩ hN HD1.out (by simpa using y2.den_nz)).mono ?_; rintro _ W3 ⟨s3, A3, n3, c3, s4, A4, n4, c4, q, rfl, ho3, hq, hb3⟩; have HB3 := Lib.hid (HB2.out.trans (hb3.mono HB2.out.size)); have HQ := Lib.hid (show q = Pq.co (L.map qval) k * ((k : Int) : Rat) by rw [hq.out, HV.out, hy2.out, Rat.num_divInt_den]); obtain ⟨E, hE, hEl, hEn⟩ := HO.out.next HB3.out; have HE := Lib.hid hE; have HEN := Lib.hid (And.intro hEl hEn); have HB4 := Lib.hid (HBW.out.trans (HB3.out.mono HBW.out.size)); have HO4 := Lib.hid (ho3.base (b' := w.heap.size) (Nat.le_trans HBW.out.size HB2.out.size)); clear hE hEl hEn hq hb3 ho3))
      all_goals
        have hmore := qs_more (e := ((s3, A3, n3, c3), (s4, A4, n4, c4))) (x := q) HO4.out rfl (HE.out.alloc _) HEN.out.1 HEN.out.2 hown9 hgrow9
        have HB5 := Lib.hid ((HB4.out.alloc HB4.out.size (.cells #[.bool s3, .slice A3 n3 c3, .bool s4, .slice A4 n4 c4] 56)).grown hgrow9 (by have := HB4.out.size; simp at this ⊢; omega) (own_block HE.out))
        have HM2 := Lib.hid (show M ++ [q] = (List.range (j + 1)).map fun i => Pq.co (L.map qval) (i + 1) * (((i + 1 : Nat) : Int) : Rat) by rw [hM.out, HQ.out, hkj.out.1]; exact range_snoc (fun i => Pq.co (L.map qval) (i + 1) * (((i + 1 : Nat) : Int) : Rat)) j)
        obtain ⟨A10, c10, e10, ho10⟩ := hmore
        injection e10 with e1 e2 e3
        subst e1 e3
        clear hown9 hgrow9 HE HEN HO4 hy0 hy1 hy2 hy3 la0 la1 la2 la3
        go_wp2
        go_roundw
        case rel => exact ⟨k + 1, j + 1, c9, A9, M ++ [q], rfl, by go_num, Lib.hid (by have := hkj.out; have := HK.out; omega), ho10, HM2, HB5.out⟩
        case measure => simp [intOf]; omega
    · have hkni : (n : Int) ≤ (k : Int) := by omega
      have HNK := Lib.hid (show n ≤ k by omega)
      have hjn : j ≤ 1048576 := by have := hkj.out; omega
      have HSM := Lib.hid (show ∀ y ∈ M, Qs (N + N) y by
        rw [hM.out]
        intro y hy
        obtain ⟨i, hi, rfl⟩ := List.mem_map.1 hy
        have := List.mem_range.1 hi
        exact (HSL.out _).mul (Qs.int (zl_nat (by omega) h1N) h1N))
      clear hkn
      have hrd := ho.p.rd HSM.out
      go_wp2_with fail
      refine (rqnorm_own hrd (by omega) (by omega)).mono ?_
      rintro _ W4 ⟨A4, n4, c4, M4, rfl, ho4, hM4, hb4⟩
      go_wp2
      go_ret
      refine ⟨_, _, _, M4, rfl, ho4.base hB.size, Lib.hid (hM4.out.congr fun i => ?_), hB.trans (hb4.mono hB.size)⟩
      rw [hM.out, Pq.co_range]
      rcases Nat.lt_or_ge i j with h1 | h1
      · rw [if_pos h1]
      · rw [if_neg (by omega), Pq.co_ge (L := L.map qval) (by rw [List.length_map, HLEN.out]; have := HNK.out; have := hkj.out; omega), Rat.zero_mul]
end Go.Proofs.YtipbpdiahemmpaaGreat

/- Reference 09: the value at a number. -/
namespace Go.Proofs.YtipbpdiahemmpaaGreat
open Go.RowKit Go.IntWalk
attribute [local go_sem ↓] Go.wp_at_zero Go.wp_at_succ

theorem QC.far4 {w : World} {g g' : Nat} {s s' : Bool} {A A' : Option Addr} {n c n' c' : Nat} (h : QC w g s A n c s' A' n' c') (hne : g ≠ g') (x y z u : Value) : QC (put4 w g' x y z u) g s A n c s' A' n' c' :=
  (((h.far (p := ⟨g', 0, none⟩) hne x).far (p := ⟨g', 1, none⟩) hne y).far (p := ⟨g', 2, none⟩) hne z).far (p := ⟨g', 3, none⟩) hne u
theorem rat_den (x : Rat) : (x.den : Int) ≠ 0 := by simpa using x.den_nz

set_option maxRecDepth 100000 in
set_option maxHeartbeats 8000000 in
theorem rqEval_any {N N' : Nat} {s s' : Bool} {A A' A'' : Option Addr} {n c n' c' n'' c'' : Nat} {L : List (Int × Int)} {z d : Int} {w : World} (h : RdQs w w.heap.size N A n c L) (h' : RdZ w w.heap.size s A' n' c' z) (h'' : RdZ w w.heap.size s' A'' n'' c'' d) (hd : ∀ p ∈ L, p.2 ≠ 0) (hd0 : d ≠ 0) (hn' : n' ≤ N') (hn'' : n'' ≤ N') (hsz : 2 + (n + 1) * (N' + N + 1) ≤ 200000000000) (h1N : 1 ≤ N) :
    Calls Tryz.prog 55 #[.slice A n c, .agg #[.bool s, .slice A' n' c', .bool s', .slice A'' n'' c'']] w (RetV4 (Pq.psum (Pq.co (L.map qval)) (Rat.divInt z d) n) w) := by
  obtain ⟨x, hx⟩ : ∃ x, x = Rat.divInt z d := ⟨_, rfl⟩
  have HXV := Lib.hid hx
  have HXS := Lib.hid (show Qs N' x by rw [hx]; exact Qs.divInt hd0 (Nat.le_trans h'.len hn') (Nat.le_trans h''.len hn''))
  rw [← hx]
  have HSP := Lib.hid (fun i => psum_sz (h.sz hd h1N) HXS.out i)
  have HSB := Lib.hid (show ∀ i, i ≤ n → 2 + i * (N' + N + 1) + N' + N ≤ 200000000000 ∧ 1 + i * N' + N ≤ 200000000000 from fun i hi => by
    have e1 : (i + 1) * (N' + N + 1) ≤ (n + 1) * (N' + N + 1) := Nat.mul_le_mul_right _ (by omega)
    have e2 : (i + 1) * (N' + N + 1) = i * (N' + N + 1) + (N' + N + 1) := Nat.succ_mul _ _
    have e3 : i * N' ≤ i * (N' + N + 1) := Nat.mul_le_mul_left _ (by omega)
    omega)
  have hnl : n ≤ 200000000000 := by
    have e1 : (n + 1) * 1 ≤ (n + 1) * (N' + N + 1) := Nat.mul_le_mul_left _ (by omega)
    omega
  have HDN := Lib.hid hd
  have HLEN := Lib.hid h.len
  have HH := Lib.hid (And.intro h' (And.intro h'' (And.intro hn' (And.intro hn'' hd0))))
  obtain ⟨W1, HW1⟩ : ∃ W, W = (w.alloc (.cells #[.bool s, .slice A' n' c', .bool s', .slice A'' n'' c''] 56)).alloc (.cells #[.bool false, .slice none 0 0, .bool false, .slice none 0 0] 56) := ⟨_, rfl⟩
  obtain ⟨hX, hR, hB⟩ := q_box1 w s A' n' c' s' A'' n'' c'' W1 HW1
  have HW1 := Lib.hid HW1
  clear hx hsz h' h'' hd
  go_enter Tryz.func55, Tryz.ntmps55
  go_wp2_with fail
  rw [← HW1.out]
  clear HW1
  clear HW1
  refine (rQOf_any 0 (by decide) (by decide) W1).mono ?_
  rintro _ W2 ⟨s1, A1, n1, c1, s2, A2, n2, c2, y1, rfl, ho1, hy1, hb1⟩
  go_wp2_with fail
  refine (rQOf_any 1 (by decide) (by decide) W2).mono ?_
  rintro _ W3 ⟨s3, A3, n3, c3, s4, A4, n4, c4, y2, rfl, ho2, hy2, hb2⟩
  go_wp2_with fail
  obtain ⟨W4, HW4⟩ : ∃ W, W = (W3.alloc (.cells #[.bool s1, .slice A1 n1 c1, .bool s2, .slice A2 n2 c2] 56)).alloc (.cells #[.bool s3, .slice A3 n3 c3, .bool s4, .slice A4 n4 c4] 56) := ⟨_, rfl⟩
  rw [← HW4]
  have hV : QC W4 W3.heap.size s1 A1 n1 c1 s2 A2 n2 c2 := by rw [HW4]; exact (QC.new W3 s1 A1 n1 c1 s2 A2 n2 c2).alloc _
  have hP : QC W4 (W3.heap.size + 1) s3 A3 n3 c3 s4 A4 n4 c4 := by rw [HW4]; exact QC.newAt (by simp)
  have hb4 : Below W3.heap.size W3 W4 := by rw [HW4]; exact ((Below.refl W3.heap.size W3).alloc (Nat.le_refl _) _).alloc (by simp) _
  clear HW4
  have hb24 := hb2.trans (hb4.mono hb2.size)
  have hb14 := hb1.trans (hb24.mono hb1.size)
  have hX4 := hX.next hb14
  have hR4 := hR.next hb14
  have hB4 := hB.trans (hb14.mono hB.size)
  have ho1 := ho1.next hb24
  have ho2 := (ho2.base (b' := W1.heap.size) hb1.size).next hb4
  have HGV := Lib.hid (show W1.heap.size ≤ W3.heap.size from Nat.le_trans hb1.size hb2.size)
  have HSR := Lib.hid hR.lt
  obtain ⟨gv, hgv⟩ : ∃ g, g = W3.heap.size := ⟨_, rfl⟩
  rw [← hgv] at hV hP HGV ⊢
  have HWW := Lib.hid hB.size
  clear hgv hb1 hb2 hb4 hb24 hb14 hX hR hB
  go_loopw [13] (fun iv wr => ∃ (i : Nat) (s2 : Bool) (A2 : Option Addr) (n2 c2 : Nat) (s3 : Bool) (A3 : Option Addr) (n3 c3 : Nat) (v : Rat) (s4 : Bool) (A4 : Option Addr) (n4 c4 : Nat) (s5 : Bool) (A5 : Option Addr) (n5 c5 : Nat) (p : Rat), iv = .int .i64 i ∧ i ≤ n ∧ QC wr w.heap.size s A' n' c' s' A'' n'' c'' ∧ QC wr (w.heap.size + 1) false none 0 0 false none 0 0 ∧ QC wr gv s2 A2 n2 c2 s3 A3 n3 c3 ∧ QC wr (gv + 1) s4 A4 n4 c4 s5 A5 n5 c5 ∧ OwQ wr W1.heap.size s2 A2 n2 c2 s3 A3 n3 c3 v ∧ OwQ wr W1.heap.size s4 A4 n4 c4 s5 A5 n5 c5 p ∧ Hid (v = Pq.psum (Pq.co (L.map qval)) x i ∧ p = x ^ i) ∧ Below w.heap.size w wr) (fun iv _ => n - (intOf iv).toNat)
  case atStart => exact ⟨0, s1, A1, n1, c1, s2, A2, n2, c2, y1, s3, A3, n3, c3, s4, A4, n4, c4, y2, rfl, Nat.zero_le _, hX4, hR4, hV, hP, ho1, ho2, Lib.hid ⟨hy1.out, by rw [hy2.out, Rat.pow_zero]; rfl⟩, hB4⟩
  case round =>
    clear hX4 hR4 hV hP ho1 ho2 hB4
    obtain ⟨i, s2, A2, n2, c2, s3, A3, n3, c3, v, s4, A4, n4, c4, s5, A5, n5, c5, p, rfl, hi, hX, hR, hV, hP, hov, hop, hy, hB⟩ := hrel
    have HSV := Lib.hid (show Qs (2 + i * (N' + N + 1)) v by rw [hy.out.1]; exact (HSP.out i).1)
    have HSQ := Lib.hid (show Qs (1 + i * N') p by rw [hy.out.2]; exact (HSP.out i).2)
    by_cases hin : i = n
    · have hni := hin.symm
      subst hni
      clear hin
      have v0 := hV.c0
      have v1 := hV.c1
      have v2 := hV.c2
      have v3 := hV.c3
      have r0 := hR.c0
      have r1 := hR.c1
      have r2 := hR.c2
      have r3 := hR.c3
      have f0 := hR.fz 0
      have f1 := hR.fz 1
      have f2 := hR.fz 2
      have f3 := hR.fz 3
      have HR9 := Lib.hid (hR.store s2 A2 n2 c2 s3 A3 n3 c3)
      have HO9 := Lib.hid ((hov.base (b' := w.heap.size) HWW.out).keep (keep_putQ hR s2 A2 n2 c2 s3 A3 n3 c3))
      have HB9 := Lib.hid (below_putQ hB (Nat.le_succ w.heap.size) s2 A2 n2 c2 s3 A3 n3 c3)
      unfold putQ at HR9 HB9 HO9
      clear hX hR hV hP hov hop hB
      go_wp2_with fail
      generalize (((wr.setCell ⟨w.heap.size + 1, 0, none⟩ (.bool s2)).setCell ⟨w.heap.size + 1, 1, none⟩ (.slice A2 n2 c2)).setCell ⟨w.heap.size + 1, 2, none⟩ (.bool s3)).setCell ⟨w.heap.size + 1, 3, none⟩ (.slice A3 n3 c3) = W9 at *
      have z0 := HR9.out.c0
      have z1 := HR9.out.c1
      have z2 := HR9.out.c2
      have z3 := HR9.out.c3
      exact bodyPost_ret (by simp [results, Tryz.results55, go_sem, z0, z1, z2, z3]) rfl ⟨s2, A2, n2, c2, s3, A3, n3, c3, v, rfl, HO9.out, Lib.hid hy.out.1, HB9.out⟩
    · have hil : i < n := by omega
      clear hin
      have hili : (i : Int) < (n : Int) := by omega
      obtain ⟨ad, s6, A6, n6, c6, s7, A7, n7, c7, z6, d6, rfl, hbk, hz0, hz1, hz2, hz3, hrz, hrd, hn6, hn7, hz⟩ := qs_at h hil
      obtain ⟨hw0, hw1, hw2, hw3⟩ := qs_cells hB hbk hz0 hz1 hz2 hz3
      have HZV := Lib.hid (show Pq.co (L.map qval) i = Rat.divInt z6 d6 from qval_at hz.out)
      have HZD := Lib.hid (show d6 ≠ 0 from HDN.out _ (List.mem_of_getElem? hz.out))
      have HNI := Lib.hid (And.intro hn6 hn7)
      obtain ⟨W4, HW4⟩ : ∃ W, W = wr.alloc (.cells #[.bool s6, .slice A6 n6 c6, .bool s7, .slice A7 n7 c7] 56) := ⟨_, rfl⟩
      have hC : QC W4 wr.heap.size s6 A6 n6 c6 s7 A7 n7 c7 := by rw [HW4]; exact QC.new wr s6 A6 n6 c6 s7 A7 n7 c7
      have hb4 : Below wr.heap.size wr W4 := by rw [HW4]; exact (Below.refl _ _).alloc (Nat.le_refl _) _
      have HW4 := Lib.hid HW4
      have HIL := Lib.hid hil
      clear hn6 hn7
      go_upto_region 5 with fail
      rw [← HW4.out]
      clear HW4 hw0 hw1 hw2 hw3 hz0 hz1 hz2 hz3 hz
      clear HW4
      obtain ⟨gc, hgc⟩ : ∃ g, g = wr.heap.size := ⟨_, rfl⟩
      rw [← hgc] at hC ⊢
      clear hgc
      have HX4 := Lib.hid (hX.next hb4)
      have HR4 := Lib.hid (hR.next hb4)
      have HV4 := Lib.hid (hV.next hb4)
      have HP4 := Lib.hid (hP.next hb4)
      have HOV := Lib.hid (hov.next hb4)
      have HOP := Lib.hid (hop.next hb4)
      have HB4 := Lib.hid (hB.trans (hb4.mono hB.size))
      have HRZ := Lib.hid (And.intro (hrz.next HB4.out) (hrd.next HB4.out))
      have HBD := Lib.hid (Below.refl W4.heap.size W4).drew
      have HSZ := Lib.hid (HSB.out i (Nat.le_of_lt HIL.out))
      have HPN := Lib.hid (show n4 ≤ 1 + i * N' + N ∧ n5 ≤ 1 + i * N' + N from ⟨by rw [hop.num.len]; exact Nat.le_trans HSQ.out.1 (Nat.le_add_right _ _), by rw [hop.den.len]; exact Nat.le_trans HSQ.out.2 (Nat.le_add_right _ _)⟩)
      have HVN := Lib.hid (show n2 ≤ 2 + i * (N' + N + 1) + N' + N ∧ n3 ≤ 2 + i * (N' + N + 1) + N' + N from ⟨by rw [hov.num.len]; exact Nat.le_trans HSV.out.1 (by omega), by rw [hov.den.len]; exact Nat.le_trans HSV.out.2 (by omega)⟩)
      have HMU := Lib.hid (rQMul_any (N := 1 + i * N' + N) (HRZ.out.1.next HBD.out) (HRZ.out.2.next HBD.out) (HOP.out.next HBD.out).num.rd (HOP.out.next HBD.out).den.rd ⟨by have := HNI.out; omega, by have := HNI.out; omega, HPN.out.1, HPN.out.2⟩ HSZ.out.2 HZD.out (rat_den p))
      have HMS := Lib.hid (show ∀ m : Rat, m = Rat.divInt z6 d6 * Rat.divInt p.num p.den → Qs (2 + i * (N' + N + 1) + N' + N) m from fun m hm => by
        rw [hm, Rat.num_divInt_den]
        refine ((Qs.divInt HZD.out (Nat.le_trans hrz.len HNI.out.1) (Nat.le_trans hrd.len HNI.out.2)).mul HSQ.out).mono ?_
        have h2 : i * N' ≤ i * (N' + N + 1) := Nat.mul_le_mul_left _ (by omega)
        omega)
      have v0 := HV4.out.c0
      have v1 := HV4.out.c1
      have v2 := HV4.out.c2
      have v3 := HV4.out.c3
      have c0 := hC.c0
      have c1 := hC.c1
      have c2 := hC.c2
      have c3 := hC.c3
      have p0 := HP4.out.c0
      have p1 := HP4.out.c1
      have p2 := HP4.out.c2
      have p3 := HP4.out.c3
      clear hX hR hV hP hov hop hB hrz hrd hb4 hil hi hili
      go_region_with (first
        | (go_at_call 79; refine HMU.out.mono ?_; rintro _ W6 ⟨s8, A8, n8, c8, s9, A9, n9, c9, m, rfl, ho6, hz6, hb6⟩; have HB6 := Lib.hid (HBD.out.trans hb6); have la0 := (HV4.out.next HB6.out).c0; have la1 := (HV4.out.next HB6.out).c1; have la2 := (HV4.out.next HB6.out).c2; have la3 := (HV4.out.next HB6.out).c3)
        | (go_at_call 146; refine (rQAdd_any (N := 2 + i * (N' + N + 1) + N' + N) (HOV.out.next HB6.out).num.rd (HOV.out.next HB6.out).den.rd ho6.num.rd ho6.den.rd ⟨HVN.out.1, HVN.out.2, ?nm, ?nd⟩ HSZ.out.1 (rat_den v) (rat_den m)).mono ?_; (case nm => rw [ho6.num.len]; exact (HMS.out m hz6.out).1); (case nd => rw [ho6.den.len]; exact (HMS.out m hz6.out).2); rintro _ W7 ⟨s10, A10, n10, c10, s11, A11, n11, c11, y, rfl, ho7, hz7, hb7⟩; have HB7 := Lib.hid (HB6.out.trans (hb7.mono HB6.out.size)); have lb0 := (HV4.out.next HB7.out).c0; have lb1 := (HV4.out.next HB7.out).c1; have lb2 := (HV4.out.next HB7.out).c2; have lb3 := (HV4.out.next HB7.out).c3; have lf0 := (HV4.out.next HB7.out).fz 0; have lf1 := (HV4.out.next HB7.out).fz 1; have lf2 := (HV4.out.next HB7.out).fz 2; have lf3 := (HV4.out.next HB7.out).fz 3))
      all_goals
        have HFA := Lib.hid (show y = Pq.psum (Pq.co (L.map qval)) x (i + 1) by rw [hz7.out, Rat.num_divInt_den, Rat.num_divInt_den, hz6.out, Rat.num_divInt_den, hy.out.1, hy.out.2, Pq.psum_succ, HZV.out])
        have hV7 := HV4.out.next HB7.out
        have HGE := Lib.hid (show w.heap.size ≠ gv ∧ w.heap.size + 1 ≠ gv ∧ gv + 1 ≠ gv ∧ w.heap.size ≠ gv + 1 ∧ w.heap.size + 1 ≠ gv + 1 ∧ gv ≠ gv + 1 from by have := HGV.out; have := HSR.out; omega)
        have hV8 := hV7.store s10 A10 n10 c10 s11 A11 n11 c11
        have hX8 := (HX4.out.next HB7.out).far4 HGE.out.1 (.bool s10) (.slice A10 n10 c10) (.bool s11) (.slice A11 n11 c11)
        have hR8 := (HR4.out.next HB7.out).far4 HGE.out.2.1 (.bool s10) (.slice A10 n10 c10) (.bool s11) (.slice A11 n11 c11)
        have hP8 := (HP4.out.next HB7.out).far4 HGE.out.2.2.1 (.bool s10) (.slice A10 n10 c10) (.bool s11) (.slice A11 n11 c11)
        have hO8 := (HOP.out.next HB7.out).puts (QE.of hV7) (.bool s10) (.slice A10 n10 c10) (.bool s11) (.slice A11 n11 c11)
        have hY8 := (ho7.base (b' := W1.heap.size) (by have h1 := HV4.out.lt; have h2 := HB6.out.size; have h3 := HGV.out; omega)).puts (QE.of hV7) (.bool s10) (.slice A10 n10 c10) (.bool s11) (.slice A11 n11 c11)
        have hB8 := below_put4 (HB4.out.trans (HB7.out.mono HB4.out.size)) (show w.heap.size ≤ gv by have := HGV.out; have := HSR.out; omega) (.bool s10) (.slice A10 n10 c10) (.bool s11) (.slice A11 n11 c11)
        unfold putQ at hV8
        unfold put4 at hX8 hR8 hP8 hO8 hY8
        clear v0 v1 v2 v3 c0 c1 c2 c3 p0 p1 p2 p3 la0 la1 la2 la3 lb0 lb1 lb2 lb3 lf0 lf1 lf2 lf3 hb6 hb7 ho6 ho7 hV7
        generalize (((W7.setCell ⟨gv, 0, none⟩ (.bool s10)).setCell ⟨gv, 1, none⟩ (.slice A10 n10 c10)).setCell ⟨gv, 2, none⟩ (.bool s11)).setCell ⟨gv, 3, none⟩ (.slice A11 n11 c11) = W8 at hV8 hX8 hR8 hP8 hO8 hY8 hB8 ⊢
        have p0 := hP8.c0
        have p1 := hP8.c1
        have p2 := hP8.c2
        have p3 := hP8.c3
        have x0 := hX8.c0
        have x1 := hX8.c1
        have x2 := hX8.c2
        have x3 := hX8.c3
        go_wp2_with fail
        refine (rQMul_any (N := 2 + i * (N' + N + 1) + N' + N) hO8.num.rd hO8.den.rd (HH.out.1.next hB8) (HH.out.2.1.next hB8) ⟨?e1, ?e2, ?e3, ?e4⟩ HSZ.out.1 (rat_den p) HH.out.2.2.2.2).mono ?_
        case e1 => have h1 := HPN.out.1; have h2 : i * N' ≤ i * (N' + N + 1) := Nat.mul_le_mul_left _ (by omega); omega
        case e2 => have h1 := HPN.out.2; have h2 : i * N' ≤ i * (N' + N + 1) := Nat.mul_le_mul_left _ (by omega); omega
        case e3 => have h1 := HH.out.2.2.1; omega
        case e4 => have h1 := HH.out.2.2.2.1; omega
        rintro _ W9 ⟨s12, A12, n12, c12, s13, A13, n13, c13, q, rfl, ho9, hz9, hb9⟩
        have hP9 := hP8.next hb9
        have HPW := Lib.hid (show q = x ^ (i + 1) by rw [hz9.out, Rat.num_divInt_den, ← HXV.out, hy.out.2, Rat.pow_succ])
        have HX10 := Lib.hid ((hX8.next hb9).far4 HGE.out.2.2.2.1 (.bool s12) (.slice A12 n12 c12) (.bool s13) (.slice A13 n13 c13))
        have HR10 := Lib.hid ((hR8.next hb9).far4 HGE.out.2.2.2.2.1 (.bool s12) (.slice A12 n12 c12) (.bool s13) (.slice A13 n13 c13))
        have HV10 := Lib.hid ((hV8.next hb9).far4 HGE.out.2.2.2.2.2 (.bool s12) (.slice A12 n12 c12) (.bool s13) (.slice A13 n13 c13))
        have HP10 := Lib.hid (hP9.store s12 A12 n12 c12 s13 A13 n13 c13)
        have HOV10 := Lib.hid ((hY8.next hb9).puts (QE.of hP9) (.bool s12) (.slice A12 n12 c12) (.bool s13) (.slice A13 n13 c13))
        have HOP10 := Lib.hid ((ho9.base (b' := W1.heap.size) (by have h1 := hP8.lt; have h3 := HGV.out; omega)).puts (QE.of hP9) (.bool s12) (.slice A12 n12 c12) (.bool s13) (.slice A13 n13 c13))
        have HB10 := Lib.hid (below_put4 (hB8.trans (hb9.mono hB8.size)) (show w.heap.size ≤ gv + 1 by have := HGV.out; have := HSR.out; omega) (.bool s12) (.slice A12 n12 c12) (.bool s13) (.slice A13 n13 c13))
        unfold putQ at HP10
        unfold put4 at HX10 HR10 HV10 HOV10 HOP10
        have q0 := hP9.c0
        have q1 := hP9.c1
        have q2 := hP9.c2
        have q3 := hP9.c3
        have k0 := hP9.fz 0
        have k1 := hP9.fz 1
        have k2 := hP9.fz 2
        have k3 := hP9.fz 3
        have hil2 := HIL.out
        clear p0 p1 p2 p3 x0 x1 x2 x3 hX8 hR8 hP8 hO8 hV8 hY8 hb9 ho9 hP9 hB8
        go_wp2
        go_roundw
        case rel => exact ⟨i + 1, s10, A10, n10, c10, s11, A11, n11, c11, y, s12, A12, n12, c12, s13, A13, n13, c13, q, by go_num, by omega, HX10.out, HR10.out, HV10.out, HP10.out, HOV10.out, HOP10.out, Lib.hid ⟨HFA.out, HPW.out⟩, HB10.out⟩
        case measure => simp [intOf]; omega
end Go.Proofs.YtipbpdiahemmpaaGreat
