/- Reference 09: the derivative. -/
import Derived.Test.YtipbpdiahemmpaaGreatQ30
import Derived.Test.YtipbpdiahemmpaaGreatQ33
import Derived.Test.YtipbpdiahemmpaaGreatQ13
import Derived.Deep.RegionLaw
import Derived.Test.YtipbpdiahemmpaaGreatQ41
import Derived.Test.YtipbpdiahemmpaaGreatQ42
import Derived.Test.YtipbpdiahemmpaaGreatQ40
import Derived.Test.YtipbpdiahemmpaaGreatQ09
import Derived.Test.YtipbpdiahemmpaaGreatQ43
import Derived.Test.YtipbpdiahemmpaaGreatQ12
namespace Go.Proofs.YtipbpdiahemmpaaGreat
open Go.RowKit Go.IntWalk
attribute [local go_sem ↓] Go.wp_at_zero Go.wp_at_succ

theorem qval_at {L : List (Int × Int)} {k : Nat} {p : Int × Int} (h : L[k]? = some p) : Pq.co (L.map qval) k = qval p := Pq.co_get (by rw [List.getElem?_map, h]; rfl)

set_option maxRecDepth 100000 in
set_option maxHeartbeats 8000000 in
theorem rqDerive_any {N : Nat} {A : Option Addr} {n c : Nat} {L : List (Int × Int)} {w : World} (h : RdQs w w.heap.size N A n c L) (hd : ∀ p ∈ L, p.2 ≠ 0) (hn : n ≤ 1048576) (hN : N ≤ 200000000000) (h1N : 1 ≤ N) :
    Calls Tryz.prog 51 #[.slice A n c] w (RetPq (fun i => Pq.co (L.map qval) (i + 1) * (((i + 1 : Nat) : Int) : Rat)) w) := by
  have HLEN := Lib.hid h.len
  have HSL := Lib.hid (h.sz hd h1N)
  have H := Lib.hid h
  have HD := Lib.hid hd
  obtain ⟨i0, hi, hz0, hz1, hz2⟩ := info_parts infoQ
  clear h hd
  go_enter Tryz.func51, Tryz.ntmps51
  go_wp2_with fail
  go_loopw [3, 4] (fun ov iv wr => ∃ (k j c' : Nat) (A' : Option Addr) (M : List Rat), ov = .slice A' j c' ∧ iv = .int .i64 (k : Int) ∧ Hid (k = j + 1 ∧ (k ≤ n ∨ k = 1)) ∧ OwQs wr w.heap.size A' j c' M ∧ Hid (M = (List.range j).map fun i => Pq.co (L.map qval) (i + 1) * (((i + 1 : Nat) : Int) : Rat)) ∧ Below w.heap.size w wr) (fun _ iv _ => n - (intOf iv).toNat)
  case atStart => exact ⟨1, 0, 0, none, [], rfl, rfl, Lib.hid ⟨rfl, .inr rfl⟩, OwQs.nil _ _, Lib.hid rfl, Below.refl _ _⟩
  case round =>
    obtain ⟨k, j, c', A', M, rfl, rfl, hkj, ho, hM, hB⟩ := hrel
    by_cases hkn : k < n
    · have hkni : (k : Int) < (n : Int) := by omega
      have HK := Lib.hid hkn
      obtain ⟨ad, s1, A1, n1, c1, s2, A2, n2, c2, z1, d1, hA, hbk, hx0, hx1, hx2, hx3, hr1, hr2, hn1, hn2, hp⟩ := qs_at H.out hkn
      subst hA
      obtain ⟨hy0, hy1, hy2, hy3⟩ := qs_cells hB hbk hx0 hx1 hx2 hx3
      have HBD := Lib.hid (Below.refl wr.heap.size wr).drew
      have HX := Lib.hid (show ∀ W : World, Below wr.heap.size wr W → RdZ W W.heap.size s1 A1 n1 c1 z1 ∧ RdZ W W.heap.size s2 A2 n2 c2 d1 from fun W hb => ⟨(hr1.next hB).next hb, (hr2.next hB).next hb⟩)
      have HCX := Lib.hid (show ∀ W : World, Below wr.heap.size wr W → _ from fun W hb => qs_cells (hB.trans (hb.mono hB.size)) hbk hx0 hx1 hx2 hx3)
      have HO := Lib.hid ho
      have HK2 := Lib.hid (show k < 4294967296 by omega)
      have HJ := Lib.hid (show j ≤ 1048576 by have := hkj.out; omega)
      have HD1 := Lib.hid (show d1 ≠ 0 from HD.out _ (List.mem_of_getElem? hp.out))
      have HV := Lib.hid (show Pq.co (L.map qval) k = Rat.divInt z1 d1 from qval_at hp.out)
      have HBW := Lib.hid hB
      clear hx0 hx1 hx2 hx3 hr1 hr2 ho hkn hB
      go_upto_region 5 with fail
      go_region_law (first
        | (refine step_append_sl rfl _ _ 38 rfl w.heap.size 56 i0 (.agg #[.bool false, .slice none 0 0, .bool false, .slice none 0 0]) 4 64 Tryz.underlying38 hi hz0 hz1 hz2 rfl (by decide) _ _ _ rfl (HE.out.alloc _) (some ⟨W3.heap.size, 0, none⟩) 1 1 [.bool s3, .slice A3 n3 c3, .bool s4, .slice A4 n4 c4] rfl rfl (fun e => by cases e) (fun ad e => by cases e; exact qcell_new _ _ _ _ _ _) (by simp [Value.oneCell']) (by have := HJ.out; unfold maxLen; omega) (by have := HJ.out; omega) (by have := HB4.out.size; simp at this ⊢; omega) ?_; intro A9 c9 W9 hown9 hgrow9)
        | (go_simp; go_at_call 111; refine (rQOf_any (k : Int) (by have := HK2.out; omega) (by have := HK2.out; omega) _).mono ?_; rintro _ W2 ⟨s5, A5, n5, c5, s6, A6, n6, c6, y2, rfl, ho2, hy2, hb2⟩; have HB2 := Lib.hid (HBD.out.trans hb2); have HN2 := Lib.hid (show n5 ≤ N ∧ n6 ≤ N from ⟨by { rw [ho2.num.len, hy2.out]; exact (Qs.int (zl_nat HK2.out h1N) h1N).1 }, by { rw [ho2.den.len, hy2.out]; exact (Qs.int (zl_nat HK2.out h1N) h1N).2 }⟩); obtain ⟨la0, la1, la2, la3⟩ := HCX.out W2 HB2.out)
        | (go_simp; go_at_call 79; refine (rQMul_any (N := N) (HX.out _ HB2.out).1 (HX.out _ HB2.out).2 ho2.num.rd ho2.den.rd ⟨hn1, hn2, HN2.out.1, HN2.out.2⟩ hN HD1.out (by simpa using y2.den_nz)).mono ?_; rintro _ W3 ⟨s3, A3, n3, c3, s4, A4, n4, c4, q, rfl, ho3, hq, hb3⟩; have HB3 := Lib.hid (HB2.out.trans (hb3.mono HB2.out.size)); have HQ := Lib.hid (show q = Pq.co (L.map qval) k * ((k : Int) : Rat) by rw [hq.out, HV.out, hy2.out, Rat.num_divInt_den]); obtain ⟨E, hE, hEl, hEn⟩ := HO.out.next HB3.out; have HE := Lib.hid hE; have HEN := Lib.hid (And.intro hEl hEn); have HB4 := Lib.hid (HBW.out.trans (HB3.out.mono HBW.out.size)); have HO4 := Lib.hid (ho3.base (b' := w.heap.size) (Nat.le_trans HBW.out.size HB2.out.size)); clear hE hEl hEn hq hb3 ho3))
      all_goals
        have hmore := qs_more (e := ((s3, A3, n3, c3), (s4, A4, n4, c4))) (x := q) HO4.out rfl (HE.out.alloc _) HEN.out.1 HEN.out.2 hown9 hgrow9
        have HB5 := Lib.hid ((HB4.out.alloc HB4.out.size (.cells #[.bool s3, .slice A3 n3 c3, .bool s4, .slice A4 n4 c4] 56)).grown hgrow9 (by have := HB4.out.size; simp at this ⊢; omega) (own_block HE.out))
        have HM2 := Lib.hid (show M ++ [q] = (List.range (j + 1)).map fun i => Pq.co (L.map qval) (i + 1) * (((i + 1 : Nat) : Int) : Rat) by rw [hM.out, HQ.out, hkj.out.1]; exact range_snoc (fun i => Pq.co (L.map qval) (i + 1) * (((i + 1 : Nat) : Int) : Rat)) j)
        obtain ⟨A10, c10, e10, ho10⟩ := hmore
        injection e10 with e1 e2 e3
        subst e1 e3
        clear hown9 hgrow9 HE HEN HO4 hy0 hy1 hy2 hy3 la0 la1 la2 la3
        go_wp2
        go_roundw
        case rel => exact ⟨k + 1, j + 1, c9, A9, M ++ [q], rfl, by go_num, Lib.hid (by have := hkj.out; have := HK.out; omega), ho10, HM2, HB5.out⟩
        case measure => simp [intOf]; omega
    · have hkni : (n : Int) ≤ (k : Int) := by omega
      have HNK := Lib.hid (show n ≤ k by omega)
      have hjn : j ≤ 1048576 := by have := hkj.out; omega
      have HSM := Lib.hid (show ∀ y ∈ M, Qs (N + N) y by
        rw [hM.out]
        intro y hy
        obtain ⟨i, hi, rfl⟩ := List.mem_map.1 hy
        have := List.mem_range.1 hi
        exact (HSL.out _).mul (Qs.int (zl_nat (by omega) h1N) h1N))
      clear hkn
      have hrd := ho.p.rd HSM.out
      go_wp2_with fail
      refine (rqnorm_own hrd (by omega) (by omega)).mono ?_
      rintro _ W4 ⟨A4, n4, c4, M4, rfl, ho4, hM4, hb4⟩
      go_wp2
      go_ret
      refine ⟨_, _, _, M4, rfl, ho4.base hB.size, Lib.hid (hM4.out.congr fun i => ?_), hB.trans (hb4.mono hB.size)⟩
      rw [hM.out, Pq.co_range]
      rcases Nat.lt_or_ge i j with h1 | h1
      · rw [if_pos h1]
      · rw [if_neg (by omega), Pq.co_ge (L := L.map qval) (by rw [List.length_map, HLEN.out]; have := HNK.out; have := hkj.out; omega), Rat.zero_mul]
end Go.Proofs.YtipbpdiahemmpaaGreat

/- The answers of qpoly's exported functions, of both kinds at once; none. -/
namespace Go.Proofs.YtipbpdiahemmpaaGreat
open Go.RowKit Go.IntWalk
attribute [local go_sem ↓] Go.wp_at_zero Go.wp_at_succ

/-- A polynomial's answer, of both kinds. -/
def RetAll (ok : Prop) (f : Nat → Rat) (w : World) (e : Ending) (w' : World) : Prop :=
  ∃ (A : Option Addr) (n c : Nat) (M : List Rat) (kk : Int), e = .returned (.tuple #[.slice A n c, .int .i64 kk]) ∧ OwQp w' w.heap.size A n c M ∧ Hid ((ok ∧ Pq.IsP f M ∧ kk = 0) ∨ (¬ok ∧ M = [] ∧ kk = 6)) ∧ Below w.heap.size w w'
theorem RetOp.all {ok : Prop} {f : Nat → Rat} {w w' : World} {e : Ending} (h : RetOp ok f w e w') : RetAll ok f w e w' := by
  rcases h with ⟨h1, A, n, c, M, kk, h2, h3, h4, h5⟩ | ⟨h1, h2, h3⟩
  · exact ⟨A, n, c, M, kk, h2, h3, Lib.hid (.inl ⟨h1, h4.out.1, h4.out.2⟩), h5⟩
  · exact ⟨none, 0, 0, [], 6, h2, OwQp.nil _ _ _, Lib.hid (.inr ⟨h1, rfl, rfl⟩), h3⟩
set_option maxHeartbeats 400000 in
theorem lnone_any {A : Option Addr} {n c : Nat} {w : World} : Calls Tryz.prog 31 #[.slice A n c] w (RetBo (n = 0) w) := by
  go_enter Tryz.func31, Tryz.ntmps31
  by_cases h0 : n = 0
  · subst h0
    go_wp2
    go_ret
    exact ⟨true, rfl, Lib.hid (by simp), Below.refl _ _⟩
  · have hb : ((n : Int) == 0) = false := by simp; omega
    have HN := Lib.hid h0
    clear h0
    go_wp2
    go_ret
    exact ⟨false, rfl, Lib.hid ⟨fun e => by simp at e, fun e => absurd e HN.out⟩, Below.refl _ _⟩
end Go.Proofs.YtipbpdiahemmpaaGreat

/- rat.made at int, of normal fractions; rat.Cmp. -/
namespace Go.Proofs.YtipbpdiahemmpaaGreat
open Go.RowKit Go.IntWalk
attribute [local go_sem ↓] Go.wp_at_zero Go.wp_at_succ

set_option maxRecDepth 100000 in
set_option maxHeartbeats 8000000 in
theorem made_int {f N : Nat} {A : Option Addr} {n c : Nat} {L : List (Int × Int)} {w : World} {Φ : Int → Int → Prop} (h : RdQs w w.heap.size N A n c L) (hn : n ≤ 1048576) (hN : N ≤ 1000000000000) (heg : ∀ args w, (callFunc f args).run Tryz.prog w = .ok (.enter f args) w) (hall : ∀ p ∈ L, p.2 ≠ 0)
    (hdo : ∀ (W : World) (A' : Option Addr) (c' : Nat), Below w.heap.size w W → OwQs W w.heap.size A' n c' (L.map qval) → Calls Tryz.prog f #[.slice A' n c'] W (RetKE Φ W)) :
    Calls Tryz.prog 252 #[.func (.func f) #[] #[], .slice A n c] w (RetKE Φ w) := by
  have HD := Lib.hid hdo
  have HAL := Lib.hid hall
  have HLEN := Lib.hid h.len
  have hmk := fun W : World => make_qroom n (by omega) W
  obtain ⟨i0, hi, hz0, hz1, hz2⟩ := info_parts infoQ
  obtain ⟨W1, HW1⟩ : ∃ W, W = w.alloc (.cells (madeCells #[.bool false, .slice none 0 0, .bool false, .slice none 0 0] (n * 4)) 56) := ⟨_, rfl⟩
  have hb1 : Below w.heap.size w W1 := by rw [HW1]; exact (Below.refl _ _).alloc (Nat.le_refl _) _
  have hO1 : OwQs W1 w.heap.size (some ⟨w.heap.size, 0, none⟩) 0 n [] := by rw [HW1]; exact OwQs.room w n (by unfold maxLen; omega)
  have HW1 := Lib.hid HW1
  clear hdo hall
  go_enter Tryz.func252, Tryz.ntmps252
  go_wp2_with fail
  rw [← HW1.out]
  clear HW1
  clear HW1
  go_loopw [7, 17] (fun ov iv wr => ∃ (j c' : Nat) (A' : Option Addr) (M : List Rat), ov = .slice A' j c' ∧ iv = .int .i64 j ∧ j ≤ n ∧ OwQs wr w.heap.size A' j c' M ∧ Hid (M = (L.take j).map qval) ∧ Below w.heap.size w wr) (fun _ iv _ => n - (intOf iv).toNat)
  case atStart => exact ⟨0, n, _, [], rfl, rfl, Nat.zero_le _, hO1, Lib.hid rfl, hb1⟩
  case round =>
    clear hO1 hb1
    obtain ⟨j, c', A', M, rfl, rfl, hj, ho, hM, hB⟩ := hrel
    by_cases hjn : j = n
    · subst hjn
      have HO := Lib.hid (show OwQs wr w.heap.size A' j c' (L.map qval) by rw [← List.take_of_length_le (l := L) (by rw [HLEN.out]; exact Nat.le_refl _), ← hM.out]; exact ho)
      have HBW := Lib.hid hB
      clear ho hB hM
      go_wp2_with fail
      refine (HD.out wr A' c' HBW.out HO.out).mono ?_
      rintro _ W5 ⟨v, kk, rfl, hy, hb5⟩
      go_wp2
      exact bodyPost_ret (by simp [results, Tryz.results252, go_sem]) rfl ⟨v, kk, rfl, hy, HBW.out.trans (hb5.mono HBW.out.size)⟩
    · have hjl : j < n := by omega
      clear hjn
      have hjli : (j : Int) < (n : Int) := by omega
      obtain ⟨ad, s1, A1, n1, c1, s2, A2, n2, c2, z1, d1, rfl, hbk, hx0, hx1, hx2, hx3, hr1, hr2, hn1, hn2, hp⟩ := qs_at h hjl
      obtain ⟨hy0, hy1, hy2, hy3⟩ := qs_cells hB hbk hx0 hx1 hx2 hx3
      obtain ⟨W2, HW2⟩ : ∃ W, W = wr.alloc (.cells #[.bool s1, .slice A1 n1 c1, .bool s2, .slice A2 n2 c2] 56) := ⟨_, rfl⟩
      have hb2 : Below wr.heap.size wr W2 := by rw [HW2]; exact (Below.refl _ _).alloc (Nat.le_refl _) _
      have hB2 := hB.trans (hb2.mono hB.size)
      have HO := Lib.hid (ho.next hb2)
      have HRD := Lib.hid (And.intro (hr1.next hB2) (hr2.next hB2))
      have HB2 := Lib.hid hB2
      have HNN := Lib.hid (And.intro (Nat.le_trans hn1 hN) (Nat.le_trans hn2 hN))
      have HD1 := Lib.hid (show d1 ≠ 0 from HAL.out _ (List.mem_of_getElem? hp.out))
      have HW2 := Lib.hid HW2
      clear ho hB hb2 hB2 hr1 hr2 hx0 hx1 hx2 hx3
      go_wp2_with fail
      rw [← HW2.out]
      clear HW2 hy0 hy1 hy2 hy3
      clear HW2
      refine (qnorm_any HRD.out.1 HRD.out.2 HNN.out.1 HNN.out.2 HD1.out).mono ?_
      rintro _ W3 ⟨s3, A3, n3, c3, s4, A4, n4, c4, y, rfl, ho3, hy, hb3⟩
      have hB3 := HB2.out.trans (hb3.mono HB2.out.size)
      obtain ⟨W4, HW4⟩ : ∃ W, W = W3.alloc (.cells #[.bool s3, .slice A3 n3 c3, .bool s4, .slice A4 n4 c4] 56) := ⟨_, rfl⟩
      have hb4 : Below W3.heap.size W3 W4 := by rw [HW4]; exact (Below.refl _ _).alloc (Nat.le_refl _) _
      have hB4 := hB3.trans (hb4.mono hB3.size)
      obtain ⟨E, hE, hEl, hEn⟩ := (HO.out.next hb3).next hb4
      have HO4 := Lib.hid ((ho3.base HB2.out.size).next hb4)
      rw [HW4] at hE hB4 hEn
      rw [HW4] at HO4
      have HE := Lib.hid hE
      have HEN := Lib.hid (And.intro hEl hEn)
      have HM2 := Lib.hid (show M ++ [y] = (L.take (j + 1)).map qval by rw [hM.out, hy.out]; exact mapq_snoc hp.out)
      have HB4 := Lib.hid hB4
      clear hE hEl hEn hb3 ho3 hb4 hB3 hB4 hy HO hM
      clear HW4
      go_wp2_with (at_builtin; refine wpList_append_own _ rfl _ _ 37 rfl w.heap.size 56 i0 (.agg #[.bool false, .slice none 0 0, .bool false, .slice none 0 0]) 4 64 Tryz.underlying37 hi hz0 hz1 hz2 rfl (by decide) _ _ _ rfl (HE.out.alloc _) ⟨W3.heap.size + 1, 0, none⟩ 1 1 [.bool s3, .slice A3 n3 c3, .bool s4, .slice A4 n4 c4] rfl rfl (by simpa using qcell_new (W3.alloc (.cells #[.bool s3, .slice A3 n3 c3, .bool s4, .slice A4 n4 c4] 56)) (.bool s3) (.slice A3 n3 c3) (.bool s4) (.slice A4 n4 c4) 56) (by simp [Value.oneCell']) (by unfold maxLen; omega) (by omega) (by have := HB4.out.size; simp at this ⊢; omega) ?_; intro v' w1 hown' hgrow _)
      have hmore := qs_more (e := ((s3, A3, n3, c3), (s4, A4, n4, c4))) (x := y) HO4.out rfl (HE.out.alloc _) HEN.out.1 HEN.out.2 hown' hgrow
      have HB5 := Lib.hid ((HB4.out.alloc HB4.out.size (.cells #[.bool s3, .slice A3 n3 c3, .bool s4, .slice A4 n4 c4] 56)).grown hgrow (by have := HB4.out.size; simp at this ⊢; omega) (own_block HE.out))
      obtain ⟨A5, c5, rfl, ho5⟩ := hmore
      clear hown' hgrow HE HEN HO4
      go_wp2
      go_roundw
      case rel => exact ⟨j + 1, c5, A5, M ++ [y], rfl, by go_num, by omega, ho5, HM2, HB5.out⟩
      case measure => simp [intOf]; omega

theorem qcmp_zero (x y : Rat) : (x.num * (y.den : Int) - y.num * (x.den : Int)).sign = 0 ↔ x = y := by
  rw [Int.sign_eq_zero_iff_zero, Int.sub_eq_zero]
  constructor
  · intro e
    rw [← Rat.num_divInt_den x, ← Rat.num_divInt_den y]
    exact (Rat.divInt_eq_divInt_iff (qden_ne x) (qden_ne y)).2 e
  · rintro rfl; rfl

set_option maxRecDepth 100000 in
set_option maxHeartbeats 4000000 in
theorem qcmpIn_any {N b : Nat} {A : Option Addr} {c : Nat} {x y : Rat} {w : World} (h : OwQs w b A 2 c [x, y]) (hx : Zz.zl x.num ≤ N ∧ Zz.zl x.den ≤ N) (hy : Zz.zl y.num ≤ N ∧ Zz.zl y.den ≤ N) (hN : N ≤ 400000000000) :
    Calls Tryz.prog 253 #[.slice A 2 c] w (RetKE (fun v kk => (v = 0 ↔ x = y) ∧ kk = 0) w) := by
  obtain ⟨g, s1, A1, n1, c1, s2, A2, n2, c2, s3, A3, n3, c3, s4, A4, n4, c4, rfl, hg, ⟨a0, a1, a2, a3⟩, ⟨b0, b1, b2, b3⟩, ox, oy⟩ := oq_two h
  have HCE := Lib.hid (show ∀ W : World, Below w.heap.size w W → (W.cell? ⟨g, 0, none⟩ = some (.bool s1) ∧ W.cell? ⟨g, 1, none⟩ = some (.slice A1 n1 c1) ∧ W.cell? ⟨g, 2, none⟩ = some (.bool s2) ∧ W.cell? ⟨g, 3, none⟩ = some (.slice A2 n2 c2) ∧ W.cell? ⟨g, 4, none⟩ = some (.bool s3) ∧ W.cell? ⟨g, 5, none⟩ = some (.slice A3 n3 c3) ∧ W.cell? ⟨g, 6, none⟩ = some (.bool s4) ∧ W.cell? ⟨g, 7, none⟩ = some (.slice A4 n4 c4)) from fun W hb' => by
    exact ⟨(hb'.cell hg).trans a0, (hb'.cell hg).trans a1, (hb'.cell hg).trans a2, (hb'.cell hg).trans a3, (hb'.cell hg).trans b0, (hb'.cell hg).trans b1, (hb'.cell hg).trans b2, (hb'.cell hg).trans b3⟩)
  have HX := Lib.hid (show ∀ W : World, Below w.heap.size w W → RdZ W W.heap.size s1 A1 n1 c1 x.num ∧ RdZ W W.heap.size s2 A2 n2 c2 x.den ∧ RdZ W W.heap.size s3 A3 n3 c3 y.num ∧ RdZ W W.heap.size s4 A4 n4 c4 y.den from fun W hb' => by
    exact ⟨(ox.num.next hb').rd, (ox.den.next hb').rd, (oy.num.next hb').rd, (oy.den.next hb').rd⟩)
  have HNN := Lib.hid (show n1 ≤ N ∧ n2 ≤ N ∧ n3 ≤ N ∧ n4 ≤ N from ⟨by rw [ox.num.len]; exact hx.1, by rw [ox.den.len]; exact hx.2, by rw [oy.num.len]; exact hy.1, by rw [oy.den.len]; exact hy.2⟩)
  have HD := Lib.hid (Below.refl w.heap.size w).drew
  have HXY := Lib.hid (And.intro hx hy)
  clear ox oy h hx hy
  go_enter Tryz.func253, Tryz.ntmps253
  go_upto_region 1 with fail
  go_region_held3 (fun w' => w'.cell? ⟨g, 0, none⟩ = some (.bool s1) ∧ w'.cell? ⟨g, 1, none⟩ = some (.slice A1 n1 c1) ∧ w'.cell? ⟨g, 2, none⟩ = some (.bool s2) ∧ w'.cell? ⟨g, 3, none⟩ = some (.slice A2 n2 c2) ∧ w'.cell? ⟨g, 4, none⟩ = some (.bool s3) ∧ w'.cell? ⟨g, 5, none⟩ = some (.slice A3 n3 c3) ∧ w'.cell? ⟨g, 6, none⟩ = some (.bool s4) ∧ w'.cell? ⟨g, 7, none⟩ = some (.slice A4 n4 c4))
    (first | exact HCE.out _ HB4.out | exact HCE.out _ HB3.out | exact HCE.out _ HB2.out | exact HCE.out _ HD.out)
    (first
      | (go_at_call 92; refine (zcmp_any ho2.rd ho3.rd HN2.out HN3.out).mono ?_; rintro _ W4 ⟨v, rfl, hv, hb4⟩; have HB4 := Lib.hid (HB3.out.trans (hb4.mono HB3.out.size)))
      | (have hxx := HB2.out; clear hxx; go_at_call 216; refine (imul_any (HX.out _ HB2.out).2.2.1 (HX.out _ HB2.out).2.1 (by have := HNN.out; omega) (by have := HNN.out; omega)).mono ?_; rintro _ W3 ⟨s6, A6, n6, c6, y3, rfl, ho3, hy3, hb3⟩; have HB3 := Lib.hid (HB2.out.trans (hb3.mono HB2.out.size)); have ho2 := ho2.next hb3; have HN3 := Lib.hid (show n6 ≤ 17592186044416 by { rw [ho3.len, hy3.out]; have e1 := Zz.zl_mul y.num (x.den : Int); have e2 := HXY.out; omega }))
      | (go_at_call 216; refine (imul_any (HX.out _ HD.out).1 (HX.out _ HD.out).2.2.2 (by have := HNN.out; omega) (by have := HNN.out; omega)).mono ?_; rintro _ W2 ⟨s5, A5, n5, c5, y2, rfl, ho2, hy2, hb2⟩; have HB2 := Lib.hid (HD.out.trans hb2); have HN2 := Lib.hid (show n5 ≤ 17592186044416 by { rw [ho2.len, hy2.out]; have e1 := Zz.zl_mul x.num (y.den : Int); have e2 := HXY.out; omega })))
  all_goals
    have HV := Lib.hid (show v = 0 ↔ x = y by rw [hv.out, hy2.out, hy3.out]; exact qcmp_zero x y)
    go_wp2
    go_ret2
    exact ⟨v, 0, rfl, Lib.hid ⟨HV.out, rfl⟩, HB4.out⟩

set_option maxRecDepth 100000 in
set_option maxHeartbeats 4000000 in
theorem qcmp_any {N : Nat} {s1 s2 s3 s4 : Bool} {A1 A2 A3 A4 : Option Addr} {n1 c1 n2 c2 n3 c3 n4 c4 : Nat} {x y : Rat} {w : World} (h1 : RdZ w w.heap.size s1 A1 n1 c1 x.num) (h2 : RdZ w w.heap.size s2 A2 n2 c2 (x.den : Int)) (h3 : RdZ w w.heap.size s3 A3 n3 c3 y.num) (h4 : RdZ w w.heap.size s4 A4 n4 c4 (y.den : Int)) (hn : n1 ≤ N ∧ n2 ≤ N ∧ n3 ≤ N ∧ n4 ≤ N) (hN : N ≤ 200000000000) :
    Calls Tryz.prog 211 #[.agg #[.bool s1, .slice A1 n1 c1, .bool s2, .slice A2 n2 c2], .agg #[.bool s3, .slice A3 n3 c3, .bool s4, .slice A4 n4 c4]] w (RetKE (fun v kk => (v = 0 ↔ x = y) ∧ kk = 0) w) := by
  have heg := enters_of Tryz.func253 (by kernel_rfl) rfl
  obtain ⟨W1, HW1⟩ : ∃ W, W = (w.alloc (.cells #[.bool s1, .slice A1 n1 c1, .bool s2, .slice A2 n2 c2] 56)).alloc (.cells #[.bool s3, .slice A3 n3 c3, .bool s4, .slice A4 n4 c4] 56) := ⟨_, rfl⟩
  have hX : QC W1 w.heap.size s1 A1 n1 c1 s2 A2 n2 c2 := by rw [HW1]; exact (QC.new w s1 A1 n1 c1 s2 A2 n2 c2).next ((Below.refl _ _).alloc (Nat.le_refl _) _)
  have hY : QC W1 (w.heap.size + 1) s3 A3 n3 c3 s4 A4 n4 c4 := by rw [HW1]; simpa using QC.new (w.alloc (.cells #[.bool s1, .slice A1 n1 c1, .bool s2, .slice A2 n2 c2] 56)) s3 A3 n3 c3 s4 A4 n4 c4
  have hB : Below w.heap.size w W1 := by rw [HW1]; exact ((Below.refl w.heap.size w).alloc (Nat.le_refl _) _).alloc (by simp) _
  obtain ⟨W2, HW2⟩ : ∃ W, W = W1.alloc (.cells #[.bool s1, .slice A1 n1 c1, .bool s2, .slice A2 n2 c2, .bool s3, .slice A3 n3 c3, .bool s4, .slice A4 n4 c4] 56) := ⟨_, rfl⟩
  have hq := qs_two (h1.next hB) (h2.next hB) (h3.next hB) (h4.next hB) hn HW2
  have hb2 : Below W1.heap.size W1 W2 := by rw [HW2]; exact (Below.refl _ _).alloc (Nat.le_refl _) _
  have a0 := hX.c0
  have a1 := hX.c1
  have a2 := hX.c2
  have a3 := hX.c3
  have b0 := hY.c0
  have b1 := hY.c1
  have b2 := hY.c2
  have b3 := hY.c3
  have hs1 : W1.heap.size = w.heap.size + 1 + 1 := by rw [HW1]; simp
  rw [hs1] at hq
  rw [HW1] at a0 a1 a2 a3 b0 b1 b2 b3 HW2
  have HQ := Lib.hid hq
  have HB2 := Lib.hid (hB.trans (hb2.mono hB.size))
  have HLZ := Lib.hid (show (Zz.zl x.num ≤ N ∧ Zz.zl x.den ≤ N) ∧ Zz.zl y.num ≤ N ∧ Zz.zl y.den ≤ N from ⟨⟨Nat.le_trans h1.len hn.1, Nat.le_trans h2.len hn.2.1⟩, Nat.le_trans h3.len hn.2.2.1, Nat.le_trans h4.len hn.2.2.2⟩)
  have HW2 := Lib.hid HW2
  clear hX hY hB hq hb2 hs1 HW1 h1 h2 h3 h4
  go_enter Tryz.func211, Tryz.ntmps211
  go_wp2_with fail
  rw [← HW2.out]
  clear HW2 a0 a1 a2 a3 b0 b1 b2 b3
  clear HW2
  refine (made_int (N := N) (Φ := fun v kk => (v = 0 ↔ x = y) ∧ kk = 0) HQ.out (by decide) (by omega) heg (fun p hp => by
    simp at hp
    rcases hp with rfl | rfl
    · exact qden_ne x
    · exact qden_ne y) (fun W A' c' hb ho => qcmpIn_any (N := N) (b := W2.heap.size) (by
      have e : List.map qval [(x.num, (x.den : Int)), (y.num, (y.den : Int))] = [x, y] := by simp [qval]
      rw [← e]; exact ho) HLZ.out.1 HLZ.out.2 (by omega))).mono ?_
  rintro _ W3 ⟨v, kk, rfl, hv, hb3⟩
  have HF := Lib.hid (HB2.out.trans (hb3.mono HB2.out.size))
  clear hb3
  go_wp2
  go_ret2
  exact ⟨v, kk, rfl, hv, HF.out⟩
end Go.Proofs.YtipbpdiahemmpaaGreat

/- qpoly: the same?; Equal, Degree as exported. -/
namespace Go.Proofs.YtipbpdiahemmpaaGreat
open Go.RowKit Go.IntWalk
attribute [local go_sem ↓] Go.wp_at_zero Go.wp_at_succ

set_option maxRecDepth 100000 in
set_option maxHeartbeats 4000000 in
theorem qsame_any {N : Nat} {A A' : Option Addr} {n c n' c' : Nat} {L L' : List Rat} {w : World} (h : RdQs w w.heap.size N A n c (L.map pr)) (h' : RdQs w w.heap.size N A' n' c' (L'.map pr)) (hN : N ≤ 200000000000) :
    Calls Tryz.prog 122 #[.slice A n c, .slice A' n' c'] w (RetBo (L = L') w) := by
  have hlen := Lib.hid (And.intro h.lenp h'.lenp)
  have hn : n ≤ 9223372036854775807 := by
    have h1 := h.mx
    have h2 := h.le
    unfold maxLen at h1
    omega
  go_enter Tryz.func122, Tryz.ntmps122
  by_cases hne : n = n'
  · subst hne
    go_wp2_with fail
    go_loopw [15] (fun iv wr => ∃ i : Nat, iv = .int .i64 i ∧ i ≤ n ∧ Hid (∀ t, t < i → L[t]? = L'[t]?) ∧ Below w.heap.size w wr) (fun iv _ => n - (intOf iv).toNat)
    case atStart => exact ⟨0, rfl, Nat.zero_le _, Lib.hid fun t ht => by omega, Below.refl _ _⟩
    case round =>
      obtain ⟨i, rfl, hi, hE, hB⟩ := hrel
      by_cases hin : i = n
      · have hni := hin.symm
        subst hni
        clear hin
        go_wp2
        go_ret
        exact ⟨true, rfl, Lib.hid ⟨fun _ => by
          apply List.ext_getElem?
          intro t
          rcases Nat.lt_or_ge t n with ht | ht
          · exact hE.out t ht
          · rw [List.getElem?_eq_none (by rw [hlen.out.1]; exact ht), List.getElem?_eq_none (by rw [hlen.out.2]; exact ht)], fun _ => rfl⟩, hB⟩
      · have hil : i < n := by omega
        clear hin
        have hili : (i : Int) < (n : Int) := by omega
        obtain ⟨ad, s1, A1, n1, c1, s2, A2, n2, c2, x, hA, hbk, hx0, hx1, hx2, hx3, hrx, hrx', hn1, hn2, hx⟩ := qp_at h hil
        obtain ⟨ad', s3, A3, n3, c3, s4, A4, n4, c4, y, hA', hbk', hy0, hy1, hy2, hy3, hry, hry', hn3, hn4, hy⟩ := qp_at h' hil
        subst hA hA'
        obtain ⟨k0, k1, k2, k3⟩ := qs_cells hB hbk hx0 hx1 hx2 hx3
        obtain ⟨l0, l1, l2, l3⟩ := qs_cells hB hbk' hy0 hy1 hy2 hy3
        have HBD := Lib.hid (Below.refl wr.heap.size wr).drew
        have HSA := Lib.hid (qcmp_any (N := N) ((hrx.next hB).next HBD.out) ((hrx'.next hB).next HBD.out) ((hry.next hB).next HBD.out) ((hry'.next hB).next HBD.out) ⟨hn1, hn2, hn3, hn4⟩ hN)
        have HCX := Lib.hid (show ∀ W : World, Below wr.heap.size wr W → _ from fun W hb => qs_cells (hB.trans (hb.mono hB.size)) hbk hx0 hx1 hx2 hx3)
        have HCY := Lib.hid (show ∀ W : World, Below wr.heap.size wr W → _ from fun W hb => qs_cells (hB.trans (hb.mono hB.size)) hbk' hy0 hy1 hy2 hy3)
        clear hx0 hx1 hx2 hx3 hy0 hy1 hy2 hy3 hrx hry hrx' hry' hn1 hn2 hn3 hn4
        go_upto_region 6 with fail
        go_region_held3 (fun w' => (w'.cell? (ad.add (i * 4)) = some (.bool s1) ∧ w'.cell? ⟨(ad.add (i * 4)).block, (ad.add (i * 4)).off + 1, none⟩ = some (.slice A1 n1 c1) ∧ w'.cell? ⟨(ad.add (i * 4)).block, (ad.add (i * 4)).off + 2, none⟩ = some (.bool s2) ∧ w'.cell? ⟨(ad.add (i * 4)).block, (ad.add (i * 4)).off + 3, none⟩ = some (.slice A2 n2 c2)) ∧ w'.cell? (ad'.add (i * 4)) = some (.bool s3) ∧ w'.cell? ⟨(ad'.add (i * 4)).block, (ad'.add (i * 4)).off + 1, none⟩ = some (.slice A3 n3 c3) ∧ w'.cell? ⟨(ad'.add (i * 4)).block, (ad'.add (i * 4)).off + 2, none⟩ = some (.bool s4) ∧ w'.cell? ⟨(ad'.add (i * 4)).block, (ad'.add (i * 4)).off + 3, none⟩ = some (.slice A4 n4 c4))
          (first | exact ⟨HCX.out _ HB2.out, HCY.out _ HB2.out⟩ | exact ⟨HCX.out _ HBD.out, HCY.out _ HBD.out⟩ | exact ⟨HCX.out _ (Below.refl _ _), HCY.out _ (Below.refl _ _)⟩)
          (first
            | (go_at_call 211; refine HSA.out.mono ?_; rintro _ W2 ⟨v, kk, rfl, hv, hb2⟩; have HB2 := Lib.hid (HBD.out.trans hb2)))
        all_goals
          have hB2 := hB.trans (HB2.out.mono hB.size)
          clear k0 k1 k2 k3 l0 l1 l2 l3 hb2
          by_cases hv0 : v = 0
          · have HEQ := Lib.hid (hv.out.1.1 hv0)
            subst hv0
            go_wp2
            go_roundw
            case rel => exact ⟨i + 1, by go_num, by omega, Lib.hid fun t ht => by
              rcases Nat.lt_or_ge t i with h1 | h1
              · exact hE.out t h1
              · rw [show t = i by omega, hx.out, hy.out, HEQ.out], hB2⟩
            case measure => simp [intOf]; omega
          · have HNE := Lib.hid (mt hv.out.1.2 hv0)
            have hvb : (v != 0) = true := by simpa using hv0
            clear hv0
            go_wp2
            go_ret
            exact ⟨false, rfl, Lib.hid ⟨fun e => by simp at e, fun e => absurd (by
              have e1 := hx.out
              rw [e, hy.out] at e1
              injection e1 with e1
              exact e1.symm) HNE.out⟩, hB2⟩
  · have hb : ((n : Int) != (n' : Int)) = true := by simp; omega
    have HNE := Lib.hid hne
    clear hne
    go_wp2
    go_ret
    exact ⟨false, rfl, Lib.hid ⟨fun e => by simp at e, fun e => absurd (by rw [← hlen.out.1, ← hlen.out.2, e]) HNE.out⟩, Below.refl _ _⟩

set_option maxRecDepth 100000 in
set_option maxHeartbeats 4000000 in
theorem qEqualIn_any {b N c : Nat} {A : Option Addr} {P Q : List Rat} {w : World} (h : OwPs w b A 2 c [P, Q]) (hP : ∀ x ∈ P, Qs N x) (hQ : ∀ x ∈ Q, Qs N x) (hN : N ≤ 200000000000) :
    Calls Tryz.prog 121 #[.slice A 2 c] w (RetBE (fun v kk => (v = true ↔ P = Q) ∧ kk = 0) w) := by
  obtain ⟨g, A1, n1, c1, L1, rfl, hbk, hx, ho1, hL1⟩ := opl_at h (show 0 < 2 by decide)
  obtain ⟨g', A2, n2, c2, L2, e, _, hy, ho2, hL2⟩ := opl_at h (show 1 < 2 by decide)
  injection e with e
  injection e with e
  subst e
  obtain rfl : P = L1 := by simpa using hL1.out
  obtain rfl : Q = L2 := by simpa using hL2.out
  have HX := Lib.hid (show ∀ W, Below w.heap.size w W → (W.cell? ⟨g, 0, none⟩ = some (.slice A1 n1 c1) ∧ W.cell? ⟨g, 1, none⟩ = some (.slice A2 n2 c2)) ∧ RdQs W W.heap.size N A1 n1 c1 (P.map pr) ∧ RdQs W W.heap.size N A2 n2 c2 (Q.map pr) from fun W hb => ⟨⟨(hb.cell (p := ⟨g, 0, none⟩) hbk).trans hx, (hb.cell (p := ⟨g, 1, none⟩) hbk).trans hy⟩, (ho1.next hb).rd hP, (ho2.next hb).rd hQ⟩)
  have HBD := Lib.hid (Below.refl w.heap.size w).drew
  have HCX := Lib.hid (show ∀ W, Below w.heap.size w W → _ from fun W hb => (HX.out W hb).1)
  clear h hL1 hL2 ho1 ho2 hP hQ
  go_enter Tryz.func121, Tryz.ntmps121
  go_wp2_with fail
  go_region_held3 (fun w' => w'.cell? ⟨g, 0, none⟩ = some (.slice A1 n1 c1) ∧ w'.cell? ⟨g, 1, none⟩ = some (.slice A2 n2 c2))
    (first | exact HCX.out _ HB3.out | exact HCX.out _ HBD.out)
    (first
      | (go_at_call 122; refine (qsame_any (HX.out _ HBD.out).2.1 (HX.out _ HBD.out).2.2 hN).mono ?_; rintro _ W3 ⟨v, rfl, hv, hb3⟩; have HB3 := Lib.hid (HBD.out.trans (hb3.mono HBD.out.size))))
  all_goals
    go_wp2
    go_ret2
    exact ⟨v, 0, rfl, Lib.hid ⟨hv.out, rfl⟩, HB3.out⟩
/-- An answer, or error 6. -/
def RetOb (ok : Prop) (P : Prop) (w : World) (e : Ending) (w' : World) : Prop :=
  ∃ (v : Bool) (kk : Int), e = .returned (.tuple #[.bool v, .int .i64 kk]) ∧ Hid ((ok ∧ (v = true ↔ P) ∧ kk = 0) ∨ (¬ok ∧ v = false ∧ kk = 6)) ∧ Below w.heap.size w w'
/-- A number, or error 6. -/
def RetOi (ok : Prop) (z : Int) (w : World) (e : Ending) (w' : World) : Prop :=
  ∃ (v : Int) (kk : Int), e = .returned (.tuple #[.int .i64 v, .int .i64 kk]) ∧ Hid ((ok ∧ v = z ∧ kk = 0) ∨ (¬ok ∧ v = 0 ∧ kk = 6)) ∧ Below w.heap.size w w'

set_option maxRecDepth 100000 in
set_option maxHeartbeats 4000000 in
theorem qEqual_any {N : Nat} {A A' : Option Addr} {n c n' c' : Nat} {L L' : List (Int × Int)} {w : World} (h : RdQs w w.heap.size N A n c L) (h' : RdQs w w.heap.size N A' n' c' L') (hn : n ≤ 1048576) (hn' : n' ≤ 1048576) (hN : N ≤ 200000000000) (h1N : 1 ≤ N) :
    Calls Tryz.prog 40 #[.slice A n c, .slice A' n' c'] w (RetOb (okD L ∧ okD L') (nq L = nq L') w) := by
  have HEG := Lib.hid (enters_of Tryz.func121 (by kernel_rfl) rfl)
  have HH := Lib.hid (And.intro h h')
  obtain ⟨W2, HW2⟩ : ∃ W, W = w.alloc (.cells #[.slice A n c, .slice A' n' c'] 38) := ⟨_, rfl⟩
  have hps := Lib.hid (ps_two (K := 1048576) h h' hn hn' HW2)
  have HB2 := Lib.hid (show Below w.heap.size w W2 by rw [HW2]; exact (Below.refl _ _).alloc (Nat.le_refl _) _)
  have HW2 := Lib.hid HW2
  clear h h'
  go_enter Tryz.func40, Tryz.ntmps40
  go_wp2_with fail
  rw [← HW2.out]
  clear HW2
  clear HW2
  refine (norms_bool (f := 121) (Φ := fun v kk => (v = true ↔ nq L = nq L') ∧ kk = 0) hps.out (by decide) (by decide) (by omega) h1N HEG.out (fun hall W A' c' hb ho => qEqualIn_any (N := N) (P := nq L) (Q := nq L') ho (nq_qs HH.out.1 (hall L (by simp)) h1N) (nq_qs HH.out.2 (hall L' (by simp)) h1N) hN)).mono ?_
  intro e W3 hpost
  rcases hpost with ⟨hall, v, kk, rfl, hM2, hb2⟩ | ⟨hex, rfl, hb2⟩
  · have HOK := Lib.hid (show (((okD L ∧ okD L') ∧ (v = true ↔ nq L = nq L') ∧ kk = 0) ∨ (¬(okD L ∧ okD L') ∧ v = false ∧ kk = 6)) from .inl ⟨⟨hall L (by simp), hall L' (by simp)⟩, hM2.out⟩)
    have HB4 := Lib.hid (HB2.out.trans (hb2.mono HB2.out.size))
    clear hall hb2 hM2
    go_wp2
    go_ret2
    exact ⟨v, kk, rfl, HOK, HB4.out⟩
  · have HOK := Lib.hid (show ¬(okD L ∧ okD L') from fun ⟨h1, h2⟩ => by
      obtain ⟨L0, hL0, p, hp, hp0⟩ := hex
      rcases List.mem_cons.1 hL0 with rfl | h3
      · exact h1 p hp hp0
      · obtain rfl := List.mem_singleton.1 h3
        exact h2 p hp hp0)
    have HB4 := Lib.hid (HB2.out.trans (hb2.mono HB2.out.size))
    clear hex hb2
    go_wp2
    go_ret2
    exact ⟨false, 6, rfl, Lib.hid (.inr ⟨HOK.out, rfl, rfl⟩), HB4.out⟩

set_option maxHeartbeats 400000 in
theorem qDegreeIn_any {b c : Nat} {A : Option Addr} {P : List Rat} {w : World} (h : OwPs w b A 1 c [P]) (hP : P.length ≤ 1048576) :
    Calls Tryz.prog 120 #[.slice A 1 c] w (RetKE (fun v kk => v = (P.length : Int) - 1 ∧ kk = 0) w) := by
  obtain ⟨g, A1, n1, c1, L1, rfl, hbk, hx, ho1, hL1⟩ := opl_at h (show 0 < 1 by decide)
  obtain rfl : P = L1 := by simpa using hL1.out
  have hn1 : n1 ≤ 1048576 := by rw [← ho1.len]; exact hP
  have HLN := Lib.hid ho1.len
  have hw : IntKind.i64.wrap ((n1 : Int) - 1) = (n1 : Int) - 1 := by rw [IntWalk.i64_in _ (by omega)]
  clear h hL1 ho1 hP
  go_enter Tryz.func120, Tryz.ntmps120
  go_wp2
  go_ret2
  exact ⟨_, 0, rfl, Lib.hid ⟨by rw [HLN.out], rfl⟩, Below.refl _ _⟩

set_option maxRecDepth 100000 in
set_option maxHeartbeats 4000000 in
theorem qDegree_any {N : Nat} {A : Option Addr} {n c : Nat} {L : List (Int × Int)} {w : World} (h : RdQs w w.heap.size N A n c L) (hn : n ≤ 1048576) (hN : N ≤ 200000000000) (h1N : 1 ≤ N) :
    Calls Tryz.prog 39 #[.slice A n c] w (RetOi (okD L) (((nq L).length : Int) - 1) w) := by
  have HEG := Lib.hid (enters_of Tryz.func120 (by kernel_rfl) rfl)
  have HH := Lib.hid h
  obtain ⟨W2, HW2⟩ : ∃ W, W = w.alloc (.cells #[.slice A n c] 38) := ⟨_, rfl⟩
  have hps := Lib.hid (ps_one (K := 1048576) h hn HW2)
  have HB2 := Lib.hid (show Below w.heap.size w W2 by rw [HW2]; exact (Below.refl _ _).alloc (Nat.le_refl _) _)
  have HW2 := Lib.hid HW2
  clear h
  go_enter Tryz.func39, Tryz.ntmps39
  go_wp2_with fail
  rw [← HW2.out]
  clear HW2
  clear HW2
  refine (norms_int (f := 120) (Φ := fun v kk => v = ((nq L).length : Int) - 1 ∧ kk = 0) hps.out (by decide) (by decide) (by omega) h1N HEG.out (fun hall W A' c' hb ho => qDegreeIn_any (P := nq L) ho (Nat.le_trans (nq_len L) (by rw [HH.out.len]; exact hn)))).mono ?_
  intro e W3 hpost
  rcases hpost with ⟨hall, v, kk, rfl, hM2, hb2⟩ | ⟨hex, rfl, hb2⟩
  · have HOK := Lib.hid (show ((okD L ∧ v = ((nq L).length : Int) - 1 ∧ kk = 0) ∨ (¬okD L ∧ v = 0 ∧ kk = 6)) from .inl ⟨hall L (by simp), hM2.out⟩)
    have HB4 := Lib.hid (HB2.out.trans (hb2.mono HB2.out.size))
    clear hall hb2 hM2
    go_wp2
    go_ret2
    exact ⟨v, kk, rfl, HOK, HB4.out⟩
  · have HOK := Lib.hid (show ¬okD L from fun h1 => by
      obtain ⟨L0, hL0, p, hp, hp0⟩ := hex
      obtain rfl := List.mem_singleton.1 hL0
      exact h1 p hp hp0)
    have HB4 := Lib.hid (HB2.out.trans (hb2.mono HB2.out.size))
    clear hex hb2
    go_wp2
    go_ret2
    exact ⟨0, 6, rfl, Lib.hid (.inr ⟨HOK.out, rfl, rfl⟩), HB4.out⟩
end Go.Proofs.YtipbpdiahemmpaaGreat
