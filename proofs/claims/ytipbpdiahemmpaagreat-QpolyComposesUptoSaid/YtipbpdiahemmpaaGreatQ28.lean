/- Reference 05: numbers as fractions; law 09: polynomials of written numbers. -/
import Derived.Test.YtipbpdiahemmpaaGreatQ25
import Derived.Test.YtipbpdiahemmpaaGreatQ13
namespace Go.Proofs.YtipbpdiahemmpaaGreat
open Go.RowKit Go.IntWalk
attribute [local go_sem ↓] Go.wp_at_zero Go.wp_at_succ

/-- A fraction in lowest terms comes back, in memory of its own. -/
def RetV4 (x : Rat) (w : World) (e : Ending) (w' : World) : Prop :=
  ∃ (s : Bool) (A : Option Addr) (n c : Nat) (s' : Bool) (A' : Option Addr) (n' c' : Nat) (y : Rat), e = .returned (.agg #[.bool s, .slice A n c, .bool s', .slice A' n' c']) ∧ OwQ w' w.heap.size s A n c s' A' n' c' y ∧ Hid (y = x) ∧ Below w.heap.size w w'

set_option maxRecDepth 100000 in
set_option maxHeartbeats 2000000 in
theorem rQOf_any (z : Int) (h1 : -9223372036854775808 ≤ z) (h2 : z < 9223372036854775808) (w : World) :
    Calls Tryz.prog 111 #[.int .i64 z] w (RetV4 (z : Rat) w) := by
  obtain ⟨W1, HW1⟩ : ∃ W, W = w.alloc (.cells #[.bool false, .slice none 0 0, .bool false, .slice none 0 0] 56) := ⟨_, rfl⟩
  have hR : QC W1 w.heap.size false none 0 0 false none 0 0 := by rw [HW1]; exact QC.new w false none 0 0 false none 0 0
  have hB : Below w.heap.size w W1 := by rw [HW1]; exact (Below.refl _ _).alloc (Nat.le_refl _) _
  have HW1 := Lib.hid HW1
  go_enter Tryz.func111, Tryz.ntmps111
  go_wp2_with fail
  rw [← HW1.out]
  clear HW1
  clear HW1
  refine (rIOf_any z h1 h2 W1).mono ?_
  rintro _ W2 ⟨s2, A2, n2, c2, y2, rfl, ho2, hy2, hb2⟩
  go_wp2_with fail
  refine (rIOf_any 1 (by decide) (by decide) W2).mono ?_
  rintro _ W3 ⟨s3, A3, n3, c3, y3, rfl, ho3, hy3, hb3⟩
  have hb13 := hb2.trans (hb3.mono hb2.size)
  have hR3 := hR.next hb13
  have hB3 := hB.trans (hb13.mono hB.size)
  have HO := Lib.hid (show OwQ W3 w.heap.size s2 A2 n2 c2 s3 A3 n3 c3 (z : Rat) from ⟨by have := (ho2.next hb3).base hB.size; rw [hy2.out] at this; exact this, by have := ho3.base (b' := w.heap.size) (Nat.le_trans hB.size hb2.size); rw [hy3.out] at this; exact this⟩)
  have r0 := hR3.c0
  have r1 := hR3.c1
  have r2 := hR3.c2
  have r3 := hR3.c3
  have f0 := hR3.fz 0
  have f1 := hR3.fz 1
  have f2 := hR3.fz 2
  have f3 := hR3.fz 3
  have HR9 := Lib.hid (hR3.store s2 A2 n2 c2 s3 A3 n3 c3)
  have HO9 := Lib.hid (HO.out.keep (keep_putQ hR3 s2 A2 n2 c2 s3 A3 n3 c3))
  have HB9 := Lib.hid (below_putQ hB3 (Nat.le_refl w.heap.size) s2 A2 n2 c2 s3 A3 n3 c3)
  unfold putQ at HR9 HB9 HO9
  clear hR hR3 hB hB3 hb2 hb3 hb13 ho2 ho3 hy2 hy3
  go_wp2_with fail
  generalize (((W3.setCell ⟨w.heap.size, 0, none⟩ (.bool s2)).setCell ⟨w.heap.size, 1, none⟩ (.slice A2 n2 c2)).setCell ⟨w.heap.size, 2, none⟩ (.bool s3)).setCell ⟨w.heap.size, 3, none⟩ (.slice A3 n3 c3) = W9 at *
  have z0 := HR9.out.c0
  have z1 := HR9.out.c1
  have z2 := HR9.out.c2
  have z3 := HR9.out.c3
  exact bodyPost_ret (by simp [results, Tryz.results111, go_sem, z0, z1, z2, z3]) rfl ⟨_, _, _, _, _, _, _, _, _, rfl, HO9.out, Lib.hid rfl, HB9.out⟩

set_option maxRecDepth 100000 in
set_option maxHeartbeats 4000000 in
theorem lof09_any {A : Option Addr} {n c : Nat} {L : List Int} {w : World} (h : RdK w w.heap.size A n c L) (hn : n ≤ 1048576) :
    Calls Tryz.prog 109 #[.slice A n c] w fun e w' => ∃ (A : Option Addr) (n c : Nat) (M : List Rat), e = .returned (.slice A n c) ∧ OwQp w' w.heap.size A n c M ∧ Hid (M = L.map fun z : Int => (z : Rat)) ∧ Below w.heap.size w w' := by
  have HLEN := Lib.hid h.len
  obtain ⟨i0, hi, hz0, hz1, hz2⟩ := info_parts infoQ
  go_enter Tryz.func109, Tryz.ntmps109
  go_wp2_with fail
  go_loopw [3, 8] (fun ov iv wr => ∃ (j c' : Nat) (A' : Option Addr) (M : List Rat), ov = .slice A' j c' ∧ iv = .int .i64 j ∧ j ≤ n ∧ OwQs wr w.heap.size A' j c' M ∧ Hid (M = (L.take j).map fun z : Int => (z : Rat)) ∧ Below w.heap.size w wr) (fun _ iv _ => n - (intOf iv).toNat)
  case atStart => exact ⟨0, 0, none, [], rfl, rfl, Nat.zero_le _, OwQs.nil _ _, Lib.hid rfl, Below.refl _ _⟩
  case round =>
    obtain ⟨j, c', A', M, rfl, rfl, hj, ho, hM, hB⟩ := hrel
    by_cases hjn : j = n
    · subst hjn
      go_wp2
      go_ret
      exact ⟨_, _, _, _, rfl, ho.p, Lib.hid (by rw [hM.out, List.take_of_length_le (by rw [HLEN.out]; exact Nat.le_refl _)]), hB⟩
    · have hjl : j < n := by omega
      clear hjn
      have hjli : (j : Int) < (n : Int) := by omega
      obtain ⟨z, hz⟩ := zs_get (L := L) (j := j) (by rw [h.len]; exact hjl)
      obtain ⟨h1, h2, ad, rfl, hbk, hx⟩ := h.at_ j z hz
      have hy := (hB.cell (p := ad.add j) (by rw [add_blk]; exact hbk)).trans hx
      have HZ := Lib.hid hz
      have HRG := Lib.hid (And.intro h1 h2)
      have HO := Lib.hid ho
      clear hz hx ho h1 h2
      go_wp2_with fail
      refine (rQOf_any z HRG.out.1 HRG.out.2 wr).mono ?_
      rintro _ W3 ⟨s3, A3, n3, c3, s4, A4, n4, c4, y, rfl, ho3, hy3, hb3⟩
      have hB3 := hB.trans (hb3.mono hB.size)
      obtain ⟨E, hE, hEl, hEn⟩ := HO.out.next hb3
      have HO4 := Lib.hid (ho3.base hB.size)
      have HE := Lib.hid hE
      have HEN := Lib.hid (And.intro hEl hEn)
      have HM2 := Lib.hid (show M ++ [y] = (L.take (j + 1)).map fun z : Int => (z : Rat) by rw [hM.out, hy3.out, List.take_add_one, HZ.out]; simp)
      clear hE hEl hEn hy hb3 ho3
      go_wp2_with (at_builtin; refine wpList_append_own _ rfl _ _ 38 rfl w.heap.size 56 i0 (.agg #[.bool false, .slice none 0 0, .bool false, .slice none 0 0]) 4 64 Tryz.underlying38 hi hz0 hz1 hz2 rfl (by decide) _ _ _ rfl (HE.out.alloc _) ⟨W3.heap.size, 0, none⟩ 1 1 [.bool s3, .slice A3 n3 c3, .bool s4, .slice A4 n4 c4] rfl rfl (qcell_new _ _ _ _ _ _) (by simp [Value.oneCell']) (by unfold maxLen; omega) (by omega) (by have := hB3.size; simp; omega) ?_; intro v' w1 hown' hgrow _)
      have hmore := qs_more (e := ((s3, A3, n3, c3), (s4, A4, n4, c4))) (x := y) HO4.out rfl (HE.out.alloc _) HEN.out.1 HEN.out.2 hown' hgrow
      have HB5 := Lib.hid ((hB3.alloc hB3.size (.cells #[.bool s3, .slice A3 n3 c3, .bool s4, .slice A4 n4 c4] 56)).grown hgrow (by have := hB3.size; simp; omega) (own_block HE.out))
      obtain ⟨A5, c5, rfl, ho5⟩ := hmore
      clear hown' hgrow HE HEN HO4 hB3 hB
      go_wp2
      go_roundw
      case rel => exact ⟨j + 1, c5, A5, M ++ [y], rfl, by go_num, by omega, ho5, HM2, HB5.out⟩
      case measure => simp [intOf]; omega
end Go.Proofs.YtipbpdiahemmpaaGreat

/- Reference 05: in lowest terms. -/
namespace Go.Proofs.YtipbpdiahemmpaaGreat
open Go.RowKit Go.IntWalk
attribute [local go_sem ↓] Go.wp_at_zero Go.wp_at_succ

theorem QC.far {w : World} {g : Nat} {s s' : Bool} {A A' : Option Addr} {n c n' c' : Nat} (h : QC w g s A n c s' A' n' c') {p : Addr} (hp : g ≠ p.block) (u : Value) : QC (w.setCell p u) g s A n c s' A' n' c' := (Below.heap_setCell w p u g hp).trans h
theorem rmake_num {z d : Int} (h : d < 0) : (-z).tdiv (Int.gcd (-z) (-d) : Int) = z.tdiv (Qz.gs z d) := by
  unfold Qz.gs
  rw [if_pos h, Int.gcd_neg, Int.neg_gcd, Int.neg_tdiv, Int.tdiv_neg]
theorem rmake_den {z d : Int} (h : d < 0) : (-d).tdiv (Int.gcd (-z) (-d) : Int) = d.tdiv (Qz.gs z d) := by
  unfold Qz.gs
  rw [if_pos h, Int.gcd_neg, Int.neg_gcd, Int.neg_tdiv, Int.tdiv_neg]
/-- Two cells with two integers of any memory. -/
def TwoR (v : World) (N g g' : Nat) (z z' : Int) (w : World) : Prop :=
  ∃ (t t' : Bool) (A1 A2 : Option Addr) (k m k' m' : Nat), ZC w g t A1 k m ∧ ZC w g' t' A2 k' m' ∧ RdZ w w.heap.size t A1 k m z ∧ RdZ w w.heap.size t' A2 k' m' z' ∧ k ≤ N ∧ k' ≤ N ∧ Below v.heap.size v w
theorem two_setR {v w W : World} {N g g' b1 b2 : Nat} {s s' t t' : Bool} {A A' A1 A2 : Option Addr} {n c n' c' k m k' m' : Nat} {z z' : Int} (h : ZC w g s A n c) (h' : ZC w g' s' A' n' c') (hne : g ≠ g') (hB : Below v.heap.size v w) (hg : v.heap.size ≤ g) (hg' : v.heap.size ≤ g')
    (ho : OwZ w b1 t A1 k m z) (ho' : OwZ w b2 t' A2 k' m' z') (hb1 : g < b1 ∧ g' < b1) (hb2 : g < b2 ∧ g' < b2) (hk : k ≤ N) (hk' : k' ≤ N)
    (hW : W = (((w.setCell ⟨g, 0, none⟩ (.bool t)).setCell ⟨g, 1, none⟩ (.slice A1 k m)).setCell ⟨g', 0, none⟩ (.bool t')).setCell ⟨g', 1, none⟩ (.slice A2 k' m') ∨
      W = (((w.setCell ⟨g', 0, none⟩ (.bool t')).setCell ⟨g', 1, none⟩ (.slice A2 k' m')).setCell ⟨g, 0, none⟩ (.bool t)).setCell ⟨g, 1, none⟩ (.slice A1 k m)) : TwoR v N g g' z z' W := by
  rcases hW with hW | hW
  · obtain ⟨h1, h2, h3, h4, h5⟩ := put_two h h' hne hB hg hg' ho ho' hb1 hb2 hW
    exact ⟨t, t', A1, A2, k, m, k', m', h1, h2, h3.rd, h4.rd, hk, hk', h5⟩
  · obtain ⟨h1, h2, h3, h4, h5⟩ := put_two h' h (Ne.symm hne) hB hg' hg ho' ho ⟨hb2.2, hb2.1⟩ ⟨hb1.2, hb1.1⟩ hW
    exact ⟨t, t', A1, A2, k, m, k', m', h2, h1, h4.rd, h3.rd, hk, hk', h5⟩

set_option maxRecDepth 100000 in
set_option maxHeartbeats 8000000 in
theorem rQMake_any {s s' : Bool} {A A' : Option Addr} {n c n' c' : Nat} {z d : Int} {w : World} (h : RdZ w w.heap.size s A n c z) (h' : RdZ w w.heap.size s' A' n' c' d) (hn : n ≤ 1000000000000) (hn' : n' ≤ 1000000000000) (hd : d ≠ 0) :
    Calls Tryz.prog 182 #[.agg #[.bool s, .slice A n c], .agg #[.bool s', .slice A' n' c']] w (RetV4 (Rat.divInt z d) w) := by
  obtain ⟨W1, HW1⟩ : ∃ W, W = ((w.alloc (.cells #[.bool s, .slice A n c] 28)).alloc (.cells #[.bool s', .slice A' n' c'] 28)).alloc (.cells #[.bool false, .slice none 0 0, .bool false, .slice none 0 0] 56) := ⟨_, rfl⟩
  obtain ⟨hX, hY, hR, hB⟩ := q_boxes w s A n c s' A' n' c' W1 HW1
  have a0 := hY.c0
  have a1 := hY.c1
  rw [HW1] at a0 a1
  have HRD := Lib.hid (show ∀ W : World, Below W1.heap.size W1 W → RdZ W W.heap.size s A n c z ∧ RdZ W W.heap.size s' A' n' c' d from fun W hb => ⟨(h.next hB).next hb, (h'.next hB).next hb⟩)
  have HCE := Lib.hid (show ∀ W : World, Below W1.heap.size W1 W → ZC W w.heap.size s A n c ∧ ZC W (w.heap.size + 1) s' A' n' c' ∧ QC W (w.heap.size + 1 + 1) false none 0 0 false none 0 0 from fun W hb => ⟨hX.next hb, hY.next hb, hR.next hb⟩)
  have HB := Lib.hid hB
  have HS := Lib.hid (show w.heap.size + 1 + 1 < W1.heap.size from hR.lt)
  have HLZ := Lib.hid (show Zz.zl z ≤ 1000000000000 ∧ Zz.zl d ≤ 1000000000000 from ⟨Nat.le_trans h.len hn, Nat.le_trans h'.len hn'⟩)
  have HD0 := Lib.hid hd
  have HW1 := Lib.hid HW1
  clear hX hY hR hB h h' hd
  go_enter Tryz.func182, Tryz.ntmps182
  go_wp2_with fail
  rw [← HW1.out]
  clear HW1 a0 a1
  clear HW1
  refine (rISign_any (HRD.out _ (Below.refl _ _)).2 (by omega)).mono ?_
  rintro _ W2 ⟨k, rfl, hk, hb2⟩
  have HB2 := Lib.hid hb2
  clear hb2
  go_upto_if 12 with fail
  go_cut [] from 12 (fun wr => ∃ (y y' : Int) (V : World), V = wr ∧ TwoR w 1000000000000 w.heap.size (w.heap.size + 1) y y' V ∧ QC V (w.heap.size + 1 + 1) false none 0 0 false none 0 0 ∧ Hid (y.tdiv (Int.gcd y y' : Int) = (Rat.divInt z d).num ∧ y'.tdiv (Int.gcd y y' : Int) = ((Rat.divInt z d).den : Int) ∧ y' ≠ 0))
  case first =>
    by_cases hneg : k < 0
    · have HD := Lib.hid (show d < 0 by
        have h5 := hk.out
        rw [h5] at hneg
        exact Int.sign_neg_iff.1 hneg)
      have HBD := Lib.hid (HB2.out.trans ((Below.refl W2.heap.size W2).drew.mono HB2.out.size))
      obtain ⟨hX, hY, hR⟩ := HCE.out _ HB2.out
      have hc0 := hX.c0
      have hc1 := hX.c1
      have hd0 := hY.c0
      have hd1 := hY.c1
      go_wp2_with fail
      go_region_with (first
        | (go_at_call 88; have hx := HB3.out; clear hx; refine (rINeg_any (HRD.out _ HB3.out).2 (by omega)).mono ?_; rintro _ W4 ⟨s4, A4, m4, c4, z4, rfl, ho4, hz4, hb4⟩; have HB4 := Lib.hid (HB3.out.trans (hb4.mono HB3.out.size)); have ha0 := (HCE.out _ HB4.out).1.c0; have ha1 := (HCE.out _ HB4.out).1.c1; have ha2 := (HCE.out _ HB4.out).2.1.c0; have ha3 := (HCE.out _ HB4.out).2.1.c1; have hf0 := (HCE.out _ HB4.out).1.fz 0; have hf1 := (HCE.out _ HB4.out).1.fz 1; have hf2 := (HCE.out _ HB4.out).2.1.fz 0; have hf3 := (HCE.out _ HB4.out).2.1.fz 1)
        | (go_at_call 88; refine (rINeg_any (HRD.out _ HBD.out).1 (by omega)).mono ?_; rintro _ W3 ⟨s3, A3, m3, c3, z3, rfl, ho3, hz3, hb3⟩; have HB3 := Lib.hid (HBD.out.trans (hb3.mono HBD.out.size)); have he0 := (HCE.out _ HB3.out).1.c0; have he1 := (HCE.out _ HB3.out).1.c1; have he2 := (HCE.out _ HB3.out).2.1.c0; have he3 := (HCE.out _ HB3.out).2.1.c1))
      all_goals
        have HP := Lib.hid fun W => two_setR (W := W) (v := w) (N := 1000000000000) (z := -z) (z' := -d) (HCE.out _ HB4.out).1 (HCE.out _ HB4.out).2.1 (by omega) (HB.out.trans (HB4.out.mono HB.out.size)) (Nat.le_refl _) (Nat.le_succ _) (by have := ho3.next hb4; rw [hz3.out] at this; exact this) (by rw [hz4.out] at ho4; exact ho4) (by have := HS.out; have := HBD.out.size; omega) (by have := HS.out; have := HB3.out.size; omega) (by rw [ho3.len, hz3.out, Zz.zl_neg]; exact HLZ.out.1) (by rw [ho4.len, hz4.out, Zz.zl_neg]; exact HLZ.out.2)
        have HRN := Lib.hid (HCE.out _ HB4.out).2.2
        clear ha0 ha1 ha2 ha3 hf0 hf1 hf2 hf3 he0 he1 he2 he3 hc0 hc1 hd0 hd1
        go_wp2
        go_meet
        refine ⟨-z, -d, _, rfl, ?_, ?_, Lib.hid ⟨?_, ?_, by have := HD.out; omega⟩⟩
        · first
          | exact HP.out _ (.inl rfl)
          | exact HP.out _ (.inr rfl)
        · exact (((HRN.out.far (by simp <;> omega) _).far (by simp <;> omega) _).far (by simp <;> omega) _).far (by simp <;> omega) _
        · rw [rmake_num HD.out]; exact Qz.make_num HD0.out
        · rw [rmake_den HD.out]; exact Qz.make_den HD0.out
    · have HD := Lib.hid (show ¬ d < 0 from fun hd => hneg (by rw [hk.out]; exact Int.sign_neg_iff.2 hd))
      have hneg' : 0 ≤ k := by omega
      clear hneg
      go_wp2
      go_meet
      obtain ⟨hX, hY, hR⟩ := HCE.out _ HB2.out
      obtain ⟨h1, h2⟩ := HRD.out _ HB2.out
      refine ⟨z, d, _, rfl, ⟨_, _, _, _, _, _, _, _, hX, hY, h1, h2, hn, hn', HB.out.trans (HB2.out.mono HB.out.size)⟩, hR, Lib.hid ⟨?_, ?_, HD0.out⟩⟩
      · rw [← Qz.make_num HD0.out]; unfold Qz.gs; rw [if_neg (by have := HD.out; omega)]
      · rw [← Qz.make_den HD0.out]; unfold Qz.gs; rw [if_neg (by have := HD.out; omega)]
  case rest =>
    clear HRD HCE hk
    obtain ⟨y, y', V, hV, ⟨t, t', A1, A2, k1, m1, k2, m2, hX, hY, h1, h2, hk1, hk2, hBw⟩, hR, hyy⟩ := hcut
    subst hV
    have HRD := Lib.hid (show ∀ W : World, Below V.heap.size V W → RdZ W W.heap.size t A1 k1 m1 y ∧ RdZ W W.heap.size t' A2 k2 m2 y' from fun W hb => ⟨h1.next hb, h2.next hb⟩)
    have HCE := Lib.hid (show ∀ W : World, Below V.heap.size V W → ZC W w.heap.size t A1 k1 m1 ∧ ZC W (w.heap.size + 1) t' A2 k2 m2 ∧ QC W (w.heap.size + 1 + 1) false none 0 0 false none 0 0 from fun W hb => ⟨hX.next hb, hY.next hb, hR.next hb⟩)
    have HBW := Lib.hid hBw
    have HLZ := Lib.hid (show Zz.zl y ≤ 1000000000000 ∧ Zz.zl y' ≤ 1000000000000 from ⟨Nat.le_trans h1.len hk1, Nat.le_trans h2.len hk2⟩)
    have a0 := hX.c0
    have a1 := hX.c1
    have b0 := hY.c0
    have b1 := hY.c1
    clear hX hY hR h1 h2 hBw
    go_wp2_with fail
    clear a0 a1 b0 b1
    refine (rIGcd_any (HRD.out _ (Below.refl _ _)).1 (HRD.out _ (Below.refl _ _)).2 (by omega) (by omega)).mono ?_
    rintro _ W4 ⟨s4, A4, n4, c4, g4, rfl, ho4, hg4, hb4⟩
    obtain ⟨W5, HW5⟩ : ∃ W, W = W4.alloc (.cells #[.bool s4, .slice A4 n4 c4] 28) := ⟨_, rfl⟩
    have hb5 : Below W4.heap.size W4 W5 := by rw [HW5]; exact (Below.refl _ _).alloc (Nat.le_refl _) _
    have hX5 : ZC W5 W4.heap.size s4 A4 n4 c4 := by rw [HW5]; exact ZC.new W4 s4 A4 n4 c4
    have HB5 := Lib.hid (hb4.trans (hb5.mono hb4.size))
    have HX5 := Lib.hid (And.intro hX5 (ho4.next hb5))
    have HN4 := Lib.hid (show n4 ≤ 1000000000000 by
      rw [ho4.len, hg4.out]
      have e1 := Zz.zl_gcd y y'
      have e2 := HLZ.out
      omega)
    have HG0 := Lib.hid (show g4 ≠ 0 by
      rw [hg4.out]
      have : Int.gcd y y' ≠ 0 := fun e => hyy.out.2.2 (Int.gcd_eq_zero_iff.1 e).2
      omega)
    have a0 := hX5.c0
    have a1 := hX5.c1
    have x0 := (HCE.out _ HB5.out).1.c0
    have x1 := (HCE.out _ HB5.out).1.c1
    rw [HW5] at a0 a1 x0 x1
    have HW5 := Lib.hid HW5
    clear hX5 ho4 hb4 hb5
    go_wp2_with fail
    rw [← HW5.out]
    clear HW5 a0 a1 x0 x1
    clear HW5
    generalize W4.heap.size = gc at *
    refine (rIExact_any (HRD.out _ HB5.out).1 HX5.out.2.rd (by omega) (by have := HN4.out; omega) HG0.out).mono ?_
    rintro _ W8 ⟨s8, A8, n8, c8, q8, e8, rfl, ho8, hq8, hb8⟩
    have HQ8 := Lib.hid (show q8 = (Rat.divInt z d).num by
      rw [← hyy.out.1, ← hg4.out]
      rcases hq8.out with ⟨_, f2, _⟩ | ⟨f1, _, _⟩
      · exact f2
      · exact absurd (Int.tmod_eq_zero_of_dvd (by rw [hg4.out]; exact Int.gcd_dvd_left y y')) f1)
    obtain ⟨W9, HW9⟩ : ∃ W, W = W8.alloc (.cells #[.bool s8, .slice A8 n8 c8] 28) := ⟨_, rfl⟩
    have hb9 : Below W8.heap.size W8 W9 := by rw [HW9]; exact (Below.refl _ _).alloc (Nat.le_refl _) _
    have hb59 := hb8.trans (hb9.mono hb8.size)
    have HB9 := Lib.hid (HB5.out.trans (hb59.mono HB5.out.size))
    have HX9 := Lib.hid (show ZC W9 W8.heap.size s8 A8 n8 c8 by rw [HW9]; exact ZC.new W8 s8 A8 n8 c8)
    have HO9 := Lib.hid ((ho8.base (b' := V.heap.size) HB5.out.size).next hb9)
    have HY9 := Lib.hid (And.intro (HX5.out.1.next hb59) (HX5.out.2.next hb59))
    have a0 := HY9.out.1.c0
    have a1 := HY9.out.1.c1
    have y0 := (HCE.out _ HB9.out).2.1.c0
    have y1 := (HCE.out _ HB9.out).2.1.c1
    rw [HW9] at a0 a1 y0 y1
    have HW9 := Lib.hid HW9
    clear ho8 hq8 hb8 hb9 hb59
    go_wp2_with fail
    rw [← HW9.out]
    clear HW9 a0 a1 y0 y1
    clear HW9
    generalize W8.heap.size = gn at *
    refine (rIExact_any (HRD.out _ HB9.out).2 HY9.out.2.rd (by omega) (by have := HN4.out; omega) HG0.out).mono ?_
    rintro _ V1 ⟨t1, D1, j1, l1, q1, e1, rfl, ho1, hq1, hv1⟩
    have HQ1 := Lib.hid (show q1 = ((Rat.divInt z d).den : Int) by
      rw [← hyy.out.2.1, ← hg4.out]
      rcases hq1.out with ⟨_, f2, _⟩ | ⟨f1, _, _⟩
      · exact f2
      · exact absurd (Int.tmod_eq_zero_of_dvd (by rw [hg4.out]; exact Int.gcd_dvd_right y y')) f1)
    obtain ⟨V2, HV2⟩ : ∃ W, W = V1.alloc (.cells #[.bool t1, .slice D1 j1 l1] 28) := ⟨_, rfl⟩
    have hv2 : Below V1.heap.size V1 V2 := by rw [HV2]; exact (Below.refl _ _).alloc (Nat.le_refl _) _
    have hv12 := hv1.trans (hv2.mono hv1.size)
    have HU2 := Lib.hid (HB9.out.trans (hv12.mono HB9.out.size))
    have hN := HX9.out.next hv12
    have hR := (HCE.out _ HU2.out).2.2
    have HF := Lib.hid (show OwQ V2 w.heap.size s8 A8 n8 c8 t1 D1 j1 l1 (Rat.divInt z d) from ⟨by rw [← HQ8.out]; exact (HO9.out.next hv12).base HBW.out.size, by rw [← HQ1.out]; exact (ho1.next hv2).base (Nat.le_trans HBW.out.size HB9.out.size)⟩)
    have HF9 := Lib.hid (HF.out.keep (keep_putQ hR s8 A8 n8 c8 t1 D1 j1 l1))
    have HR9 := Lib.hid (hR.store s8 A8 n8 c8 t1 D1 j1 l1)
    have HBF := Lib.hid (below_putQ (HBW.out.trans (HU2.out.mono HBW.out.size)) (show w.heap.size ≤ w.heap.size + 1 + 1 by omega) s8 A8 n8 c8 t1 D1 j1 l1)
    have a0 := hN.c0
    have a1 := hN.c1
    have r0 := hR.c0
    have r1 := hR.c1
    have r2 := hR.c2
    have r3 := hR.c3
    have f0 := hR.fz 0
    have f1 := hR.fz 1
    have f2 := hR.fz 2
    have f3 := hR.fz 3
    rw [HV2] at a0 a1 r0 r1 r2 r3 f0 f1 f2 f3
    unfold putQ at HF9 HR9 HBF
    have HV2 := Lib.hid HV2
    clear ho1 hq1 hv1 hv2 hv12 hN hR
    go_wp2_with fail
    rw [← HV2.out]
    clear HV2 a0 a1 r0 r1 r2 r3 f0 f1 f2 f3
    clear HV2
    generalize (((V2.setCell ⟨w.heap.size + 1 + 1, 0, none⟩ (.bool s8)).setCell ⟨w.heap.size + 1 + 1, 1, none⟩ (.slice A8 n8 c8)).setCell ⟨w.heap.size + 1 + 1, 2, none⟩ (.bool t1)).setCell ⟨w.heap.size + 1 + 1, 3, none⟩ (.slice D1 j1 l1) = V9 at *
    have z0 := HR9.out.c0
    have z1 := HR9.out.c1
    have z2 := HR9.out.c2
    have z3 := HR9.out.c3
    exact bodyPost_ret (by simp [results, Tryz.results182, go_sem, z0, z1, z2, z3]) rfl ⟨_, _, _, _, _, _, _, _, _, rfl, HF9.out, Lib.hid rfl, HBF.out⟩
end Go.Proofs.YtipbpdiahemmpaaGreat

/- Reference 05: the normal form, the sign, does it mean something. -/
namespace Go.Proofs.YtipbpdiahemmpaaGreat
open Go.RowKit Go.IntWalk
attribute [local go_sem ↓] Go.wp_at_zero Go.wp_at_succ

set_option maxRecDepth 100000 in
set_option maxHeartbeats 2000000 in
theorem rQNorm_any {s s' : Bool} {A A' : Option Addr} {n c n' c' : Nat} {z d : Int} {w : World} (h : RdZ w w.heap.size s A n c z) (h' : RdZ w w.heap.size s' A' n' c' d) (hn : n ≤ 1000000000000) (hn' : n' ≤ 1000000000000) (hd : d ≠ 0) :
    Calls Tryz.prog 130 #[.agg #[.bool s, .slice A n c, .bool s', .slice A' n' c']] w (RetV4 (Rat.divInt z d) w) := by
  obtain ⟨W1, HW1⟩ : ∃ W, W = (w.alloc (.cells #[.bool s, .slice A n c, .bool s', .slice A' n' c'] 56)).alloc (.cells #[.bool false, .slice none 0 0, .bool false, .slice none 0 0] 56) := ⟨_, rfl⟩
  obtain ⟨hX, hR, hB⟩ := q_box1 w s A n c s' A' n' c' W1 HW1
  have a0 := hX.c0
  have a1 := hX.c1
  have a2 := hX.c2
  have a3 := hX.c3
  rw [HW1] at a0 a1 a2 a3
  have h1 := h.next hB
  have h2 := h'.next hB
  have HW1 := Lib.hid HW1
  go_enter Tryz.func130, Tryz.ntmps130
  go_wp2_with fail
  rw [← HW1.out]
  clear HW1 a0 a1 a2 a3
  clear HW1
  refine (rQMake_any h1 h2 hn hn' hd).mono ?_
  rintro _ W2 ⟨s2, A2, n2, c2, s3, A3, n3, c3, y, rfl, ho, hy, hb2⟩
  have hR2 := hR.next hb2
  have hB2 := hB.trans (hb2.mono hB.size)
  have r0 := hR2.c0
  have r1 := hR2.c1
  have r2 := hR2.c2
  have r3 := hR2.c3
  have f0 := hR2.fz 0
  have f1 := hR2.fz 1
  have f2 := hR2.fz 2
  have f3 := hR2.fz 3
  have HR9 := Lib.hid (hR2.store s2 A2 n2 c2 s3 A3 n3 c3)
  have HO9 := Lib.hid ((ho.base (b' := w.heap.size) hB.size).keep (keep_putQ hR2 s2 A2 n2 c2 s3 A3 n3 c3))
  have HB9 := Lib.hid (below_putQ hB2 (show w.heap.size ≤ w.heap.size + 1 by omega) s2 A2 n2 c2 s3 A3 n3 c3)
  unfold putQ at HR9 HB9 HO9
  clear hX hR hR2 hB hB2 hb2 h1 h2 h h' ho
  go_wp2_with fail
  generalize (((W2.setCell ⟨w.heap.size + 1, 0, none⟩ (.bool s2)).setCell ⟨w.heap.size + 1, 1, none⟩ (.slice A2 n2 c2)).setCell ⟨w.heap.size + 1, 2, none⟩ (.bool s3)).setCell ⟨w.heap.size + 1, 3, none⟩ (.slice A3 n3 c3) = W9 at *
  have z0 := HR9.out.c0
  have z1 := HR9.out.c1
  have z2 := HR9.out.c2
  have z3 := HR9.out.c3
  exact bodyPost_ret (by simp [results, Tryz.results130, go_sem, z0, z1, z2, z3]) rfl ⟨_, _, _, _, _, _, _, _, _, rfl, HO9.out, hy, HB9.out⟩

theorem sign_prod {z d : Int} : IntKind.i64.wrap (z.sign * d.sign) = 0 ↔ z = 0 ∨ d = 0 := by
  rcases sign_three z with ⟨h1, e1⟩ | ⟨h1, e1⟩ | ⟨h1, e1⟩ <;> rcases sign_three d with ⟨h2, e2⟩ | ⟨h2, e2⟩ | ⟨h2, e2⟩ <;> rw [e1, e2] <;> simp only [show IntKind.i64.wrap (1 * 1) = 1 from by decide +kernel, show IntKind.i64.wrap (1 * 0) = 0 from by decide +kernel, show IntKind.i64.wrap (1 * (-1)) = -1 from by decide +kernel, show IntKind.i64.wrap (0 * 1) = 0 from by decide +kernel, show IntKind.i64.wrap (0 * 0) = 0 from by decide +kernel, show IntKind.i64.wrap (0 * (-1)) = 0 from by decide +kernel, show IntKind.i64.wrap ((-1) * 1) = -1 from by decide +kernel, show IntKind.i64.wrap ((-1) * 0) = 0 from by decide +kernel, show IntKind.i64.wrap ((-1) * (-1)) = 1 from by decide +kernel] <;> (try simp only [true_iff]) <;> omega
/-- A number comes back that is nought just for what is nought. -/
def RetK0 (P : Prop) (w : World) (e : Ending) (w' : World) : Prop := ∃ k : Int, e = .returned (.int .i64 k) ∧ Hid (k = 0 ↔ P) ∧ Below w.heap.size w w'

set_option maxRecDepth 100000 in
set_option maxHeartbeats 2000000 in
theorem rQSign_any {s s' : Bool} {A A' : Option Addr} {n c n' c' : Nat} {z d : Int} {w : World} (h : RdZ w w.heap.size s A n c z) (h' : RdZ w w.heap.size s' A' n' c' d) (hn : n ≤ 17592186044416) (hn' : n' ≤ 17592186044416) :
    Calls Tryz.prog 129 #[.agg #[.bool s, .slice A n c, .bool s', .slice A' n' c']] w (RetK0 (z = 0 ∨ d = 0) w) := by
  obtain ⟨W1, HW1⟩ : ∃ W, W = w.alloc (.cells #[.bool s, .slice A n c, .bool s', .slice A' n' c'] 56) := ⟨_, rfl⟩
  have hX : QC W1 w.heap.size s A n c s' A' n' c' := by rw [HW1]; exact QC.new w s A n c s' A' n' c'
  have hB : Below w.heap.size w W1 := by rw [HW1]; exact (Below.refl _ _).alloc (Nat.le_refl _) _
  have HRD := Lib.hid (show ∀ W : World, Below W1.heap.size W1 W → RdZ W W.heap.size s A n c z ∧ RdZ W W.heap.size s' A' n' c' d from fun W hb => ⟨(h.next hB).next hb, (h'.next hB).next hb⟩)
  have HCE := Lib.hid (show ∀ W : World, Below W1.heap.size W1 W → (W.cell? ⟨w.heap.size, 0, none⟩ = some (.bool s) ∧ W.cell? ⟨w.heap.size, 1, none⟩ = some (.slice A n c) ∧ W.cell? ⟨w.heap.size, 2, none⟩ = some (.bool s') ∧ W.cell? ⟨w.heap.size, 3, none⟩ = some (.slice A' n' c')) from fun W hb => ⟨(hX.next hb).c0, (hX.next hb).c1, (hX.next hb).c2, (hX.next hb).c3⟩)
  have HD := Lib.hid (Below.refl W1.heap.size W1).drew
  have HB := Lib.hid hB
  have HW1 := Lib.hid HW1
  clear hX hB h h'
  obtain ⟨a0, a1, a2, a3⟩ := HCE.out W1 (Below.refl _ _)
  go_enter Tryz.func129, Tryz.ntmps129
  go_upto_region 1 with fail
  rw [← HW1.out]
  clear HW1
  clear HW1
  go_region_held3 (fun w' => w'.cell? ⟨w.heap.size, 0, none⟩ = some (.bool s) ∧ w'.cell? ⟨w.heap.size, 1, none⟩ = some (.slice A n c) ∧ w'.cell? ⟨w.heap.size, 2, none⟩ = some (.bool s') ∧ w'.cell? ⟨w.heap.size, 3, none⟩ = some (.slice A' n' c'))
    (first | exact HCE.out _ HB3.out | exact HCE.out _ HB2.out | exact HCE.out _ HD.out)
    (first
      | (have hxx := HB2.out; clear hxx; go_at_call 84; refine (rISign_any (HRD.out _ HB2.out).2 hn').mono ?_; rintro _ W3 ⟨k3, rfl, hk3, hb3⟩; have HB3 := Lib.hid (HB2.out.trans (hb3.mono HB2.out.size)))
      | (go_at_call 84; refine (rISign_any (HRD.out _ HD.out).1 hn).mono ?_; rintro _ W2 ⟨k2, rfl, hk2, hb2⟩; have HB2 := Lib.hid (HD.out.trans hb2)))
  clear a0 a1 a2 a3 hb2 hb3
  go_wp2
  go_ret
  exact ⟨_, rfl, Lib.hid (by rw [hk2.out, hk3.out]; exact sign_prod), HB.out.trans (HB3.out.mono HB.out.size)⟩

set_option maxRecDepth 100000 in
set_option maxHeartbeats 1000000 in
theorem rQMay_any {s s' : Bool} {A A' : Option Addr} {n c n' c' : Nat} {d : Int} {w : World} (h' : RdZ w w.heap.size s' A' n' c' d) (hn' : n' ≤ 17592186044416) :
    Calls Tryz.prog 52 #[.agg #[.bool s, .slice A n c, .bool s', .slice A' n' c']] w (RetBo (d ≠ 0) w) := by
  obtain ⟨W1, HW1⟩ : ∃ W, W = w.alloc (.cells #[.bool s, .slice A n c, .bool s', .slice A' n' c'] 56) := ⟨_, rfl⟩
  have hX : QC W1 w.heap.size s A n c s' A' n' c' := by rw [HW1]; exact QC.new w s A n c s' A' n' c'
  have hB : Below w.heap.size w W1 := by rw [HW1]; exact (Below.refl _ _).alloc (Nat.le_refl _) _
  have h1 := h'.next hB
  have a2 := hX.c2
  have a3 := hX.c3
  rw [HW1] at a2 a3
  have HW1 := Lib.hid HW1
  go_enter Tryz.func52, Tryz.ntmps52
  go_wp2_with fail
  rw [← HW1.out]
  clear HW1 a2 a3
  clear HW1
  refine (rISign_any h1 hn').mono ?_
  rintro _ W2 ⟨k, rfl, hk, hb2⟩
  go_wp2
  go_ret
  exact ⟨_, rfl, Lib.hid (by rw [hk.out]; simp [Int.sign_eq_zero_iff_zero]), hB.trans (hb2.mono hB.size)⟩

set_option maxRecDepth 100000 in
set_option maxHeartbeats 4000000 in
theorem rQAllMay_any {N : Nat} {A : Option Addr} {n c : Nat} {L : List (Int × Int)} {w : World} (h : RdQs w w.heap.size N A n c L) (hn : n ≤ 4398046511103) (hN : N ≤ 17592186044416) :
    Calls Tryz.prog 108 #[.slice A n c] w (RetBo (∀ p ∈ L, p.2 ≠ 0) w) := by
  have HLEN := Lib.hid h.len
  go_enter Tryz.func108, Tryz.ntmps108
  go_wp2_with fail
  go_loopw [7] (fun iv wr => ∃ (j : Nat), iv = .int .i64 j ∧ j ≤ n ∧ Hid (∀ (i : Nat) (p : Int × Int), i < j → L[i]? = some p → p.2 ≠ 0) ∧ Below w.heap.size w wr) (fun iv _ => n - (intOf iv).toNat)
  case atStart => exact ⟨0, rfl, Nat.zero_le _, Lib.hid fun i p hi => absurd hi (Nat.not_lt_zero _), Below.refl _ _⟩
  case round =>
    obtain ⟨j, rfl, hj, hne, hB⟩ := hrel
    by_cases hjn : j = n
    · subst hjn
      go_wp2
      go_ret
      exact ⟨true, rfl, Lib.hid ⟨fun _ p hp => by
        obtain ⟨i, hi, e⟩ := List.mem_iff_getElem.1 hp
        exact hne.out i p (by rw [← HLEN.out]; exact hi) (by rw [List.getElem?_eq_getElem hi, e]), fun _ => rfl⟩, hB⟩
    · have hjl : j < n := by omega
      clear hjn
      have hjli : (j : Int) < (n : Int) := by omega
      obtain ⟨ad, s1, A1, n1, c1, s2, A2, n2, c2, z1, d1, rfl, hbk, hx0, hx1, hx2, hx3, hr1, hr2, hn1, hn2, hp⟩ := qs_at h hjl
      obtain ⟨hy0, hy1, hy2, hy3⟩ := qs_cells hB hbk hx0 hx1 hx2 hx3
      obtain ⟨W2, HW2⟩ : ∃ W, W = wr.alloc (.cells #[.bool s1, .slice A1 n1 c1, .bool s2, .slice A2 n2 c2] 56) := ⟨_, rfl⟩
      have hb2 : Below wr.heap.size wr W2 := by rw [HW2]; exact (Below.refl _ _).alloc (Nat.le_refl _) _
      have hB2 := hB.trans (hb2.mono hB.size)
      have HR := Lib.hid (hr2.next hB2)
      have HB2 := Lib.hid hB2
      have HW2 := Lib.hid HW2
      clear hB hb2 hB2 hr1 hr2 hx0 hx1 hx2 hx3
      go_wp2_with fail
      rw [← HW2.out]
      clear HW2 hy0 hy1 hy2 hy3
      clear HW2
      refine (rQMay_any HR.out (by omega)).mono ?_
      rintro _ W3 ⟨b, rfl, hb, hb3⟩
      have hB3 := HB2.out.trans (hb3.mono HB2.out.size)
      cases b
      · have HD := Lib.hid (show d1 = 0 from Classical.byContradiction fun e => by have := hb.out.2 e; simp at this)
        go_wp2
        go_ret
        exact ⟨false, rfl, Lib.hid ⟨fun e => by simp at e, fun e => absurd HD.out (e _ (List.mem_of_getElem? hp.out))⟩, hB3⟩
      · have HD := Lib.hid (hb.out.1 rfl)
        go_wp2
        go_roundw
        case rel => exact ⟨j + 1, by go_num, by omega, Lib.hid fun i p hi hq => by
          rcases Nat.lt_or_ge i j with h1 | h1
          · exact hne.out i p h1 hq
          · rw [show i = j by omega, hp.out] at hq
            injection hq with hq
            rw [← hq]
            exact HD.out, hB3⟩
        case measure => simp [intOf]; omega
set_option maxHeartbeats 400000 in
theorem rPMay_any {N : Nat} {A : Option Addr} {n c : Nat} {L : List (Int × Int)} {w : World} (h : RdQs w w.heap.size N A n c L) (hn : n ≤ 4398046511103) (hN : N ≤ 17592186044416) :
    Calls Tryz.prog 30 #[.slice A n c] w (RetBo (∀ p ∈ L, p.2 ≠ 0) w) := by
  go_enter Tryz.func30, Tryz.ntmps30
  go_wp2_with fail
  refine (rQAllMay_any h hn hN).mono ?_
  rintro _ W2 ⟨b, rfl, hb, hb2⟩
  go_wp2
  go_ret
  exact ⟨b, rfl, hb, hb2⟩
end Go.Proofs.YtipbpdiahemmpaaGreat
