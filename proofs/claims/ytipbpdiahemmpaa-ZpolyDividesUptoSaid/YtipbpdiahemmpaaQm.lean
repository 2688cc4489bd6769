/- Reference 07, fifth part: the value at a number. -/
import Derived.Test.YtipbpdiahemmpaaQl
import Derived.Test.YtipbpdiahemmpaaQp
import Derived.Deep.AppendLies
import Derived.Deep.RegionLaw
namespace Go.Proofs.Ytipbpdiahemmpaa
open Go.RowKit Go.IntWalk
attribute [local go_sem ↓] Go.wp_at_zero Go.wp_at_succ

theorem pow_zl {x : Int} {N' : Nat} (hx : Zz.zl x ≤ N') : ∀ i, Zz.zl (x ^ i) ≤ i * N' + 1
  | 0 => by rw [Int.pow_zero]; exact Nat.le_trans (Zz.zl_small (by decide)) (by omega)
  | i + 1 => by
    have ih := pow_zl hx i
    have e := Zz.zl_mul (x ^ i) x
    rw [Int.pow_succ, Nat.succ_mul]
    omega
theorem psum_zl {a : Nat → Int} {x : Int} {N N' n : Nat} (ha : ∀ i, Zz.zl (a i) ≤ N) (hx : Zz.zl x ≤ N') : ∀ i, i ≤ n → Zz.zl (Pz.psum a x i) ≤ N + n * N' + 1 + i
  | 0, _ => by rw [show Pz.psum a x 0 = 0 from rfl, Zz.zl_zero]; omega
  | i + 1, h => by
    have ih := psum_zl (n := n) ha hx i (by omega)
    have e1 := Zz.zl_add (Pz.psum a x i) (a i * x ^ i)
    have e2 := Zz.zl_mul (a i) (x ^ i)
    have e3 := ha i
    have e4 := pow_zl hx i
    have e5 : i * N' ≤ n * N' := Nat.mul_le_mul_right _ (by omega)
    rw [Pz.psum_succ]
    omega

theorem ozc_put {w : World} {b g k m : Nat} {u t s : Bool} {A A' B : Option Addr} {n c n' c' : Nat} {z : Int} (h : OwZ w b u A k m z) (hz : ZC w g s A' n c) : OwZ ((w.setCell ⟨g, 0, none⟩ (.bool t)).setCell ⟨g, 1, none⟩ (.slice B n' c')) b u A k m z := by
  refine ⟨own_other h.own hz fun i _ hne => ?_, h.sgn⟩
  exact (Below.heap_setCell _ (⟨g, 1, none⟩ : Addr) _ i hne).trans (Below.heap_setCell _ (⟨g, 0, none⟩ : Addr) _ i hne)

set_option maxRecDepth 100000 in
set_option maxHeartbeats 8000000 in
theorem rzEval_any {N N' : Nat} {s : Bool} {A A' : Option Addr} {n c n' c' : Nat} {L : List Int} {x : Int} {w : World} (h : RdZs w w.heap.size N A n c L) (h' : RdZ w w.heap.size s A' n' c' x) (hn : n ≤ 4294967290) (hn' : n' ≤ N') (hsz : N + n * N' + 2 + n ≤ 4398046511100) (hN' : N' ≤ 4398046511103) :
    Calls Try.prog 24 #[.slice A n c, .agg #[.bool s, .slice A' n' c']] w (RetI (Pz.psum (Pz.co L) x n) w) := by
  have HC := Lib.hid (zl_co h)
  have HLX := Lib.hid (show Zz.zl x ≤ N' from Nat.le_trans h'.len hn')
  have HSB := Lib.hid hsz
  obtain ⟨hX, hR, hB⟩ := boxed1 w s A' n' c'
  have HH := Lib.hid h'
  have HLEN := Lib.hid h.len
  have HSR := Lib.hid hR.lt
  clear hsz h'
  go_enter Try.func24, Try.ntmps24
  go_wp2_with fail
  generalize (w.alloc (.cells #[.bool s, .slice A' n' c'] 40)).alloc (.cells #[.bool false, .slice none 0 0] 40) = W1 at *
  refine (rIOf_any 1 (by omega) (by omega) W1).mono ?_
  rintro _ W2 ⟨s1, A1, n1, c1, z1, rfl, ho1, hz1, hb1⟩
  obtain ⟨W3, HW3⟩ : ∃ W, W = (W2.alloc (.cells #[.bool false, .slice none 0 0] 40)).alloc (.cells #[.bool s1, .slice A1 n1 c1] 40) := ⟨_, rfl⟩
  have hV : ZC W3 W2.heap.size false none 0 0 := by rw [HW3]; exact (ZC.new W2 false none 0 0).alloc _
  have hP : ZC W3 (W2.heap.size + 1) s1 A1 n1 c1 := by rw [HW3]; simpa using ZC.new (W2.alloc (.cells #[.bool false, .slice none 0 0] 40)) s1 A1 n1 c1
  have hb3 : Below W2.heap.size W2 W3 := by rw [HW3]; exact ((Below.refl W2.heap.size W2).alloc (Nat.le_refl _) _).alloc (by simp) _
  have hb13 := hb1.trans (hb3.mono hb1.size)
  have hX3 := hX.next hb13
  have hR3 := hR.next hb13
  have hB3 := hB.trans (hb13.mono hB.size)
  have ho3 := ho1.next hb3
  have HW3 := Lib.hid HW3
  go_wp2_with fail
  rw [← HW3.out]
  clear HW3
  clear HW3
  obtain ⟨gv, hgv⟩ : ∃ g, g = W2.heap.size := ⟨_, rfl⟩
  have HGV := Lib.hid (show W1.heap.size ≤ gv by rw [hgv]; exact hb1.size)
  rw [← hgv] at hV hP ⊢
  have HWW := Lib.hid (show w.heap.size ≤ W1.heap.size from hB.size)
  clear hgv hb1 hb3 hb13 ho1 hX hR hB
  go_loopw [13] (fun iv wr => ∃ (i : Nat) (s2 : Bool) (A2 : Option Addr) (n2 c2 : Nat) (v : Int) (s3 : Bool) (A3 : Option Addr) (n3 c3 : Nat) (p : Int), iv = .int .i64 i ∧ i ≤ n ∧ ZC wr w.heap.size s A' n' c' ∧ ZC wr (w.heap.size + 1) false none 0 0 ∧ ZC wr gv s2 A2 n2 c2 ∧ ZC wr (gv + 1) s3 A3 n3 c3 ∧ OwZ wr W1.heap.size s2 A2 n2 c2 v ∧ OwZ wr W1.heap.size s3 A3 n3 c3 p ∧ Hid (v = Pz.psum (Pz.co L) x i ∧ p = x ^ i) ∧ Below w.heap.size w wr) (fun iv _ => n - (intOf iv).toNat)
  case atStart => exact ⟨0, false, none, 0, 0, 0, s1, A1, n1, c1, z1, rfl, Nat.zero_le _, hX3, hR3, hV, hP, OwZ.zero _ _, ho3, Lib.hid ⟨rfl, by rw [hz1.out, Int.pow_zero]⟩, hB3⟩
  case round =>
    clear hX3 hR3 hV hP ho3 hB3
    obtain ⟨i, s2, A2, n2, c2, v, s3, A3, n3, c3, p, rfl, hi, hX, hR, hV, hP, hov, hop, hy, hB⟩ := hrel
    have HSV := Lib.hid (show Zz.zl v ≤ N + n * N' + 1 + i by rw [hy.out.1]; exact psum_zl HC.out HLX.out i hi)
    have HSP := Lib.hid (show Zz.zl p ≤ n * N' + 1 by rw [hy.out.2]; have := pow_zl HLX.out i; have : i * N' ≤ n * N' := Nat.mul_le_mul_right _ hi; omega)
    by_cases hin : i = n
    · have hni := hin.symm
      subst hni
      clear hin
      have hv0 := hV.c0
      have hv1 := hV.c1
      have hr0 := hR.c0
      have hr1 := hR.c1
      have hf0 := hR.fz 0
      have hf1 := hR.fz 1
      go_wp2
      have hp := put_int hR hB (Nat.le_succ _) hov HSR.out
      generalize (wr.setCell ⟨w.heap.size + 1, 0, none⟩ (.bool s2)).setCell ⟨w.heap.size + 1, 1, none⟩ (.slice A2 n2 c2) = W5 at hp ⊢
      obtain ⟨hZ5, ho5, hB5⟩ := hp
      exact bodyPost_ret (by simp [results, Try.results24, go_sem, hZ5.c0, hZ5.c1]) rfl ⟨_, _, _, _, _, rfl, ho5.base HWW.out, Lib.hid hy.out.1, hB5⟩
    · have hil : i < n := by omega
      clear hin
      have hili : (i : Int) < (n : Int) := by omega
      obtain ⟨ad, s4, A4, n4, c4, z, rfl, hbk, hz0, hz1, hrz, hn4, hz⟩ := zs_at h hil
      obtain ⟨hw0, hw1⟩ := zs_cells hB hbk hz0 hz1
      have HZV := Lib.hid (show Pz.co L i = z from Pz.co_get hz.out)
      obtain ⟨W4, HW4⟩ : ∃ W, W = wr.alloc (.cells #[.bool s4, .slice A4 n4 c4] 40) := ⟨_, rfl⟩
      have hC : ZC W4 wr.heap.size s4 A4 n4 c4 := by rw [HW4]; exact ZC.new wr s4 A4 n4 c4
      have hb4 : Below wr.heap.size wr W4 := by rw [HW4]; exact (Below.refl _ _).alloc (Nat.le_refl _) _
      have HW4 := Lib.hid HW4
      go_upto_region 5 with fail
      rw [← HW4.out]
      clear HW4 hw0 hw1 hz0 hz1 hz
      clear HW4
      obtain ⟨gc, hgc⟩ : ∃ g, g = wr.heap.size := ⟨_, rfl⟩
      rw [← hgc] at hC ⊢
      clear hgc
      have HX4 := Lib.hid (hX.next hb4)
      have HR4 := Lib.hid (hR.next hb4)
      have HV4 := Lib.hid (hV.next hb4)
      have HP4 := Lib.hid (hP.next hb4)
      have HOV := Lib.hid (hov.next hb4)
      have HOP := Lib.hid (hop.next hb4)
      have HB4 := Lib.hid (hB.trans (hb4.mono hB.size))
      have HRZ := Lib.hid (hrz.next HB4.out)
      have HBD := Lib.hid (Below.refl W4.heap.size W4).drew
      have HMU := Lib.hid (rIMul_any (HRZ.out.next HBD.out) (HOP.out.next HBD.out).rd (by have := HSB.out; omega) (by rw [hop.len]; have := HSP.out; have := HSB.out; omega))
      have hv0 := HV4.out.c0
      have hv1 := HV4.out.c1
      have hc0 := hC.c0
      have hc1 := hC.c1
      have hp0 := HP4.out.c0
      have hp1 := HP4.out.c1
      clear hX hR hV hP hov hop hB hrz hb4
      go_region_with (first
        | (go_at_call 49; refine HMU.out.mono ?_; rintro _ W6 ⟨s6, A6, n6, c6, z6, rfl, ho6, hz6, hb6⟩; have HB6 := Lib.hid (HBD.out.trans hb6); have la0 := (HV4.out.next HB6.out).c0; have la1 := (HV4.out.next HB6.out).c1)
        | (go_at_call 44; refine (rIAdd_any (HOV.out.next HB6.out).rd ho6.rd (by rw [HOV.out.len]; have := HSV.out; have := HSB.out; omega) (by rw [ho6.len, hz6.out]; have := Zz.zl_mul z p; have := HC.out i; rw [HZV.out] at this; have := HSP.out; have := HSB.out; omega)).mono ?_; rintro _ W7 ⟨s7, A7, n7, c7, z7, rfl, ho7, hz7, hb7⟩; have HB7 := Lib.hid (HB6.out.trans (hb7.mono HB6.out.size)); have lb0 := (HV4.out.next HB7.out).c0; have lb1 := (HV4.out.next HB7.out).c1; have lf0 := (HV4.out.next HB7.out).fz 0; have lf1 := (HV4.out.next HB7.out).fz 1))
      all_goals
        have HGW := Lib.hid (show gv < W6.heap.size ∧ gv + 1 < W6.heap.size ∧ W1.heap.size ≤ W6.heap.size from ⟨Nat.lt_of_lt_of_le HV4.out.lt HB6.out.size, Nat.lt_of_lt_of_le HP4.out.lt HB6.out.size, Nat.le_trans HGV.out (Nat.le_of_lt (Nat.lt_of_lt_of_le HV4.out.lt HB6.out.size))⟩)
        have HP := Lib.hid (put_int (HV4.out.next HB7.out) (HB4.out.trans (HB7.out.mono HB4.out.size)) (Nat.le_trans HWW.out HGV.out) ho7 HGW.out.1)
        have hX8 := ((HX4.out.next HB7.out).far (p := ⟨gv, 0, none⟩) (by simp; have := HGV.out; have := HSR.out; omega) (.bool s7)).far (p := ⟨gv, 1, none⟩) (by simp; have := HGV.out; have := HSR.out; omega) (.slice A7 n7 c7)
        have hR8 := ((HR4.out.next HB7.out).far (p := ⟨gv, 0, none⟩) (by simp; have := HGV.out; have := HSR.out; omega) (.bool s7)).far (p := ⟨gv, 1, none⟩) (by simp; have := HGV.out; have := HSR.out; omega) (.slice A7 n7 c7)
        have hP8 := ((HP4.out.next HB7.out).far (p := ⟨gv, 0, none⟩) (by simp) (.bool s7)).far (p := ⟨gv, 1, none⟩) (by simp) (.slice A7 n7 c7)
        have hO8 : OwZ ((W7.setCell ⟨gv, 0, none⟩ (.bool s7)).setCell ⟨gv, 1, none⟩ (.slice A7 n7 c7)) W1.heap.size s3 A3 n3 c3 p := ozc_put (HOP.out.next HB7.out) (HV4.out.next HB7.out)
        have HFA := Lib.hid (show z7 = Pz.psum (Pz.co L) x (i + 1) by rw [hz7.out, hz6.out, hy.out.1, hy.out.2, Pz.psum_succ, HZV.out])
        have hp := HP.out
        clear hv0 hv1 hc0 hc1 hp0 hp1 la0 la1 lb0 lb1 lf0 lf1 hb6 hb7 ho6 ho7 HP
        generalize (W7.setCell ⟨gv, 0, none⟩ (.bool s7)).setCell ⟨gv, 1, none⟩ (.slice A7 n7 c7) = W8 at hp hX8 hR8 hP8 hO8 ⊢
        obtain ⟨hV8, hov8, hB8⟩ := hp
        have hp0 := hP8.c0
        have hp1 := hP8.c1
        have hx0 := hX8.c0
        have hx1 := hX8.c1
        go_wp2_with fail
        refine (rIMul_any hO8.rd (HH.out.next hB8) (by rw [hO8.len]; have := HSP.out; have := HSB.out; omega) (by omega)).mono ?_
        rintro _ W9 ⟨s9, A9, n9, c9, z9, rfl, ho9, hz9, hb9⟩
        have hP9 := hP8.next hb9
        have hB9 := hB8.trans (hb9.mono hB8.size)
        have HG8 := Lib.hid (show gv + 1 < W8.heap.size ∧ W1.heap.size ≤ W8.heap.size from ⟨hP8.lt, Nat.le_trans HGV.out (Nat.le_of_lt (Nat.lt_trans (Nat.lt_succ_self _) hP8.lt))⟩)
        have HQ := Lib.hid (put_int hP9 hB9 (by have := HWW.out; have := HGV.out; omega) ho9 HG8.out.1)
        have HX10 := Lib.hid (((hX8.next hb9).far (p := ⟨gv + 1, 0, none⟩) (by simp; have := HGV.out; have := HSR.out; omega) (.bool s9)).far (p := ⟨gv + 1, 1, none⟩) (by simp; have := HGV.out; have := HSR.out; omega) (.slice A9 n9 c9))
        have HR10 := Lib.hid (((hR8.next hb9).far (p := ⟨gv + 1, 0, none⟩) (by simp; have := HGV.out; have := HSR.out; omega) (.bool s9)).far (p := ⟨gv + 1, 1, none⟩) (by simp; have := HGV.out; have := HSR.out; omega) (.slice A9 n9 c9))
        have HV10 := Lib.hid (((hV8.next hb9).far (p := ⟨gv + 1, 0, none⟩) (by simp) (.bool s9)).far (p := ⟨gv + 1, 1, none⟩) (by simp) (.slice A9 n9 c9))
        have HOV10 : Hid (OwZ ((W9.setCell ⟨gv + 1, 0, none⟩ (.bool s9)).setCell ⟨gv + 1, 1, none⟩ (.slice A9 n9 c9)) W1.heap.size s7 A7 n7 c7 z7) := Lib.hid (ozc_put ((hov8.base HGW.out.2.2).next hb9) hP9)
        have HPW := Lib.hid (show z9 = x ^ (i + 1) by rw [hz9.out, hy.out.2, Int.pow_succ])
        have hp0' := hP9.c0
        have hp1' := hP9.c1
        have hf0' := hP9.fz 0
        have hf1' := hP9.fz 1
        clear hp0 hp1 hx0 hx1 hX8 hR8 hP8 hO8 hV8 hov8 hb9 ho9 hP9
        go_wp2
        go_roundw
        case rel => exact ⟨i + 1, s7, A7, n7, c7, z7, s9, A9, n9, c9, z9, by go_num, by omega, HX10.out, HR10.out, HV10.out, HQ.out.1, HOV10.out, HQ.out.2.1.base HG8.out.2, Lib.hid ⟨HFA.out, HPW.out⟩, HQ.out.2.2⟩
        case measure => simp [intOf]; omega
end Go.Proofs.Ytipbpdiahemmpaa

/- The derivative: zpoly's and the reference's. -/
namespace Go.Proofs.Ytipbpdiahemmpaa
open Go.RowKit Go.IntWalk
attribute [local go_sem ↓] Go.wp_at_zero Go.wp_at_succ

set_option maxRecDepth 100000 in
set_option maxHeartbeats 8000000 in
theorem zderive_any {N : Nat} {A : Option Addr} {n c : Nat} {L : List Int} {w : World} (h : RdZs w w.heap.size N A n c L) (hn : n ≤ 4294967290) (hN : N ≤ 4398046511102) :
    Calls Try.prog 25 #[.slice A n c] w (RetP (fun t => Pz.co L (t + 1) * ((t : Int) + 1)) w) := by
  have HC := Lib.hid (zl_co h)
  have HLEN := Lib.hid h.len
  obtain ⟨i0, hi, hz0, hz1, hz2⟩ := info_parts infoZ
  go_enter Try.func25, Try.ntmps25
  go_wp2_with fail
  go_loopw [3, 4] (fun ov iv wr => ∃ (d c2 : Nat) (A2 : Option Addr) (M : List Int), ov = .slice A2 d c2 ∧ iv = .int .i64 ((d : Int) + 1) ∧ d ≤ n ∧ OwZs wr w.heap.size A2 d c2 M ∧ Hid (M = (List.range d).map fun t => Pz.co L (t + 1) * ((t : Int) + 1)) ∧ Below w.heap.size w wr) (fun _ iv _ => n + 1 - (intOf iv).toNat)
  case atStart => exact ⟨0, 0, none, [], rfl, by simp, Nat.zero_le _, OwZs.nil _ _, Lib.hid rfl, Below.refl _ _⟩
  case round =>
    obtain ⟨d, c2, A2, M, rfl, rfl, hd, ho, hM, hB⟩ := hrel
    have HSZ := Lib.hid (show ∀ t, t < 4294967290 → Zz.zl (Pz.co L (t + 1) * ((t : Int) + 1)) ≤ N + 1 from fun t ht => by
      have e1 := Zz.zl_mul (Pz.co L (t + 1)) ((t : Int) + 1)
      have e2 := HC.out (t + 1)
      have e3 : Zz.zl ((t : Int) + 1) ≤ 1 := Zz.zl_small (by omega)
      omega)
    by_cases hdn : d + 1 < n
    · have hdni : (d : Int) + 1 < (n : Int) := by omega
      obtain ⟨ad, s4, A4, n4, c4, z, rfl, hbk, hw0, hw1, hrz, hn4, hz⟩ := zs_at h hdn
      have HZC := Lib.hid (show ∀ W : World, Below wr.heap.size wr W → W.cell? (ad.add ((d + 1) * 2)) = some (.bool s4) ∧ W.cell? ⟨(ad.add ((d + 1) * 2)).block, (ad.add ((d + 1) * 2)).off + 1, none⟩ = some (.slice A4 n4 c4) from fun W hb => zs_cells (hB.trans (hb.mono hB.size)) hbk hw0 hw1)
      obtain ⟨hy0, hy1⟩ := zs_cells hB hbk hw0 hw1
      obtain ⟨j, hj⟩ : ∃ j, j = d + 1 := ⟨_, rfl⟩
      have hji : (d : Int) + 1 = (j : Int) := by omega
      rw [← hj] at hy0 hy1 HZC hz
      have HJ := Lib.hid hj
      have hjn : (j : Int) < (n : Int) := by omega
      have hj0 : (0 : Int) ≤ (j : Int) := by omega
      have HZV := Lib.hid (show Pz.co L j = z from Pz.co_get hz.out)
      have HRZ := Lib.hid (hrz.next hB)
      have HBD := Lib.hid (Below.refl wr.heap.size wr).drew
      have HOF := Lib.hid (fun W : World => of_any (j : Int) (by omega) (by omega) W)
      have HO := Lib.hid ho
      have HBB := Lib.hid hB
      obtain ⟨E, hE, hEl, hEn⟩ := ho
      have HE := Lib.hid hE
      have HEN := Lib.hid (And.intro hEl hEn)
      have hdl : d ≤ 4294967290 := by omega
      rw [hji]
      clear hw0 hw1 hrz hz hE hEl hEn hdni hdn hji hj
      go_upto_region 5 with fail
      go_region_law (first
        | (refine step_append_lies _ rfl _ _ 23 rfl w.heap.size 40 i0 (.agg #[.bool false, .slice none 0 0]) 2 32 Try.underlying23 hi hz0 hz1 hz2 rfl (by decide) _ _ _ rfl ((row_next HE.out HB7.out).alloc _) ⟨W7.heap.size, 0, none⟩ 1 1 [.bool s7, .slice A7 n7 c7] rfl rfl (zcell_new _ _ _ _) (by simp [Value.oneCell']) (by omega) (by unfold maxLen; omega) (by omega) HSZ7.out _ rfl ?_; intro g9 c9 W9 hown9 hgrow9 _ _)
        | (go_simp; go_at_call 29; refine (HOF.out _).mono ?_; rintro _ W6 ⟨s6, A6, n6, c6, z6, rfl, ho6, hz6, hb6⟩; have HB6 := Lib.hid (HBD.out.trans hb6); have la0 := (HZC.out W6 HB6.out).1; have la1 := (HZC.out W6 HB6.out).2)
        | (go_simp; go_at_call 46; refine (imul_any (HRZ.out.next HB6.out) ho6.rd (by omega) (by rw [ho6.len, hz6.out]; exact Nat.le_trans (Zz.zl_small (by omega)) (by omega))).mono ?_; rintro _ W7 ⟨s7, A7, n7, c7, z7, rfl, ho7, hz7, hb7⟩; have HB7 := Lib.hid (HB6.out.trans (hb7.mono HB6.out.size)); have HSZ7 := Lib.hid (show w.heap.size ≤ (W7.alloc (.cells #[.bool s7, .slice A7 n7 c7] 40)).heap.size by have := HBB.out.size; have := HB7.out.size; simp; omega)))
      all_goals
        have hB7 := HBB.out.trans (HB7.out.mono HBB.out.size)
        have hmore := zs_more (A := A2) (n := d) (c := c2) (b := w.heap.size) (e := (s7, A7, n7, c7)) (z := z7) (t := 40) (w := W7) (w1 := W9) (E := E) (L := M) (v' := .slice (some ⟨g9, 0, none⟩) (d + 1) c9) (ho7.base (Nat.le_trans HBB.out.size HB6.out.size)) rfl ((row_next HE.out HB7.out).alloc _) HEN.out.1 (HEN.out.2.next HB7.out) hown9 hgrow9
        have HB9 := Lib.hid ((hB7.alloc hB7.size (.cells #[.bool s7, .slice A7 n7 c7] 40)).grown hgrow9 (by have := hB7.size; simp; omega) (fun k hk => own_block HE.out k hk))
        obtain ⟨A9, c9', e9, ho9⟩ := hmore
        injection e9 with e9 _ e9'
        subst e9 e9'
        have HM9 := Lib.hid (show M ++ [z7] = (List.range (d + 1)).map fun t => Pz.co L (t + 1) * ((t : Int) + 1) by
          rw [List.range_succ, List.map_append, hM.out, hz7.out, hz6.out, ← HZV.out, HJ.out]
          simp)
        have HJI := Lib.hid (show ((j : Int) + 1 = ((d + 1 : Nat) : Int) + 1 ∧ d + 1 ≤ n) by have := HJ.out; omega)
        clear hown9 hgrow9 hy0 hy1 la0 la1 hb6 hb7 ho6 ho7 hB7
        go_wp2
        go_roundw
        case rel => exact ⟨d + 1, c9, _, M ++ [z7], rfl, int_i HJI.out.1, HJI.out.2, ho9, HM9, HB9.out⟩
        case measure => simp [intOf]; have := HJ.out; omega
    · have hdni : (n : Int) ≤ (d : Int) + 1 := by omega
      have hrd := ho.rd (N := N + 1) (fun y hy => by
        rw [hM.out] at hy
        obtain ⟨t, ht, rfl⟩ := List.mem_map.1 hy
        exact HSZ.out t (by have := List.mem_range.1 ht; omega))
      go_wp2_with fail
      refine (znorm_any hrd (by omega) (by omega)).mono ?_
      rintro _ W4 ⟨A4, n4, c4, M4, rfl, ho4, hM4, hb4⟩
      go_wp2
      go_ret
      refine ⟨_, _, _, M4, rfl, ho4.base hB.size, Lib.hid (hM4.out.congr fun t => ?_), hB.trans (hb4.mono hB.size)⟩
      rw [hM.out]
      rcases Nat.lt_or_ge t d with ht | ht
      · rw [Pz.co_get (z := Pz.co L (t + 1) * ((t : Int) + 1)) (by rw [List.getElem?_map, List.getElem?_range ht]; rfl)]
      · rw [Pz.co_ge (by simpa using ht), Pz.co_ge (L := L) (by rw [HLEN.out]; omega), Int.zero_mul]

set_option maxRecDepth 100000 in
set_option maxHeartbeats 8000000 in
theorem rzDerive_any {N : Nat} {A : Option Addr} {n c : Nat} {L : List Int} {w : World} (h : RdZs w w.heap.size N A n c L) (hn : n ≤ 4294967290) (hN : N ≤ 4398046511102) :
    Calls Try.prog 26 #[.slice A n c] w (RetP (fun t => Pz.co L (t + 1) * ((t : Int) + 1)) w) := by
  have HC := Lib.hid (zl_co h)
  have HLEN := Lib.hid h.len
  obtain ⟨i0, hi, hz0, hz1, hz2⟩ := info_parts infoZ
  go_enter Try.func26, Try.ntmps26
  go_wp2_with fail
  go_loopw [3, 4] (fun ov iv wr => ∃ (d c2 : Nat) (A2 : Option Addr) (M : List Int), ov = .slice A2 d c2 ∧ iv = .int .i64 ((d : Int) + 1) ∧ d ≤ n ∧ OwZs wr w.heap.size A2 d c2 M ∧ Hid (M = (List.range d).map fun t => Pz.co L (t + 1) * ((t : Int) + 1)) ∧ Below w.heap.size w wr) (fun _ iv _ => n + 1 - (intOf iv).toNat)
  case atStart => exact ⟨0, 0, none, [], rfl, by simp, Nat.zero_le _, OwZs.nil _ _, Lib.hid rfl, Below.refl _ _⟩
  case round =>
    obtain ⟨d, c2, A2, M, rfl, rfl, hd, ho, hM, hB⟩ := hrel
    have HSZ := Lib.hid (show ∀ t, t < 4294967290 → Zz.zl (Pz.co L (t + 1) * ((t : Int) + 1)) ≤ N + 1 from fun t ht => by
      have e1 := Zz.zl_mul (Pz.co L (t + 1)) ((t : Int) + 1)
      have e2 := HC.out (t + 1)
      have e3 : Zz.zl ((t : Int) + 1) ≤ 1 := Zz.zl_small (by omega)
      omega)
    by_cases hdn : d + 1 < n
    · have hdni : (d : Int) + 1 < (n : Int) := by omega
      obtain ⟨ad, s4, A4, n4, c4, z, rfl, hbk, hw0, hw1, hrz, hn4, hz⟩ := zs_at h hdn
      have HZC := Lib.hid (show ∀ W : World, Below wr.heap.size wr W → W.cell? (ad.add ((d + 1) * 2)) = some (.bool s4) ∧ W.cell? ⟨(ad.add ((d + 1) * 2)).block, (ad.add ((d + 1) * 2)).off + 1, none⟩ = some (.slice A4 n4 c4) from fun W hb => zs_cells (hB.trans (hb.mono hB.size)) hbk hw0 hw1)
      obtain ⟨hy0, hy1⟩ := zs_cells hB hbk hw0 hw1
      obtain ⟨j, hj⟩ : ∃ j, j = d + 1 := ⟨_, rfl⟩
      have hji : (d : Int) + 1 = (j : Int) := by omega
      rw [← hj] at hy0 hy1 HZC hz
      have HJ := Lib.hid hj
      have hjn : (j : Int) < (n : Int) := by omega
      have hj0 : (0 : Int) ≤ (j : Int) := by omega
      have HZV := Lib.hid (show Pz.co L j = z from Pz.co_get hz.out)
      have HRZ := Lib.hid (hrz.next hB)
      have HBD := Lib.hid (Below.refl wr.heap.size wr).drew
      have HOF := Lib.hid (fun W : World => rIOf_any (j : Int) (by omega) (by omega) W)
      have HO := Lib.hid ho
      have HBB := Lib.hid hB
      obtain ⟨E, hE, hEl, hEn⟩ := ho
      have HE := Lib.hid hE
      have HEN := Lib.hid (And.intro hEl hEn)
      have hdl : d ≤ 4294967290 := by omega
      rw [hji]
      clear hw0 hw1 hrz hz hE hEl hEn hdni hdn hji hj
      go_upto_region 5 with fail
      go_region_law (first
        | (refine step_append_lies _ rfl _ _ 23 rfl w.heap.size 40 i0 (.agg #[.bool false, .slice none 0 0]) 2 32 Try.underlying23 hi hz0 hz1 hz2 rfl (by decide) _ _ _ rfl ((row_next HE.out HB7.out).alloc _) ⟨W7.heap.size, 0, none⟩ 1 1 [.bool s7, .slice A7 n7 c7] rfl rfl (zcell_new _ _ _ _) (by simp [Value.oneCell']) (by omega) (by unfold maxLen; omega) (by omega) HSZ7.out _ rfl ?_; intro g9 c9 W9 hown9 hgrow9 _ _)
        | (go_simp; go_at_call 33; refine (HOF.out _).mono ?_; rintro _ W6 ⟨s6, A6, n6, c6, z6, rfl, ho6, hz6, hb6⟩; have HB6 := Lib.hid (HBD.out.trans hb6); have la0 := (HZC.out W6 HB6.out).1; have la1 := (HZC.out W6 HB6.out).2)
        | (go_simp; go_at_call 49; refine (rIMul_any (HRZ.out.next HB6.out) ho6.rd (by omega) (by rw [ho6.len, hz6.out]; exact Nat.le_trans (Zz.zl_small (by omega)) (by omega))).mono ?_; rintro _ W7 ⟨s7, A7, n7, c7, z7, rfl, ho7, hz7, hb7⟩; have HB7 := Lib.hid (HB6.out.trans (hb7.mono HB6.out.size)); have HSZ7 := Lib.hid (show w.heap.size ≤ (W7.alloc (.cells #[.bool s7, .slice A7 n7 c7] 40)).heap.size by have := HBB.out.size; have := HB7.out.size; simp; omega)))
      all_goals
        have hB7 := HBB.out.trans (HB7.out.mono HBB.out.size)
        have hmore := zs_more (A := A2) (n := d) (c := c2) (b := w.heap.size) (e := (s7, A7, n7, c7)) (z := z7) (t := 40) (w := W7) (w1 := W9) (E := E) (L := M) (v' := .slice (some ⟨g9, 0, none⟩) (d + 1) c9) (ho7.base (Nat.le_trans HBB.out.size HB6.out.size)) rfl ((row_next HE.out HB7.out).alloc _) HEN.out.1 (HEN.out.2.next HB7.out) hown9 hgrow9
        have HB9 := Lib.hid ((hB7.alloc hB7.size (.cells #[.bool s7, .slice A7 n7 c7] 40)).grown hgrow9 (by have := hB7.size; simp; omega) (fun k hk => own_block HE.out k hk))
        obtain ⟨A9, c9', e9, ho9⟩ := hmore
        injection e9 with e9 _ e9'
        subst e9 e9'
        have HM9 := Lib.hid (show M ++ [z7] = (List.range (d + 1)).map fun t => Pz.co L (t + 1) * ((t : Int) + 1) by
          rw [List.range_succ, List.map_append, hM.out, hz7.out, hz6.out, ← HZV.out, HJ.out]
          simp)
        have HJI := Lib.hid (show ((j : Int) + 1 = ((d + 1 : Nat) : Int) + 1 ∧ d + 1 ≤ n) by have := HJ.out; omega)
        clear hown9 hgrow9 hy0 hy1 la0 la1 hb6 hb7 ho6 ho7 hB7
        go_wp2
        go_roundw
        case rel => exact ⟨d + 1, c9, _, M ++ [z7], rfl, int_i HJI.out.1, HJI.out.2, ho9, HM9, HB9.out⟩
        case measure => simp [intOf]; have := HJ.out; omega
    · have hdni : (n : Int) ≤ (d : Int) + 1 := by omega
      have hrd := ho.rd (N := N + 1) (fun y hy => by
        rw [hM.out] at hy
        obtain ⟨t, ht, rfl⟩ := List.mem_map.1 hy
        exact HSZ.out t (by have := List.mem_range.1 ht; omega))
      go_wp2_with fail
      refine (rzNorm_any hrd (by omega) (by omega)).mono ?_
      rintro _ W4 ⟨A4, n4, c4, M4, rfl, ho4, hM4, hb4⟩
      go_wp2
      go_ret
      refine ⟨_, _, _, M4, rfl, ho4.base hB.size, Lib.hid (hM4.out.congr fun t => ?_), hB.trans (hb4.mono hB.size)⟩
      rw [hM.out]
      rcases Nat.lt_or_ge t d with ht | ht
      · rw [Pz.co_get (z := Pz.co L (t + 1) * ((t : Int) + 1)) (by rw [List.getElem?_map, List.getElem?_range ht]; rfl)]
      · rw [Pz.co_ge (by simpa using ht), Pz.co_ge (L := L) (by rw [HLEN.out]; omega), Int.zero_mul]
end Go.Proofs.Ytipbpdiahemmpaa
