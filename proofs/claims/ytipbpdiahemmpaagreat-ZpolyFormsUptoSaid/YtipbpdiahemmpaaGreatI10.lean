/- The reference's integers, third part: division rounded to nought, exact division. -/
import Derived.Test.YtipbpdiahemmpaaGreatI9
import Derived.Test.YtipbpdiahemmpaaGreatN17
namespace Go.Proofs.YtipbpdiahemmpaaGreat
open Go.RowKit Go.IntWalk
attribute [local go_sem ↓] Go.wp_at_zero Go.wp_at_succ

/-- Two integers come back. -/
def RetIP (q r : Int) (w : World) (e : Ending) (w' : World) : Prop :=
  ∃ (s : Bool) (A : Option Addr) (n c : Nat) (y : Int) (s' : Bool) (A' : Option Addr) (n' c' : Nat) (y' : Int), e = .returned (.tuple #[.agg #[.bool s, .slice A n c], .agg #[.bool s', .slice A' n' c']]) ∧ OwZ w' w.heap.size s A n c y ∧ OwZ w' w.heap.size s' A' n' c' y' ∧ Hid (y = q ∧ y' = r) ∧ Below w.heap.size w w'

set_option maxRecDepth 100000 in
set_option maxHeartbeats 2000000 in
theorem rITrunc_any {s s' : Bool} {A A' : Option Addr} {n c n' c' : Nat} {z z' : Int} {w : World} (h : RdZ w w.heap.size s A n c z) (h' : RdZ w w.heap.size s' A' n' c' z') (hn : n ≤ 4398046511103) (hn' : n' ≤ 4398046511103) (h0 : z' ≠ 0) :
    Calls Tryz.prog 191 #[.agg #[.bool s, .slice A n c], .agg #[.bool s', .slice A' n' c']] w (RetIP (z.tdiv z') (z.tmod z') w) := by
  have HH := Lib.hid h
  have HH' := Lib.hid h'
  obtain ⟨M, h, hz⟩ := h.raw
  obtain ⟨M', h', hz'⟩ := h'.raw
  have HP := Lib.hid (show 0 < Dg.val M' by
    rcases Nat.eq_zero_or_pos (Dg.val M') with e | e
    · exact absurd (by rw [hz'.out, e, Zz.sg_zero]) h0
    · exact e)
  clear h0
  have HL := Lib.hid (show Dg.val M < 4294967296 ^ n from by rw [← h.len]; exact Dg.val_lt h.wd)
  have HL' := Lib.hid (show Zz.zl z ≤ n ∧ Zz.zl z' ≤ n' from ⟨HH.out.len, HH'.out.len⟩)
  obtain ⟨W1, HW1, hZ, hY, hR, hS, hB⟩ := boxed22 w s A n c s' A' n' c'
  have HW1 := Lib.hid HW1
  have HSZ := Lib.hid (show w.heap.size < W1.heap.size from hZ.lt)
  go_enter Tryz.func191, Tryz.ntmps191
  go_wp2_with fail
  rw [← HW1.out]
  clear HW1
  clear HW1
  have hc0 := hZ.c0
  have hc1 := hZ.c1
  have hd0 := hY.c0
  have hd1 := hY.c1
  refine (refNDiv_any (h.next hB) (h'.next hB) hn hn' HP.out).mono ?_
  rintro _ W2 ⟨A2, A3, m2, c2, m3, c3, x2, x3, rfl, ho2, ho3, hx2, hb2⟩
  have hZ2 := hZ.next hb2
  have hY2 := hY.next hb2
  have hR2 := hR.next hb2
  have hS2 := hS.next hb2
  have hB2 := hB.trans (hb2.mono hB.size)
  have HS1 := Lib.hid (And.intro hR.lt hS.lt)
  have HS2 := Lib.hid hb2.size
  have HM2 := Lib.hid (show m2 ≤ n from ho2.short (by rw [hx2.out.1]; exact Nat.lt_of_le_of_lt (Nat.div_le_self _ _) HL.out))
  clear hc0 hc1 hd0 hd1 hZ hY hR hS hb2 hB ho3 h h'
  have hc0 := hZ2.c0
  have hd0 := hY2.c0
  go_wp2_with fail
  refine (rINorm_any (z := Zz.sg (s != s') (Dg.val (Dg.dg x2))) ⟨_, ho2.rd, rfl⟩ (by have := HM2.out; omega)).mono ?_
  rintro _ W3 ⟨s3, A4, m4, c4, z4, rfl, ho4, hz4, hb3⟩
  have HQ := Lib.hid (show z4 = z.tdiv z' by rw [hz4.out, Dg.val_dg, hx2.out.1, hz.out, hz'.out, Zz.sg_div])
  obtain ⟨W4, HW4⟩ : ∃ W, W = W3.alloc (.cells #[.bool s3, .slice A4 m4 c4] 28) := ⟨_, rfl⟩
  have hX : ZC W4 W3.heap.size s3 A4 m4 c4 := by rw [HW4]; exact ZC.new W3 s3 A4 m4 c4
  have hb4 : Below W3.heap.size W3 W4 := by rw [HW4]; exact (Below.refl W3.heap.size W3).alloc (Nat.le_refl _) _
  have HW4 := Lib.hid HW4
  clear hc0 hd0
  go_wp2_with fail
  rw [← HW4.out]
  clear HW4
  clear HW4
  have hb24 := hb3.trans (hb4.mono hb3.size)
  have HO4 := Lib.hid (ho4.next hb4)
  have HZ := Lib.hid (hZ2.next hb24)
  have HY := Lib.hid (hY2.next hb24)
  have HR := Lib.hid (hR2.next hb24)
  have HS := Lib.hid (hS2.next hb24)
  have HX := Lib.hid hX
  have HB := Lib.hid (hB2.trans (hb24.mono hB2.size))
  have HBD := Lib.hid (Below.refl W4.heap.size W4).drew
  have HM4 := Lib.hid (show m4 ≤ n from by rw [ho4.len, HQ.out]; exact Nat.le_trans (Zz.zl_tdiv _ _) HL'.out.1)
  have HSX := Lib.hid (show W1.heap.size ≤ W2.heap.size ∧ W2.heap.size ≤ W3.heap.size from ⟨HS2.out, hb3.size⟩)
  obtain ⟨gx, hgx⟩ : ∃ g, g = W3.heap.size := ⟨_, rfl⟩
  rw [← hgx] at HX ⊢
  have HGX := Lib.hid (show W2.heap.size ≤ gx by rw [hgx]; exact hb3.size)
  clear hZ2 hY2 hR2 hS2 hX hb24 hb3 hb4 ho4 ho2 hz4 hx2 hgx
  have hc0 := HZ.out.c0
  have hc1 := HZ.out.c1
  have hd0 := HY.out.c0
  have hd1 := HY.out.c1
  have he0 := HX.out.c0
  have he1 := HX.out.c1
  have hq1 : ¬ (w.heap.size + 1 + 1 = w.heap.size) := by omega
  have hq3 : ¬ (w.heap.size + 1 + 1 + 1 = w.heap.size) := by omega
  have hq5 : ¬ (w.heap.size + 1 + 1 = gx) := by have := HGX.out; have := HS1.out; have := HS2.out; omega
  have hq6 : ¬ (w.heap.size + 1 + 1 + 1 = gx) := by have := HGX.out; have := HS1.out; have := HS2.out; omega
  have HMU := Lib.hid (rIMul_any (HO4.out.next HBD.out).rd (HH'.out.next HB.out.drew) (by have := HM4.out; omega) hn')
  go_region_held3 (fun w' => w'.cell? ⟨w.heap.size, 0, none⟩ = some (.bool s) ∧ w'.cell? ⟨w.heap.size, 1, none⟩ = some (.slice A n c) ∧ w'.cell? ⟨w.heap.size + 1, 0, none⟩ = some (.bool s') ∧ w'.cell? ⟨w.heap.size + 1, 1, none⟩ = some (.slice A' n' c') ∧ w'.cell? ⟨gx, 0, none⟩ = some (.bool s3) ∧ w'.cell? ⟨gx, 1, none⟩ = some (.slice A4 m4 c4)) (go_keep)
    (first
      | (go_at_call 183; refine HMU.out.mono ?_; rintro _ W5 ⟨s5, A5, m5, c5, z5, rfl, ho5, hz5, hb5⟩; have HB5 := Lib.hid (HBD.out.trans hb5); have hi0 := (HZ.out.next HB5.out).c0; have hi1 := (HZ.out.next HB5.out).c1; have hi2 := (HY.out.next HB5.out).c0; have hi3 := (HY.out.next HB5.out).c1; have hi4 := (HX.out.next HB5.out).c0; have hi5 := (HX.out.next HB5.out).c1)
      | (go_at_call 193; refine (rISub_any (HH.out.next (HB.out.trans (HB5.out.mono HB.out.size))) ho5.rd (by omega) (by rw [ho5.len, hz5.out]; have e1 := Zz.zl_mul z4 z'; have e2 := HL'.out.2; have e3 := HM4.out; have e4 := HO4.out.len; omega)).mono ?_; rintro _ W6 ⟨s6, A6, m6, c6, z6, rfl, ho6, hz6, hb6⟩; have HB6 := Lib.hid (HB5.out.trans (hb6.mono HB5.out.size)); have hj0 := (HZ.out.next HB6.out).c0; have hj1 := (HZ.out.next HB6.out).c1; have hj2 := (HY.out.next HB6.out).c0; have hj3 := (HY.out.next HB6.out).c1; have hj4 := (HX.out.next HB6.out).c0; have hj5 := (HX.out.next HB6.out).c1; have hk0 := (HR.out.next HB6.out).c0; have hk1 := (HR.out.next HB6.out).c1; have hk2 := (HR.out.next HB6.out).fz 0; have hk3 := (HR.out.next HB6.out).fz 1; have hk4 := (HS.out.next HB6.out).c0; have hk5 := (HS.out.next HB6.out).c1; have hk6 := (HS.out.next HB6.out).fz 0; have hk7 := (HS.out.next HB6.out).fz 1))
  obtain ⟨V, HV⟩ : ∃ W, W = (((W6.setCell ⟨w.heap.size + 1 + 1, 0, none⟩ (.bool s3)).setCell ⟨w.heap.size + 1 + 1, 1, none⟩ (.slice A4 m4 c4)).setCell ⟨w.heap.size + 1 + 1 + 1, 0, none⟩ (.bool s6)).setCell ⟨w.heap.size + 1 + 1 + 1, 1, none⟩ (.slice A6 m6 c6) := ⟨_, rfl⟩
  obtain ⟨hZ9, hY9, ho9, ho10, hB9⟩ := put_two (HR.out.next HB6.out) (HS.out.next HB6.out) (by omega) (HB.out.trans (HB6.out.mono HB.out.size)) (by omega) (by omega) ((HO4.out.next HB6.out).base HS2.out) ho6 HS1.out (by have := HS1.out; have := HS2.out; have := HB5.out.size; have := HGX.out; have := HX.out.lt; omega) HV
  rw [← HV]
  have HF := Lib.hid (show z6 = z.tmod z' by rw [hz6.out, hz5.out, HQ.out]; have e := Int.mul_tdiv_add_tmod z z'; rw [Int.mul_comm z'] at e; omega)
  have HSV := Lib.hid (show w.heap.size ≤ W5.heap.size from Nat.le_trans HB.out.size HB5.out.size)
  clear HV hc0 hc1 hd0 hd1 he0 he1 hi0 hi1 hi2 hi3 hi4 hi5 hj0 hj1 hj2 hj3 hj4 hj5 hk0 hk1 hk2 hk3 hk4 hk5 hk6 hk7 hq1 hq3 hq5 hq6 hb5 hb6 ho5 ho6
  go_wp2
  exact bodyPost_ret (by simp [results, Tryz.results191, go_sem, hZ9.c0, hZ9.c1, hY9.c0, hY9.c1]) rfl ⟨_, _, _, _, _, _, _, _, _, _, rfl, ho9.base (Nat.le_of_lt HSZ.out), ho10.base HSV.out, Lib.hid ⟨HQ.out, HF.out⟩, hB9⟩

set_option maxRecDepth 100000 in
set_option maxHeartbeats 2000000 in
/-- A division that leaves nothing. -/
theorem rIExact_any {s s' : Bool} {A A' : Option Addr} {n c n' c' : Nat} {z z' : Int} {w : World} (h : RdZ w w.heap.size s A n c z) (h' : RdZ w w.heap.size s' A' n' c' z') (hn : n ≤ 4398046511103) (hn' : n' ≤ 4398046511103) (h0 : z' ≠ 0) :
    Calls Tryz.prog 89 #[.agg #[.bool s, .slice A n c], .agg #[.bool s', .slice A' n' c']] w fun e w' => ∃ (s : Bool) (A : Option Addr) (n c : Nat) (y : Int) (k : Bool), e = .returned (.tuple #[.agg #[.bool s, .slice A n c], .bool k]) ∧ OwZ w' w.heap.size s A n c y ∧ Hid ((z.tmod z' = 0 ∧ y = z.tdiv z' ∧ k = true) ∨ (z.tmod z' ≠ 0 ∧ y = 0 ∧ k = false)) ∧ Below w.heap.size w w' := by
  obtain ⟨hZ, hY, hR, hB⟩ := boxed2 w s A n c s' A' n' c'
  have h1 := h.next hB
  have h1' := h'.next hB
  have HLN := Lib.hid h1'.len
  have HSZ := Lib.hid (show w.heap.size < _ from Nat.lt_trans (Nat.lt_succ_self _) (Nat.lt_trans (Nat.lt_succ_self _) hR.lt))
  go_enter Tryz.func89, Tryz.ntmps89
  go_wp2_with fail
  generalize ((w.alloc (.cells #[.bool s, .slice A n c] 28)).alloc (.cells #[.bool s', .slice A' n' c'] 28)).alloc (.cells #[.bool false, .slice none 0 0] 28) = W1 at *
  have hc0 := hZ.c0
  have hc1 := hZ.c1
  have hd0 := hY.c0
  have hd1 := hY.c1
  refine (rITrunc_any h1 h1' hn hn' h0).mono ?_
  rintro _ W2 ⟨s2, A2, m2, c2, z2, s3, A3, m3, c3, z3, rfl, ho2, ho3, hz2, hb2⟩
  obtain ⟨W3, HW3⟩ : ∃ W, W = (W2.alloc (.cells #[.bool s2, .slice A2 m2 c2] 28)).alloc (.cells #[.bool s3, .slice A3 m3 c3] 28) := ⟨_, rfl⟩
  have hQ : ZC W3 W2.heap.size s2 A2 m2 c2 := by rw [HW3]; exact (ZC.new W2 s2 A2 m2 c2).alloc _
  have hS : ZC W3 (W2.heap.size + 1) s3 A3 m3 c3 := by rw [HW3]; simpa using ZC.new (W2.alloc (.cells #[.bool s2, .slice A2 m2 c2] 28)) s3 A3 m3 c3
  have hb3 : Below W2.heap.size W2 W3 := by rw [HW3]; exact ((Below.refl W2.heap.size W2).alloc (Nat.le_refl _) _).alloc (by simp) _
  have HW3 := Lib.hid HW3
  clear hc0 hc1 hd0 hd1
  go_wp2_with fail
  rw [← HW3.out]
  clear HW3
  have hs0 := hS.c0
  have hs1 := hS.c1
  have HM3 := Lib.hid (show m3 ≤ 4398046511103 from by rw [ho3.len, hz2.out.2]; exact Nat.le_trans (Zz.zl_tmod_lt _ h0) (Nat.le_trans HLN.out hn'))
  refine (rISign_any (ho3.next hb3).rd (by have := HM3.out; omega)).mono ?_
  rintro _ W4 ⟨k, rfl, hk, hb4⟩
  have HB24 := Lib.hid (hb3.trans (hb4.mono hb3.size))
  have HO2 := Lib.hid ((ho2.next HB24.out))
  have hQ4 := hQ.next hb4
  have hR4 := (hR.next hb2).next HB24.out
  have hB4 := hB.trans ((hb2.trans (HB24.out.mono hb2.size)).mono hB.size)
  have hf0 := hR4.fz 0
  have hf1 := hR4.fz 1
  have hr0 := hR4.c0
  have hr1 := hR4.c1
  have hq0 := hQ4.c0
  have hq1 := hQ4.c1
  have HS1 := Lib.hid hR.lt
  have HK := Lib.hid (show k = 0 ↔ z.tmod z' = 0 by rw [hk.out, hz2.out.2]; exact Int.sign_eq_zero_iff_zero)
  clear hs0 hs1 hS hQ hR hZ hY hb2 hb3 hb4 ho2 ho3
  by_cases hk0 : k = 0
  · have HT := Lib.hid (HK.out.1 hk0)
    subst hk0
    go_wp2
    have hp := put_int hR4 hB4 (by omega) HO2.out HS1.out
    generalize (W4.setCell ⟨w.heap.size + 1 + 1, 0, none⟩ (.bool s2)).setCell ⟨w.heap.size + 1 + 1, 1, none⟩ (.slice A2 m2 c2) = W5 at hp ⊢
    obtain ⟨hZ5, ho5, hB5⟩ := hp
    exact bodyPost_ret (by simp [results, Tryz.results89, go_sem, hZ5.c0, hZ5.c1]) rfl ⟨_, _, _, _, _, _, rfl, ho5.base (Nat.le_of_lt HSZ.out), Lib.hid (.inl ⟨HT.out, hz2.out.1, rfl⟩), hB5⟩
  · have HT := Lib.hid (mt HK.out.2 hk0)
    have hkb : (k != 0) = true := by simpa using hk0
    clear hk0
    go_wp2
    have hp := put_int hR4 hB4 (by omega) (OwZ.zero W4 W1.heap.size) HS1.out
    generalize (W4.setCell ⟨w.heap.size + 1 + 1, 0, none⟩ (.bool false)).setCell ⟨w.heap.size + 1 + 1, 1, none⟩ (.slice none 0 0) = W5 at hp ⊢
    obtain ⟨hZ5, ho5, hB5⟩ := hp
    exact bodyPost_ret (by simp [results, Tryz.results89, go_sem, hZ5.c0, hZ5.c1]) rfl ⟨_, _, _, _, _, _, rfl, ho5.base (Nat.le_of_lt HSZ.out), Lib.hid (.inr ⟨HT.out, rfl, rfl⟩), hB5⟩
end Go.Proofs.YtipbpdiahemmpaaGreat
