/- Integers compared. -/
import Derived.Test.YtipbpdiahemmpaaGreatI9
import Derived.Deep.RegionHeld3
import Derived.Test.YtipbpdiahemmpaaGreatQs
import Derived.Test.YtipbpdiahemmpaaGreatQp
import Derived.Test.YtipbpdiahemmpaaGreatQq
namespace Go.Proofs.YtipbpdiahemmpaaGreat
open Go.RowKit Go.IntWalk
attribute [local go_sem ↓] Go.wp_at_zero Go.wp_at_succ

theorem cmp_sub (x y : Nat) : Dg.cmp x y = ((x : Int) - y).sign := by
  rcases Nat.lt_trichotomy x y with h | h | h
  · rw [Dg.cmp_lt h, Int.sign_eq_neg_one_of_neg (by omega)]
  · rw [Dg.cmp_eq h, h, Int.sub_self]; rfl
  · rw [Dg.cmp_gt h, Int.sign_eq_one_of_pos (by omega)]
theorem sign_three (z : Int) : (0 < z ∧ z.sign = 1) ∨ (z = 0 ∧ z.sign = 0) ∨ (z < 0 ∧ z.sign = -1) := by
  rcases Int.lt_trichotomy z 0 with h | h | h
  · exact .inr (.inr ⟨h, Int.sign_eq_neg_one_of_neg h⟩)
  · exact .inr (.inl ⟨h, by rw [h]; rfl⟩)
  · exact .inl ⟨h, Int.sign_eq_one_of_pos h⟩
theorem sign_lt {z z' : Int} (h : z.sign < z'.sign) : (z - z').sign = -1 := by
  have h1 := sign_three z
  have h2 := sign_three z'
  exact Int.sign_eq_neg_one_of_neg (by omega)
theorem sign_gt {z z' : Int} (h : z'.sign < z.sign) : (z - z').sign = 1 := by
  have h1 := sign_three z
  have h2 := sign_three z'
  exact Int.sign_eq_one_of_pos (by omega)
theorem sign_negs {z z' : Int} (h : z.sign = z'.sign) (h0 : z.sign < 0) : (z - z').sign = Dg.cmp z'.natAbs z.natAbs := by
  have h1 := sign_three z
  have h2 := sign_three z'
  rw [cmp_sub]
  congr 1
  omega
theorem sign_poss {z z' : Int} (h : z.sign = z'.sign) (h0 : ¬ z.sign < 0) : (z - z').sign = Dg.cmp z.natAbs z'.natAbs := by
  have h1 := sign_three z
  have h2 := sign_three z'
  rw [cmp_sub]
  congr 1
  omega
theorem two_boxes (w : World) (s : Bool) (A : Option Addr) (n c : Nat) (s' : Bool) (A' : Option Addr) (n' c' : Nat) :
    ZC ((w.alloc (.cells #[.bool s, .slice A n c] 28)).alloc (.cells #[.bool s', .slice A' n' c'] 28)) w.heap.size s A n c ∧ ZC ((w.alloc (.cells #[.bool s, .slice A n c] 28)).alloc (.cells #[.bool s', .slice A' n' c'] 28)) (w.heap.size + 1) s' A' n' c' ∧ Below w.heap.size w ((w.alloc (.cells #[.bool s, .slice A n c] 28)).alloc (.cells #[.bool s', .slice A' n' c'] 28)) :=
  ⟨(ZC.new w s A n c).alloc _, by simpa using ZC.new (w.alloc (.cells #[.bool s, .slice A n c] 28)) s' A' n' c', ((Below.refl w.heap.size w).alloc (Nat.le_refl _) _).alloc (by simp) _⟩

set_option maxRecDepth 100000 in
set_option maxHeartbeats 4000000 in
theorem zcmp_any {s s' : Bool} {A A' : Option Addr} {n c n' c' : Nat} {z z' : Int} {w : World} (h : RdZ w w.heap.size s A n c z) (h' : RdZ w w.heap.size s' A' n' c' z') (hn : n ≤ 17592186044416) (hn' : n' ≤ 17592186044416) :
    Calls Tryz.prog 92 #[.agg #[.bool s, .slice A n c], .agg #[.bool s', .slice A' n' c']] w (RetK (z - z').sign w) := by
  obtain ⟨hZ, hY, hB⟩ := two_boxes w s A n c s' A' n' c'
  go_enter Tryz.func92, Tryz.ntmps92
  go_wp2_with fail
  generalize (w.alloc (.cells #[.bool s, .slice A n c] 28)).alloc (.cells #[.bool s', .slice A' n' c'] 28) = W1 at *
  have HR := Lib.hid (show ∀ W : World, Below W1.heap.size W1 W → RdZ W W.heap.size s A n c z ∧ RdZ W W.heap.size s' A' n' c' z' from fun W hb => ⟨(h.next hB).next hb, (h'.next hB).next hb⟩)
  have HD := Lib.hid (Below.refl W1.heap.size W1).drew
  have HZ := Lib.hid (And.intro hZ hY)
  have HCE := Lib.hid (show ∀ W : World, Below W1.heap.size W1 W → W.cell? ⟨w.heap.size, 0, none⟩ = some (.bool s) ∧ W.cell? ⟨w.heap.size, 1, none⟩ = some (.slice A n c) ∧ W.cell? ⟨w.heap.size + 1, 0, none⟩ = some (.bool s') ∧ W.cell? ⟨w.heap.size + 1, 1, none⟩ = some (.slice A' n' c') from fun W hb => ⟨(HZ.out.1.next hb).c0, (HZ.out.1.next hb).c1, (HZ.out.2.next hb).c0, (HZ.out.2.next hb).c1⟩)
  have HB := Lib.hid hB
  obtain ⟨a0, a1, a2, a3⟩ := HCE.out W1 (Below.refl _ _)
  clear hZ hY hB h h'
  go_region_held3 (fun w' => w'.cell? ⟨w.heap.size, 0, none⟩ = some (.bool s) ∧ w'.cell? ⟨w.heap.size, 1, none⟩ = some (.slice A n c) ∧ w'.cell? ⟨w.heap.size + 1, 0, none⟩ = some (.bool s') ∧ w'.cell? ⟨w.heap.size + 1, 1, none⟩ = some (.slice A' n' c')) (first | exact HCE.out _ HB3.out | exact HCE.out _ HB2.out | exact HCE.out _ HD.out)
    (first
      | (have hx := HB2.out; clear hx; go_at_call 81; refine (sign_any (HR.out _ HB2.out).2 hn').mono ?_; rintro _ W3 ⟨k3, rfl, hk3, hb3⟩; have HB3 := Lib.hid (HB2.out.trans (hb3.mono HB2.out.size)))
      | (go_at_call 81; refine (sign_any (HR.out _ HD.out).1 hn).mono ?_; rintro _ W2 ⟨k2, rfl, hk2, hb2⟩; have HB2 := Lib.hid (HD.out.trans hb2)))
  have HF := Lib.hid (HB.out.trans (HB3.out.mono HB.out.size))
  obtain ⟨b0, b1, b2, b3⟩ := HCE.out W3 HB3.out
  clear a0 a1 a2 a3 hb2 hb3
  rcases Int.lt_trichotomy k2 k3 with hlt | heq | hgt
  · have hne : (k2 != k3) = true := by simp; omega
    have HE := Lib.hid (show (z - z').sign = -1 from sign_lt (by rw [← hk2.out, ← hk3.out]; exact hlt))
    go_wp2
    go_ret
    exact ⟨_, rfl, Lib.hid HE.out.symm, HF.out⟩
  · have HEQ := Lib.hid (show z.sign = z'.sign by rw [← hk2.out, ← hk3.out]; exact heq)
    subst heq
    clear hk3
    obtain ⟨M, hr, hz⟩ := (HR.out _ HB3.out).1.raw
    obtain ⟨M', hr', hz'⟩ := (HR.out _ HB3.out).2.raw
    by_cases hneg : k2 < 0
    · have HE := Lib.hid (show (z - z').sign = Dg.cmp (Dg.val M') (Dg.val M) by
        rw [sign_negs HEQ.out (by rw [← hk2.out]; exact hneg), hz.out, hz'.out, Zz.abs_sg, Zz.abs_sg])
      go_wp2_with fail
      refine (cmp_any hr' hr hn' hn).mono ?_
      rintro _ _ ⟨zc, rfl, hzc, d, rfl⟩
      have HF2 := Lib.hid (HF.out.trans ((drewN_below W3 d).mono HF.out.size))
      go_wp2
      go_ret
      exact ⟨_, rfl, Lib.hid (by rw [hzc.out, HE.out]), HF2.out⟩
    · have HE := Lib.hid (show (z - z').sign = Dg.cmp (Dg.val M) (Dg.val M') by
        rw [sign_poss HEQ.out (by rw [← hk2.out]; exact hneg), hz.out, hz'.out, Zz.abs_sg, Zz.abs_sg])
      have hneg' : 0 ≤ k2 := by omega
      clear hneg
      go_wp2_with fail
      refine (cmp_any hr hr' hn hn').mono ?_
      rintro _ _ ⟨zc, rfl, hzc, d, rfl⟩
      have HF2 := Lib.hid (HF.out.trans ((drewN_below W3 d).mono HF.out.size))
      go_wp2
      go_ret
      exact ⟨_, rfl, Lib.hid (by rw [hzc.out, HE.out]), HF2.out⟩
  · have hne : (k2 != k3) = true := by simp; omega
    have hge : k3 ≤ k2 := by omega
    have HE := Lib.hid (show (z - z').sign = 1 from sign_gt (by rw [← hk2.out, ← hk3.out]; exact hgt))
    go_wp2
    go_ret
    exact ⟨_, rfl, Lib.hid HE.out.symm, HF.out⟩

set_option maxHeartbeats 1000000 in
theorem rICmp_any {s s' : Bool} {A A' : Option Addr} {n c n' c' : Nat} {z z' : Int} {w : World} (h : RdZ w w.heap.size s A n c z) (h' : RdZ w w.heap.size s' A' n' c' z') (hn : n ≤ 1000000000000) (hn' : n' ≤ 1000000000000) :
    Calls Tryz.prog 95 #[.agg #[.bool s, .slice A n c], .agg #[.bool s', .slice A' n' c']] w (RetK (z - z').sign w) := by
  obtain ⟨hZ, hY, hB⟩ := two_boxes w s A n c s' A' n' c'
  go_enter Tryz.func95, Tryz.ntmps95
  go_wp2_with fail
  generalize (w.alloc (.cells #[.bool s, .slice A n c] 28)).alloc (.cells #[.bool s', .slice A' n' c'] 28) = W1 at *
  have a0 := hZ.c0
  have a1 := hZ.c1
  have a2 := hY.c0
  have a3 := hY.c1
  have h1 := h.next hB
  have h2 := h'.next hB
  have HLZ := Lib.hid (And.intro h1.len h2.len)
  refine (rISub_any h1 h2 (by omega) (by omega)).mono ?_
  rintro _ W2 ⟨s2, A2, n2, c2, z2, rfl, ho2, hz2, hb2⟩
  have hB2 := hB.trans (hb2.mono hB.size)
  have HN2 := Lib.hid (show n2 ≤ 17592186044416 by
    rw [ho2.len, hz2.out]
    have e1 := Zz.zl_sub z z'
    have e2 := HLZ.out
    omega)
  clear a0 a1 a2 a3 hZ hY hB h h' h1 h2
  go_wp2_with fail
  refine (rISign_any ho2.rd HN2.out).mono ?_
  rintro _ W3 ⟨k, rfl, hk, hb3⟩
  have hB3 := hB2.trans (hb3.mono hB2.size)
  clear ho2 hb2 hb3 hB2
  go_wp2
  go_ret
  exact ⟨_, rfl, Lib.hid (by rw [hk.out, hz2.out]), hB3⟩
end Go.Proofs.YtipbpdiahemmpaaGreat

/- Integer polynomials: the degree, the lead. -/
namespace Go.Proofs.YtipbpdiahemmpaaGreat
open Go.RowKit Go.IntWalk
attribute [local go_sem ↓] Go.wp_at_zero Go.wp_at_succ

theorem zo_at {w : World} {b : Nat} {A : Option Addr} {n c : Nat} {L : List Int} (h : OwZs w b A n c L) {j : Nat} (hj : j < n) :
    ∃ (ad : Addr) (s : Bool) (A' : Option Addr) (n' c' : Nat), A = some ad ∧ ad.block < w.heap.size ∧ w.cell? (ad.add (j * 2)) = some (.bool s) ∧ w.cell? ⟨(ad.add (j * 2)).block, (ad.add (j * 2)).off + 1, none⟩ = some (.slice A' n' c') ∧ OwZ w b s A' n' c' (Pz.co L j) := by
  obtain ⟨g, e, h1, h2, h3, h4, h5⟩ := ow_at h hj
  exact ⟨_, _, _, _, _, h1, h2, by rw [add_base]; exact h3, by rw [add_base]; exact h4, h5⟩

theorem OwZs.far {w : World} {b : Nat} {A : Option Addr} {n c : Nat} {L : List Int} (h : OwZs w b A n c L) {p : Addr} (hp : p.block < b) (u : Value) : OwZs (w.setCell p u) b A n c L := by
  obtain ⟨E, h1, h2, h3⟩ := h
  exact ⟨E, row_far h1 hp u, h2, h3.1, fun j e z he hz => (h3.2 j e z he hz).far hp u⟩

set_option maxHeartbeats 400000 in
theorem zdegree_any {N : Nat} {A : Option Addr} {n c : Nat} {L M : List Int} {w : World} (h : RdZs w w.heap.size N A n c L) (hM : Pz.IsP (Pz.co L) M) (hn : n ≤ 4398046511103) (hN : N ≤ 17592186044416) :
    Calls Tryz.prog 17 #[.slice A n c] w fun e w' => ∃ y : Int, e = .returned (.int .i64 y) ∧ Hid (y = (M.length : Int) - 1) ∧ Below w.heap.size w w' := by
  have HM := Lib.hid hM
  have HL := Lib.hid h.len
  clear hM
  go_enter Tryz.func17, Tryz.ntmps17
  go_wp2_with fail
  refine (znorm_any h hn hN).mono ?_
  rintro _ W2 ⟨A2, n2, c2, M2, rfl, ho2, hM2, hb2⟩
  have HE := Lib.hid (show M.length = n2 by rw [← ho2.len, hM2.out.unique HM.out])
  have hn2 : n2 ≤ 4398046511103 := by
    rw [← HE.out]
    exact Nat.le_trans (HM.out.len fun i hi => Pz.co_ge (by rw [HL.out]; exact hi)) hn
  go_wp2
  go_ret
  exact ⟨_, rfl, Lib.hid (by rw [HE.out]), hb2⟩

set_option maxRecDepth 100000 in
set_option maxHeartbeats 1000000 in
theorem zlead_any {N : Nat} {A : Option Addr} {n c : Nat} {L M : List Int} {w : World} (h : RdZs w w.heap.size N A n c L) (hM : Pz.IsP (Pz.co L) M) (hn : n ≤ 4398046511103) (hN : N ≤ 17592186044416) :
    Calls Tryz.prog 20 #[.slice A n c] w (RetI (Pz.co M (M.length - 1)) w) := by
  have HM := Lib.hid hM
  have HL := Lib.hid h.len
  have hR := ZC.new w false none 0 0
  have hB1 : Below w.heap.size w (w.alloc (.cells #[.bool false, .slice none 0 0] 28)) := (Below.refl _ _).alloc (Nat.le_refl _) _
  have h1 := h.next hB1
  clear h hM
  go_enter Tryz.func20, Tryz.ntmps20
  go_wp2_with fail
  generalize w.alloc (.cells #[.bool false, .slice none 0 0] 28) = W1 at *
  refine (znorm_any h1 hn hN).mono ?_
  rintro _ W2 ⟨A2, n2, c2, M2, rfl, ho2, hM2, hb2⟩
  obtain rfl := hM2.out.unique HM.out
  have HE := Lib.hid (show M2.length = n2 from ho2.len)
  have hR2 := hR.next hb2
  have hB2 := hB1.trans (hb2.mono hB1.size)
  have HS1 := Lib.hid hR.lt
  have f0 := hR2.fz 0
  have f1 := hR2.fz 1
  have k0 := hR2.c0
  have k1 := hR2.c1
  rcases Nat.eq_zero_or_pos n2 with e0 | e0
  · subst e0
    have HV := Lib.hid (show (0 : Int) = Pz.co M2 (M2.length - 1) by rw [Pz.co_ge (by rw [HE.out]; exact Nat.zero_le _)])
    have hZ6 := hR2.store false none 0 0
    have HB6 := Lib.hid ((hB2.setCell (p := ⟨w.heap.size, 0, none⟩) (Nat.le_refl _) (.bool false)).setCell (p := ⟨w.heap.size, 1, none⟩) (Nat.le_refl _) (.slice none 0 0))
    clear h1 ho2 hR2 hR hB1 hB2 hb2
    go_wp2_with fail
    generalize (W2.setCell ⟨w.heap.size, 0, none⟩ (.bool false)).setCell ⟨w.heap.size, 1, none⟩ (.slice none 0 0) = W6 at *
    exact bodyPost_ret (by simp [results, Tryz.results20, go_sem, hZ6.c0, hZ6.c1]) rfl ⟨_, _, _, _, _, rfl, OwZ.zero _ _, HV, HB6.out⟩
  · obtain ⟨m, hm⟩ : ∃ m, n2 = m + 1 := ⟨n2 - 1, by omega⟩
    have HMM := Lib.hid hm
    have hmlt' : m < n2 := by omega
    obtain ⟨ad, s3, A3, n3, c3, rfl, hbk, hx0, hx1, he⟩ := zo_at ho2 hmlt'
    have hb : ((n2 : Int) == 0) = false := by simp; omega
    have hmi : (n2 : Int) - 1 = (m : Int) := by omega
    have hmlt : (m : Int) < (n2 : Int) := by omega
    have hmb : m ≤ 4398046511103 := by
      have h5 := HM.out.len (k := n) fun i hi => Pz.co_ge (by rw [HL.out]; exact hi)
      have := HE.out
      omega
    have HV := Lib.hid (show Pz.co M2 m = Pz.co M2 (M2.length - 1) by rw [HE.out, HMM.out]; rfl)
    have hZ6 := hR2.store s3 A3 n3 c3
    have HO6 := Lib.hid ((he.base hB1.size).keep (keep_set2 hR2 (.bool s3) (.slice A3 n3 c3)))
    have HB6 := Lib.hid ((hB2.setCell (p := ⟨w.heap.size, 0, none⟩) (Nat.le_refl _) (.bool s3)).setCell (p := ⟨w.heap.size, 1, none⟩) (Nat.le_refl _) (.slice A3 n3 c3))
    clear h1 ho2 hR2 hR hB1 hB2 hb2 he hm e0 hbk
    go_wp2_with fail
    generalize (W2.setCell ⟨w.heap.size, 0, none⟩ (.bool s3)).setCell ⟨w.heap.size, 1, none⟩ (.slice A3 n3 c3) = W6 at *
    exact bodyPost_ret (by simp [results, Tryz.results20, go_sem, hZ6.c0, hZ6.c1]) rfl ⟨_, _, _, _, _, rfl, HO6.out, HV, HB6.out⟩

set_option maxRecDepth 100000 in
set_option maxHeartbeats 1000000 in
theorem rzLead_ri {N : Nat} {A : Option Addr} {n c : Nat} {L M : List Int} {w : World} (h : RdZs w w.heap.size N A n c L) (hM : Pz.IsP (Pz.co L) M) (hn : n ≤ 4398046511103) (hN : N ≤ 17592186044416) :
    Calls Tryz.prog 21 #[.slice A n c] w (RetI (Pz.co M (M.length - 1)) w) := by
  have HM := Lib.hid hM
  have HL := Lib.hid h.len
  have hR := ZC.new w false none 0 0
  have hB1 : Below w.heap.size w (w.alloc (.cells #[.bool false, .slice none 0 0] 28)) := (Below.refl _ _).alloc (Nat.le_refl _) _
  have h1 := h.next hB1
  clear h hM
  go_enter Tryz.func21, Tryz.ntmps21
  go_wp2_with fail
  generalize w.alloc (.cells #[.bool false, .slice none 0 0] 28) = W1 at *
  refine (rzNorm_any h1 hn hN).mono ?_
  rintro _ W2 ⟨A2, n2, c2, M2, rfl, ho2, hM2, hb2⟩
  obtain rfl := hM2.out.unique HM.out
  have HE := Lib.hid (show M2.length = n2 from ho2.len)
  have hR2 := hR.next hb2
  have hB2 := hB1.trans (hb2.mono hB1.size)
  have HS1 := Lib.hid hR.lt
  have f0 := hR2.fz 0
  have f1 := hR2.fz 1
  have k0 := hR2.c0
  have k1 := hR2.c1
  rcases Nat.eq_zero_or_pos n2 with e0 | e0
  · subst e0
    have HV := Lib.hid (show (0 : Int) = Pz.co M2 (M2.length - 1) by rw [Pz.co_ge (by rw [HE.out]; exact Nat.zero_le _)])
    have hZ6 := hR2.store false none 0 0
    have HB6 := Lib.hid ((hB2.setCell (p := ⟨w.heap.size, 0, none⟩) (Nat.le_refl _) (.bool false)).setCell (p := ⟨w.heap.size, 1, none⟩) (Nat.le_refl _) (.slice none 0 0))
    clear h1 ho2 hR2 hR hB1 hB2 hb2
    go_wp2_with fail
    generalize (W2.setCell ⟨w.heap.size, 0, none⟩ (.bool false)).setCell ⟨w.heap.size, 1, none⟩ (.slice none 0 0) = W6 at *
    exact bodyPost_ret (by simp [results, Tryz.results21, go_sem, hZ6.c0, hZ6.c1]) rfl ⟨_, _, _, _, _, rfl, OwZ.zero _ _, HV, HB6.out⟩
  · obtain ⟨m, hm⟩ : ∃ m, n2 = m + 1 := ⟨n2 - 1, by omega⟩
    have HMM := Lib.hid hm
    have hmlt' : m < n2 := by omega
    obtain ⟨ad, s3, A3, n3, c3, rfl, hbk, hx0, hx1, he⟩ := zo_at ho2 hmlt'
    have hb : ((n2 : Int) == 0) = false := by simp; omega
    have hmi : (n2 : Int) - 1 = (m : Int) := by omega
    have hmlt : (m : Int) < (n2 : Int) := by omega
    have hmb : m ≤ 4398046511103 := by
      have h5 := HM.out.len (k := n) fun i hi => Pz.co_ge (by rw [HL.out]; exact hi)
      have := HE.out
      omega
    have HV := Lib.hid (show Pz.co M2 m = Pz.co M2 (M2.length - 1) by rw [HE.out, HMM.out]; rfl)
    have hZ6 := hR2.store s3 A3 n3 c3
    have HO6 := Lib.hid ((he.base hB1.size).keep (keep_set2 hR2 (.bool s3) (.slice A3 n3 c3)))
    have HB6 := Lib.hid ((hB2.setCell (p := ⟨w.heap.size, 0, none⟩) (Nat.le_refl _) (.bool s3)).setCell (p := ⟨w.heap.size, 1, none⟩) (Nat.le_refl _) (.slice A3 n3 c3))
    clear h1 ho2 hR2 hR hB1 hB2 hb2 he hm e0 hbk
    go_wp2_with fail
    generalize (W2.setCell ⟨w.heap.size, 0, none⟩ (.bool s3)).setCell ⟨w.heap.size, 1, none⟩ (.slice A3 n3 c3) = W6 at *
    exact bodyPost_ret (by simp [results, Tryz.results21, go_sem, hZ6.c0, hZ6.c1]) rfl ⟨_, _, _, _, _, rfl, HO6.out, HV, HB6.out⟩
end Go.Proofs.YtipbpdiahemmpaaGreat

/- zpoly: equality, content, the primitive part. -/
namespace Go.Proofs.YtipbpdiahemmpaaGreat
open Go.RowKit Go.IntWalk
attribute [local go_sem ↓] Go.wp_at_zero Go.wp_at_succ

/-- The greatest common divisor of a list. -/
abbrev gcdl (L : List Int) : Int := L.foldl (fun (g x : Int) => (Int.gcd g x : Int)) 0
theorem dvd_fold (d : Int) : ∀ (L : List Int) (a : Int), d ∣ L.foldl (fun (g x : Int) => (Int.gcd g x : Int)) a ↔ d ∣ a ∧ ∀ z ∈ L, d ∣ z
  | [], a => by simp
  | x :: L, a => by
    rw [List.foldl_cons, dvd_fold d L, Int.dvd_coe_gcd_iff]
    simp [and_assoc]
theorem dvd_gcdl {d : Int} {L : List Int} : d ∣ gcdl L ↔ ∀ i, d ∣ Pz.co L i := by
  rw [dvd_fold]
  constructor
  · rintro ⟨_, h⟩ i
    rcases Nat.lt_or_ge i L.length with hi | hi
    · exact h _ (List.mem_of_getElem? (Pz.get_co hi))
    · rw [Pz.co_ge hi]; exact Int.dvd_zero _
  · intro h
    refine ⟨Int.dvd_zero _, fun z hz => ?_⟩
    obtain ⟨i, _, rfl⟩ := Pz.mem_co hz
    exact h i
theorem fold_nonneg : ∀ (L : List Int) (a : Int), 0 ≤ a → 0 ≤ L.foldl (fun (g x : Int) => (Int.gcd g x : Int)) a
  | [], _, h => h
  | x :: L, a, _ => fold_nonneg L _ (Int.natCast_nonneg (Int.gcd a x))
theorem gcdl_nonneg (L : List Int) : 0 ≤ gcdl L := fold_nonneg L 0 (Int.le_refl _)
theorem gcdl_congr {L M : List Int} (h : ∀ i, Pz.co L i = Pz.co M i) : gcdl L = gcdl M := by
  refine Int.dvd_antisymm (gcdl_nonneg L) (gcdl_nonneg M) ?_ ?_
  · exact dvd_gcdl.2 fun i => by rw [← h]; exact dvd_gcdl.1 (Int.dvd_refl _) i
  · exact dvd_gcdl.2 fun i => by rw [h]; exact dvd_gcdl.1 (Int.dvd_refl _) i
theorem gcdl_dvd (L : List Int) (i : Nat) : gcdl L ∣ Pz.co L i := dvd_gcdl.1 (Int.dvd_refl _) i
theorem gcdl_zero {M : List Int} (h : Pz.Nz M) : gcdl M = 0 ↔ M = [] := by
  constructor
  · intro h0
    rcases Nat.eq_zero_or_pos M.length with e | e
    · exact List.eq_nil_of_length_eq_zero e
    · have h1 := gcdl_dvd M (M.length - 1)
      rw [h0, Int.zero_dvd] at h1
      exact absurd h1 (Pz.nz_top h e)
  · rintro rfl; rfl
theorem zl_fold {N : Nat} : ∀ (L : List Int) (a : Int), Zz.zl a ≤ N → (∀ z ∈ L, Zz.zl z ≤ N) → Zz.zl (L.foldl (fun (g x : Int) => (Int.gcd g x : Int)) a) ≤ N
  | [], _, h, _ => h
  | x :: L, a, h, hL => by
    refine zl_fold L _ ?_ fun z hz => hL z (List.mem_cons_of_mem _ hz)
    have e1 := Zz.zl_gcd a x
    have e2 := hL x (List.mem_cons_self ..)
    show Zz.zl (Int.gcd a x) ≤ N
    omega
/-- The content with the lead's sign. -/
def prC (M : List Int) : Int := if Pz.co M (M.length - 1) < 0 then -gcdl M else gcdl M
theorem prC_dvd (M : List Int) (i : Nat) : prC M ∣ Pz.co M i := by
  unfold prC
  split
  · exact Int.neg_dvd.2 (gcdl_dvd M i)
  · exact gcdl_dvd M i
theorem prC_ne {M : List Int} (h : Pz.Nz M) (h0 : M ≠ []) : prC M ≠ 0 := by
  have h1 := mt (gcdl_zero h).1 h0
  unfold prC
  split <;> omega
theorem prC_nil : prC [] = 0 := by
  unfold prC
  split <;> rfl
theorem zl_prC {N : Nat} {M : List Int} (h : ∀ z ∈ M, Zz.zl z ≤ N) : Zz.zl (prC M) ≤ N := by
  have h1 := zl_fold M 0 (by rw [Zz.zl_zero]; exact Nat.zero_le _) h
  unfold prC
  split
  · rw [Zz.zl_neg]; exact h1
  · exact h1
/-- A quotient, where there is one. -/
def exq (c z : Int) : Int := if z.tmod c = 0 then z.tdiv c else 0
theorem map_exq {c : Int} {M : List Int} (h : ∀ i, c ∣ Pz.co M i) : M.map (exq c) = M.map fun z => z.tdiv c :=
  List.map_congr_left fun z hz => by
    obtain ⟨i, _, rfl⟩ := Pz.mem_co hz
    unfold exq
    rw [if_pos (Int.tmod_eq_zero_of_dvd (h i))]

set_option maxRecDepth 100000 in
set_option maxHeartbeats 2000000 in
theorem zequal_any {N N' : Nat} {A A' : Option Addr} {n c n' c' : Nat} {L L' M1 M2 : List Int} {w : World} (h : RdZs w w.heap.size N A n c L) (h' : RdZs w w.heap.size N' A' n' c' L') (hM1 : Pz.IsP (Pz.co L) M1) (hM2 : Pz.IsP (Pz.co L') M2) (hn : n ≤ 4398046511103) (hn' : n' ≤ 4398046511103) (hN : N ≤ 1000000000000) (hN' : N' ≤ 1000000000000) :
    Calls Tryz.prog 22 #[.slice A n c, .slice A' n' c'] w fun e w' => ∃ b : Bool, e = .returned (.bool b) ∧ Hid (b = true ↔ M1 = M2) ∧ Below w.heap.size w w' := by
  have HC := Lib.hid (And.intro (zl_co h) (zl_co h'))
  have HM1 := Lib.hid hM1
  have HM2 := Lib.hid hM2
  have HLN := Lib.hid (And.intro h.len h'.len)
  clear hM1 hM2
  go_enter Tryz.func22, Tryz.ntmps22
  go_wp2_with fail
  refine (znorm_any h hn (by omega)).mono ?_
  rintro _ W1 ⟨A1, m1, c1, K1, rfl, ho1, hK1, hb1⟩
  go_wp2_with fail
  refine (znorm_any (h'.next hb1) hn' (by omega)).mono ?_
  rintro _ W2 ⟨A2, m2, c2, K2, rfl, ho2, hK2, hb2⟩
  obtain rfl := hK1.out.unique HM1.out
  obtain rfl := hK2.out.unique HM2.out
  have HL := Lib.hid (And.intro ho1.len ho2.len)
  have HB := Lib.hid (hb1.trans (hb2.mono hb1.size))
  have hm1 : m1 ≤ 4398046511103 := by
    have h5 := HM1.out.len (k := n) fun i hi => Pz.co_ge (by rw [HLN.out.1]; exact hi)
    have := HL.out.1
    omega
  have hr1 := rd_of (N := N) (ho1.next hb2) HM1.out HC.out.1
  have hr2 := rd_of (N := N') ho2 HM2.out HC.out.2
  clear h h' ho1 ho2 hb1 hb2 hK1 hK2
  rcases Nat.lt_trichotomy m1 m2 with hlt | heq | hgt
  · have hne : ((m1 : Int) != (m2 : Int)) = true := by simp; omega
    have HE := Lib.hid (show ¬ K1 = K2 from fun e => by rw [e] at HL; have := HL.out; omega)
    clear hlt
    go_wp2
    go_ret
    exact ⟨false, rfl, Lib.hid ⟨fun e => by simp at e, fun e => absurd e HE.out⟩, HB.out⟩
  · subst heq
    go_wp2_with fail
    go_loopw [5, 17] (fun xv iv wr => ∃ (j : Nat), iv = .int .i64 j ∧ j ≤ m1 ∧ Hid (∀ i, i < j → Pz.co K1 i = Pz.co K2 i) ∧ Below W2.heap.size W2 wr) (fun _ iv _ => m1 - (intOf iv).toNat)
    case atStart => exact ⟨0, rfl, Nat.zero_le _, Lib.hid fun i hi => absurd hi (Nat.not_lt_zero _), Below.refl _ _⟩
    case round =>
      obtain ⟨j, rfl, hj, hE, hB⟩ := hrel
      by_cases hjn : j = m1
      · subst hjn
        have HE := Lib.hid (show K1 = K2 from (Pz.IsP.self HM1.out.1).unique ⟨HM2.out.1, fun i => by
          rcases Nat.lt_or_ge i j with hi | hi
          · exact (hE.out i hi).symm
          · rw [Pz.co_ge (L := K1) (by rw [HL.out.1]; exact hi), Pz.co_ge (L := K2) (by rw [HL.out.2]; exact hi)]⟩)
        have HF := Lib.hid (HB.out.trans (hB.mono HB.out.size))
        go_wp2
        go_ret
        exact ⟨true, rfl, Lib.hid ⟨fun _ => HE.out, fun _ => rfl⟩, HF.out⟩
      · have hjl : j < m1 := by omega
        have hjli : (j : Int) < (m1 : Int) := by omega
        clear hjn
        obtain ⟨ad, s3, A3, n3, c3, x, rfl, hbk, hx0, hx1, hrx, hn3, hx⟩ := zs_at hr1 hjl
        obtain ⟨ad4, s4, A4, n4, c4, y, rfl, hbk4, hy0, hy1, hry, hn4, hy⟩ := zs_at hr2 hjl
        have HXY := Lib.hid (show x = Pz.co K1 j ∧ y = Pz.co K2 j from ⟨(Pz.co_get hx.out).symm, (Pz.co_get hy.out).symm⟩)
        have HCE := Lib.hid (show ∀ W : World, Below W2.heap.size W2 W → (W.cell? (ad.add (j * 2)) = some (.bool s3) ∧ W.cell? ⟨(ad.add (j * 2)).block, (ad.add (j * 2)).off + 1, none⟩ = some (.slice A3 n3 c3) ∧ W.cell? (ad4.add (j * 2)) = some (.bool s4) ∧ W.cell? ⟨(ad4.add (j * 2)).block, (ad4.add (j * 2)).off + 1, none⟩ = some (.slice A4 n4 c4)) from fun W hb => ⟨(zs_cells hb hbk hx0 hx1).1, (zs_cells hb hbk hx0 hx1).2, (zs_cells hb hbk4 hy0 hy1).1, (zs_cells hb hbk4 hy0 hy1).2⟩)
        have HR := Lib.hid (show ∀ W : World, Below W2.heap.size W2 W → RdZ W W.heap.size s3 A3 n3 c3 x ∧ RdZ W W.heap.size s4 A4 n4 c4 y from fun W hb => ⟨hrx.next hb, hry.next hb⟩)
        have HN := Lib.hid (show n3 ≤ 17592186044416 ∧ n4 ≤ 17592186044416 by omega)
        have HD := Lib.hid hB.drew
        obtain ⟨a0, a1, a2, a3⟩ := HCE.out wr hB
        clear hx0 hx1 hy0 hy1 hrx hry hx hy hbk hbk4 hr1 hr2
        go_upto_region 7 with fail
        go_region_held3 (fun w' => w'.cell? (ad.add (j * 2)) = some (.bool s3) ∧ w'.cell? ⟨(ad.add (j * 2)).block, (ad.add (j * 2)).off + 1, none⟩ = some (.slice A3 n3 c3) ∧ w'.cell? (ad4.add (j * 2)) = some (.bool s4) ∧ w'.cell? ⟨(ad4.add (j * 2)).block, (ad4.add (j * 2)).off + 1, none⟩ = some (.slice A4 n4 c4)) (first | exact HCE.out _ HB5.out | exact HCE.out _ HD.out)
          ((go_at_call 92; refine (zcmp_any (HR.out _ HD.out).1 (HR.out _ HD.out).2 HN.out.1 HN.out.2).mono ?_; rintro _ W5 ⟨k5, rfl, hk5, hb5⟩; have HB5 := Lib.hid (HD.out.trans (hb5.mono HD.out.size))))
        clear a0 a1 a2 a3 hb5
        by_cases hk : k5 = 0
        · have HE2 := Lib.hid (show Pz.co K1 j = Pz.co K2 j by
            have e1 := hk5.out
            rw [hk, HXY.out.1, HXY.out.2] at e1
            have e2 := Int.sign_eq_zero_iff_zero.1 e1.symm
            omega)
          subst hk
          go_wp2
          go_roundw
          case rel => exact ⟨j + 1, by go_num, by omega, Lib.hid fun i hi => by
            rcases Nat.lt_or_ge i j with h1 | h1
            · exact hE.out i h1
            · rw [show i = j by omega]; exact HE2.out, HB5.out⟩
          case measure => simp [intOf]; omega
        · have hkb : (k5 != 0) = true := by simpa using hk
          have HE := Lib.hid (show ¬ K1 = K2 from fun e => hk (by
            rw [hk5.out, HXY.out.1, HXY.out.2, e, Int.sub_self]; rfl))
          have HF := Lib.hid (HB.out.trans (HB5.out.mono HB.out.size))
          clear hk
          go_wp2
          go_ret
          exact ⟨false, rfl, Lib.hid ⟨fun e => by simp at e, fun e => absurd e HE.out⟩, HF.out⟩
  · have hne : ((m1 : Int) != (m2 : Int)) = true := by simp; omega
    have HE := Lib.hid (show ¬ K1 = K2 from fun e => by rw [e] at HL; have := HL.out; omega)
    clear hgt
    go_wp2
    go_ret
    exact ⟨false, rfl, Lib.hid ⟨fun e => by simp at e, fun e => absurd e HE.out⟩, HB.out⟩

set_option maxHeartbeats 1000000 in
theorem zcontent_any {N : Nat} {A : Option Addr} {n c : Nat} {L : List Int} {w : World} (h : RdZs w w.heap.size N A n c L) (hN : N ≤ 1000000000000) :
    Calls Tryz.prog 25 #[.slice A n c] w (RetI (gcdl L) w) := by
  obtain ⟨W1, HW1⟩ : ∃ W, W = w.alloc (.cells #[.bool false, .slice none 0 0] 28) := ⟨_, rfl⟩
  have hR : ZC W1 w.heap.size false none 0 0 := by rw [HW1]; exact ZC.new w false none 0 0
  have hB : Below w.heap.size w W1 := by rw [HW1]; exact (Below.refl w.heap.size w).alloc (Nat.le_refl _) _
  have HW1 := Lib.hid HW1
  have h1 := h.next hB
  go_enter Tryz.func25, Tryz.ntmps25
  go_wp2_with fail
  rw [← HW1.out]
  clear HW1
  clear HW1
  refine (gcdl_any h1 hN).mono ?_
  rintro _ W3 ⟨s3, A3, m3, c3, z3, rfl, ho3, hz3, hb3⟩
  have hR3 := hR.next hb3
  have hB3 := hB.trans (hb3.mono hB.size)
  have HS1 := Lib.hid hR.lt
  have hc0 := hR3.c0
  have hc1 := hR3.c1
  have hf0 := hR3.fz 0
  have hf1 := hR3.fz 1
  clear hb3 hR h1 h
  go_wp2
  have hp := put_int hR3 hB3 (Nat.le_refl _) ho3 HS1.out
  generalize (W3.setCell ⟨w.heap.size, 0, none⟩ (.bool s3)).setCell ⟨w.heap.size, 1, none⟩ (.slice A3 m3 c3) = W5 at hp ⊢
  obtain ⟨hZ5, ho5, hB5⟩ := hp
  exact bodyPost_ret (by simp [results, Tryz.results25, go_sem, hZ5.c0, hZ5.c1]) rfl ⟨_, _, _, _, _, rfl, ho5.base (Nat.le_of_lt HS1.out), hz3, hB5⟩
end Go.Proofs.YtipbpdiahemmpaaGreat

/- zpoly: the primitive part. -/
namespace Go.Proofs.YtipbpdiahemmpaaGreat
open Go.RowKit Go.IntWalk
attribute [local go_sem ↓] Go.wp_at_zero Go.wp_at_succ

set_option maxHeartbeats 1000000 in
theorem byIn_any {B : Nat} {s s' : Bool} {A A' : Option Addr} {n c n' c' : Nat} {z z' : Int} {w : World} (h : RdZ w w.heap.size s A n c z) (hC : ZC w B s' A' n' c') (h' : RdZ w w.heap.size s' A' n' c' z') (hn : n ≤ 1000000000000) (hn' : n' ≤ 1000000000000) (h0 : z' ≠ 0) :
    Calls Tryz.prog 189 #[.agg #[.bool s, .slice A n c], .pointer (some ⟨B, 0, none⟩)] w (RetI (exq z' z) w) := by
  obtain ⟨hZ, hR, hB⟩ := boxed1 w s A n c
  have h1 := h.next hB
  have h1' := h'.next hB
  have hC1 := hC.next hB
  have HSZ := Lib.hid (Nat.lt_trans (Nat.lt_succ_self _) hR.lt)
  have hc0 := hC1.c0
  have hc1 := hC1.c1
  have hz0 := hZ.c0
  have hz1 := hZ.c1
  go_enter Tryz.func189, Tryz.ntmps189
  go_wp2_with fail
  generalize (w.alloc (.cells #[.bool s, .slice A n c] 28)).alloc (.cells #[.bool false, .slice none 0 0] 28) = W1 at *
  refine (exact_any h1 h1' hn hn' h0).mono ?_
  rintro _ W4 ⟨s4, A4, m4, c4, z4, kk, rfl, ho4, hz4, hb4⟩
  have HZ4 := Lib.hid (show z4 = exq z' z by
    unfold exq
    rcases hz4.out with ⟨e1, e2, _⟩ | ⟨e1, e2, _⟩
    · rw [if_pos e1, e2]
    · rw [if_neg e1, e2])
  have hR4 := hR.next hb4
  have hB4 := hB.trans (hb4.mono hB.size)
  have HS1 := Lib.hid hR.lt
  obtain ⟨W5, HW5⟩ : ∃ W, W = W4.alloc (.cells #[.bool s4, .slice A4 m4 c4] 28) := ⟨_, rfl⟩
  have hb5 : Below W4.heap.size W4 W5 := by rw [HW5]; exact (Below.refl W4.heap.size W4).alloc (Nat.le_refl _) _
  have hX5 : ZC W5 W4.heap.size s4 A4 m4 c4 := by rw [HW5]; exact ZC.new W4 s4 A4 m4 c4
  have hR5 := hR4.next hb5
  have hB5 := hB4.trans (hb5.mono hB4.size)
  have hd0 := hR5.c0
  have hd1 := hR5.c1
  have hf0 := hR5.fz 0
  have hf1 := hR5.fz 1
  have hx0 := hX5.c0
  have hx1 := hX5.c1
  have ho5 := ho4.next hb5
  have HO5 := Lib.hid ho5
  have HB5 := Lib.hid hB5
  have HR5 := Lib.hid hR5
  clear hb4 hZ hR hC1 hC hz4 ho4 ho5 hb5 hX5 hR4 hR5 hB4 hB5 hB h h' h1 h1'
  rw [HW5] at hd0 hd1 hf0 hf1 hx0 hx1
  have HW5 := Lib.hid HW5
  clear hc0 hc1 hz0 hz1
  go_wp2
  rw [← HW5.out]
  clear HW5
  clear HW5
  have hp := put_int HR5.out HB5.out (Nat.le_succ _) HO5.out HS1.out
  generalize (W5.setCell ⟨w.heap.size + 1, 0, none⟩ (.bool s4)).setCell ⟨w.heap.size + 1, 1, none⟩ (.slice A4 m4 c4) = W6 at hp ⊢
  obtain ⟨hZ6, ho6, hB6⟩ := hp
  exact bodyPost_ret (by simp [results, Tryz.results189, go_sem, hZ6.c0, hZ6.c1]) rfl ⟨_, _, _, _, _, rfl, ho6.base (Nat.le_of_lt HSZ.out), HZ4, hB6⟩

set_option maxHeartbeats 1000000 in
theorem by_any {N : Nat} {s : Bool} {A A' : Option Addr} {n c n' c' : Nat} {L : List Int} {z : Int} {w : World} (h : RdZs w w.heap.size N A n c L) (h' : RdZ w w.heap.size s A' n' c' z) (hn : n ≤ 4398046511103) (hn' : n' ≤ 1000000000000) (hN : N ≤ 1000000000000) (h0 : z ≠ 0) :
    Calls Tryz.prog 87 #[.slice A n c, .agg #[.bool s, .slice A' n' c']] w (RetL (L.map (exq z)) w) := by
  have hEN := enters_of Tryz.func189 (by kernel_rfl) rfl
  have hZ := ZC.new w s A' n' c'
  have hB : Below w.heap.size w (w.alloc (.cells #[.bool s, .slice A' n' c'] 28)) := (Below.refl w.heap.size w).alloc (Nat.le_refl _) _
  go_enter Tryz.func87, Tryz.ntmps87
  go_wp2_with fail
  generalize w.alloc (.cells #[.bool s, .slice A' n' c'] 28) = W1 at *
  refine (mapped_cap (N := N) (exq z) (h.next hB) hn hEN (fun W s2 A2 m c2 x hb hr hm => byIn_any hr (hZ.next hb) ((h'.next hB).next hb) (Nat.le_trans hm hN) hn' h0)).mono ?_
  rintro _ W2 ⟨A2, n2, c2, M2, rfl, ho2, hM2, hb2⟩
  have hB2 := hB.trans (hb2.mono hB.size)
  go_wp2
  go_ret
  exact ⟨_, _, _, M2, rfl, ho2.base hB.size, hM2, hB2⟩

/-- A number and a polynomial. -/
def RetPr (cv : Int) (Q : List Int) (w : World) (e : Ending) (w' : World) : Prop :=
  ∃ (s : Bool) (A : Option Addr) (n c : Nat) (y : Int) (A' : Option Addr) (n' c' : Nat) (Q' : List Int), e = .returned (.tuple #[.agg #[.bool s, .slice A n c], .slice A' n' c']) ∧ OwZ w' w.heap.size s A n c y ∧ OwZs w' w.heap.size A' n' c' Q' ∧ Hid (y = cv ∧ Q' = Q) ∧ Below w.heap.size w w'

set_option maxRecDepth 100000 in
set_option maxHeartbeats 4000000 in
theorem zprim_any {N : Nat} {A : Option Addr} {n c : Nat} {L M : List Int} {w : World} (h : RdZs w w.heap.size N A n c L) (hM : Pz.IsP (Pz.co L) M) (hn : n ≤ 4398046511103) (hN : N ≤ 1000000000000) :
    Calls Tryz.prog 14 #[.slice A n c] w (RetPr (prC M) (M.map fun z => z.tdiv (prC M)) w) := by
  have HM := Lib.hid hM
  have HL := Lib.hid h.len
  have HC := Lib.hid (zl_co h)
  have hR := ZC.new w false none 0 0
  have hB1 : Below w.heap.size w (w.alloc (.cells #[.bool false, .slice none 0 0] 28)) := (Below.refl _ _).alloc (Nat.le_refl _) _
  have h1 := h.next hB1
  clear h hM
  go_enter Tryz.func14, Tryz.ntmps14
  go_wp2_with fail
  generalize w.alloc (.cells #[.bool false, .slice none 0 0] 28) = W1 at *
  refine (znorm_any h1 hn (by omega)).mono ?_
  rintro _ W2 ⟨A2, n2, c2, M2, rfl, ho2, hM2, hb2⟩
  obtain rfl := hM2.out.unique HM.out
  have HE := Lib.hid (show M2.length = n2 from ho2.len)
  have hR2 := hR.next hb2
  have hB2 := hB1.trans (hb2.mono hB1.size)
  have HS1 := Lib.hid hR.lt
  have f0 := hR2.fz 0
  have f1 := hR2.fz 1
  have k0 := hR2.c0
  have k1 := hR2.c1
  rcases Nat.eq_zero_or_pos n2 with e0 | e0
  · subst e0
    have HV := Lib.hid (show M2 = [] from List.eq_nil_of_length_eq_zero HE.out)
    have hZ6 := hR2.store false none 0 0
    have HB6 := Lib.hid ((hB2.setCell (p := ⟨w.heap.size, 0, none⟩) (Nat.le_refl _) (.bool false)).setCell (p := ⟨w.heap.size, 1, none⟩) (Nat.le_refl _) (.slice none 0 0))
    clear h1 ho2 hR2 hR hB1 hB2 hb2
    go_wp2_with fail
    generalize (W2.setCell ⟨w.heap.size, 0, none⟩ (.bool false)).setCell ⟨w.heap.size, 1, none⟩ (.slice none 0 0) = W6 at *
    exact bodyPost_ret (by simp [results, Tryz.results14, go_sem, hZ6.c0, hZ6.c1]) rfl ⟨_, _, _, _, _, _, _, _, _, rfl, OwZ.zero _ _, OwZs.nil _ _, Lib.hid (by rw [HV.out]; exact ⟨prC_nil.symm, rfl⟩), HB6.out⟩
  · obtain ⟨m, hm⟩ : ∃ m, n2 = m + 1 := ⟨n2 - 1, by omega⟩
    have HMM := Lib.hid hm
    have hmlt' : m < n2 := by omega
    have hb : ((n2 : Int) == 0) = false := by simp; omega
    have hmi : (n2 : Int) - 1 = (m : Int) := by omega
    have hmlt : (m : Int) < (n2 : Int) := by omega
    have hnb : n2 ≤ 4398046511103 := by
      have h5 := HM.out.len (k := n) fun i hi => Pz.co_ge (by rw [HL.out]; exact hi)
      have := HE.out
      omega
    have hmb : m ≤ 4398046511103 := by omega
    have HV := Lib.hid (show m = M2.length - 1 by rw [HE.out, HMM.out]; rfl)
    have HNE := Lib.hid (show M2 ≠ [] from fun e => by have := HE.out; rw [e] at this; simp at this; omega)
    have HZM := Lib.hid (show ∀ z ∈ M2, Zz.zl z ≤ N from fun z hz => by
      obtain ⟨i, _, rfl⟩ := Pz.mem_co hz
      rw [HM.out.2]; exact HC.out i)
    have hr2 := rd_of (N := N) ho2 HM.out HC.out
    clear hm e0 h1
    go_wp2_with fail
    refine (zcontent_any hr2 hN).mono ?_
    rintro _ W3 ⟨s3, A3, n3, c3, z3, rfl, ho3, hz3, hb3⟩
    obtain ⟨W4, HW4⟩ : ∃ W, W = W3.alloc (.cells #[.bool s3, .slice A3 n3 c3] 28) := ⟨_, rfl⟩
    have hb4 : Below W3.heap.size W3 W4 := by rw [HW4]; exact (Below.refl W3.heap.size W3).alloc (Nat.le_refl _) _
    have hX4 : ZC W4 W3.heap.size s3 A3 n3 c3 := by rw [HW4]; exact ZC.new W3 s3 A3 n3 c3
    have hb24 := hb3.trans (hb4.mono hb3.size)
    have HB24 := Lib.hid hb24
    have HGC := Lib.hid (show W2.heap.size ≤ W3.heap.size from hb3.size)
    have HB12 := Lib.hid hb2.size
    have ho4 := (ho3.base (b' := w.heap.size) hB2.size).next hb4
    obtain ⟨ad, s5, A5, n5, c5, x, rfl, hbk, hx0, hx1, hrx, hn5, hx⟩ := zs_at hr2 hmlt'
    have HXV := Lib.hid (show x = Pz.co M2 (M2.length - 1) by rw [← HV.out]; exact (Pz.co_get hx.out).symm)
    obtain ⟨y0, y1⟩ := zs_cells hb24 hbk hx0 hx1
    have hrx4 := hrx.next hb24
    have HO4 := Lib.hid ho4
    have HX4 := Lib.hid hX4
    have HRS := Lib.hid (show ∀ W : World, Below W2.heap.size W2 W → RdZs W W.heap.size N (some ad) n2 c2 M2 ∧ ZC W w.heap.size false none 0 0 from fun W hb => ⟨hr2.next hb, hR2.next hb⟩)
    have HB2 := Lib.hid hB2
    rw [HW4] at y0 y1
    have HW4 := Lib.hid HW4
    clear k0 k1 f0 f1 hx0 hx1 ho3 hb3 hb4 hX4 ho4 hr2 ho2 hR2 hR hB1 hB2 hb2 hb24 hrx hx
    go_wp2_with fail
    rw [← HW4.out]
    clear HW4
    clear HW4
    generalize W3.heap.size = gc at *
    refine (sign_any hrx4 (by omega)).mono ?_
    rintro _ W5 ⟨k, rfl, hk, hb5⟩
    have HB25 := Lib.hid (HB24.out.trans (hb5.mono HB24.out.size))
    have HX5 := Lib.hid (HX4.out.next hb5)
    have HO5 := Lib.hid (HO4.out.next hb5)
    have HN3 := Lib.hid (show n3 ≤ N by rw [HO4.out.len, hz3.out]; exact zl_fold M2 0 (by rw [Zz.zl_zero]; exact Nat.zero_le _) HZM.out)
    clear y0 y1 hrx4 hb5
    go_upto_if 20 with fail
    go_cut [] from 20 (fun wr => ∃ (s' : Bool) (A' : Option Addr) (n' c' : Nat) (y : Int), ZC wr gc s' A' n' c' ∧ OwZ wr w.heap.size s' A' n' c' y ∧ Hid (y = prC M2) ∧ Below W2.heap.size W2 wr)
    case first =>
      by_cases hneg : k < 0
      · have HP := Lib.hid (show -z3 = prC M2 by
          have h5 := hk.out
          rw [h5, HXV.out] at hneg
          unfold prC
          rw [if_pos (Int.sign_neg_iff.1 hneg), hz3.out])
        have a0 := HX5.out.c0
        have a1 := HX5.out.c1
        go_wp2_with fail
        refine (neg_any HO5.out.rd (by have := HN3.out; omega)).mono ?_
        rintro _ W6 ⟨s6, A6, n6, c6, z6, rfl, ho6, hz6, hb6⟩
        have hX6 := HX5.out.next hb6
        have g0 := hX6.fz 0
        have g1 := hX6.fz 1
        have b0 := hX6.c0
        have b1 := hX6.c1
        have hZ7 := hX6.store s6 A6 n6 c6
        have ho7 := (ho6.base (b' := w.heap.size) (Nat.le_trans HB2.out.size HB25.out.size)).keep (keep_set2 hX6 (.bool s6) (.slice A6 n6 c6))
        have hB7 := ((HB25.out.trans (hb6.mono HB25.out.size)).setCell (p := ⟨gc, 0, none⟩) HGC.out (.bool s6)).setCell (p := ⟨gc, 1, none⟩) HGC.out (.slice A6 n6 c6)
        have HV7 := Lib.hid (show z6 = prC M2 by rw [hz6.out, HP.out])
        have HALL := Lib.hid (And.intro hZ7 (And.intro ho7 hB7))
        clear a0 a1 hX6 hZ7 ho7 hB7 ho6 hb6
        go_wp2
        go_meet
        exact ⟨_, _, _, _, _, HALL.out.1, HALL.out.2.1, HV7, HALL.out.2.2⟩
      · have HP := Lib.hid (show z3 = prC M2 by
          have h5 := hk.out
          rw [h5, HXV.out] at hneg
          unfold prC
          rw [if_neg (mt Int.sign_neg_iff.2 hneg), hz3.out])
        have hneg' : 0 ≤ k := by omega
        clear hneg
        go_wp2
        go_meet
        exact ⟨_, _, _, _, _, HX5.out, HO5.out, HP, HB25.out⟩
    case rest =>
      clear HX5 HO5 HX4 HO4
      obtain ⟨s7, A7, n7, c7, y, hZ7, ho7, hy, hB7⟩ := hcut
      have HD := Lib.hid hB7.drew
      have HX7 := Lib.hid (And.intro hZ7 ho7)
      have a0 := hZ7.c0
      have a1 := hZ7.c1
      have HD7 := Lib.hid (Below.refl wc.heap.size wc).drew
      have HYN := Lib.hid (show n7 ≤ 1000000000000 by rw [ho7.len, hy.out]; exact Nat.le_trans (zl_prC HZM.out) hN)
      have HY0 := Lib.hid (show y ≠ 0 by rw [hy.out]; exact prC_ne HM.out.1 HNE.out)
      have HCE := Lib.hid (show ∀ W : World, Below wc.heap.size wc W → W.cell? ⟨gc, 0, none⟩ = some (.bool s7) ∧ W.cell? ⟨gc, 1, none⟩ = some (.slice A7 n7 c7) from fun W hb => ⟨(HX7.out.1.next hb).c0, (HX7.out.1.next hb).c1⟩)
      clear hZ7 ho7
      have HBC := Lib.hid hB7
      have HLT := Lib.hid (show w.heap.size < wc.heap.size from Nat.lt_of_lt_of_le HS1.out (Nat.le_trans HB12.out hB7.size))
      have HGN := Lib.hid (show gc ≠ w.heap.size by have := HS1.out; have := HB12.out; have := HGC.out; omega)
      have HF7 := Lib.hid (show ∀ W : World, Below wc.heap.size wc W → ZC ((W.setCell ⟨w.heap.size, 0, none⟩ (.bool s7)).setCell ⟨w.heap.size, 1, none⟩ (.slice A7 n7 c7)) gc s7 A7 n7 c7 from fun W hb => ((HX7.out.1.next hb).far (p := ⟨w.heap.size, 0, none⟩) HGN.out (.bool s7)).far (p := ⟨w.heap.size, 1, none⟩) HGN.out (.slice A7 n7 c7))
      clear hB7
      go_upto_region 7 with fail
      go_region_held3 (fun w' => w'.cell? ⟨gc, 0, none⟩ = some (.bool s7) ∧ w'.cell? ⟨gc, 1, none⟩ = some (.slice A7 n7 c7)) (first | exact HCE.out _ HB8.out | exact HCE.out _ HD7.out | exact ⟨(HF7.out _ HB8.out).c0, (HF7.out _ HB8.out).c1⟩)
        ((go_at_call 87; refine (by_any (HRS.out _ HD.out).1 (HX7.out.2.next HD7.out).rd hnb HYN.out hN HY0.out).mono ?_; rintro _ W8 ⟨A8, n8, c8, M8, rfl, ho8, hM8, hb8⟩; have HB8 := Lib.hid (HD7.out.trans (hb8.mono HD7.out.size)); have HR8 := Lib.hid (HRS.out _ (HBC.out.trans (HB8.out.mono HBC.out.size))).2; have r0 := HR8.out.c0; have r1 := HR8.out.c1; have r2 := HR8.out.fz 0; have r3 := HR8.out.fz 1))
      have HZ9 := Lib.hid (HR8.out.store s7 A7 n7 c7)
      have HO9 := Lib.hid ((HX7.out.2.next HB8.out).keep (keep_set2 HR8.out (.bool s7) (.slice A7 n7 c7)))
      have HQ9 := Lib.hid (((ho8.far (p := ⟨w.heap.size, 0, none⟩) HLT.out (.bool s7)).far (p := ⟨w.heap.size, 1, none⟩) HLT.out (.slice A7 n7 c7)).base (Nat.le_of_lt HLT.out))
      have HB9 := Lib.hid (((HB2.out.trans ((HBC.out.trans (HB8.out.mono HBC.out.size)).mono HB2.out.size)).setCell (p := ⟨w.heap.size, 0, none⟩) (Nat.le_refl _) (.bool s7)).setCell (p := ⟨w.heap.size, 1, none⟩) (Nat.le_refl _) (.slice A7 n7 c7))
      have HV9 := Lib.hid (show y = prC M2 ∧ M8 = M2.map fun z => z.tdiv (prC M2) from ⟨hy.out, by rw [hM8.out, hy.out]; exact map_exq (prC_dvd M2)⟩)
      clear a0 a1 r0 r1 r2 r3 ho8 hM8 hb8 hy HF7
      generalize (W8.setCell ⟨w.heap.size, 0, none⟩ (.bool s7)).setCell ⟨w.heap.size, 1, none⟩ (.slice A7 n7 c7) = W9 at *
      have z0 := HZ9.out.c0
      have z1 := HZ9.out.c1
      go_wp2
      exact bodyPost_ret (by simp [results, Tryz.results14, go_sem, z0, z1]) rfl ⟨_, _, _, _, _, _, _, _, _, rfl, HO9.out, HQ9.out, HV9, HB9.out⟩
end Go.Proofs.YtipbpdiahemmpaaGreat

/- Reference 07: content, the primitive part. -/
namespace Go.Proofs.YtipbpdiahemmpaaGreat
open Go.RowKit Go.IntWalk
attribute [local go_sem ↓] Go.wp_at_zero Go.wp_at_succ

set_option maxRecDepth 100000 in
set_option maxHeartbeats 2000000 in
theorem rGcdAll_any {N : Nat} {A : Option Addr} {n c : Nat} {L : List Int} {w : World} (h : RdZs w w.heap.size N A n c L) (hN : N ≤ 1000000000000) :
    Calls Tryz.prog 97 #[.slice A n c] w (RetI (gcdl L) w) := by
  have HLEN := Lib.hid h.len
  have hn48 : n ≤ 9223372036854775807 := by
    have h1 := h.mx
    have h2 := h.le
    unfold maxLen at h1
    omega
  obtain ⟨hR, hZ, hB⟩ := two_boxes w false none 0 0 false none 0 0
  go_enter Tryz.func97, Tryz.ntmps97
  go_wp2_with fail
  generalize (w.alloc (.cells #[.bool false, .slice none 0 0] 28)).alloc (.cells #[.bool false, .slice none 0 0] 28) = W1 at *
  have HS1 := Lib.hid hZ.lt
  go_loopw [9] (fun iv wr => ∃ (j : Nat) (s : Bool) (A' : Option Addr) (n' c' : Nat) (y : Int), iv = .int .i64 j ∧ j ≤ n ∧ ZC wr (w.heap.size + 1) s A' n' c' ∧ ZC wr w.heap.size false none 0 0 ∧ Hid (W1.heap.size ≤ wr.heap.size) ∧ OwZ wr W1.heap.size s A' n' c' y ∧ n' ≤ N ∧ Hid (y = (L.take j).foldl (fun (g x : Int) => (Int.gcd g x : Int)) 0) ∧ Below w.heap.size w wr) (fun iv _ => n - (intOf iv).toNat)
  case atStart => exact ⟨0, false, none, 0, 0, 0, rfl, Nat.zero_le _, hZ, hR, Lib.hid (Nat.le_refl _), OwZ.zero _ _, Nat.zero_le _, Lib.hid rfl, hB⟩
  case round =>
    clear hZ hR hB
    obtain ⟨j, s, A', n', c', y, rfl, hj, hZ, hR, HB1, ho, hn', hy, hB⟩ := hrel
    by_cases hjn : j = n
    · subst hjn
      have hc0 := hZ.c0
      have hc1 := hZ.c1
      have hr0 := hR.c0
      have hr1 := hR.c1
      have hf0 := hR.fz 0
      have hf1 := hR.fz 1
      go_wp2
      have hp := put_int hR hB (Nat.le_refl _) ho (Nat.lt_trans (Nat.lt_succ_self _) HS1.out)
      generalize (wr.setCell ⟨w.heap.size, 0, none⟩ (.bool s)).setCell ⟨w.heap.size, 1, none⟩ (.slice A' n' c') = W5 at hp ⊢
      obtain ⟨hZ5, ho5, hB5⟩ := hp
      exact bodyPost_ret (by simp [results, Tryz.results97, go_sem, hZ5.c0, hZ5.c1]) rfl ⟨_, _, _, _, _, rfl, ho5.base (by have := HS1.out; omega), Lib.hid (by rw [hy.out, List.take_of_length_le (by rw [HLEN.out]; exact Nat.le_refl _)]), hB5⟩
    · have hjl : j < n := by omega
      clear hjn
      obtain ⟨x, hx⟩ := zs_get (L := L) (j := j) (by rw [HLEN.out]; exact hjl)
      obtain ⟨ad, s2, A2, n2, c2, rfl, hbk, hx0, hx1, hr, hn2⟩ := h.at_ j x hx
      have hx0' := (hB.cell (p := ad.add (j * 2)) (by rw [add_blk]; exact hbk)).trans hx0
      have hx1' := (hB.cell (p := ⟨(ad.add (j * 2)).block, (ad.add (j * 2)).off + 1, none⟩) (by show (ad.add (j * 2)).block < _; rw [add_blk]; exact hbk)).trans hx1
      have hjl' : (j : Int) < (n : Int) := by omega
      obtain ⟨W2, HW2⟩ : ∃ W, W = wr.alloc (.cells #[.bool s2, .slice A2 n2 c2] 28) := ⟨_, rfl⟩
      have hX : ZC W2 wr.heap.size s2 A2 n2 c2 := by rw [HW2]; exact ZC.new wr s2 A2 n2 c2
      have hb2 : Below wr.heap.size wr W2 := by rw [HW2]; exact (Below.refl wr.heap.size wr).alloc (Nat.le_refl _) _
      have hZ2 := hZ.next hb2
      have hc0 := hZ2.c0
      have hc1 := hZ2.c1
      have hd0 := hX.c0
      have hd1 := hX.c1
      rw [HW2] at hc0 hc1 hd0 hd1
      have HW2 := Lib.hid HW2
      go_wp2_with fail
      clear hc0 hc1 hd0 hd1
      rw [← HW2.out]
      clear HW2
      have hR2 := hR.next hb2
      have hB2 := hB.trans (hb2.mono hB.size)
      have hr2 := (hr.next hB2)
      have ho2 := ho.next hb2
      refine (rIGcd_any ho2.rd hr2 (by omega) (by omega)).mono ?_
      rintro _ W3 ⟨s3, A3, m3, c3, z3, rfl, ho3, hz3, hb3⟩
      have hZ3 := hZ2.next hb3
      have hR3 := hR2.next hb3
      have hB3 := hB2.trans (hb3.mono hB2.size)
      have hc0 := hZ3.c0
      have hc1 := hZ3.c1
      have hf0 := hZ3.fz 0
      have hf1 := hZ3.fz 1
      have HS2 := Lib.hid (show w.heap.size + 1 < W2.heap.size from hZ2.lt)
      have HZL := Lib.hid (show m3 ≤ N by
        rw [ho3.len, hz3.out]
        have e1 := Zz.zl_gcd y x
        have e2 := hr.len
        have e3 := ho.len
        omega)
      have HFO := Lib.hid (show z3 = (L.take (j + 1)).foldl (fun (g x : Int) => (Int.gcd g x : Int)) 0 by rw [foldl_take hx, hz3.out, hy.out])
      have HB12 := Lib.hid (show W1.heap.size ≤ W2.heap.size from Nat.le_trans HB1.out hb2.size)
      have HB23 := Lib.hid hb3.size
      clear hx hx0 hx1 hx0' hx1' hr hr2 hZ hZ2 hX hR hR2 hb2 hb3 ho ho2 hy hz3
      go_wp2
      have hp := put_int hZ3 hB3 (Nat.le_succ _) ho3 HS2.out
      have HS5 := Lib.hid (show W2.heap.size ≤ ((W3.setCell ⟨w.heap.size + 1, 0, none⟩ (.bool s3)).setCell ⟨w.heap.size + 1, 1, none⟩ (.slice A3 m3 c3)).heap.size by simpa using HB23.out)
      have hR5 := (hR3.far (p := ⟨w.heap.size + 1, 0, none⟩) (by simp) (.bool s3)).far (p := ⟨w.heap.size + 1, 1, none⟩) (by simp) (.slice A3 m3 c3)
      generalize (W3.setCell ⟨w.heap.size + 1, 0, none⟩ (.bool s3)).setCell ⟨w.heap.size + 1, 1, none⟩ (.slice A3 m3 c3) = W5 at hp hR5 HS5 ⊢
      obtain ⟨hZ5, ho5, hB5⟩ := hp
      have HB15 : W1.heap.size ≤ W5.heap.size := Nat.le_trans HB12.out HS5.out
      go_roundw
      case rel => exact ⟨j + 1, s3, A3, m3, c3, z3, by go_num, by omega, hZ5, hR5, Lib.hid HB15, ho5.base HB12.out, HZL.out, HFO.out, hB5⟩
      case measure => simp [intOf]; omega

set_option maxHeartbeats 1000000 in
theorem rzContent_any {N : Nat} {A : Option Addr} {n c : Nat} {L : List Int} {w : World} (h : RdZs w w.heap.size N A n c L) (hN : N ≤ 1000000000000) :
    Calls Tryz.prog 26 #[.slice A n c] w (RetI (gcdl L) w) := by
  obtain ⟨W1, HW1⟩ : ∃ W, W = w.alloc (.cells #[.bool false, .slice none 0 0] 28) := ⟨_, rfl⟩
  have hR : ZC W1 w.heap.size false none 0 0 := by rw [HW1]; exact ZC.new w false none 0 0
  have hB : Below w.heap.size w W1 := by rw [HW1]; exact (Below.refl w.heap.size w).alloc (Nat.le_refl _) _
  have HW1 := Lib.hid HW1
  have h1 := h.next hB
  go_enter Tryz.func26, Tryz.ntmps26
  go_wp2_with fail
  rw [← HW1.out]
  clear HW1
  clear HW1
  refine (rGcdAll_any h1 hN).mono ?_
  rintro _ W3 ⟨s3, A3, m3, c3, z3, rfl, ho3, hz3, hb3⟩
  have hR3 := hR.next hb3
  have hB3 := hB.trans (hb3.mono hB.size)
  have HS1 := Lib.hid hR.lt
  have hc0 := hR3.c0
  have hc1 := hR3.c1
  have hf0 := hR3.fz 0
  have hf1 := hR3.fz 1
  clear hb3 hR h1 h
  go_wp2
  have hp := put_int hR3 hB3 (Nat.le_refl _) ho3 HS1.out
  generalize (W3.setCell ⟨w.heap.size, 0, none⟩ (.bool s3)).setCell ⟨w.heap.size, 1, none⟩ (.slice A3 m3 c3) = W5 at hp ⊢
  obtain ⟨hZ5, ho5, hB5⟩ := hp
  exact bodyPost_ret (by simp [results, Tryz.results26, go_sem, hZ5.c0, hZ5.c1]) rfl ⟨_, _, _, _, _, rfl, ho5.base (Nat.le_of_lt HS1.out), hz3, hB5⟩

set_option maxRecDepth 100000 in
set_option maxHeartbeats 8000000 in
theorem rzPrim_any {N : Nat} {A : Option Addr} {n c : Nat} {L M : List Int} {w : World} (h : RdZs w w.heap.size N A n c L) (hM : Pz.IsP (Pz.co L) M) (hn : n ≤ 4398046511103) (hN : N ≤ 1000000000000) :
    Calls Tryz.prog 15 #[.slice A n c] w (RetPr (prC M) (M.map fun z => z.tdiv (prC M)) w) := by
  have HM := Lib.hid hM
  have HL := Lib.hid h.len
  have HC := Lib.hid (zl_co h)
  obtain ⟨i0, hi, hz0, hz1, hz2⟩ := info_parts infoZ
  have hR := ZC.new w false none 0 0
  have hB1 : Below w.heap.size w (w.alloc (.cells #[.bool false, .slice none 0 0] 28)) := (Below.refl _ _).alloc (Nat.le_refl _) _
  have h1 := h.next hB1
  clear h hM
  go_enter Tryz.func15, Tryz.ntmps15
  go_wp2_with fail
  generalize w.alloc (.cells #[.bool false, .slice none 0 0] 28) = W1 at *
  refine (rzContent_any h1 hN).mono ?_
  rintro _ W2 ⟨s2, A2, n2, c2, z2, rfl, ho2, hz2, hb2⟩
  obtain ⟨W3, HW3⟩ : ∃ W, W = W2.alloc (.cells #[.bool s2, .slice A2 n2 c2] 28) := ⟨_, rfl⟩
  have hb3 : Below W2.heap.size W2 W3 := by rw [HW3]; exact (Below.refl W2.heap.size W2).alloc (Nat.le_refl _) _
  have hX3 : ZC W3 W2.heap.size s2 A2 n2 c2 := by rw [HW3]; exact ZC.new W2 s2 A2 n2 c2
  have hb13 := hb2.trans (hb3.mono hb2.size)
  have HGC := Lib.hid (show W1.heap.size ≤ W2.heap.size from hb2.size)
  have HRS := Lib.hid (show ∀ W : World, Below W1.heap.size W1 W → RdZs W W.heap.size N A n c L ∧ ZC W w.heap.size false none 0 0 from fun W hb => ⟨h1.next hb, hR.next hb⟩)
  have HB1 := Lib.hid hB1
  have HB13 := Lib.hid hb13
  have ho3 := (ho2.base (b' := w.heap.size) hB1.size).next hb3
  have HS1 := Lib.hid hR.lt
  have HZV := Lib.hid (show z2 = gcdl M by rw [hz2.out]; exact gcdl_congr fun i => (HM.out.2 i).symm)
  have HZM := Lib.hid (show ∀ z ∈ M, Zz.zl z ≤ N from fun z hz => by
    obtain ⟨i, _, rfl⟩ := Pz.mem_co hz
    rw [HM.out.2]; exact HC.out i)
  have HN2 := Lib.hid (show n2 ≤ N by rw [ho2.len, HZV.out]; exact zl_fold M 0 (by rw [Zz.zl_zero]; exact Nat.zero_le _) HZM.out)
  have HW3 := Lib.hid HW3
  clear h1 hR ho2 hb2 hb3 hb13 hB1 hz2
  go_wp2_with fail
  rw [← HW3.out]
  clear HW3
  clear HW3
  generalize W2.heap.size = gc at *
  refine (rISign_any ho3.rd (by have := HN2.out; omega)).mono ?_
  rintro _ W4 ⟨k, rfl, hk, hb4⟩
  have HB14 := Lib.hid (HB13.out.trans (hb4.mono HB13.out.size))
  have hX4 := hX3.next hb4
  have ho4 := ho3.next hb4
  have HK := Lib.hid (show k = 0 ↔ M = [] by rw [hk.out, Int.sign_eq_zero_iff_zero, HZV.out]; exact gcdl_zero HM.out.1)
  clear hb4 hX3 ho3 hk
  by_cases hk0 : k = 0
  · have HV := Lib.hid (HK.out.1 hk0)
    subst hk0
    have HR4 := Lib.hid (HRS.out _ HB14.out).2
    have f0 := HR4.out.fz 0
    have f1 := HR4.out.fz 1
    have k0 := HR4.out.c0
    have k1 := HR4.out.c1
    have hZ6 := HR4.out.store false none 0 0
    have HB6 := Lib.hid (((HB1.out.trans (HB14.out.mono HB1.out.size)).setCell (p := ⟨w.heap.size, 0, none⟩) (Nat.le_refl _) (.bool false)).setCell (p := ⟨w.heap.size, 1, none⟩) (Nat.le_refl _) (.slice none 0 0))
    clear ho4 hX4
    go_wp2_with fail
    generalize (W4.setCell ⟨w.heap.size, 0, none⟩ (.bool false)).setCell ⟨w.heap.size, 1, none⟩ (.slice none 0 0) = W6 at *
    exact bodyPost_ret (by simp [results, Tryz.results15, go_sem, hZ6.c0, hZ6.c1]) rfl ⟨_, _, _, _, _, _, _, _, _, rfl, OwZ.zero _ _, OwZs.nil _ _, Lib.hid (by rw [HV.out]; exact ⟨prC_nil.symm, rfl⟩), HB6.out⟩
  · have HNE := Lib.hid (mt HK.out.2 hk0)
    have hkb : (k == 0) = false := by simpa using hk0
    clear hk0
    go_wp2_with fail
    refine (rzLead_ri (HRS.out _ HB14.out).1 HM.out hn (by omega)).mono ?_
    rintro _ W5 ⟨s5, A5, n5, c5, x, rfl, ho5, hx, hb5⟩
    have HN5 := Lib.hid (show n5 ≤ 17592186044416 by
      rw [ho5.len, hx.out, HM.out.2]
      have := HC.out (M.length - 1)
      omega)
    have hX5 := hX4.next hb5
    have ho5c := ho4.next hb5
    clear hX4 ho4
    go_wp2_with fail
    refine (rISign_any ho5.rd HN5.out).mono ?_
    rintro _ W6 ⟨k6, rfl, hk6, hb6⟩
    have HX6 := Lib.hid (hX5.next hb6)
    have HO6 := Lib.hid (ho5c.next hb6)
    have hb46 := hb5.trans (hb6.mono hb5.size)
    have HB16 := Lib.hid (HB14.out.trans (hb46.mono HB14.out.size))
    clear ho5 hX5 ho5c hb5 hb6 hb46
    go_upto_if 19 with fail
    go_cut [] from 19 (fun wr => ∃ (s' : Bool) (A' : Option Addr) (n' c' : Nat) (y : Int), ZC wr gc s' A' n' c' ∧ OwZ wr w.heap.size s' A' n' c' y ∧ Hid (y = prC M) ∧ Below W1.heap.size W1 wr)
    case first =>
      by_cases hneg : k6 < 0
      · have HP := Lib.hid (show -z2 = prC M by
          have h5 := hk6.out
          rw [h5, hx.out] at hneg
          unfold prC
          rw [if_pos (Int.sign_neg_iff.1 hneg), HZV.out])
        have a0 := HX6.out.c0
        have a1 := HX6.out.c1
        go_wp2_with fail
        refine (rINeg_any HO6.out.rd (by have := HN2.out; omega)).mono ?_
        rintro _ W7 ⟨s7, A7, n7, c7, z7, rfl, ho7, hz7, hb7⟩
        have hX7 := HX6.out.next hb7
        have g0 := hX7.fz 0
        have g1 := hX7.fz 1
        have b0 := hX7.c0
        have b1 := hX7.c1
        have hZ8 := hX7.store s7 A7 n7 c7
        have ho8 := (ho7.base (b' := w.heap.size) (Nat.le_trans HB1.out.size HB16.out.size)).keep (keep_set2 hX7 (.bool s7) (.slice A7 n7 c7))
        have hB8 := ((HB16.out.trans (hb7.mono HB16.out.size)).setCell (p := ⟨gc, 0, none⟩) HGC.out (.bool s7)).setCell (p := ⟨gc, 1, none⟩) HGC.out (.slice A7 n7 c7)
        have HV8 := Lib.hid (show z7 = prC M by rw [hz7.out, HP.out])
        have HALL := Lib.hid (And.intro hZ8 (And.intro ho8 hB8))
        clear a0 a1 hX7 hZ8 ho8 hB8 ho7 hb7
        go_wp2
        go_meet
        exact ⟨_, _, _, _, _, HALL.out.1, HALL.out.2.1, HV8, HALL.out.2.2⟩
      · have HP := Lib.hid (show z2 = prC M by
          have h5 := hk6.out
          rw [h5, hx.out] at hneg
          unfold prC
          rw [if_neg (mt Int.sign_neg_iff.2 hneg), HZV.out])
        have hneg' : 0 ≤ k6 := by omega
        clear hneg
        go_wp2
        go_meet
        exact ⟨_, _, _, _, _, HX6.out, HO6.out, HP, HB16.out⟩
    case rest =>
      clear HX6 HO6
      obtain ⟨s7, A7, n7, c7, y, hZ7, ho7, hy, hB7⟩ := hcut
      have HX7 := Lib.hid (And.intro hZ7 ho7)
      have HB7 := Lib.hid hB7
      have HYN := Lib.hid (show n7 ≤ 4398046511103 by rw [ho7.len, hy.out]; exact Nat.le_trans (zl_prC HZM.out) (by omega))
      have HY0 := Lib.hid (show y ≠ 0 by rw [hy.out]; exact prC_ne HM.out.1 HNE.out)
      clear hZ7 ho7 hB7
      go_wp2_with fail
      refine (rzNorm_any (HRS.out _ HB7.out).1 hn (by omega)).mono ?_
      rintro _ W8 ⟨A8, n8, c8, M8, rfl, ho8, hM8, hb8⟩
      obtain rfl := hM8.out.unique HM.out
      have HLM := Lib.hid ho8.len
      have hn8 : n8 ≤ 4398046511103 := by
        rw [← HLM.out]
        exact Nat.le_trans (HM.out.len fun i hi => Pz.co_ge (by rw [HL.out]; exact hi)) hn
      have hr8 := rd_of (N := N) ho8 HM.out HC.out
      have HB18 := Lib.hid (HB7.out.trans (hb8.mono HB7.out.size))
      have HX8 := Lib.hid (And.intro (HX7.out.1.next hb8) (HX7.out.2.next hb8))
      have HLT := Lib.hid (show w.heap.size < W8.heap.size from Nat.lt_of_lt_of_le HS1.out HB18.out.size)
      clear ho8 hM8 hb8
      go_wp2_with fail
      go_loopw [5, 25] (fun ov iv wr => ∃ (j c' : Nat) (A' : Option Addr) (Q : List Int), ov = .slice A' j c' ∧ iv = .int .i64 j ∧ j ≤ n8 ∧ OwZs wr W8.heap.size A' j c' Q ∧ Hid (Q = (M8.take j).map (exq y)) ∧ Below W8.heap.size W8 wr) (fun _ iv _ => n8 - (intOf iv).toNat)
      case atStart => exact ⟨0, 0, none, [], rfl, rfl, Nat.zero_le _, OwZs.nil _ _, Lib.hid rfl, Below.refl _ _⟩
      case round =>
        obtain ⟨j, c', A', Q, rfl, rfl, hj, ho, hQ, hB⟩ := hrel
        by_cases hjn : j = n8
        · subst hjn
          have HX9 := Lib.hid (HX8.out.1.next hB)
          have HR9 := Lib.hid (HRS.out _ (HB18.out.trans (hB.mono HB18.out.size))).2
          have HZ9 := Lib.hid (HR9.out.store s7 A7 n7 c7)
          have HO9 := Lib.hid ((HX8.out.2.next hB).keep (keep_set2 HR9.out (.bool s7) (.slice A7 n7 c7)))
          have HQ9 := Lib.hid (((ho.far (p := ⟨w.heap.size, 0, none⟩) HLT.out (.bool s7)).far (p := ⟨w.heap.size, 1, none⟩) HLT.out (.slice A7 n7 c7)).base (Nat.le_of_lt HLT.out))
          have HB9 := Lib.hid (((HB1.out.trans ((HB18.out.trans (hB.mono HB18.out.size)).mono HB1.out.size)).setCell (p := ⟨w.heap.size, 0, none⟩) (Nat.le_refl _) (.bool s7)).setCell (p := ⟨w.heap.size, 1, none⟩) (Nat.le_refl _) (.slice A7 n7 c7))
          have HV9 := Lib.hid (show y = prC M8 ∧ Q = M8.map fun z => z.tdiv (prC M8) from ⟨hy.out, by rw [hQ.out, List.take_of_length_le (by rw [HLM.out]; exact Nat.le_refl _), hy.out]; exact map_exq (prC_dvd M8)⟩)
          have x0 := HX9.out.c0
          have x1 := HX9.out.c1
          have r0 := HR9.out.c0
          have r1 := HR9.out.c1
          have r2 := HR9.out.fz 0
          have r3 := HR9.out.fz 1
          clear ho hB hQ hy
          go_wp2_with fail
          generalize (wr.setCell ⟨w.heap.size, 0, none⟩ (.bool s7)).setCell ⟨w.heap.size, 1, none⟩ (.slice A7 n7 c7) = W9 at *
          have z0 := HZ9.out.c0
          have z1 := HZ9.out.c1
          exact bodyPost_ret (by simp [results, Tryz.results15, go_sem, z0, z1]) rfl ⟨_, _, _, _, _, _, _, _, _, rfl, HO9.out, HQ9.out, HV9, HB9.out⟩
        · have hjl : j < n8 := by omega
          clear hjn
          have hjli : (j : Int) < (n8 : Int) := by omega
          obtain ⟨ad, s1, A1, n1, c1, z, rfl, hbk, hx0, hx1, hr, hn1, hz⟩ := zs_at hr8 hjl
          obtain ⟨hy0, hy1⟩ := zs_cells hB hbk hx0 hx1
          obtain ⟨W9, HW9⟩ : ∃ W, W = wr.alloc (.cells #[.bool s1, .slice A1 n1 c1] 28) := ⟨_, rfl⟩
          have hb9 : Below wr.heap.size wr W9 := by rw [HW9]; exact (Below.refl wr.heap.size wr).alloc (Nat.le_refl _) _
          have hB9 := hB.trans (hb9.mono hB.size)
          have hX9 := HX8.out.1.next hB9
          have hV9 : ZC W9 wr.heap.size s1 A1 n1 c1 := by rw [HW9]; exact ZC.new wr s1 A1 n1 c1
          have d0 := hX9.c0
          have d1 := hX9.c1
          have e0 := hV9.c0
          have e1 := hV9.c1
          rw [HW9] at d0 d1 e0 e1
          have HO := Lib.hid (ho.next hb9)
          have HRZ := Lib.hid (And.intro (hr.next hB9) (HX8.out.2.next hB9))
          have HB9 := Lib.hid hB9
          have HW9 := Lib.hid HW9
          have HN1 := Lib.hid (show n1 ≤ 4398046511103 by omega)
          clear ho hB hb9 hB9 hX9 hV9 hr hx0 hx1
          go_wp2_with fail
          rw [← HW9.out]
          clear HW9 hy0 hy1 d0 d1 e0 e1
          clear HW9
          refine (rIExact_any HRZ.out.1 HRZ.out.2.rd HN1.out HYN.out HY0.out).mono ?_
          rintro _ W3 ⟨s3, A3, m3, c3, z3, kk, rfl, ho3, hz3, hb3⟩
          have HZ3 := Lib.hid (show z3 = exq y z by
            unfold exq
            rcases hz3.out with ⟨f1, f2, _⟩ | ⟨f1, f2, _⟩
            · rw [if_pos f1, f2]
            · rw [if_neg f1, f2])
          have hB3 := HB9.out.trans (hb3.mono HB9.out.size)
          obtain ⟨W4, HW4⟩ : ∃ W, W = W3.alloc (.cells #[.bool s3, .slice A3 m3 c3] 28) := ⟨_, rfl⟩
          have hb4 : Below W3.heap.size W3 W4 := by rw [HW4]; exact (Below.refl W3.heap.size W3).alloc (Nat.le_refl _) _
          have hB4 := hB3.trans (hb4.mono hB3.size)
          obtain ⟨E, hE, hEl, hEn⟩ := (HO.out.next hb3).next hb4
          have HO4 := Lib.hid ((ho3.base HB9.out.size).next hb4)
          rw [HW4] at hE hB4
          have HE := Lib.hid hE
          have HEN := Lib.hid (And.intro hEl hEn)
          have HM2 := Lib.hid (show Q ++ [z3] = (M8.take (j + 1)).map (exq y) by rw [hQ.out, HZ3.out]; exact map_snoc hz.out)
          have HB4 := Lib.hid hB4
          have HW4 := Lib.hid HW4
          clear hE hEl hEn hb3 ho3 hb4 hB3 hB4 hz3
          go_wp2_with (at_builtin; go_loud (refine wpList_append_own _ rfl _ _ 23 rfl W8.heap.size 28 i0 (.agg #[.bool false, .slice none 0 0]) 2 32 Tryz.underlying23 hi hz0 hz1 hz2 rfl (by decide) _ _ _ rfl (HE.out.alloc _) ⟨W3.heap.size + 1, 0, none⟩ 1 1 [.bool s3, .slice A3 m3 c3] rfl rfl (by simpa using zcell_new (W3.alloc (.cells #[.bool s3, .slice A3 m3 c3] 28)) (.bool s3) (.slice A3 m3 c3) 28) (by simp [Value.oneCell']) (by unfold maxLen; omega) (by omega) (by have := HB4.out.size; simp at this ⊢; omega) ?_); intro v' w1 hown' hgrow _)
          have hmore := zs_more (e := (s3, A3, m3, c3)) (z := z3) (by have := HO4.out; rw [HW4.out] at this; exact this) rfl (HE.out.alloc _) HEN.out.1 (by have := HEN.out.2; rw [HW4.out] at this; exact this) hown' hgrow
          have HB5 := Lib.hid ((HB4.out.alloc HB4.out.size (.cells #[.bool s3, .slice A3 m3 c3] 28)).grown hgrow (by have := HB4.out.size; simp at this ⊢; omega) (own_block HE.out))
          obtain ⟨A5, c5, rfl, ho5⟩ := hmore
          clear hown' hgrow HE HEN HO4
          go_wp2
          go_roundw
          case rel => exact ⟨j + 1, c5, A5, Q ++ [z3], rfl, by go_num, by omega, ho5, HM2, HB5.out⟩
          case measure => simp [intOf]; omega
end Go.Proofs.YtipbpdiahemmpaaGreat

/- Heights. -/
namespace Go.Proofs.YtipbpdiahemmpaaGreat
open Go.RowKit Go.IntWalk
attribute [local go_sem ↓] Go.wp_at_zero Go.wp_at_succ

/-- The greatest size. -/
def hgt (L : List Int) : Int := L.foldl (fun (h x : Int) => if h < (x.natAbs : Int) then (x.natAbs : Int) else h) 0
theorem hgt_take {L : List Int} {j : Nat} {x : Int} (h : L[j]? = some x) : hgt (L.take (j + 1)) = if hgt (L.take j) < (x.natAbs : Int) then (x.natAbs : Int) else hgt (L.take j) := foldl_take (f := fun (h x : Int) => if h < (x.natAbs : Int) then (x.natAbs : Int) else h) h
theorem hg_pos {z y : Int} (h : 0 < (z - y).sign) : y < z := by
  have := Int.sign_pos_iff.1 h
  omega
theorem hg_neg {z y : Int} (h : (z - y).sign ≤ 0) : ¬ y < z := fun e => by
  have := Int.sign_eq_one_of_pos (a := z - y) (by omega)
  omega

set_option maxRecDepth 100000 in
set_option maxHeartbeats 4000000 in
theorem zheight_any {N : Nat} {A : Option Addr} {n c : Nat} {L : List Int} {w : World} (h : RdZs w w.heap.size N A n c L) (hN : N ≤ 1000000000000) :
    Calls Tryz.prog 23 #[.slice A n c] w (RetI (hgt L) w) := by
  have HLEN := Lib.hid h.len
  have hn48 : n ≤ 9223372036854775807 := by
    have h1 := h.mx
    have h2 := h.le
    unfold maxLen at h1
    omega
  obtain ⟨hR, hZ, hB⟩ := two_boxes w false none 0 0 false none 0 0
  go_enter Tryz.func23, Tryz.ntmps23
  go_wp2_with fail
  generalize (w.alloc (.cells #[.bool false, .slice none 0 0] 28)).alloc (.cells #[.bool false, .slice none 0 0] 28) = W1 at *
  have HS1 := Lib.hid hZ.lt
  go_loopw [8] (fun iv wr => ∃ (j : Nat) (s : Bool) (A' : Option Addr) (n' c' : Nat) (y : Int), iv = .int .i64 j ∧ j ≤ n ∧ ZC wr (w.heap.size + 1) s A' n' c' ∧ ZC wr w.heap.size false none 0 0 ∧ Hid (W1.heap.size ≤ wr.heap.size) ∧ OwZ wr W1.heap.size s A' n' c' y ∧ n' ≤ N ∧ Hid (y = hgt (L.take j)) ∧ Below w.heap.size w wr) (fun iv _ => n - (intOf iv).toNat)
  case atStart => exact ⟨0, false, none, 0, 0, 0, rfl, Nat.zero_le _, hZ, hR, Lib.hid (Nat.le_refl _), OwZ.zero _ _, Nat.zero_le _, Lib.hid rfl, hB⟩
  case round =>
    clear hZ hR hB
    obtain ⟨j, s, A', n', c', y, rfl, hj, hZ, hR, HB1, ho, hn', hy, hB⟩ := hrel
    by_cases hjn : j = n
    · subst hjn
      have hc0 := hZ.c0
      have hc1 := hZ.c1
      have hr0 := hR.c0
      have hr1 := hR.c1
      have hf0 := hR.fz 0
      have hf1 := hR.fz 1
      go_wp2
      have hp := put_int hR hB (Nat.le_refl _) ho (Nat.lt_trans (Nat.lt_succ_self _) HS1.out)
      generalize (wr.setCell ⟨w.heap.size, 0, none⟩ (.bool s)).setCell ⟨w.heap.size, 1, none⟩ (.slice A' n' c') = W5 at hp ⊢
      obtain ⟨hZ5, ho5, hB5⟩ := hp
      exact bodyPost_ret (by simp [results, Tryz.results23, go_sem, hZ5.c0, hZ5.c1]) rfl ⟨_, _, _, _, _, rfl, ho5.base (by have := HS1.out; omega), Lib.hid (by rw [hy.out, List.take_of_length_le (by rw [HLEN.out]; exact Nat.le_refl _)]), hB5⟩
    · have hjl : j < n := by omega
      clear hjn
      obtain ⟨x, hx⟩ := zs_get (L := L) (j := j) (by rw [HLEN.out]; exact hjl)
      obtain ⟨ad, s2, A2, n2, c2, rfl, hbk, hx0, hx1, hr, hn2⟩ := h.at_ j x hx
      have hx0' := (hB.cell (p := ad.add (j * 2)) (by rw [add_blk]; exact hbk)).trans hx0
      have hx1' := (hB.cell (p := ⟨(ad.add (j * 2)).block, (ad.add (j * 2)).off + 1, none⟩) (by show (ad.add (j * 2)).block < _; rw [add_blk]; exact hbk)).trans hx1
      have hjl' : (j : Int) < (n : Int) := by omega
      obtain ⟨W2, HW2⟩ : ∃ W, W = wr.alloc (.cells #[.bool s2, .slice A2 n2 c2] 28) := ⟨_, rfl⟩
      have hX : ZC W2 wr.heap.size s2 A2 n2 c2 := by rw [HW2]; exact ZC.new wr s2 A2 n2 c2
      have hb2 : Below wr.heap.size wr W2 := by rw [HW2]; exact (Below.refl wr.heap.size wr).alloc (Nat.le_refl _) _
      have hd0 := hX.c0
      have hd1 := hX.c1
      rw [HW2] at hd0 hd1
      have HW2 := Lib.hid HW2
      go_wp2_with fail
      clear hd0 hd1
      rw [← HW2.out]
      clear HW2
      clear HW2
      have HGX := Lib.hid (show w.heap.size + 1 < wr.heap.size from Nat.lt_of_lt_of_le HS1.out HB1.out)
      have hB2 := hB.trans (hb2.mono hB.size)
      have hr2 := (hr.next hB2)
      refine (abs_any hr2 (by omega)).mono ?_
      rintro _ W3 ⟨s3, A3, m3, c3, z3, rfl, ho3, hz3, hb3⟩
      have hb13 := hb2.trans (hb3.mono hb2.size)
      have hB3 := hB.trans (hb13.mono hB.size)
      have HZL := Lib.hid (show m3 ≤ N by
        rw [ho3.len, hz3.out, Zz.zl_abs]
        exact Nat.le_trans hr.len hn2)
      have HB13 := Lib.hid (show W1.heap.size ≤ W3.heap.size from Nat.le_trans HB1.out hb13.size)
      have HB12 := Lib.hid (show W1.heap.size ≤ W2.heap.size from Nat.le_trans HB1.out hb2.size)
      have hX3 := hX.next hb3
      have hZ3 := hZ.next hb13
      have hR3 := hR.next hb13
      have ho23 := ho.next hb13
      generalize wr.heap.size = gx at *
      have hne1 : ¬ (gx = w.heap.size + 1) := by have := HGX.out; omega
      have hne2 : ¬ (w.heap.size + 1 = gx) := by have := HGX.out; omega
      have hc0 := hZ3.c0
      have hc1 := hZ3.c1
      have hg0 := hX3.c0
      have hg1 := hX3.c1
      have hf0 := hX3.fz 0
      have hf1 := hX3.fz 1
      have hX4 := hX3.store s3 A3 m3 c3
      have hZ4 := (hZ3.far (p := ⟨gx, 0, none⟩) (by simpa using hne2) (.bool s3)).far (p := ⟨gx, 1, none⟩) (by simpa using hne2) (.slice A3 m3 c3)
      have hR4 := (hR3.far (p := ⟨gx, 0, none⟩) (by have := HGX.out; simp; omega) (.bool s3)).far (p := ⟨gx, 1, none⟩) (by have := HGX.out; simp; omega) (.slice A3 m3 c3)
      have ho34 := ho3.keep (keep_set2 hX3 (.bool s3) (.slice A3 m3 c3))
      have ho4 := ho23.keep (keep_set2 hX3 (.bool s3) (.slice A3 m3 c3))
      have hB4 := (hB3.setCell (p := ⟨gx, 0, none⟩) (by have := HGX.out; simp; omega) (.bool s3)).setCell (p := ⟨gx, 1, none⟩) (by have := HGX.out; simp; omega) (.slice A3 m3 c3)
      have HB14 := Lib.hid (show W1.heap.size ≤ ((W3.setCell ⟨gx, 0, none⟩ (.bool s3)).setCell ⟨gx, 1, none⟩ (.slice A3 m3 c3)).heap.size by simpa using HB13.out)
      clear hx0' hx1' hx0 hx1 hr2 hZ hZ3 hX hX3 hR hR3 hb2 hb3 hb13 ho ho3 ho23 hB hB2 hB3
      go_wp2_with fail
      generalize (W3.setCell ⟨gx, 0, none⟩ (.bool s3)).setCell ⟨gx, 1, none⟩ (.slice A3 m3 c3) = W4 at *
      clear hc0 hc1 hf0 hf1 hg0 hg1
      refine (zcmp_any ho34.rd ho4.rd (by have := HZL.out; omega) (by omega)).mono ?_
      rintro _ W5 ⟨k, rfl, hk, hb5⟩
      have hX5 := hX4.next hb5
      have hZ5 := hZ4.next hb5
      have hR5 := hR4.next hb5
      have ho35 := ho34.next hb5
      have ho5 := ho4.next hb5
      have hB5 := hB4.trans (hb5.mono hB4.size)
      have HB15 := Lib.hid (Nat.le_trans HB14.out hb5.size)
      clear hX4 hZ4 hR4 ho34 ho4 hB4 hb5
      by_cases hk0 : 0 < k
      · have HFO := Lib.hid (show z3 = hgt (L.take (j + 1)) by rw [hgt_take hx, ← hy.out, ← hz3.out, if_pos (hg_pos (by rw [← hk.out]; exact hk0))])
        have HA := Lib.hid hX5
        have x0 := hX5.c0
        have x1 := hX5.c1
        have y0 := hZ5.c0
        have y1 := hZ5.c1
        have y2 := hZ5.fz 0
        have y3 := hZ5.fz 1
        have HY := Lib.hid (And.intro hZ5 (And.intro hR5 hB5))
        have HO := Lib.hid (ho35.base HB12.out)
        clear hX5 hZ5 hR5 hB5 ho35 ho5 hy hz3 hk
        go_wp2
        have hp := put_int HY.out.1 HY.out.2.2 (Nat.le_succ _) HO.out HS1.out
        have HS6 := Lib.hid (show W1.heap.size ≤ ((W5.setCell ⟨w.heap.size + 1, 0, none⟩ (.bool s3)).setCell ⟨w.heap.size + 1, 1, none⟩ (.slice A3 m3 c3)).heap.size by simpa using HB15.out)
        have hR6 := (HY.out.2.1.far (p := ⟨w.heap.size + 1, 0, none⟩) (by simp) (.bool s3)).far (p := ⟨w.heap.size + 1, 1, none⟩) (by simp) (.slice A3 m3 c3)
        generalize (W5.setCell ⟨w.heap.size + 1, 0, none⟩ (.bool s3)).setCell ⟨w.heap.size + 1, 1, none⟩ (.slice A3 m3 c3) = W6 at hp hR6 HS6 ⊢
        obtain ⟨hZ6, ho6, hB6⟩ := hp
        go_roundw
        case rel => exact ⟨j + 1, s3, A3, m3, c3, z3, by go_num, by omega, hZ6, hR6, HS6, ho6, HZL.out, HFO, hB6⟩
        case measure => simp [intOf]; omega
      · have hk1 : k ≤ 0 := by omega
        clear hk0
        have HFO := Lib.hid (show y = hgt (L.take (j + 1)) by rw [hgt_take hx, ← hy.out, if_neg (hg_neg (by rw [← hz3.out, ← hk.out]; exact hk1))])
        clear hX5 ho35 hz3 hk
        go_wp2
        go_roundw
        case rel => exact ⟨j + 1, s, A', n', c', y, by go_num, by omega, hZ5, hR5, HB15, ho5, hn', HFO, hB5⟩
        case measure => simp [intOf]; omega

set_option maxRecDepth 100000 in
set_option maxHeartbeats 4000000 in
theorem rzHeight_any {N : Nat} {A : Option Addr} {n c : Nat} {L : List Int} {w : World} (h : RdZs w w.heap.size N A n c L) (hN : N ≤ 1000000000000) :
    Calls Tryz.prog 24 #[.slice A n c] w (RetI (hgt L) w) := by
  have HLEN := Lib.hid h.len
  have hn48 : n ≤ 9223372036854775807 := by
    have h1 := h.mx
    have h2 := h.le
    unfold maxLen at h1
    omega
  obtain ⟨hR, hZ, hB⟩ := two_boxes w false none 0 0 false none 0 0
  go_enter Tryz.func24, Tryz.ntmps24
  go_wp2_with fail
  generalize (w.alloc (.cells #[.bool false, .slice none 0 0] 28)).alloc (.cells #[.bool false, .slice none 0 0] 28) = W1 at *
  have HS1 := Lib.hid hZ.lt
  go_loopw [10] (fun iv wr => ∃ (j : Nat) (s : Bool) (A' : Option Addr) (n' c' : Nat) (y : Int), iv = .int .i64 j ∧ j ≤ n ∧ ZC wr (w.heap.size + 1) s A' n' c' ∧ ZC wr w.heap.size false none 0 0 ∧ Hid (W1.heap.size ≤ wr.heap.size) ∧ OwZ wr W1.heap.size s A' n' c' y ∧ n' ≤ N ∧ Hid (y = hgt (L.take j)) ∧ Below w.heap.size w wr) (fun iv _ => n - (intOf iv).toNat)
  case atStart => exact ⟨0, false, none, 0, 0, 0, rfl, Nat.zero_le _, hZ, hR, Lib.hid (Nat.le_refl _), OwZ.zero _ _, Nat.zero_le _, Lib.hid rfl, hB⟩
  case round =>
    clear hZ hR hB
    obtain ⟨j, s, A', n', c', y, rfl, hj, hZ, hR, HB1, ho, hn', hy, hB⟩ := hrel
    by_cases hjn : j = n
    · subst hjn
      have hc0 := hZ.c0
      have hc1 := hZ.c1
      have hr0 := hR.c0
      have hr1 := hR.c1
      have hf0 := hR.fz 0
      have hf1 := hR.fz 1
      go_wp2
      have hp := put_int hR hB (Nat.le_refl _) ho (Nat.lt_trans (Nat.lt_succ_self _) HS1.out)
      generalize (wr.setCell ⟨w.heap.size, 0, none⟩ (.bool s)).setCell ⟨w.heap.size, 1, none⟩ (.slice A' n' c') = W5 at hp ⊢
      obtain ⟨hZ5, ho5, hB5⟩ := hp
      exact bodyPost_ret (by simp [results, Tryz.results24, go_sem, hZ5.c0, hZ5.c1]) rfl ⟨_, _, _, _, _, rfl, ho5.base (by have := HS1.out; omega), Lib.hid (by rw [hy.out, List.take_of_length_le (by rw [HLEN.out]; exact Nat.le_refl _)]), hB5⟩
    · have hjl : j < n := by omega
      clear hjn
      obtain ⟨x, hx⟩ := zs_get (L := L) (j := j) (by rw [HLEN.out]; exact hjl)
      obtain ⟨ad, s2, A2, n2, c2, rfl, hbk, hx0, hx1, hr, hn2⟩ := h.at_ j x hx
      have hx0' := (hB.cell (p := ad.add (j * 2)) (by rw [add_blk]; exact hbk)).trans hx0
      have hx1' := (hB.cell (p := ⟨(ad.add (j * 2)).block, (ad.add (j * 2)).off + 1, none⟩) (by show (ad.add (j * 2)).block < _; rw [add_blk]; exact hbk)).trans hx1
      have hjl' : (j : Int) < (n : Int) := by omega
      obtain ⟨W2, HW2⟩ : ∃ W, W = wr.alloc (.cells #[.bool s2, .slice A2 n2 c2] 28) := ⟨_, rfl⟩
      have hX : ZC W2 wr.heap.size s2 A2 n2 c2 := by rw [HW2]; exact ZC.new wr s2 A2 n2 c2
      have hb2 : Below wr.heap.size wr W2 := by rw [HW2]; exact (Below.refl wr.heap.size wr).alloc (Nat.le_refl _) _
      have hd0 := hX.c0
      have hd1 := hX.c1
      rw [HW2] at hd0 hd1
      have HW2 := Lib.hid HW2
      go_wp2_with fail
      clear hd0 hd1
      rw [← HW2.out]
      clear HW2
      clear HW2
      have HGX := Lib.hid (show w.heap.size + 1 < wr.heap.size from Nat.lt_of_lt_of_le HS1.out HB1.out)
      have hB2 := hB.trans (hb2.mono hB.size)
      have hr2 := (hr.next hB2)
      refine (rIAbs_any hr2 (by omega)).mono ?_
      rintro _ W3 ⟨s3, A3, m3, c3, z3, rfl, ho3, hz3, hb3⟩
      have hb13 := hb2.trans (hb3.mono hb2.size)
      have hB3 := hB.trans (hb13.mono hB.size)
      have HZL := Lib.hid (show m3 ≤ N by
        rw [ho3.len, hz3.out, Zz.zl_abs]
        exact Nat.le_trans hr.len hn2)
      have HB13 := Lib.hid (show W1.heap.size ≤ W3.heap.size from Nat.le_trans HB1.out hb13.size)
      have HB12 := Lib.hid (show W1.heap.size ≤ W2.heap.size from Nat.le_trans HB1.out hb2.size)
      have hZ3 := hZ.next hb13
      have hR3 := hR.next hb13
      have ho23 := ho.next hb13
      obtain ⟨W4, HW4⟩ : ∃ W, W = W3.alloc (.cells #[.bool s3, .slice A3 m3 c3] 28) := ⟨_, rfl⟩
      have hb4 : Below W3.heap.size W3 W4 := by rw [HW4]; exact (Below.refl W3.heap.size W3).alloc (Nat.le_refl _) _
      have hX4 : ZC W4 W3.heap.size s3 A3 m3 c3 := by rw [HW4]; exact ZC.new W3 s3 A3 m3 c3
      have hZ4 := hZ3.next hb4
      have hR4 := hR3.next hb4
      have ho34 := ho3.next hb4
      have ho4 := ho23.next hb4
      have hB4 := hB3.trans (hb4.mono hB3.size)
      have HB14 := Lib.hid (Nat.le_trans HB13.out hb4.size)
      have hc0 := hZ4.c0
      have hc1 := hZ4.c1
      have hd0 := hX4.c0
      have hd1 := hX4.c1
      rw [HW4] at hc0 hc1 hd0 hd1
      have HW4 := Lib.hid HW4
      clear hx0' hx1' hx0 hx1 hr2 hZ hZ3 hX hR hR3 hb2 hb3 hb13 ho ho3 ho23 hB hB2 hB3 hb4
      go_wp2_with fail
      clear hc0 hc1 hd0 hd1
      rw [← HW4.out]
      clear HW4
      clear HW4
      generalize W3.heap.size = gx at *
      refine (rICmp_any ho34.rd ho4.rd (by have := HZL.out; omega) (by omega)).mono ?_
      rintro _ W5 ⟨k, rfl, hk, hb5⟩
      have hX5 := hX4.next hb5
      have hZ5 := hZ4.next hb5
      have hR5 := hR4.next hb5
      have ho35 := ho34.next hb5
      have ho5 := ho4.next hb5
      have hB5 := hB4.trans (hb5.mono hB4.size)
      have HB15 := Lib.hid (Nat.le_trans HB14.out hb5.size)
      clear hX4 hZ4 hR4 ho34 ho4 hB4 hb5
      by_cases hk0 : 0 < k
      · have HFO := Lib.hid (show z3 = hgt (L.take (j + 1)) by rw [hgt_take hx, ← hy.out, ← hz3.out, if_pos (hg_pos (by rw [← hk.out]; exact hk0))])
        have HA := Lib.hid hX5
        have x0 := hX5.c0
        have x1 := hX5.c1
        have y0 := hZ5.c0
        have y1 := hZ5.c1
        have y2 := hZ5.fz 0
        have y3 := hZ5.fz 1
        have HY := Lib.hid (And.intro hZ5 (And.intro hR5 hB5))
        have HO := Lib.hid (ho35.base HB12.out)
        clear hX5 hZ5 hR5 hB5 ho35 ho5 hy hz3 hk
        go_wp2
        have hp := put_int HY.out.1 HY.out.2.2 (Nat.le_succ _) HO.out HS1.out
        have HS6 := Lib.hid (show W1.heap.size ≤ ((W5.setCell ⟨w.heap.size + 1, 0, none⟩ (.bool s3)).setCell ⟨w.heap.size + 1, 1, none⟩ (.slice A3 m3 c3)).heap.size by simpa using HB15.out)
        have hR6 := (HY.out.2.1.far (p := ⟨w.heap.size + 1, 0, none⟩) (by simp) (.bool s3)).far (p := ⟨w.heap.size + 1, 1, none⟩) (by simp) (.slice A3 m3 c3)
        generalize (W5.setCell ⟨w.heap.size + 1, 0, none⟩ (.bool s3)).setCell ⟨w.heap.size + 1, 1, none⟩ (.slice A3 m3 c3) = W6 at hp hR6 HS6 ⊢
        obtain ⟨hZ6, ho6, hB6⟩ := hp
        go_roundw
        case rel => exact ⟨j + 1, s3, A3, m3, c3, z3, by go_num, by omega, hZ6, hR6, HS6, ho6, HZL.out, HFO, hB6⟩
        case measure => simp [intOf]; omega
      · have hk1 : k ≤ 0 := by omega
        clear hk0
        have HFO := Lib.hid (show y = hgt (L.take (j + 1)) by rw [hgt_take hx, ← hy.out, if_neg (hg_neg (by rw [← hz3.out, ← hk.out]; exact hk1))])
        clear hX5 ho35 hz3 hk
        go_wp2
        go_roundw
        case rel => exact ⟨j + 1, s, A', n', c', y, by go_num, by omega, hZ5, hR5, HB15, ho5, hn', HFO, hB5⟩
        case measure => simp [intOf]; omega
end Go.Proofs.YtipbpdiahemmpaaGreat

/- A list of integers that is written over: its shape, and what is left as it was. -/
namespace Go.Proofs.YtipbpdiahemmpaaGreat
open Go.RowKit Go.IntWalk
attribute [local go_sem ↓] Go.wp_at_zero Go.wp_at_succ

/-- What is below b, or at or beyond B, is as it was. -/
structure Spd (b B : Nat) (w w' : World) : Prop where
  below : Below b w w'
  size : w'.heap.size = w.heap.size
  far : ∀ g, B ≤ g → w'.heap[g]? = w.heap[g]?
section
variable {b B b' g i n c : Nat} {w w' : World} {A : Option Addr}
theorem Spd.refl (b B : Nat) (w : World) : Spd b B w w := ⟨Below.refl _ _, rfl, fun _ _ => rfl⟩
theorem Spd.set (h : Spd b B w w') (hb : b ≤ g) (hB : g < B) (u : Value) : Spd b B w (w'.setCell ⟨g, i, none⟩ u) :=
  ⟨h.below.setCell (p := ⟨g, i, none⟩) hb u, by simp [World.setCell]; exact h.size, fun k hk => (Below.heap_setCell w' ⟨g, i, none⟩ u k (by simp; omega)).trans (h.far k hk)⟩
theorem Spd.row (h : Spd b B w w') {e : TypeId} {k : Nat} {v : Value} {xs : List Value} (hr : w.ownsRow b' e k v n xs) (hB : B ≤ b') : w'.ownsRow b' e k v n xs := by
  refine ⟨hr.1, ?_⟩
  rcases hr.2 with h0 | ⟨g, cap, cur, h1, h2, h3, h4⟩
  · exact .inl h0
  · exact .inr ⟨g, cap, cur, h1, h2, (h.far g (by omega)).trans h3, h4⟩
theorem Spd.zs (h : Spd b B w w') {L : List Int} (ho : OwZs w b' A n c L) (hB : B ≤ b') : OwZs w' b' A n c L := by
  obtain ⟨E, h1, h2, h3⟩ := ho
  exact ⟨E, h.row h1 hB, h2, h3.1, fun j e z he hz => ⟨⟨h.row (h3.2 j e z he hz).own.own hB, (h3.2 j e z he hz).own.wd⟩, (h3.2 j e z he hz).sgn⟩⟩

/-- A slice of words in a block of [b, B), or an empty one. -/
def Wr (w : World) (b B : Nat) (A : Option Addr) (n : Nat) : Prop := n = 0 ∨ ∃ (g : Nat) (ds : Array Value), A = some ⟨g, 0, none⟩ ∧ b ≤ g ∧ g < B ∧ w.heap[g]? = some (.cells ds 35 (0, 0)) ∧ n ≤ ds.size
/-- A row of integers in block g of [b, B), each one's words in it, too. -/
structure Shp (w : World) (b B g : Nat) (cs : Array Value) (n : Nat) : Prop where
  lo : b ≤ g
  hi : g < B
  row : w.heap[g]? = some (.cells cs 28 (0, 0))
  ent : ∀ j, j < n → j * 2 < cs.size ∧ ∃ (A' : Option Addr) (n' c' : Nat), cs[j * 2 + 1]? = some (.slice A' n' c') ∧ n' ≤ 1048576 ∧ Wr w b B A' n'
theorem Wr.int {cs : Array Value} (h : Wr w b B A n) (hg : w.heap[g]? = some (.cells cs 28 (0, 0))) (u : Value) : Wr (w.setCell ⟨g, i, none⟩ u) b B A n := by
  rcases h with h0 | ⟨g', ds, h1, h2, h3, h4, h5⟩
  · exact .inl h0
  · refine .inr ⟨g', ds, h1, h2, h3, ?_, h5⟩
    have hne : g' ≠ g := by
      rintro rfl
      rw [hg] at h4
      simp at h4
    exact (Below.heap_setCell w ⟨g, i, none⟩ u g' hne).trans h4
theorem Wr.word {ds : Array Value} (h : Wr w b B A n) (hg : w.heap[g]? = some (.cells ds 35 (0, 0))) (u : Value) : Wr (w.setCell ⟨g, i, none⟩ u) b B A n := by
  rcases h with h0 | ⟨g', ds', h1, h2, h3, h4, h5⟩
  · exact .inl h0
  · by_cases e : g' = g
    · subst e
      rw [hg] at h4
      injection h4 with h4
      injection h4 with h4
      subst h4
      exact .inr ⟨g', _, h1, h2, h3, heap_setCell_same w g' i ds _ u hg, by simpa using h5⟩
    · exact .inr ⟨g', ds', h1, h2, h3, (Below.heap_setCell w ⟨g, i, none⟩ u g' e).trans h4, h5⟩
theorem Shp.neg {cs : Array Value} (h : Shp w b B g cs n) (j : Nat) (u : Value) : Shp (w.setCell ⟨g, j * 2, none⟩ u) b B g (cs.setIfInBounds (j * 2) u) n :=
  ⟨h.lo, h.hi, heap_setCell_same w g _ cs _ u h.row, fun k hk => by
    obtain ⟨h0, A', n', c', h1, h2, h3⟩ := h.ent k hk
    refine ⟨by simpa using h0, A', n', c', ?_, h2, h3.int h.row u⟩
    rw [Array.getElem?_setIfInBounds_ne (by omega)]
    exact h1⟩
theorem Shp.word {cs ds : Array Value} {g' : Nat} (h : Shp w b B g cs n) (hg : w.heap[g']? = some (.cells ds 35 (0, 0))) (i : Nat) (u : Value) : Shp (w.setCell ⟨g', i, none⟩ u) b B g cs n := by
  have hne : g ≠ g' := by
    rintro rfl
    have h1 := h.row
    rw [hg] at h1
    simp at h1
  exact ⟨h.lo, h.hi, (Below.heap_setCell w ⟨g', i, none⟩ u g hne).trans h.row, fun k hk => by
    obtain ⟨h0, A', n', c', h1, h2, h3⟩ := h.ent k hk
    exact ⟨h0, A', n', c', h1, h2, h3.word hg u⟩⟩
theorem Shp.of {L : List Int} (h : OwZs w b A n c L) (hN : ∀ z ∈ L, Zz.zl z ≤ 1048576) : n = 0 ∨ ∃ (g : Nat) (cs : Array Value), A = some ⟨g, 0, none⟩ ∧ Shp w b w.heap.size g cs n := by
  have hl := h.len
  obtain ⟨E, hr, hE, hel⟩ := h
  rcases hr.2 with ⟨_, h0⟩ | ⟨g, cap, cur, h1, h2, h3, h4, h5, h6, h7⟩
  · exact .inl h0
  · injection h1 with h1 _ _
    refine .inr ⟨g, cur, h1, h2, (Array.getElem?_eq_some_iff.1 h3).1, h3, fun j hj => ?_⟩
    have hjE : j < E.length := by omega
    have he := List.getElem?_eq_getElem hjE
    obtain ⟨c0, c1⟩ := zcs_at E j _ he
    have hz := hel.2 j _ _ he (Pz.get_co (by omega))
    have hmem : Zz.zl (Pz.co L j) ≤ 1048576 := hN _ (List.mem_of_getElem? (Pz.get_co (by omega)))
    have e1 : cur[j * 2 + 1]? = (zcs E)[j * 2 + 1]? := by
      rw [← h7, List.getElem?_take_of_lt (by omega), Array.getElem?_toList]
    refine ⟨by omega, _, _, _, e1.trans c1, by rw [hz.len]; exact hmem, ?_⟩
    rcases hz.own.own.2 with ⟨_, k0⟩ | ⟨g', cap', cur', k1, k2, k3, k4, k5, k6, _⟩
    · exact .inl k0
    · injection k1 with k1 _ _
      exact .inr ⟨g', cur', k1, k2, (Array.getElem?_eq_some_iff.1 k3).1, k3, by omega⟩
end
end Go.Proofs.YtipbpdiahemmpaaGreat
