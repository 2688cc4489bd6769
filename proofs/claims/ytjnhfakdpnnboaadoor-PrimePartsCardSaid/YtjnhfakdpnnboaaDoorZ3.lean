/- Sorting words: the heap. -/
import Derived.Test.YtjnhfakdpnnboaaDoorZ2
namespace Go.Proofs.YtjnhfakdpnnboaaDoor
open Go.RowKit Go.IntWalk Go.Sort

theorem sd_end {hi F r : Nat} (d : Array Nat) (h : hi ≤ 2 * r + 1) : siftDown ltN hi F r d = d := by rw [siftDown, dif_pos h]
theorem sd_right {hi F r c c2 ir ic ic2 : Nat} {d : Array Nat} (hc : c = 2 * r + 1) (hc2 : c2 = 2 * r + 2) (hir : ir = F + r) (hic : ic = F + c) (hic2 : ic2 = F + c2) (h : c2 < hi) (hl : ltN d[ic]! d[ic2]! = true) :
    siftDown ltN hi F r d = if ltN d[ir]! d[ic2]! then siftDown ltN hi F c2 (swp d ir ic2) else d := by
  subst hc hc2 hir hic hic2
  conv => lhs; rw [siftDown]
  rw [dif_neg (by omega), show F + (2 * r + 1) + 1 = F + (2 * r + 2) by omega, hl]
  simp only [Bool.and_true]
  rw [if_pos (by simp; omega)]
  cases ltN d[F + r]! d[F + (2 * r + 2)]! <;> simp [h]
theorem sd_left {hi F r c c2 ir ic ic2 : Nat} {d : Array Nat} (hc : c = 2 * r + 1) (hc2 : c2 = 2 * r + 2) (hir : ir = F + r) (hic : ic = F + c) (hic2 : ic2 = F + c2) (h : c < hi) (hl : c2 < hi → ltN d[ic]! d[ic2]! = false) :
    siftDown ltN hi F r d = if ltN d[ir]! d[ic]! then siftDown ltN hi F c (swp d ir ic) else d := by
  subst hc hc2 hir hic hic2
  conv => lhs; rw [siftDown]
  rw [dif_neg (by omega), show F + (2 * r + 1) + 1 = F + (2 * r + 2) by omega]
  by_cases h2 : 2 * r + 2 < hi
  · rw [hl h2]
    cases ltN d[F + r]! d[F + (2 * r + 1)]! <;> simp
  · rw [if_neg (by simp; omega)]
    cases ltN d[F + r]! d[F + (2 * r + 1)]! <;> simp
set_option maxRecDepth 100000 in
set_option maxHeartbeats 4000000 in
theorem sift_any {g n cap : Nat} {d : Array Nat} {rest : List Value} {w : World} (hS : SB w g d rest) (hn : d.size = n) (lo hi F : Nat) (hlo : lo ≤ hi) (hb : F + hi ≤ n) (hsz : n ≤ 1099511627776) :
    Calls Tryd.prog 81 #[.slice (some ⟨g, 0, none⟩) n cap, .int .i64 lo, .int .i64 hi, .int .i64 F] w (RetSo g rest (siftDown ltN hi F lo d) w) := by
  have HN := Lib.hid hn
  clear hn
  go_enter Tryd.func81, Tryd.ntmps81
  go_wp2
  go_loopw [8] (fun rv wr => ∃ (r : Nat) (dk : Array Nat), rv = .int .i64 r ∧ r ≤ hi ∧ SB wr g dk rest ∧ Hid (dk.size = n ∧ siftDown ltN hi F r dk = siftDown ltN hi F lo d) ∧ Hid (Om g w wr)) (fun rv _ => hi - (intOf rv).toNat)
  case atStart => exact ⟨lo, d, rfl, hlo, hS, Lib.hid ⟨HN.out, rfl⟩, Lib.hid (Om.refl _ _)⟩
  case round =>
    clear hS
    obtain ⟨r, dk, rfl, hr, hS, hE, hO⟩ := hrel
    obtain ⟨c, hc⟩ : ∃ c, c = 2 * r + 1 := ⟨_, rfl⟩
    have hcc : 2 * (r : Int) + 1 = (c : Int) := by omega
    by_cases hlt : hi ≤ c
    · have HF := Lib.hid (show dk = siftDown ltN hi F lo d by rw [← hE.out.2, sd_end dk (by omega)])
      have hle : (hi : Int) ≤ (c : Int) := by omega
      clear hc
      go_wp2
      refine bodyPost_ret (results_none rfl _ _ _) rfl ?_
      exact ⟨rfl, by rw [← HF.out]; exact hS, hO.out⟩
    · obtain ⟨c2, hc2⟩ : ∃ c2, c2 = 2 * r + 2 := ⟨_, rfl⟩
      obtain ⟨ir, hir⟩ : ∃ x, x = F + r := ⟨_, rfl⟩
      obtain ⟨ic, hic⟩ : ∃ x, x = F + c := ⟨_, rfl⟩
      obtain ⟨ic2, hic2⟩ : ∃ x, x = F + c2 := ⟨_, rfl⟩
      have HV := Lib.hid (And.intro hc (And.intro hc2 (And.intro hir (And.intro hic hic2))))
      have hle : ¬ (hi : Int) ≤ (c : Int) := by omega
      have b0 : (0 : Int) ≤ (ir : Int) := by omega
      have b1 : (ir : Int) < (n : Int) := by omega
      have b2 : (0 : Int) ≤ (ic : Int) := by omega
      have b3 : (ic : Int) < (n : Int) := by omega
      have s1 : IntKind.i64.wrap ((c : Int) + 1) = (c2 : Int) := by rw [IntWalk.i64_in _ (by omega)]; omega
      have s2 : IntKind.i64.wrap ((F : Int) + c) = (ic : Int) := by rw [IntWalk.i64_in _ (by omega)]; omega
      have s3 : IntKind.i64.wrap ((ic : Int) + 1) = (ic2 : Int) := by rw [IntWalk.i64_in _ (by omega)]; omega
      have s4 : IntKind.i64.wrap ((F : Int) + r) = (ir : Int) := by rw [IntWalk.i64_in _ (by omega)]; omega
      have s5 : IntKind.i64.wrap ((F : Int) + c2) = (ic2 : Int) := by rw [IntWalk.i64_in _ (by omega)]; omega
      have s6 : (c : Int) + 1 = (c2 : Int) := by omega
      have hcr := hS.cell (i := ir) (by rw [hE.out.1]; omega)
      have hcc1 := hS.cell (i := ic) (by rw [hE.out.1]; omega)
      obtain ⟨x, hx⟩ : ∃ x, x = dk[ir]! := ⟨_, rfl⟩
      obtain ⟨y, hy⟩ : ∃ y, y = dk[ic]! := ⟨_, rfl⟩
      rw [← hx] at hcr
      rw [← hy] at hcc1
      have HXY := Lib.hid (And.intro hx hy)
      have HCH := Lib.hid (show c < hi by omega)
      have hrc : r < c := by omega
      have hrc2 : c < c2 := by omega
      by_cases h2 : c2 < hi
      · have b4 : (0 : Int) ≤ (ic2 : Int) := by omega
        have b5 : (ic2 : Int) < (n : Int) := by omega
        have g1 : decide ((c2 : Int) < (hi : Int)) = true := by simp; omega
        have hcc2 := hS.cell (i := ic2) (by rw [hE.out.1]; omega)
        obtain ⟨z, hz⟩ : ∃ z, z = dk[ic2]! := ⟨_, rfl⟩
        rw [← hz] at hcc2
        have HZ := Lib.hid hz
        clear hc hc2 hir hic hic2 hx hy hz hlt
        obtain ⟨t, ht⟩ : ∃ t, t = ltN y z := ⟨_, rfl⟩
        have HL := Lib.hid (fun (w0 : World) (k : Nat) => less_q y z ht w0 k)
        have HT := Lib.hid ht
        clear ht
        cases t

        · have HSD := Lib.hid (sd_left (d := dk) HV.out.1 HV.out.2.1 HV.out.2.2.1 HV.out.2.2.2.1 HV.out.2.2.2.2 HCH.out (fun _ => by rw [← HXY.out.2, ← HZ.out]; exact HT.out.symm))
          go_wp2_with fail
          go_quiet ((go_at_call 76; exact HL.out _ _))
          have hcrb : (wr.drewN nq).cell? ⟨g, ir, none⟩ = some (.int .u32 x) := hcr
          have hcc1b : (wr.drewN nq).cell? ⟨g, ic, none⟩ = some (.int .u32 y) := hcc1
          have hcc2b : (wr.drewN nq).cell? ⟨g, ic2, none⟩ = some (.int .u32 z) := hcc2
          have hS2 := hS.drewN nq
          have hO2 := Lib.hid (hO.out.drewN nq)
          clear hcr hcc1 hcc2 hS hO HL
          generalize wr.drewN nq = w2 at hcrb hcc1b hcc2b hS2 hO2 ⊢
          obtain ⟨t2, ht2⟩ : ∃ t, t = ltN x y := ⟨_, rfl⟩
          have HL2 := Lib.hid (fun (w0 : World) (k : Nat) => less_q x y ht2 w0 k)
          have HT2 := Lib.hid ht2
          clear ht2
          cases t2
          · go_wp2_with fail
            go_quiet ((go_at_call 76; exact HL2.out _ _))
            have hS3 := hS2.drewN nq
            have hO3 := hO2.out.drewN nq
            have HF := Lib.hid (show dk = siftDown ltN hi F lo d by rw [← hE.out.2, HSD.out, ← HXY.out.1, ← HXY.out.2, ← HT2.out]; rfl)
            clear hS2 hcrb hcc1b hcc2b
            go_wp2
            refine bodyPost_ret (results_none rfl _ _ _) rfl ?_
            exact ⟨rfl, by rw [← HF.out]; exact hS3, hO3⟩
          · go_wp2_with fail
            go_quiet ((go_at_call 76; exact HL2.out _ _))
            have hr3 : (w2.drewN nq).cell? ⟨g, ir, none⟩ = some (.int .u32 x) := hcrb
            have hc3 : (w2.drewN nq).cell? ⟨g, ic, none⟩ = some (.int .u32 y) := hcc1b
            have hf3 := (hS2.drewN nq).frozen ir
            have hf4 := (hS2.drewN nq).frozen ic
            have hS3 := hS2.drewN nq
            have hO3 := Lib.hid (hO2.out.drewN nq)
            have HE3 := Lib.hid (show (swp dk ir ic).size = n ∧ siftDown ltN hi F c (swp dk ir ic) = siftDown ltN hi F lo d from ⟨by rw [size_swp]; exact hE.out.1, by rw [← hE.out.2, HSD.out, ← HXY.out.1, ← HXY.out.2, ← HT2.out]; rfl⟩)
            clear hS2 hO2 HL2 hcrb hcc1b hcc2b
            generalize w2.drewN nq = w3 at hr3 hc3 hf3 hf4 hS3 hO3 ⊢
            have hne : ir ≠ ic := by have := HV.out; omega
            go_wp2_with fail
            go_region
            have hS4 := (hS3.swap (i := ir) (j := ic) (by rw [hE.out.1]; omega) (by rw [hE.out.1]; omega) HXY.out.2 HXY.out.1).drew
            have hO4 := Lib.hid (((hO3.out.set (i := ir) (.int .u32 (y : Nat))).set (i := ic) (.int .u32 (x : Nat))).drew)
            clear hr3 hc3 hf3 hf4 hS3 hO3
            generalize ((w3.setCell ⟨g, ir, none⟩ (.int .u32 (y : Nat))).setCell ⟨g, ic, none⟩ (.int .u32 (x : Nat))).drew = w4 at hS4 hO4 ⊢
            go_wp2
            go_roundw
            case rel => exact ⟨c, swp dk ir ic, rfl, by have := HCH.out; omega, hS4, HE3, hO4⟩
            case measure => have := HCH.out; simp [intOf]; omega
        · have HSD := Lib.hid (sd_right (d := dk) HV.out.1 HV.out.2.1 HV.out.2.2.1 HV.out.2.2.2.1 HV.out.2.2.2.2 h2 (by rw [← HXY.out.2, ← HZ.out]; exact HT.out.symm))
          go_wp2_with fail
          go_quiet ((go_at_call 76; exact HL.out _ _))
          have hcrb : (wr.drewN nq).cell? ⟨g, ir, none⟩ = some (.int .u32 x) := hcr
          have hcc1b : (wr.drewN nq).cell? ⟨g, ic, none⟩ = some (.int .u32 y) := hcc1
          have hcc2b : (wr.drewN nq).cell? ⟨g, ic2, none⟩ = some (.int .u32 z) := hcc2
          have hS2 := hS.drewN nq
          have hO2 := Lib.hid (hO.out.drewN nq)
          clear hcr hcc1 hcc2 hS hO HL
          generalize wr.drewN nq = w2 at hcrb hcc1b hcc2b hS2 hO2 ⊢
          obtain ⟨t2, ht2⟩ : ∃ t, t = ltN x z := ⟨_, rfl⟩
          have HL2 := Lib.hid (fun (w0 : World) (k : Nat) => less_q x z ht2 w0 k)
          have HT2 := Lib.hid ht2
          clear ht2
          cases t2
          · go_wp2_with fail
            go_quiet ((go_at_call 76; exact HL2.out _ _))
            have hS3 := hS2.drewN nq
            have hO3 := hO2.out.drewN nq
            have HF := Lib.hid (show dk = siftDown ltN hi F lo d by rw [← hE.out.2, HSD.out, ← HXY.out.1, ← HZ.out, ← HT2.out]; rfl)
            clear hS2 hcrb hcc1b hcc2b
            go_wp2
            refine bodyPost_ret (results_none rfl _ _ _) rfl ?_
            exact ⟨rfl, by rw [← HF.out]; exact hS3, hO3⟩
          · go_wp2_with fail
            go_quiet ((go_at_call 76; exact HL2.out _ _))
            have hr3 : (w2.drewN nq).cell? ⟨g, ir, none⟩ = some (.int .u32 x) := hcrb
            have hc3 : (w2.drewN nq).cell? ⟨g, ic2, none⟩ = some (.int .u32 z) := hcc2b
            have hf3 := (hS2.drewN nq).frozen ir
            have hf4 := (hS2.drewN nq).frozen ic2
            have hS3 := hS2.drewN nq
            have hO3 := Lib.hid (hO2.out.drewN nq)
            have HE3 := Lib.hid (show (swp dk ir ic2).size = n ∧ siftDown ltN hi F c2 (swp dk ir ic2) = siftDown ltN hi F lo d from ⟨by rw [size_swp]; exact hE.out.1, by rw [← hE.out.2, HSD.out, ← HXY.out.1, ← HZ.out, ← HT2.out]; rfl⟩)
            clear hS2 hO2 HL2 hcrb hcc1b hcc2b
            generalize w2.drewN nq = w3 at hr3 hc3 hf3 hf4 hS3 hO3 ⊢
            have hne : ir ≠ ic2 := by have := HV.out; omega
            go_wp2_with fail
            go_region
            have hS4 := (hS3.swap (i := ir) (j := ic2) (by rw [hE.out.1]; omega) (by rw [hE.out.1]; omega) HZ.out HXY.out.1).drew
            have hO4 := Lib.hid (((hO3.out.set (i := ir) (.int .u32 (z : Nat))).set (i := ic2) (.int .u32 (x : Nat))).drew)
            clear hr3 hc3 hf3 hf4 hS3 hO3
            generalize ((w3.setCell ⟨g, ir, none⟩ (.int .u32 (z : Nat))).setCell ⟨g, ic2, none⟩ (.int .u32 (x : Nat))).drew = w4 at hS4 hO4 ⊢
            go_wp2
            go_roundw
            case rel => exact ⟨c2, swp dk ir ic2, rfl, by have := HCH.out; omega, hS4, HE3, hO4⟩
            case measure => have := HCH.out; simp [intOf]; omega
      · have g1 : decide ((c2 : Int) < (hi : Int)) = false := by simp; omega
        have HSD := Lib.hid (sd_left (d := dk) HV.out.1 HV.out.2.1 HV.out.2.2.1 HV.out.2.2.2.1 HV.out.2.2.2.2 HCH.out (fun h => absurd h h2))
        clear hc hc2 hir hic hic2 hx hy hlt
        go_wp2_with fail
        go_quiet (fail)
        have hcrb : (wr.drewN nq).cell? ⟨g, ir, none⟩ = some (.int .u32 x) := hcr
        have hcc1b : (wr.drewN nq).cell? ⟨g, ic, none⟩ = some (.int .u32 y) := hcc1
        have hS2 := hS.drewN nq
        have hO2 := Lib.hid (hO.out.drewN nq)
        clear hcr hcc1 hS hO
        generalize wr.drewN nq = w2 at hcrb hcc1b hS2 hO2 ⊢
        obtain ⟨t2, ht2⟩ : ∃ t, t = ltN x y := ⟨_, rfl⟩
        have HL2 := Lib.hid (fun (w0 : World) (k : Nat) => less_q x y ht2 w0 k)
        have HT2 := Lib.hid ht2
        clear ht2
        cases t2
        · go_wp2_with fail
          go_quiet ((go_at_call 76; exact HL2.out _ _))
          have hS3 := hS2.drewN nq
          have hO3 := hO2.out.drewN nq
          have HF := Lib.hid (show dk = siftDown ltN hi F lo d by rw [← hE.out.2, HSD.out, ← HXY.out.1, ← HXY.out.2, ← HT2.out]; rfl)
          clear hS2 hcrb hcc1b
          go_wp2
          refine bodyPost_ret (results_none rfl _ _ _) rfl ?_
          exact ⟨rfl, by rw [← HF.out]; exact hS3, hO3⟩
        · go_wp2_with fail
          go_quiet ((go_at_call 76; exact HL2.out _ _))
          have hr3 : (w2.drewN nq).cell? ⟨g, ir, none⟩ = some (.int .u32 x) := hcrb
          have hc3 : (w2.drewN nq).cell? ⟨g, ic, none⟩ = some (.int .u32 y) := hcc1b
          have hf3 := (hS2.drewN nq).frozen ir
          have hf4 := (hS2.drewN nq).frozen ic
          have hS3 := hS2.drewN nq
          have hO3 := Lib.hid (hO2.out.drewN nq)
          have HE3 := Lib.hid (show (swp dk ir ic).size = n ∧ siftDown ltN hi F c (swp dk ir ic) = siftDown ltN hi F lo d from ⟨by rw [size_swp]; exact hE.out.1, by rw [← hE.out.2, HSD.out, ← HXY.out.1, ← HXY.out.2, ← HT2.out]; rfl⟩)
          clear hS2 hO2 HL2 hcrb hcc1b
          generalize w2.drewN nq = w3 at hr3 hc3 hf3 hf4 hS3 hO3 ⊢
          have hne : ir ≠ ic := by have := HV.out; omega
          go_wp2_with fail
          go_region
          have hS4 := (hS3.swap (i := ir) (j := ic) (by rw [hE.out.1]; omega) (by rw [hE.out.1]; omega) HXY.out.2 HXY.out.1).drew
          have hO4 := Lib.hid (((hO3.out.set (i := ir) (.int .u32 (y : Nat))).set (i := ic) (.int .u32 (x : Nat))).drew)
          clear hr3 hc3 hf3 hf4 hS3 hO3
          generalize ((w3.setCell ⟨g, ir, none⟩ (.int .u32 (y : Nat))).setCell ⟨g, ic, none⟩ (.int .u32 (x : Nat))).drew = w4 at hS4 hO4 ⊢
          go_wp2
          go_roundw
          case rel => exact ⟨c, swp dk ir ic, rfl, by have := HCH.out; omega, hS4, HE3, hO4⟩
          case measure => have := HCH.out; simp [intOf]; omega
end Go.Proofs.YtjnhfakdpnnboaaDoor
