/- Sorting words: the insertion that gives up. -/
import Derived.Test.YtjnhfakdpnnboaaDoorZ5
namespace Go.Proofs.YtjnhfakdpnnboaaDoor
open Go.RowKit Go.IntWalk Go.Sort

theorem sc_go {d : Array Nat} {b i : Nat} (h : i < b) (hl : ltN d[i]! d[i - 1]! = false) : scanSorted ltN d b i = scanSorted ltN d b (i + 1) := by
  conv => lhs; rw [scanSorted]
  rw [if_pos (by simp [h, hl])]
theorem sc_end {d : Array Nat} {b i : Nat} (h : ¬ i < b) : scanSorted ltN d b i = i := by rw [scanSorted, if_neg (by simp; omega)]
theorem sc_stop {d : Array Nat} {b i : Nat} (hl : ltN d[i]! d[i - 1]! = true) : scanSorted ltN d b i = i := by rw [scanSorted, if_neg (by simp [hl])]
theorem sd_stop {d : Array Nat} {j m : Nat} (hj : j = m + 1) (hl : ltN d[j]! d[m]! = false) : shiftDown ltN j d = d := by
  subst hj; rw [shiftDown, hl]; simp
theorem sd_go {d : Array Nat} {j m : Nat} (hj : j = m + 1) (hl : ltN d[j]! d[m]! = true) : shiftDown ltN j d = shiftDown ltN m (swp d j m) := by
  subst hj; rw [shiftDown, hl]; simp
theorem su_end {d : Array Nat} {b j : Nat} (h : ¬ j < b) : shiftUp ltN b j d = d := by rw [shiftUp, if_neg h]
theorem su_stop {d : Array Nat} {b j : Nat} (h : j < b) (hl : ltN d[j]! d[j - 1]! = false) : shiftUp ltN b j d = d := by rw [shiftUp, if_pos h, hl]; simp
theorem su_go {d : Array Nat} {b j : Nat} (h : j < b) (hl : ltN d[j]! d[j - 1]! = true) : shiftUp ltN b j d = shiftUp ltN b (j + 1) (swp d j (j - 1)) := by
  conv => lhs; rw [shiftUp]
  rw [if_pos h, hl]; simp
theorem pi_zero (a b i : Nat) (d : Array Nat) : partialIns ltN a b 0 i d = (d, false) := rfl
theorem pi_true {a b s i : Nat} {d : Array Nat} (h : scanSorted ltN d b i = b) : partialIns ltN a b (s + 1) i d = (d, true) := by
  rw [partialIns]; simp [h]
theorem pi_false {a b s i i' : Nat} {d : Array Nat} (h : scanSorted ltN d b i = i') (hne : i' ≠ b) (hl : b - a < 50) : partialIns ltN a b (s + 1) i d = (d, false) := by
  rw [partialIns]; simp [h, hne, hl]
theorem pi_step2 {a b s i i' : Nat} {d d1 d2 d3 : Array Nat} (h : scanSorted ltN d b i = i') (hne : i' ≠ b) (hl : ¬ b - a < 50) (h1 : d1 = swp d i' (i' - 1))
    (h2 : d2 = if i' - a ≥ 2 then shiftDown ltN (i' - 1) d1 else d1) (h3 : d3 = if b - i' ≥ 2 then shiftUp ltN b (i' + 1) d2 else d2) : partialIns ltN a b (s + 1) i d = partialIns ltN a b s i' d3 := by
  subst h1 h2 h3
  rw [partialIns]; simp only [h, if_neg hne, if_neg hl]
def RetSob (g : Nat) (rest : List Value) (r : Array Nat × Bool) (w : World) (e : Ending) (w' : World) : Prop := e = .returned (.bool r.2) ∧ SB w' g r.1 rest ∧ Om g w w'
set_option maxRecDepth 100000 in
set_option maxHeartbeats 8000000 in
theorem pins_any {g n cap : Nat} {d : Array Nat} {rest : List Value} {w : World} (hS : SB w g d rest) (hn : d.size = n) (a b : Nat) (hab : a < b) (hb : b ≤ n) (hsz : n ≤ 1099511627776) :
    Calls Tryd.prog 75 #[.slice (some ⟨g, 0, none⟩) n cap, .int .i64 a, .int .i64 b] w (RetSob g rest (partialInsertionSort ltN d a b) w) := by
  have HN := Lib.hid hn
  clear hn
  obtain ⟨ba, hba⟩ : ∃ x, x = b - a := ⟨_, rfl⟩
  go_enter Tryd.func75, Tryd.ntmps75
  go_wp2
  go_loopw [7, 8] (fun iv jv wr => ∃ (i s : Nat) (dk : Array Nat), iv = .int .i64 i ∧ jv = .int .i64 (5 - (s : Int)) ∧ (s ≤ 5 ∧ a + 1 ≤ i) ∧ i ≤ b ∧ SB wr g dk rest ∧ Hid (dk.size = n ∧ partialIns ltN a b s i dk = partialInsertionSort ltN d a b) ∧ Hid (Om g w wr)) (fun _ jv _ => (6 - intOf jv).toNat)
  case atStart => exact ⟨a + 1, 5, d, by go_num, rfl, by omega, by omega, hS, Lib.hid ⟨HN.out, rfl⟩, Lib.hid (Om.refl _ _)⟩
  case round =>
    clear hS
    obtain ⟨i0, s0, dk, rfl, rfl, ⟨hs5, hai0⟩, hib0, hS, HE0, hO⟩ := hrel
    rcases Nat.eq_zero_or_pos s0 with hs0 | hs0
    · subst hs0
      have HF := Lib.hid (show (dk, false) = partialInsertionSort ltN d a b by rw [← HE0.out.2]; rfl)
      go_wp2
      go_ret
      rw [← HF.out]
      exact ⟨rfl, hS, hO.out⟩
    obtain ⟨s, rfl⟩ : ∃ s, s0 = s + 1 := ⟨s0 - 1, by omega⟩
    obtain ⟨sv, hsv⟩ : ∃ x, x = 4 - s := ⟨_, rfl⟩
    rw [show (5 - ((s + 1 : Nat) : Int)) = (sv : Int) by omega]
    have gs : decide ((sv : Int) < 5) = true := by simp; omega
    go_wp2_with fail
    go_loopw [7] (fun iv wr => ∃ (i : Nat), iv = .int .i64 i ∧ a + 1 ≤ i ∧ i ≤ b ∧ SB wr g dk rest ∧ Hid (scanSorted ltN dk b i = scanSorted ltN dk b i0) ∧ Hid (Om g w wr)) (fun iv _ => b + 1 - (intOf iv).toNat)
    case atStart => exact ⟨i0, rfl, hai0, hib0, hS, Lib.hid rfl, hO⟩
    case round =>
      clear hS hO
      obtain ⟨i, rfl, hai, hib, hS, hI, hO⟩ := hrel
      by_cases hil : i < b
      · have hjg : decide ((i : Int) < (b : Int)) = true := by simp; omega
        obtain ⟨im, him⟩ : ∃ m, m = i - 1 := ⟨_, rfl⟩
        have hs1 : IntKind.i64.wrap ((i : Int) - 1) = (im : Int) := by rw [IntWalk.i64_in _ (by omega)]; omega
        have HIM := Lib.hid him
        have hne : i ≠ im := by omega
        have himi : im < i := by omega
        obtain ⟨dj, hdj⟩ : ∃ z, z = dk := ⟨_, rfl⟩
        rw [← hdj] at hS
        have HZ := Lib.hid (show dj.size = n ∧ dj = dk from ⟨by rw [hdj]; exact HE0.out.1, hdj⟩)
        clear him hdj

        have b0 : (0 : Int) ≤ (i : Int) := by omega
        have b1 : (i : Int) < (n : Int) := by omega
        have b2 : (0 : Int) ≤ (im : Int) := by omega
        have b3 : (im : Int) < (n : Int) := by omega
        have hcj := hS.cell (i := i) (by rw [HZ.out.1]; omega)
        have hcm := hS.cell (i := im) (by rw [HZ.out.1]; omega)
        have hfj := hS.frozen i
        have hfm := hS.frozen im
        obtain ⟨x, hx⟩ : ∃ x, x = dj[i]! := ⟨_, rfl⟩
        obtain ⟨y, hy⟩ : ∃ y, y = dj[im]! := ⟨_, rfl⟩
        rw [← hx] at hcj
        rw [← hy] at hcm
        have HXY := Lib.hid (And.intro hx hy)
        clear hx hy
        obtain ⟨t, ht⟩ : ∃ t, t = ltN x y := ⟨_, rfl⟩
        have HL := Lib.hid (fun (w0 : World) (k : Nat) => less_q x y ht w0 k)
        have HT := Lib.hid ht
        clear ht
        cases t
        · go_wp2_with fail
          go_quiet ((go_at_call 76; exact HL.out _ _))
          have HI2 := Lib.hid (show scanSorted ltN dk b (i + 1) = scanSorted ltN dk b i0 from by rw [← hI.out]; exact (sc_go hil (by rw [← HZ.out.2, ← HIM.out, ← HXY.out.1, ← HXY.out.2]; exact HT.out.symm)).symm)
          have hS2 : SB (wr.drewN nq) g dk rest := by rw [← HZ.out.2]; exact hS.drewN nq
          have hO2 := Lib.hid (hO.out.drewN nq)
          clear hcj hcm hfj hfm hS
          go_wp2
          go_roundw
          case rel => exact ⟨i + 1, by go_num, by omega, by omega, hS2, HI2, hO2⟩
          case measure => simp [intOf]; omega
        · have HS : Hid (scanSorted ltN dk b i0 = i) := Lib.hid (by rw [← hI.out]; exact sc_stop (by rw [← HZ.out.2, ← HIM.out, ← HXY.out.1, ← HXY.out.2]; exact HT.out.symm))
          have HSI : Hid (scanSorted ltN dk b i = i) := Lib.hid (by rw [hI.out]; exact HS.out)
          have gib : decide ((i : Int) = (b : Int)) = false := by simp; omega
          have eba : (b : Int) - a = (ba : Int) := by omega
          go_wp2_with fail
          go_quiet ((go_at_call 76; exact HL.out _ _))
          have hcj2 : (wr.drewN nq).cell? ⟨g, i, none⟩ = some (.int .u32 x) := hcj
          have hcm2 : (wr.drewN nq).cell? ⟨g, im, none⟩ = some (.int .u32 y) := hcm
          have hfj2 : (wr.drewN nq).frozen? ⟨g, i, none⟩ = false := hfj
          have hfm2 : (wr.drewN nq).frozen? ⟨g, im, none⟩ = false := hfm
          have hS2 := hS.drewN nq
          have hO2 := Lib.hid (hO.out.drewN nq)
          clear hcj hcm hfj hfm hS hO HL
          generalize wr.drewN nq = w2 at hcj2 hcm2 hfj2 hfm2 hS2 hO2 ⊢
          by_cases h50 : ba < 50
          · have g50 : decide ((ba : Int) < 50) = true := by simp; omega
            have HF := Lib.hid (show (dj, false) = partialInsertionSort ltN d a b by rw [← HE0.out.2, HZ.out.2, pi_false HS.out (by omega) (by omega)])
            go_wp2
            go_ret
            rw [← HF.out]
            exact ⟨rfl, hS2, hO2.out⟩
          have g50 : decide ((ba : Int) < 50) = false := by simp; omega
          go_wp2_with fail
          go_region
          have hS3 := (hS2.swap (i := i) (j := im) (by rw [HZ.out.1]; omega) (by rw [HZ.out.1]; omega) HXY.out.2 HXY.out.1).drew
          have hO3 := Lib.hid (((hO2.out.set (i := i) (.int .u32 (y : Nat))).set (i := im) (.int .u32 (x : Nat))).drew)
          have hz3 := Lib.hid (show (swp dj i im).size = n by rw [size_swp]; exact HZ.out.1)
          clear hcj2 hcm2 hfj2 hfm2 hS2 hO2
          generalize ((w2.setCell ⟨g, i, none⟩ (.int .u32 (y : Nat))).setCell ⟨g, im, none⟩ (.int .u32 (x : Nat))).drew = w3 at hS3 hO3 ⊢
          obtain ⟨d1, hd1⟩ : ∃ z, z = swp dj i im := ⟨_, rfl⟩
          rw [← hd1] at hS3 hz3
          have HD1 := Lib.hid (show d1 = swp dk i (i - 1) by rw [hd1, HZ.out.2, HIM.out])
          have HG := Lib.hid (show i ≠ b ∧ ¬ b - a < 50 by omega)
          have HE := Lib.hid HE0.out.2
          have hS1 := hS3
          have hz1 := hz3
          have hO1 := hO3
          obtain ⟨ia, hia⟩ : ∃ x, x = i - a := ⟨_, rfl⟩
          obtain ⟨bi, hbi⟩ : ∃ x, x = b - i := ⟨_, rfl⟩
          clear hS3 hO3 hz3 hd1 HZ HXY HT b0 b1 b2 b3 hs1 hjg gib g50 eba hne
          by_cases hdn : a + 2 ≤ i
          · have gdn : decide ((2 : Int) ≤ (ia : Int)) = true := by simp; omega
            have e1 : (i : Int) - a = (ia : Int) := by omega
            have e3 : IntKind.i64.wrap ((i : Int) - 1) = (im : Int) := by have := HIM.out; rw [IntWalk.i64_in _ (by omega)]; omega
            go_wp2_with fail
            clear e1 e3
            go_loopw [9] (fun jv wr => ∃ (j : Nat) (dj : Array Nat), jv = .int .i64 j ∧ j < n ∧ SB wr g dj rest ∧ Hid (dj.size = n ∧ shiftDown ltN j dj = shiftDown ltN (i - 1) d1) ∧ Hid (Om g w wr)) (fun jv _ => (intOf jv).toNat)
            case atStart => exact ⟨im, d1, rfl, by omega, hS1, Lib.hid ⟨hz1.out, by rw [HIM.out]⟩, hO1⟩
            case round =>
              clear hS1 hO1
              obtain ⟨j, dj, rfl, hjn, hS, HI, hO⟩ := hrel
              by_cases hjl : 1 ≤ j
              · have hjg : decide ((1 : Int) ≤ (j : Int)) = true := by simp; omega
                obtain ⟨m, hm⟩ : ∃ m, m = j - 1 := ⟨_, rfl⟩
                have hs1 : IntKind.i64.wrap ((j : Int) - 1) = (m : Int) := by rw [IntWalk.i64_in _ (by omega)]; omega
                have hjm : j = m + 1 := by omega
                have HJM := Lib.hid hjm
                have hne : j ≠ m := by omega
                have hmj : m < j := by omega
                clear hm hjm
                have b0 : (0 : Int) ≤ (j : Int) := by omega
                have b1 : (j : Int) < (n : Int) := by omega
                have b2 : (0 : Int) ≤ (m : Int) := by omega
                have b3 : (m : Int) < (n : Int) := by omega
                have hcj := hS.cell (i := j) (by rw [HI.out.1]; omega)
                have hcm := hS.cell (i := m) (by rw [HI.out.1]; omega)
                have hfj := hS.frozen j
                have hfm := hS.frozen m
                obtain ⟨x, hx⟩ : ∃ x, x = dj[j]! := ⟨_, rfl⟩
                obtain ⟨y, hy⟩ : ∃ y, y = dj[m]! := ⟨_, rfl⟩
                rw [← hx] at hcj
                rw [← hy] at hcm
                have HXY := Lib.hid (And.intro hx hy)
                clear hx hy
                obtain ⟨t, ht⟩ : ∃ t, t = ltN x y := ⟨_, rfl⟩
                have HL := Lib.hid (fun (w0 : World) (k : Nat) => less_q x y ht w0 k)
                have HT := Lib.hid ht
                clear ht
                cases t
                · go_wp2_with fail
                  go_quiet ((go_at_call 76; exact HL.out _ _))
                  obtain ⟨dd, hdd⟩ : ∃ z, z = dj := ⟨_, rfl⟩
                  have HDD := Lib.hid (show dd.size = n ∧ dd = if i - a ≥ 2 then shiftDown ltN (i - 1) d1 else d1 from ⟨by rw [hdd]; exact HI.out.1, by rw [if_pos (by omega), ← HI.out.2, sd_stop HJM.out (by rw [← HXY.out.1, ← HXY.out.2]; exact HT.out.symm), hdd]⟩)
                  have hSd : SB (wr.drewN nq) g dd rest := by rw [hdd]; exact hS.drewN nq
                  have hOd := Lib.hid (hO.out.drewN nq)
                  clear hcj hcm hfj hfm hS hO hdd hs1 hjg hne b0 b1 b2 b3 HL HT HXY HI HJM hjl hmj
                  generalize wr.drewN nq = w2 at hSd hOd ⊢
                  by_cases hup : i + 2 ≤ b
                  · have gup : decide ((2 : Int) ≤ (bi : Int)) = true := by simp; omega
                    have e2 : (b : Int) - i = (bi : Int) := by omega
                    go_wp2_with fail
                    clear e2
                    go_loopw [10] (fun jv wr => ∃ (j : Nat) (dj : Array Nat), jv = .int .i64 j ∧ i + 1 ≤ j ∧ j ≤ b ∧ SB wr g dj rest ∧ Hid (dj.size = n ∧ shiftUp ltN b j dj = shiftUp ltN b (i + 1) dd) ∧ Hid (Om g w wr)) (fun jv _ => b + 1 - (intOf jv).toNat)
                    case atStart => exact ⟨i + 1, dd, by go_num, Nat.le_refl _, by omega, hSd, Lib.hid ⟨HDD.out.1, rfl⟩, hOd⟩
                    case round =>
                      clear hSd hOd
                      obtain ⟨j, dj, rfl, hij, hjb, hS, HI, hO⟩ := hrel
                      by_cases hjl : j < b
                      · have hjg : decide ((j : Int) < (b : Int)) = true := by simp; omega
                        obtain ⟨m, hm⟩ : ∃ m, m = j - 1 := ⟨_, rfl⟩
                        have hs1 : IntKind.i64.wrap ((j : Int) - 1) = (m : Int) := by rw [IntWalk.i64_in _ (by omega)]; omega
                        have HM := Lib.hid hm
                        have hne : j ≠ m := by omega
                        have hmj : m < j := by omega
                        clear hm
                        have b0 : (0 : Int) ≤ (j : Int) := by omega
                        have b1 : (j : Int) < (n : Int) := by omega
                        have b2 : (0 : Int) ≤ (m : Int) := by omega
                        have b3 : (m : Int) < (n : Int) := by omega
                        have hcj := hS.cell (i := j) (by rw [HI.out.1]; omega)
                        have hcm := hS.cell (i := m) (by rw [HI.out.1]; omega)
                        have hfj := hS.frozen j
                        have hfm := hS.frozen m
                        obtain ⟨x, hx⟩ : ∃ x, x = dj[j]! := ⟨_, rfl⟩
                        obtain ⟨y, hy⟩ : ∃ y, y = dj[m]! := ⟨_, rfl⟩
                        rw [← hx] at hcj
                        rw [← hy] at hcm
                        have HXY := Lib.hid (And.intro hx hy)
                        clear hx hy
                        obtain ⟨t, ht⟩ : ∃ t, t = ltN x y := ⟨_, rfl⟩
                        have HL := Lib.hid (fun (w0 : World) (k : Nat) => less_q x y ht w0 k)
                        have HT := Lib.hid ht
                        clear ht
                        cases t
                        · go_wp2_with fail
                          go_quiet ((go_at_call 76; exact HL.out _ _))
                          have HU := Lib.hid (show dj.size = n ∧ dj = if b - i ≥ 2 then shiftUp ltN b (i + 1) dd else dd from ⟨HI.out.1, by rw [if_pos (by omega), ← HI.out.2, su_stop hjl (by rw [← HM.out, ← HXY.out.1, ← HXY.out.2]; exact HT.out.symm)]⟩)
                          have hSf := hS.drewN nq
                          have hOf := Lib.hid (hO.out.drewN nq)
                          clear hcj hcm hfj hfm hS hO
                          have HEn := Lib.hid (show (dj).size = n ∧ partialIns ltN a b s i (dj) = partialInsertionSort ltN d a b from ⟨HU.out.1, by rw [← HE.out]; exact (pi_step2 HS.out HG.out.1 HG.out.2 HD1.out HDD.out.2 HU.out.2).symm⟩)
                          go_wp2
                          go_roundw
                          case rel => exact ⟨i, s, dj, rfl, int_i (by omega), by omega, by omega, hSf, HEn, hOf⟩
                          case measure => simp [intOf]; omega
                        · go_wp2_with fail
                          go_quiet ((go_at_call 76; exact HL.out _ _))
                          have hcj2 : (wr.drewN nq).cell? ⟨g, j, none⟩ = some (.int .u32 x) := hcj
                          have hcm2 : (wr.drewN nq).cell? ⟨g, m, none⟩ = some (.int .u32 y) := hcm
                          have hfj2 : (wr.drewN nq).frozen? ⟨g, j, none⟩ = false := hfj
                          have hfm2 : (wr.drewN nq).frozen? ⟨g, m, none⟩ = false := hfm
                          have hS2 := hS.drewN nq
                          have hO2 := Lib.hid (hO.out.drewN nq)
                          clear hcj hcm hfj hfm hS hO HL
                          generalize wr.drewN nq = w2 at hcj2 hcm2 hfj2 hfm2 hS2 hO2 ⊢
                          go_wp2_with fail
                          go_region
                          have hS3 := (hS2.swap (i := j) (j := m) (by rw [HI.out.1]; omega) (by rw [HI.out.1]; omega) HXY.out.2 HXY.out.1).drew
                          have hO3 := Lib.hid (((hO2.out.set (i := j) (.int .u32 (y : Nat))).set (i := m) (.int .u32 (x : Nat))).drew)
                          have hz3 := Lib.hid (show (swp dj j m).size = n by rw [size_swp]; exact HI.out.1)
                          clear hcj2 hcm2 hfj2 hfm2 hS2 hO2
                          generalize ((w2.setCell ⟨g, j, none⟩ (.int .u32 (y : Nat))).setCell ⟨g, m, none⟩ (.int .u32 (x : Nat))).drew = w3 at hS3 hO3 ⊢
                          have HI3 := Lib.hid (show (swp dj j m).size = n ∧ shiftUp ltN b (j + 1) (swp dj j m) = shiftUp ltN b (i + 1) dd from ⟨hz3.out, by rw [← HI.out.2, HM.out]; exact (su_go hjl (by rw [← HM.out, ← HXY.out.1, ← HXY.out.2]; exact HT.out.symm)).symm⟩)
                          go_wp2
                          go_roundw
                          case rel => exact ⟨j + 1, swp dj j m, by go_num, by omega, by omega, hS3, HI3, hO3⟩
                          case measure => simp [intOf]; omega
                      · have hjg : decide ((j : Int) < (b : Int)) = false := by simp; omega
                        have HU := Lib.hid (show dj.size = n ∧ dj = if b - i ≥ 2 then shiftUp ltN b (i + 1) dd else dd from ⟨HI.out.1, by rw [if_pos (by omega), ← HI.out.2, su_end hjl]⟩)
                        have hSf := hS
                        have hOf := hO
                        have HEn := Lib.hid (show (dj).size = n ∧ partialIns ltN a b s i (dj) = partialInsertionSort ltN d a b from ⟨HU.out.1, by rw [← HE.out]; exact (pi_step2 HS.out HG.out.1 HG.out.2 HD1.out HDD.out.2 HU.out.2).symm⟩)
                        go_wp2
                        go_roundw
                        case rel => exact ⟨i, s, dj, rfl, int_i (by omega), by omega, by omega, hSf, HEn, hOf⟩
                        case measure => simp [intOf]; omega
                  · have gup : decide ((2 : Int) ≤ (bi : Int)) = false := by simp; omega
                    have e2 : (b : Int) - i = (bi : Int) := by omega
                    have HU := Lib.hid (show dd.size = n ∧ dd = if b - i ≥ 2 then shiftUp ltN b (i + 1) dd else dd from ⟨HDD.out.1, by rw [if_neg (by omega)]⟩)
                    have hSf := hSd
                    have hOf := hOd
                    have HEn := Lib.hid (show (dd).size = n ∧ partialIns ltN a b s i (dd) = partialInsertionSort ltN d a b from ⟨HU.out.1, by rw [← HE.out]; exact (pi_step2 HS.out HG.out.1 HG.out.2 HD1.out HDD.out.2 HU.out.2).symm⟩)
                    go_wp2
                    go_roundw
                    case rel => exact ⟨i, s, dd, rfl, int_i (by omega), by omega, by omega, hSf, HEn, hOf⟩
                    case measure => simp [intOf]; omega
                · go_wp2_with fail
                  go_quiet ((go_at_call 76; exact HL.out _ _))
                  have hcj2 : (wr.drewN nq).cell? ⟨g, j, none⟩ = some (.int .u32 x) := hcj
                  have hcm2 : (wr.drewN nq).cell? ⟨g, m, none⟩ = some (.int .u32 y) := hcm
                  have hfj2 : (wr.drewN nq).frozen? ⟨g, j, none⟩ = false := hfj
                  have hfm2 : (wr.drewN nq).frozen? ⟨g, m, none⟩ = false := hfm
                  have hS2 := hS.drewN nq
                  have hO2 := Lib.hid (hO.out.drewN nq)
                  clear hcj hcm hfj hfm hS hO HL
                  generalize wr.drewN nq = w2 at hcj2 hcm2 hfj2 hfm2 hS2 hO2 ⊢
                  go_wp2_with fail
                  go_region
                  have hS3 := (hS2.swap (i := j) (j := m) (by rw [HI.out.1]; omega) (by rw [HI.out.1]; omega) HXY.out.2 HXY.out.1).drew
                  have hO3 := Lib.hid (((hO2.out.set (i := j) (.int .u32 (y : Nat))).set (i := m) (.int .u32 (x : Nat))).drew)
                  have hz3 := Lib.hid (show (swp dj j m).size = n by rw [size_swp]; exact HI.out.1)
                  clear hcj2 hcm2 hfj2 hfm2 hS2 hO2
                  generalize ((w2.setCell ⟨g, j, none⟩ (.int .u32 (y : Nat))).setCell ⟨g, m, none⟩ (.int .u32 (x : Nat))).drew = w3 at hS3 hO3 ⊢
                  have HI3 := Lib.hid (show (swp dj j m).size = n ∧ shiftDown ltN m (swp dj j m) = shiftDown ltN (i - 1) d1 from ⟨hz3.out, by rw [← HI.out.2]; exact (sd_go HJM.out (by rw [← HXY.out.1, ← HXY.out.2]; exact HT.out.symm)).symm⟩)
                  go_wp2
                  go_roundw
                  case rel => exact ⟨m, swp dj j m, rfl, by omega, hS3, HI3, hO3⟩
                  case measure => simp [intOf]; omega
              · have hjg : decide ((1 : Int) ≤ (j : Int)) = false := by simp; omega
                obtain ⟨dd, hdd⟩ : ∃ z, z = dj := ⟨_, rfl⟩
                have hj0 : j = 0 := by omega
                have HDD := Lib.hid (show dd.size = n ∧ dd = if i - a ≥ 2 then shiftDown ltN (i - 1) d1 else d1 from ⟨by rw [hdd]; exact HI.out.1, by rw [if_pos (by omega), ← HI.out.2, hj0, hdd]; rfl⟩)
                have hSd : SB wr g dd rest := by rw [hdd]; exact hS
                have hOd := hO
                clear hS hO hdd HI hj0
                by_cases hup : i + 2 ≤ b
                · have gup : decide ((2 : Int) ≤ (bi : Int)) = true := by simp; omega
                  have e2 : (b : Int) - i = (bi : Int) := by omega
                  go_wp2_with fail
                  clear e2
                  go_loopw [10] (fun jv wr => ∃ (j : Nat) (dj : Array Nat), jv = .int .i64 j ∧ i + 1 ≤ j ∧ j ≤ b ∧ SB wr g dj rest ∧ Hid (dj.size = n ∧ shiftUp ltN b j dj = shiftUp ltN b (i + 1) dd) ∧ Hid (Om g w wr)) (fun jv _ => b + 1 - (intOf jv).toNat)
                  case atStart => exact ⟨i + 1, dd, by go_num, Nat.le_refl _, by omega, hSd, Lib.hid ⟨HDD.out.1, rfl⟩, hOd⟩
                  case round =>
                    clear hSd hOd
                    obtain ⟨j, dj, rfl, hij, hjb, hS, HI, hO⟩ := hrel
                    by_cases hjl : j < b
                    · have hjg : decide ((j : Int) < (b : Int)) = true := by simp; omega
                      obtain ⟨m, hm⟩ : ∃ m, m = j - 1 := ⟨_, rfl⟩
                      have hs1 : IntKind.i64.wrap ((j : Int) - 1) = (m : Int) := by rw [IntWalk.i64_in _ (by omega)]; omega
                      have HM := Lib.hid hm
                      have hne : j ≠ m := by omega
                      have hmj : m < j := by omega
                      clear hm
                      have b0 : (0 : Int) ≤ (j : Int) := by omega
                      have b1 : (j : Int) < (n : Int) := by omega
                      have b2 : (0 : Int) ≤ (m : Int) := by omega
                      have b3 : (m : Int) < (n : Int) := by omega
                      have hcj := hS.cell (i := j) (by rw [HI.out.1]; omega)
                      have hcm := hS.cell (i := m) (by rw [HI.out.1]; omega)
                      have hfj := hS.frozen j
                      have hfm := hS.frozen m
                      obtain ⟨x, hx⟩ : ∃ x, x = dj[j]! := ⟨_, rfl⟩
                      obtain ⟨y, hy⟩ : ∃ y, y = dj[m]! := ⟨_, rfl⟩
                      rw [← hx] at hcj
                      rw [← hy] at hcm
                      have HXY := Lib.hid (And.intro hx hy)
                      clear hx hy
                      obtain ⟨t, ht⟩ : ∃ t, t = ltN x y := ⟨_, rfl⟩
                      have HL := Lib.hid (fun (w0 : World) (k : Nat) => less_q x y ht w0 k)
                      have HT := Lib.hid ht
                      clear ht
                      cases t
                      · go_wp2_with fail
                        go_quiet ((go_at_call 76; exact HL.out _ _))
                        have HU := Lib.hid (show dj.size = n ∧ dj = if b - i ≥ 2 then shiftUp ltN b (i + 1) dd else dd from ⟨HI.out.1, by rw [if_pos (by omega), ← HI.out.2, su_stop hjl (by rw [← HM.out, ← HXY.out.1, ← HXY.out.2]; exact HT.out.symm)]⟩)
                        have hSf := hS.drewN nq
                        have hOf := Lib.hid (hO.out.drewN nq)
                        clear hcj hcm hfj hfm hS hO
                        have HEn := Lib.hid (show (dj).size = n ∧ partialIns ltN a b s i (dj) = partialInsertionSort ltN d a b from ⟨HU.out.1, by rw [← HE.out]; exact (pi_step2 HS.out HG.out.1 HG.out.2 HD1.out HDD.out.2 HU.out.2).symm⟩)
                        go_wp2
                        go_roundw
                        case rel => exact ⟨i, s, dj, rfl, int_i (by omega), by omega, by omega, hSf, HEn, hOf⟩
                        case measure => simp [intOf]; omega
                      · go_wp2_with fail
                        go_quiet ((go_at_call 76; exact HL.out _ _))
                        have hcj2 : (wr.drewN nq).cell? ⟨g, j, none⟩ = some (.int .u32 x) := hcj
                        have hcm2 : (wr.drewN nq).cell? ⟨g, m, none⟩ = some (.int .u32 y) := hcm
                        have hfj2 : (wr.drewN nq).frozen? ⟨g, j, none⟩ = false := hfj
                        have hfm2 : (wr.drewN nq).frozen? ⟨g, m, none⟩ = false := hfm
                        have hS2 := hS.drewN nq
                        have hO2 := Lib.hid (hO.out.drewN nq)
                        clear hcj hcm hfj hfm hS hO HL
                        generalize wr.drewN nq = w2 at hcj2 hcm2 hfj2 hfm2 hS2 hO2 ⊢
                        go_wp2_with fail
                        go_region
                        have hS3 := (hS2.swap (i := j) (j := m) (by rw [HI.out.1]; omega) (by rw [HI.out.1]; omega) HXY.out.2 HXY.out.1).drew
                        have hO3 := Lib.hid (((hO2.out.set (i := j) (.int .u32 (y : Nat))).set (i := m) (.int .u32 (x : Nat))).drew)
                        have hz3 := Lib.hid (show (swp dj j m).size = n by rw [size_swp]; exact HI.out.1)
                        clear hcj2 hcm2 hfj2 hfm2 hS2 hO2
                        generalize ((w2.setCell ⟨g, j, none⟩ (.int .u32 (y : Nat))).setCell ⟨g, m, none⟩ (.int .u32 (x : Nat))).drew = w3 at hS3 hO3 ⊢
                        have HI3 := Lib.hid (show (swp dj j m).size = n ∧ shiftUp ltN b (j + 1) (swp dj j m) = shiftUp ltN b (i + 1) dd from ⟨hz3.out, by rw [← HI.out.2, HM.out]; exact (su_go hjl (by rw [← HM.out, ← HXY.out.1, ← HXY.out.2]; exact HT.out.symm)).symm⟩)
                        go_wp2
                        go_roundw
                        case rel => exact ⟨j + 1, swp dj j m, by go_num, by omega, by omega, hS3, HI3, hO3⟩
                        case measure => simp [intOf]; omega
                    · have hjg : decide ((j : Int) < (b : Int)) = false := by simp; omega
                      have HU := Lib.hid (show dj.size = n ∧ dj = if b - i ≥ 2 then shiftUp ltN b (i + 1) dd else dd from ⟨HI.out.1, by rw [if_pos (by omega), ← HI.out.2, su_end hjl]⟩)
                      have hSf := hS
                      have hOf := hO
                      have HEn := Lib.hid (show (dj).size = n ∧ partialIns ltN a b s i (dj) = partialInsertionSort ltN d a b from ⟨HU.out.1, by rw [← HE.out]; exact (pi_step2 HS.out HG.out.1 HG.out.2 HD1.out HDD.out.2 HU.out.2).symm⟩)
                      go_wp2
                      go_roundw
                      case rel => exact ⟨i, s, dj, rfl, int_i (by omega), by omega, by omega, hSf, HEn, hOf⟩
                      case measure => simp [intOf]; omega
                · have gup : decide ((2 : Int) ≤ (bi : Int)) = false := by simp; omega
                  have e2 : (b : Int) - i = (bi : Int) := by omega
                  have HU := Lib.hid (show dd.size = n ∧ dd = if b - i ≥ 2 then shiftUp ltN b (i + 1) dd else dd from ⟨HDD.out.1, by rw [if_neg (by omega)]⟩)
                  have hSf := hSd
                  have hOf := hOd
                  have HEn := Lib.hid (show (dd).size = n ∧ partialIns ltN a b s i (dd) = partialInsertionSort ltN d a b from ⟨HU.out.1, by rw [← HE.out]; exact (pi_step2 HS.out HG.out.1 HG.out.2 HD1.out HDD.out.2 HU.out.2).symm⟩)
                  go_wp2
                  go_roundw
                  case rel => exact ⟨i, s, dd, rfl, int_i (by omega), by omega, by omega, hSf, HEn, hOf⟩
                  case measure => simp [intOf]; omega
          · have gdn : decide ((2 : Int) ≤ (ia : Int)) = false := by simp; omega
            have e1 : (i : Int) - a = (ia : Int) := by omega
            obtain ⟨dd, hdd⟩ : ∃ z, z = d1 := ⟨_, rfl⟩
            have HDD := Lib.hid (show dd.size = n ∧ dd = if i - a ≥ 2 then shiftDown ltN (i - 1) d1 else d1 from ⟨by rw [hdd]; exact hz1.out, by rw [if_neg (by omega), hdd]⟩)
            have hSd : SB w3 g dd rest := by rw [hdd]; exact hS1
            have hOd := hO1
            clear hS1 hO1 hdd
            by_cases hup : i + 2 ≤ b
            · have gup : decide ((2 : Int) ≤ (bi : Int)) = true := by simp; omega
              have e2 : (b : Int) - i = (bi : Int) := by omega
              go_wp2_with fail
              clear e2
              go_loopw [10] (fun jv wr => ∃ (j : Nat) (dj : Array Nat), jv = .int .i64 j ∧ i + 1 ≤ j ∧ j ≤ b ∧ SB wr g dj rest ∧ Hid (dj.size = n ∧ shiftUp ltN b j dj = shiftUp ltN b (i + 1) dd) ∧ Hid (Om g w wr)) (fun jv _ => b + 1 - (intOf jv).toNat)
              case atStart => exact ⟨i + 1, dd, by go_num, Nat.le_refl _, by omega, hSd, Lib.hid ⟨HDD.out.1, rfl⟩, hOd⟩
              case round =>
                clear hSd hOd
                obtain ⟨j, dj, rfl, hij, hjb, hS, HI, hO⟩ := hrel
                by_cases hjl : j < b
                · have hjg : decide ((j : Int) < (b : Int)) = true := by simp; omega
                  obtain ⟨m, hm⟩ : ∃ m, m = j - 1 := ⟨_, rfl⟩
                  have hs1 : IntKind.i64.wrap ((j : Int) - 1) = (m : Int) := by rw [IntWalk.i64_in _ (by omega)]; omega
                  have HM := Lib.hid hm
                  have hne : j ≠ m := by omega
                  have hmj : m < j := by omega
                  clear hm
                  have b0 : (0 : Int) ≤ (j : Int) := by omega
                  have b1 : (j : Int) < (n : Int) := by omega
                  have b2 : (0 : Int) ≤ (m : Int) := by omega
                  have b3 : (m : Int) < (n : Int) := by omega
                  have hcj := hS.cell (i := j) (by rw [HI.out.1]; omega)
                  have hcm := hS.cell (i := m) (by rw [HI.out.1]; omega)
                  have hfj := hS.frozen j
                  have hfm := hS.frozen m
                  obtain ⟨x, hx⟩ : ∃ x, x = dj[j]! := ⟨_, rfl⟩
                  obtain ⟨y, hy⟩ : ∃ y, y = dj[m]! := ⟨_, rfl⟩
                  rw [← hx] at hcj
                  rw [← hy] at hcm
                  have HXY := Lib.hid (And.intro hx hy)
                  clear hx hy
                  obtain ⟨t, ht⟩ : ∃ t, t = ltN x y := ⟨_, rfl⟩
                  have HL := Lib.hid (fun (w0 : World) (k : Nat) => less_q x y ht w0 k)
                  have HT := Lib.hid ht
                  clear ht
                  cases t
                  · go_wp2_with fail
                    go_quiet ((go_at_call 76; exact HL.out _ _))
                    have HU := Lib.hid (show dj.size = n ∧ dj = if b - i ≥ 2 then shiftUp ltN b (i + 1) dd else dd from ⟨HI.out.1, by rw [if_pos (by omega), ← HI.out.2, su_stop hjl (by rw [← HM.out, ← HXY.out.1, ← HXY.out.2]; exact HT.out.symm)]⟩)
                    have hSf := hS.drewN nq
                    have hOf := Lib.hid (hO.out.drewN nq)
                    clear hcj hcm hfj hfm hS hO
                    have HEn := Lib.hid (show (dj).size = n ∧ partialIns ltN a b s i (dj) = partialInsertionSort ltN d a b from ⟨HU.out.1, by rw [← HE.out]; exact (pi_step2 HS.out HG.out.1 HG.out.2 HD1.out HDD.out.2 HU.out.2).symm⟩)
                    go_wp2
                    go_roundw
                    case rel => exact ⟨i, s, dj, rfl, int_i (by omega), by omega, by omega, hSf, HEn, hOf⟩
                    case measure => simp [intOf]; omega
                  · go_wp2_with fail
                    go_quiet ((go_at_call 76; exact HL.out _ _))
                    have hcj2 : (wr.drewN nq).cell? ⟨g, j, none⟩ = some (.int .u32 x) := hcj
                    have hcm2 : (wr.drewN nq).cell? ⟨g, m, none⟩ = some (.int .u32 y) := hcm
                    have hfj2 : (wr.drewN nq).frozen? ⟨g, j, none⟩ = false := hfj
                    have hfm2 : (wr.drewN nq).frozen? ⟨g, m, none⟩ = false := hfm
                    have hS2 := hS.drewN nq
                    have hO2 := Lib.hid (hO.out.drewN nq)
                    clear hcj hcm hfj hfm hS hO HL
                    generalize wr.drewN nq = w2 at hcj2 hcm2 hfj2 hfm2 hS2 hO2 ⊢
                    go_wp2_with fail
                    go_region
                    have hS3 := (hS2.swap (i := j) (j := m) (by rw [HI.out.1]; omega) (by rw [HI.out.1]; omega) HXY.out.2 HXY.out.1).drew
                    have hO3 := Lib.hid (((hO2.out.set (i := j) (.int .u32 (y : Nat))).set (i := m) (.int .u32 (x : Nat))).drew)
                    have hz3 := Lib.hid (show (swp dj j m).size = n by rw [size_swp]; exact HI.out.1)
                    clear hcj2 hcm2 hfj2 hfm2 hS2 hO2
                    generalize ((w2.setCell ⟨g, j, none⟩ (.int .u32 (y : Nat))).setCell ⟨g, m, none⟩ (.int .u32 (x : Nat))).drew = w3 at hS3 hO3 ⊢
                    have HI3 := Lib.hid (show (swp dj j m).size = n ∧ shiftUp ltN b (j + 1) (swp dj j m) = shiftUp ltN b (i + 1) dd from ⟨hz3.out, by rw [← HI.out.2, HM.out]; exact (su_go hjl (by rw [← HM.out, ← HXY.out.1, ← HXY.out.2]; exact HT.out.symm)).symm⟩)
                    go_wp2
                    go_roundw
                    case rel => exact ⟨j + 1, swp dj j m, by go_num, by omega, by omega, hS3, HI3, hO3⟩
                    case measure => simp [intOf]; omega
                · have hjg : decide ((j : Int) < (b : Int)) = false := by simp; omega
                  have HU := Lib.hid (show dj.size = n ∧ dj = if b - i ≥ 2 then shiftUp ltN b (i + 1) dd else dd from ⟨HI.out.1, by rw [if_pos (by omega), ← HI.out.2, su_end hjl]⟩)
                  have hSf := hS
                  have hOf := hO
                  have HEn := Lib.hid (show (dj).size = n ∧ partialIns ltN a b s i (dj) = partialInsertionSort ltN d a b from ⟨HU.out.1, by rw [← HE.out]; exact (pi_step2 HS.out HG.out.1 HG.out.2 HD1.out HDD.out.2 HU.out.2).symm⟩)
                  go_wp2
                  go_roundw
                  case rel => exact ⟨i, s, dj, rfl, int_i (by omega), by omega, by omega, hSf, HEn, hOf⟩
                  case measure => simp [intOf]; omega
            · exfalso; have := HG.out; omega
      · obtain rfl : i = b := by omega
        have hjg : decide ((i : Int) < (i : Int)) = false := by simp
        have HF := Lib.hid (show (dk, true) = partialInsertionSort ltN d a i by rw [← HE0.out.2, pi_true (by rw [← hI.out, sc_end (Nat.lt_irrefl _)])])
        go_wp2_with fail
        go_quiet (fail)
        have hS2 := hS.drewN nq
        have hO2 := Lib.hid (hO.out.drewN nq)
        clear hS
        go_wp2
        go_ret
        rw [← HF.out]
        exact ⟨rfl, hS2, hO2.out⟩
end Go.Proofs.YtjnhfakdpnnboaaDoor
