/- Sorting words: the heap sort; a part turned round. -/
import Derived.Test.YtjnhfakdpnnboaaDoorZ3
namespace Go.Proofs.YtjnhfakdpnnboaaDoor
open Go.RowKit Go.IntWalk Go.Sort

theorem sift_size (hi F : Nat) (r : Nat) (d : Array Nat) : (siftDown ltN hi F r d).size = d.size := by
  fun_induction siftDown ltN hi F r d with
  | case1 => rfl
  | case2 => rfl
  | case3 _ _ _ _ _ _ ih => rw [ih, size_swp]
  | case4 => rfl
  | case5 => rfl
  | case6 _ _ _ _ _ ih => rw [ih, size_swp]
theorem rev_go {i j : Nat} {d : Array Nat} (h : i < j) : reverseLoop i j d = reverseLoop (i + 1) (j - 1) (swp d i j) := by
  conv => lhs; rw [reverseLoop]
  rw [if_pos h]
theorem rev_end {i j : Nat} {d : Array Nat} (h : ¬ i < j) : reverseLoop i j d = d := by rw [reverseLoop, if_neg h]
set_option maxRecDepth 100000 in
set_option maxHeartbeats 2000000 in
theorem rev_any {g n cap : Nat} {d : Array Nat} {rest : List Value} {w : World} (hS : SB w g d rest) (hn : d.size = n) (a b : Nat) (hab : a < b) (hb : b ≤ n) (hsz : n ≤ 1099511627776) :
    Calls Tryd.prog 74 #[.slice (some ⟨g, 0, none⟩) n cap, .int .i64 a, .int .i64 b] w (RetSo g rest (reverseRange d a b) w) := by
  have HN := Lib.hid hn
  obtain ⟨b1, hb1⟩ : ∃ x, x = b - 1 := ⟨_, rfl⟩
  have hbb : (b : Int) - 1 = (b1 : Int) := by omega
  have HB := Lib.hid hb1
  have hb1n : b1 < n := by omega
  have hab1 : a ≤ b1 := by omega
  clear hn hb1
  go_enter Tryd.func74, Tryd.ntmps74
  go_wp2
  clear hbb
  go_loopw [6, 7] (fun iv jv wr => ∃ (i j : Nat) (dk : Array Nat), iv = .int .i64 i ∧ jv = .int .i64 j ∧ i ≤ j + 1 ∧ j < n ∧ SB wr g dk rest ∧ Hid (dk.size = n ∧ reverseLoop i j dk = reverseRange d a b) ∧ Hid (Om g w wr)) (fun iv jv _ => (intOf jv + 1 - intOf iv).toNat)
  case atStart => exact ⟨a, b1, d, rfl, rfl, by omega, hb1n, hS, Lib.hid ⟨HN.out, by rw [HB.out]; rfl⟩, Lib.hid (Om.refl _ _)⟩
  case round =>
    clear hS
    obtain ⟨i, j, dk, rfl, rfl, hij, hjn, hS, hE, hO⟩ := hrel
    by_cases hlt : i < j
    · have hlt' : (i : Int) < (j : Int) := by omega
      have b0 : (0 : Int) ≤ (i : Int) := by omega
      have b2 : (i : Int) < (n : Int) := by omega
      have b3 : (0 : Int) ≤ (j : Int) := by omega
      have b4 : (j : Int) < (n : Int) := by omega
      have hci := hS.cell (i := i) (by rw [hE.out.1]; omega)
      have hcj := hS.cell (i := j) (by rw [hE.out.1]; omega)
      have hfi := hS.frozen i
      have hfj := hS.frozen j
      obtain ⟨x, hx⟩ : ∃ x, x = dk[i]! := ⟨_, rfl⟩
      obtain ⟨y, hy⟩ : ∃ y, y = dk[j]! := ⟨_, rfl⟩
      rw [← hx] at hci
      rw [← hy] at hcj
      have HXY := Lib.hid (And.intro hx hy)
      have hne : i ≠ j := by omega
      obtain ⟨j1, hj1⟩ : ∃ x, x = j - 1 := ⟨_, rfl⟩
      have hjj : (j : Int) - 1 = (j1 : Int) := by omega
      have HJ := Lib.hid hj1
      clear hx hy hj1
      go_wp2_with fail
      go_region
      have hS3 := (hS.swap (i := i) (j := j) (by rw [hE.out.1]; omega) (by rw [hE.out.1]; omega) HXY.out.2 HXY.out.1).drew
      have hO3 := Lib.hid (((hO.out.set (i := i) (.int .u32 (y : Nat))).set (i := j) (.int .u32 (x : Nat))).drew)
      have HE3 := Lib.hid (show (swp dk i j).size = n ∧ reverseLoop (i + 1) j1 (swp dk i j) = reverseRange d a b from ⟨by rw [size_swp]; exact hE.out.1, by rw [← hE.out.2, rev_go hlt, HJ.out]⟩)
      clear hci hcj hfi hfj hS
      generalize ((wr.setCell ⟨g, i, none⟩ (.int .u32 (y : Nat))).setCell ⟨g, j, none⟩ (.int .u32 (x : Nat))).drew = w3 at hS3 hO3 ⊢
      go_wp2
      go_roundw
      case rel => exact ⟨i + 1, j1, swp dk i j, by go_num, rfl, by omega, by omega, hS3, HE3, hO3⟩
      case measure => simp [intOf]; omega
    · have HF := Lib.hid (show dk = reverseRange d a b by rw [← hE.out.2, rev_end hlt])
      go_wp2
      go_end0
      exact ⟨rfl, by rw [← HF.out]; exact hS, hO.out⟩

set_option maxRecDepth 100000 in
set_option maxHeartbeats 4000000 in
theorem heap_any {g n cap : Nat} {d : Array Nat} {rest : List Value} {w : World} (hS : SB w g d rest) (hn : d.size = n) (a b : Nat) (hab : a < b) (hb : b ≤ n) (hsz : n ≤ 1099511627776) :
    Calls Tryd.prog 71 #[.slice (some ⟨g, 0, none⟩) n cap, .int .i64 a, .int .i64 b] w (RetSo g rest (heapSort ltN d a b) w) := by
  have HN := Lib.hid hn
  obtain ⟨h, hh⟩ : ∃ x, x = b - a := ⟨_, rfl⟩
  obtain ⟨h1, hh1⟩ : ∃ x, x = h - 1 := ⟨_, rfl⟩
  obtain ⟨k0, hk0⟩ : ∃ x, x = h1 / 2 := ⟨_, rfl⟩
  have e1 : (b : Int) - a = (h : Int) := by omega
  have e2 : (h : Int) - 1 = (h1 : Int) := by omega
  have e3 : (h1 : Int) / 2 = (k0 : Int) := by omega
  have hhn : a + h ≤ n := by omega
  have hk0h : k0 < h := by omega
  have HH := Lib.hid (show h = b - a ∧ h = h1 + 1 ∧ k0 = (b - a - 1) / 2 by omega)
  clear hn hh hh1 hk0
  go_enter Tryd.func71, Tryd.ntmps71
  go_wp2
  clear e1 e2 e3
  go_loopw [9] (fun iv wr => ∃ (k : Nat) (dk : Array Nat), iv = .int .i64 ((k : Int) - 1) ∧ k ≤ h ∧ SB wr g dk rest ∧ Hid (dk.size = n ∧ heapBuild ltN h a k dk = heapBuild ltN h a (k0 + 1) d) ∧ Hid (Om g w wr)) (fun iv _ => (intOf iv + 1).toNat)
  case atStart => exact ⟨k0 + 1, d, int_i (by omega), by omega, hS, Lib.hid ⟨HN.out, rfl⟩, Lib.hid (Om.refl _ _)⟩
  case round =>
    clear hS
    obtain ⟨k, dk, rfl, hk, hS, hE, hO⟩ := hrel
    rcases Nat.eq_zero_or_pos k with hk0' | hk0'
    · subst hk0'
      have HD := Lib.hid (show dk = heapBuild ltN h a (k0 + 1) d from hE.out.2)
      have e2 : (h : Int) - 1 = (h1 : Int) := by have := HH.out; omega
      go_wp2_with fail
      clear e2
      go_loopw [10] (fun iv wr => ∃ (k : Nat) (dj : Array Nat), iv = .int .i64 ((k : Int) - 1) ∧ k ≤ h ∧ SB wr g dj rest ∧ Hid (dj.size = n ∧ heapPop ltN a k dj = heapSort ltN d a b) ∧ Hid (Om g w wr)) (fun iv _ => (intOf iv + 1).toNat)
      case atStart => exact ⟨h, dk, int_i (by have := HH.out; omega), Nat.le_refl _, hS, Lib.hid ⟨hE.out.1, by rw [HD.out]; unfold heapSort; rw [← HH.out.1, ← show (b - a - 1) / 2 = k0 from HH.out.2.2.symm, HH.out.1]⟩, hO⟩
      case round =>
        clear hS hO
        obtain ⟨k, dj, rfl, hk, hS, hI, hO⟩ := hrel
        rcases Nat.eq_zero_or_pos k with hk1 | hk1
        · subst hk1
          have HF := Lib.hid (show dj = heapSort ltN d a b from hI.out.2)
          go_wp2
          go_end0
          exact ⟨rfl, by rw [← HF.out]; exact hS, hO.out⟩
        · obtain ⟨m, rfl⟩ : ∃ m, k = m + 1 := ⟨k - 1, by omega⟩
          rw [show (((m + 1 : Nat) : Int) - 1) = (m : Int) by omega]
          obtain ⟨im, him⟩ : ∃ x, x = a + m := ⟨_, rfl⟩
          have s1 : IntKind.i64.wrap ((a : Int) + m) = (im : Int) := by rw [IntWalk.i64_in _ (by omega)]; omega
          have b0 : (0 : Int) ≤ (im : Int) := by omega
          have b2 : (im : Int) < (n : Int) := by omega
          have b3 : (0 : Int) ≤ (a : Int) := by omega
          have b4 : (a : Int) < (n : Int) := by omega
          have hca := hS.cell (i := a) (by rw [hI.out.1]; omega)
          have hcm := hS.cell (i := im) (by rw [hI.out.1]; omega)
          have hfa := hS.frozen a
          have hfm := hS.frozen im
          obtain ⟨x, hx⟩ : ∃ x, x = dj[a]! := ⟨_, rfl⟩
          obtain ⟨y, hy⟩ : ∃ y, y = dj[im]! := ⟨_, rfl⟩
          rw [← hx] at hca
          rw [← hy] at hcm
          have HXY := Lib.hid (And.intro hx hy)
          have HM := Lib.hid him
          clear hx hy him
          obtain ⟨y2, hcm2⟩ : ∃ y2 : Nat, (wr.setCell ⟨g, a, none⟩ (.int .u32 (y : Nat))).cell? ⟨g, im, none⟩ = some (.int .u32 y2) := ⟨_, (hS.set (i := a) (by rw [hI.out.1]; omega) y).cell (i := im) (by rw [Array.size_setIfInBounds, hI.out.1]; omega)⟩
          go_wp2_with fail
          go_region
          have hS3 := (hS.swap (i := a) (j := im) (by rw [hI.out.1]; omega) (by rw [hI.out.1]; omega) HXY.out.2 HXY.out.1).drew
          have hO3 := Lib.hid (((hO.out.set (i := a) (.int .u32 (y : Nat))).set (i := im) (.int .u32 (x : Nat))).drew)
          clear hca hcm hfa hfm hS hcm2
          generalize ((wr.setCell ⟨g, a, none⟩ (.int .u32 (y : Nat))).setCell ⟨g, im, none⟩ (.int .u32 (x : Nat))).drew = w3 at hS3 hO3 ⊢
          have hz3 : (swp dj a im).size = n := by rw [size_swp]; exact hI.out.1
          have HSI := Lib.hid (sift_any (cap := cap) hS3 hz3 0 m a (Nat.zero_le _) (by omega) hsz)
          clear hz3
          go_wp2_with fail
          refine HSI.out.mono ?_
          rintro _ w4 ⟨rfl, hS4, hO4⟩
          have HE4 := Lib.hid (show (siftDown ltN m a 0 (swp dj a im)).size = n ∧ heapPop ltN a m (siftDown ltN m a 0 (swp dj a im)) = heapSort ltN d a b from ⟨by rw [sift_size, size_swp]; exact hI.out.1, by rw [← hI.out.2, HM.out]; rfl⟩)
          have HO4 := Lib.hid (hO3.out.trans hO4)
          clear hS3 hO3 HSI hO4
          go_wp2
          go_roundw
          case rel => first | exact ⟨m, _, rfl, by omega, hS4, HE4, HO4⟩ | ((repeat apply Exists.intro); exact ⟨⟨m, _, rfl, by omega, hS4, HE4, HO4⟩, rfl⟩)
          case measure => simp [intOf]
    · obtain ⟨m, rfl⟩ : ∃ m, k = m + 1 := ⟨k - 1, by omega⟩
      rw [show (((m + 1 : Nat) : Int) - 1) = (m : Int) by omega]
      go_wp2_with fail
      refine (sift_any hS hE.out.1 m h a (by omega) hhn hsz).mono ?_
      rintro _ w2 ⟨rfl, hS2, hO2⟩
      have HE2 := Lib.hid (show (siftDown ltN h a m dk).size = n ∧ heapBuild ltN h a m (siftDown ltN h a m dk) = heapBuild ltN h a (k0 + 1) d from ⟨by rw [sift_size]; exact hE.out.1, by rw [← hE.out.2]; rfl⟩)
      have HO2 := Lib.hid (hO.out.trans hO2)
      clear hS hO2
      go_wp2
      go_roundw
      case rel => exact ⟨m, _, rfl, by omega, hS2, HE2, HO2⟩
      case measure => simp [intOf]
end Go.Proofs.YtjnhfakdpnnboaaDoor
