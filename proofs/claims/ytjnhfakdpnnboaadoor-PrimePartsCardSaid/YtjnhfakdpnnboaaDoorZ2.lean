/- Sorting words: by insertion. -/
import Derived.Test.YtjnhfakdpnnboaaDoorZ1
namespace Go.Proofs.YtjnhfakdpnnboaaDoor
open Go.RowKit Go.IntWalk Go.Sort

/-- The row becomes d'. -/
def RetSo (g : Nat) (rest : List Value) (d' : Array Nat) (w : World) (e : Ending) (w' : World) : Prop := e = .returned (.tuple #[]) ∧ SB w' g d' rest ∧ Om g w w'
theorem ins_end {a : Nat} (d : Array Nat) : insInner ltN a a d = d := by
  cases a with
  | zero => rfl
  | succ a => rw [insInner]; simp
theorem ins_stop {a j m : Nat} {d : Array Nat} (hj : j = m + 1) (h : ltN d[j]! d[m]! = false) : insInner ltN a j d = d := by
  subst hj; rw [insInner, h]; simp
theorem ins_go {a j m : Nat} {d : Array Nat} (hj : j = m + 1) (ha : a < j) (h : ltN d[j]! d[m]! = true) : insInner ltN a j d = insInner ltN a m (swp d j m) := by
  subst hj; rw [insInner, h]; simp [ha]
theorem insO_go {a b i : Nat} {d : Array Nat} (h : i < b) : insOuter ltN a b i d = insOuter ltN a b (i + 1) (insInner ltN a i d) := by
  conv => lhs; rw [insOuter]
  rw [if_pos h]
theorem insO_end {a b i : Nat} {d : Array Nat} (h : ¬ i < b) : insOuter ltN a b i d = d := by rw [insOuter, if_neg h]
set_option maxRecDepth 100000 in
set_option maxHeartbeats 2000000 in
theorem ins_any {g n cap : Nat} {d : Array Nat} {rest : List Value} {w : World} (hS : SB w g d rest) (hn : d.size = n) (a b : Nat) (hab : a ≤ b) (hb : b ≤ n) (hsz : n ≤ 1099511627776) :
    Calls Tryd.prog 70 #[.slice (some ⟨g, 0, none⟩) n cap, .int .i64 a, .int .i64 b] w (RetSo g rest (insertionSort ltN d a b) w) := by
  have HN := Lib.hid hn
  clear hn
  go_enter Tryd.func70, Tryd.ntmps70
  go_wp2
  go_loopw [6] (fun iv wr => ∃ (i : Nat) (dk : Array Nat), iv = .int .i64 i ∧ a + 1 ≤ i ∧ i ≤ b + 1 ∧ SB wr g dk rest ∧ Hid (dk.size = n ∧ insOuter ltN a b i dk = insertionSort ltN d a b) ∧ Hid (Om g w wr)) (fun iv _ => b + 1 - (intOf iv).toNat)
  case atStart => exact ⟨a + 1, d, by go_num, Nat.le_refl _, by omega, hS, Lib.hid ⟨HN.out, rfl⟩, Lib.hid (Om.refl _ _)⟩
  case round =>
    clear hS
    obtain ⟨i, dk, rfl, hi, hib, hS, hE, hO⟩ := hrel
    by_cases hlt : i < b
    · go_wp2_with fail
      obtain ⟨wo, rfl⟩ : ∃ wo : World, wo = wr := ⟨_, rfl⟩
      go_loopw [7] (fun jv wr => ∃ (j : Nat) (dj : Array Nat), jv = .int .i64 j ∧ a ≤ j ∧ j ≤ i ∧ SB wr g dj rest ∧ Hid (dj.size = n ∧ insInner ltN a j dj = insInner ltN a i dk) ∧ Hid (Om g w wr)) (fun jv _ => (intOf jv).toNat)
      case atStart => exact ⟨i, dk, rfl, by omega, Nat.le_refl _, hS, Lib.hid ⟨hE.out.1, rfl⟩, hO⟩
      case round =>
        clear hS hO
        obtain ⟨j, dj, rfl, haj, hji, hS, hI, hO⟩ := hrel
        by_cases hja : a < j
        · obtain ⟨m, hm⟩ : ∃ m, m = j - 1 := ⟨_, rfl⟩
          have hm0 : (0 : Int) ≤ (m : Int) := by omega
          have hmn : (m : Int) < (n : Int) := by omega
          have hjn : (j : Int) < (n : Int) := by omega
          have hs1 : IntKind.i64.wrap ((j : Int) - 1) = (m : Int) := by rw [IntWalk.i64_in _ (by omega)]; omega
          have hcj := hS.cell (i := j) (by rw [hI.out.1]; omega)
          have hcm := hS.cell (i := m) (by rw [hI.out.1]; omega)
          have hfj := hS.frozen j
          have hfm := hS.frozen m
          obtain ⟨x, hx⟩ : ∃ x, x = dj[j]! := ⟨_, rfl⟩
          obtain ⟨y, hy⟩ : ∃ y, y = dj[m]! := ⟨_, rfl⟩
          rw [← hx] at hcj
          rw [← hy] at hcm
          have HXY := Lib.hid (And.intro hx hy)
          have HJM := Lib.hid (show j = m + 1 by omega)
          have hmj : (m : Int) + 1 = j := by omega
          have hne : j ≠ m := by omega
          have hjg : decide ((a : Int) < (j : Int)) = true := by simp; omega
          clear hx hy hm hmj
          obtain ⟨t, ht⟩ : ∃ t, t = ltN x y := ⟨_, rfl⟩
          have HL := Lib.hid (fun (w0 : World) (k : Nat) => less_q x y ht w0 k)
          have HT := Lib.hid ht
          clear ht
          cases t
          · go_wp2_with fail
            go_quiet ((go_at_call 76; exact HL.out _ _))
            have HX := Lib.hid (show insInner ltN a j dj = dj from ins_stop HJM.out (by rw [← HXY.out.1, ← HXY.out.2]; exact HT.out.symm))
            have HE2 := Lib.hid (show dj.size = n ∧ insOuter ltN a b (i + 1) dj = insertionSort ltN d a b from ⟨hI.out.1, by
              have h1 := hI.out.2
              rw [HX.out] at h1
              rw [← hE.out.2, insO_go hlt, ← h1]⟩)
            have hS2 := hS.drewN nq
            have hO2 := Lib.hid (hO.out.drewN nq)
            clear hcj hcm hfj hfm hS
            go_wp2
            go_roundw
            case rel => exact ⟨i + 1, dj, by go_num, by omega, by omega, hS2, HE2, hO2⟩
            case measure => simp [intOf]; omega
          · go_wp2_with fail
            go_quiet ((go_at_call 76; exact HL.out _ _))
            have hcj2 : (wr.drewN nq).cell? ⟨g, j, none⟩ = some (.int .u32 x) := hcj
            have hcm2 : (wr.drewN nq).cell? ⟨g, m, none⟩ = some (.int .u32 y) := hcm
            have hfj2 : (wr.drewN nq).frozen? ⟨g, j, none⟩ = false := hfj
            have hfm2 : (wr.drewN nq).frozen? ⟨g, m, none⟩ = false := hfm
            have hS2 := hS.drewN nq
            have hO2 := Lib.hid (hO.out.drewN nq)
            clear hcj hcm hfj hfm hS hO HL
            generalize wr.drewN nq = w2 at hcj2 hcm2 hfj2 hfm2 hS2 hO2 ⊢
            go_wp2_with fail
            go_region
            have hS3 := (hS2.swap (i := j) (j := m) (by rw [hI.out.1]; omega) (by rw [hI.out.1]; omega) HXY.out.2 HXY.out.1).drew
            have hO3 := Lib.hid (((hO2.out.set (i := j) (.int .u32 (y : Nat))).set (i := m) (.int .u32 (x : Nat))).drew)
            have HE3 := Lib.hid (show (swp dj j m).size = n ∧ insInner ltN a m (swp dj j m) = insInner ltN a i dk from ⟨by rw [size_swp]; exact hI.out.1, by
              rw [← hI.out.2, ins_go HJM.out hja (by rw [← HXY.out.1, ← HXY.out.2]; exact HT.out.symm)]⟩)
            clear hcj2 hcm2 hfj2 hfm2 hS2 hO2
            generalize ((w2.setCell ⟨g, j, none⟩ (.int .u32 (y : Nat))).setCell ⟨g, m, none⟩ (.int .u32 (x : Nat))).drew = w3 at hS3 hO3 ⊢
            go_wp2
            go_roundw
            case rel => have hjm := HJM.out; exact ⟨m, swp dj j m, rfl, by omega, by omega, hS3, HE3, hO3⟩
            case measure => have hjm := HJM.out; simp [intOf]; omega
        · obtain rfl : j = a := by omega
          have hjg : decide ((j : Int) < (j : Int)) = false := by simp
          have HE2 := Lib.hid (show dj.size = n ∧ insOuter ltN j b (i + 1) dj = insertionSort ltN d j b from ⟨hI.out.1, by
            have h1 := hI.out.2
            rw [ins_end] at h1
            rw [← hE.out.2, insO_go hlt, ← h1]⟩)
          go_wp2_with fail
          go_quiet (fail)
          have hS2 := hS.drewN nq
          have hO2 := Lib.hid (hO.out.drewN nq)
          clear hS
          go_wp2
          go_roundw
          case rel => exact ⟨i + 1, dj, by go_num, by omega, by omega, hS2, HE2, hO2⟩
          case measure => simp [intOf]; omega
    · have HF := Lib.hid (show dk = insertionSort ltN d a b by rw [← hE.out.2, insO_end hlt])
      go_wp2
      go_end0
      exact ⟨rfl, by rw [← HF.out]; exact hS, hO.out⟩
end Go.Proofs.YtjnhfakdpnnboaaDoor
