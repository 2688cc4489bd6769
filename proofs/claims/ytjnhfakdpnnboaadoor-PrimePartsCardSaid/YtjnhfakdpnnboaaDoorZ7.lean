/- Sorting words: partition. -/
import Derived.Test.YtjnhfakdpnnboaaDoorZ6
import Derived.Deep.CutBlock
import Derived.Deep.CutRange
namespace Go.Proofs.YtjnhfakdpnnboaaDoor
open Go.RowKit Go.IntWalk Go.Sort

theorem scU_go {p : Nat → Bool} {d : Array Nat} {j i : Nat} (h : i ≤ j) (hp : p d[i]! = true) : scanUp p d j i = scanUp p d j (i + 1) := by
  conv => lhs; rw [scanUp]
  rw [if_pos (by simp [h, hp])]
theorem scU_end {p : Nat → Bool} {d : Array Nat} {j i : Nat} (h : ¬ i ≤ j ∨ p d[i]! = false) : scanUp p d j i = i := by
  rw [scanUp, if_neg]
  simp only [Bool.and_eq_true, decide_eq_true_eq, not_and]
  rintro h1 h2
  rcases h with h | h
  · exact h h1
  · rw [h] at h2; cases h2
theorem scD_go {p : Nat → Bool} {d : Array Nat} {j i : Nat} (h : i ≤ j) (h0 : 0 < j) (hp : p d[j]! = true) : scanDown p d i j = scanDown p d i (j - 1) := by
  obtain ⟨m, rfl⟩ : ∃ m, j = m + 1 := ⟨j - 1, by omega⟩
  conv => lhs; rw [scanDown]
  rw [if_pos (by simp [h, hp])]; rfl
theorem scD_end {p : Nat → Bool} {d : Array Nat} {j i : Nat} (h : ¬ i ≤ j ∨ p d[j]! = false) : scanDown p d i j = j := by
  cases j with
  | zero => rfl
  | succ m =>
    rw [scanDown, if_neg]
    simp only [Bool.and_eq_true, decide_eq_true_eq, not_and]
    rintro h1 h2
    rcases h with h | h
    · exact h h1
    · rw [h] at h2; cases h2
theorem pl_break {a i j : Nat} {d : Array Nat} {i2 j2 : Nat} (hi : i2 = scanUp (fun x => ltN x d[a]!) d j i) (hj : j2 = scanDown (fun x => !ltN x d[a]!) d i2 j) (h : i2 > j2) : partLoop ltN a i j d = (j2, d) := by
  subst hi; subst hj; rw [partLoop_eq, if_pos h]
theorem pl_go {a i j : Nat} {d : Array Nat} {i2 j2 : Nat} (hi : i2 = scanUp (fun x => ltN x d[a]!) d j i) (hj : j2 = scanDown (fun x => !ltN x d[a]!) d i2 j) (h : ¬ i2 > j2) : partLoop ltN a i j d = partLoop ltN a (i2 + 1) (j2 - 1) (swp d i2 j2) := by
  subst hi; subst hj; rw [partLoop_eq, if_neg h]
theorem pf_break {a b p : Nat} {d d0 : Array Nat} {i2 j2 i0 j0 : Nat} (h0 : d0 = swp d a p) (hi0 : i0 = a + 1) (hj0 : j0 = b - 1) (hi : i2 = scanUp (fun x => ltN x d0[a]!) d0 j0 i0) (hj : j2 = scanDown (fun x => !ltN x d0[a]!) d0 i2 j0) (h : i2 > j2) : partition ltN d a b p = (j2, true, swp d0 j2 a) := by
  subst h0; subst hi0; subst hj0; subst hi; subst hj
  unfold partition; simp only []; rw [if_pos h]
theorem pf_go {a b p : Nat} {d d0 : Array Nat} {i2 j2 i0 j0 : Nat} (h0 : d0 = swp d a p) (hi0 : i0 = a + 1) (hj0 : j0 = b - 1) (hi : i2 = scanUp (fun x => ltN x d0[a]!) d0 j0 i0) (hj : j2 = scanDown (fun x => !ltN x d0[a]!) d0 i2 j0) (h : ¬ i2 > j2) :
    partition ltN d a b p = ((partLoop ltN a (i2 + 1) (j2 - 1) (swp d0 i2 j2)).1, false, swp (partLoop ltN a (i2 + 1) (j2 - 1) (swp d0 i2 j2)).2 (partLoop ltN a (i2 + 1) (j2 - 1) (swp d0 i2 j2)).1 a) := by
  subst h0; subst hi0; subst hj0; subst hi; subst hj
  unfold partition; simp only []; rw [if_neg h]
theorem pe_break {a i j : Nat} {d : Array Nat} {i2 j2 : Nat} (hi : i2 = scanUp (fun x => !ltN d[a]! x) d j i) (hj : j2 = scanDown (fun x => ltN d[a]! x) d i2 j) (h : i2 > j2) : partEqLoop ltN a i j d = (i2, d) := by
  subst hi; subst hj; rw [partEqLoop_eq, if_pos h]
theorem pe_go {a i j : Nat} {d : Array Nat} {i2 j2 : Nat} (hi : i2 = scanUp (fun x => !ltN d[a]! x) d j i) (hj : j2 = scanDown (fun x => ltN d[a]! x) d i2 j) (h : ¬ i2 > j2) : partEqLoop ltN a i j d = partEqLoop ltN a (i2 + 1) (j2 - 1) (swp d i2 j2) := by
  subst hi; subst hj; rw [partEqLoop_eq, if_neg h]

def RetPt (g : Nat) (rest : List Value) (r : Nat × Bool × Array Nat) (w : World) (e : Ending) (w' : World) : Prop := e = .returned (.tuple #[.int .i64 r.1, .bool r.2.1]) ∧ SB w' g r.2.2 rest ∧ Om g w w'
set_option maxRecDepth 100000 in
set_option maxHeartbeats 8000000 in
theorem part_any {g n cap : Nat} {d : Array Nat} {rest : List Value} {w : World} (hS : SB w g d rest) (hn : d.size = n) (a b p : Nat) (hb : b ≤ n) (hap : a ≤ p) (hpb : p < b) (hsz : n ≤ 1099511627776) :
    Calls Tryd.prog 78 #[.slice (some ⟨g, 0, none⟩) n cap, .int .i64 a, .int .i64 b, .int .i64 p] w (RetPt g rest (partition ltN d a b p) w) := by
  have HN := Lib.hid hn
  obtain ⟨i0, hi0⟩ : ∃ x, x = a + 1 := ⟨_, rfl⟩
  obtain ⟨j0, hj0⟩ : ∃ x, x = b - 1 := ⟨_, rfl⟩
  have e1 : IntKind.i64.wrap ((a : Int) + 1) = (i0 : Int) := by rw [IntWalk.i64_in _ (by omega)]; omega
  have e2 : IntKind.i64.wrap ((b : Int) - 1) = (j0 : Int) := by rw [IntWalk.i64_in _ (by omega)]; omega
  have HI0 := Lib.hid hi0
  have HJ0 := Lib.hid hj0
  have ij0 : a + 1 ≤ i0 ∧ i0 ≤ j0 + 2 ∧ a ≤ j0 ∧ j0 < b := by omega
  have hO : Hid (Om g w w) := Lib.hid (Om.refl _ _)
  clear hn hi0 hj0
  go_enter Tryd.func78, Tryd.ntmps78
  have b0 : (0 : Int) ≤ (a : Int) := by omega
  have b1 : (a : Int) < (n : Int) := by omega
  have b2 : (0 : Int) ≤ (p : Int) := by omega
  have b3 : (p : Int) < (n : Int) := by omega
  have hci := hS.cell (i := a) (by rw [HN.out]; omega)
  have hcj := hS.cell (i := p) (by rw [HN.out]; omega)
  have hfi := hS.frozen a
  have hfj := hS.frozen p
  obtain ⟨x, hx⟩ : ∃ x, x = d[a]! := ⟨_, rfl⟩
  obtain ⟨y, hy⟩ : ∃ y, y = d[p]! := ⟨_, rfl⟩
  rw [← hx] at hci
  rw [← hy] at hcj
  have HXY := Lib.hid (And.intro hx hy)
  clear hx hy
  obtain ⟨y2, hcj2⟩ : ∃ y2 : Nat, (w.setCell ⟨g, a, none⟩ (.int .u32 (y : Nat))).cell? ⟨g, p, none⟩ = some (.int .u32 y2) := ⟨_, (hS.set (i := a) (by rw [HN.out]; omega) y).cell (i := p) (by rw [Array.size_setIfInBounds, HN.out]; omega)⟩
  go_wp2_with fail
  go_region
  have hS0 := (hS.swap (i := a) (j := p) (by rw [HN.out]; omega) (by rw [HN.out]; omega) HXY.out.2 HXY.out.1).drew
  have hO0 := Lib.hid (((hO.out.set (i := a) (.int .u32 (y : Nat))).set (i := p) (.int .u32 (x : Nat))).drew)
  have HZ0 := Lib.hid (show (swp d a p).size = n by rw [size_swp]; exact HN.out)
  clear hci hcj hfi hfj hS hO hcj2 HXY b0 b1 b2 b3
  generalize ((w.setCell ⟨g, a, none⟩ (.int .u32 (y : Nat))).setCell ⟨g, p, none⟩ (.int .u32 (x : Nat))).drew = w0 at hS0 hO0 ⊢
  obtain ⟨d0, hd0⟩ : ∃ z, z = swp d a p := ⟨_, rfl⟩
  rw [← hd0] at hS0 HZ0
  have HD0 := Lib.hid hd0
  clear hd0
  go_upto_block 0 with fail
  go_cut [10] from 30 to 45 (fun iv wx => ∃ z : Nat, iv = .int .i64 z ∧ (a + 1 ≤ z ∧ z ≤ j0 + 2) ∧ SB wx g d0 rest ∧ Hid (z = scanUp (fun x => ltN x d0[a]!) d0 j0 i0) ∧ Hid (Om g w wx))
  case first =>
    go_wp2_with fail
    go_loopw [10] (fun iv wr => ∃ k : Nat, iv = .int .i64 k ∧ (a + 1 ≤ k ∧ k ≤ j0 + 2) ∧ SB wr g d0 rest ∧ Hid (scanUp (fun x => ltN x d0[a]!) d0 j0 k = scanUp (fun x => ltN x d0[a]!) d0 j0 i0) ∧ Hid (Om g w wr)) (fun iv _ => (j0 + 2 - (intOf iv).toNat))
    case atStart => exact ⟨i0, rfl, by omega, hS0, Lib.hid rfl, hO0⟩
    case round =>
      clear hS0 hO0
      obtain ⟨k, rfl, hij, hS, HI, hO⟩ := hrel
      by_cases hil : k ≤ j0
      · have hjg : decide ((k : Int) ≤ (j0 : Int)) = true := by simp; omega
        have b0 : (0 : Int) ≤ (k : Int) := by omega
        have b1 : (k : Int) < (n : Int) := by omega
        have b2 : (0 : Int) ≤ (a : Int) := by omega
        have b3 : (a : Int) < (n : Int) := by omega
        have hcp := hS.cell (i := k) (by rw [HZ0.out]; omega)
        have hcq := hS.cell (i := a) (by rw [HZ0.out]; omega)
        obtain ⟨x, hx⟩ : ∃ x, x = d0[k]! := ⟨_, rfl⟩
        obtain ⟨y, hy⟩ : ∃ y, y = d0[a]! := ⟨_, rfl⟩
        rw [← hx] at hcp
        rw [← hy] at hcq
        have HXY := Lib.hid (And.intro hx hy)
        clear hx hy
        obtain ⟨t, ht⟩ : ∃ t, t = ltN x y := ⟨_, rfl⟩
        have HL := Lib.hid (fun (w0 : World) (k : Nat) => less_q x y ht w0 k)
        have HT := Lib.hid ht
        clear ht
        cases t
        · go_wp2_with fail
          go_quiet ((go_at_call 76; exact HL.out _ _))
          have hS2 := hS.drewN nq
          have hO2 := Lib.hid (hO.out.drewN nq)
          clear hcp hcq hS hO HL
          have HZZ := Lib.hid (show k = scanUp (fun x => ltN x d0[a]!) d0 j0 i0 by rw [← HI.out]; exact (scU_end (p := fun x => ltN x d0[a]!) (Or.inr (by show ltN d0[k]! d0[a]! = false; rw [← HXY.out.1, ← HXY.out.2, ← HT.out]))).symm)
          go_wp2
          go_meet
          exact ⟨k, rfl, hij, hS2, HZZ, hO2⟩
        · go_wp2_with fail
          go_quiet ((go_at_call 76; exact HL.out _ _))
          have hS2 := hS.drewN nq
          have hO2 := Lib.hid (hO.out.drewN nq)
          clear hcp hcq hS hO HL
          have HII := Lib.hid (show scanUp (fun x => ltN x d0[a]!) d0 j0 (k + 1) = scanUp (fun x => ltN x d0[a]!) d0 j0 i0 by rw [← HI.out]; exact (scU_go (p := fun x => ltN x d0[a]!) hil (by show ltN d0[k]! d0[a]! = true; rw [← HXY.out.1, ← HXY.out.2, ← HT.out])).symm)
          go_wp2
          go_roundw
          case rel => exact ⟨(k + 1), by go_num, by omega, hS2, HII, hO2⟩
          case measure => simp [intOf]; omega
      · have hjg : decide ((k : Int) ≤ (j0 : Int)) = false := by simp; omega
        have HZZ := Lib.hid (show k = scanUp (fun x => ltN x d0[a]!) d0 j0 i0 by rw [← HI.out]; exact (scU_end (Or.inl hil)).symm)
        go_wp2_with fail
        go_quiet (fail)
        have hS2 := hS.drewN nq
        have hO2 := Lib.hid (hO.out.drewN nq)
        clear hS hO
        go_wp2
        go_meet
        exact ⟨k, rfl, hij, hS2, HZZ, hO2⟩
  case rest =>
    obtain ⟨i2, rfl, hi2, hS1, HI2, hO1⟩ := hcut
    go_upto_block 2 with fail
    go_cut [11] from 46 to 62 (fun iv wx => ∃ z : Nat, iv = .int .i64 z ∧ (a ≤ z ∧ i2 ≤ z + 2 ∧ z < b) ∧ SB wx g d0 rest ∧ Hid (z = scanDown (fun x => !ltN x d0[a]!) d0 i2 j0) ∧ Hid (Om g w wx))
    case first =>
      go_wp2_with fail
      go_loopw [11] (fun iv wr => ∃ k : Nat, iv = .int .i64 k ∧ (a ≤ k ∧ i2 ≤ k + 2 ∧ k < b) ∧ SB wr g d0 rest ∧ Hid (scanDown (fun x => !ltN x d0[a]!) d0 i2 k = scanDown (fun x => !ltN x d0[a]!) d0 i2 j0) ∧ Hid (Om g w wr)) (fun iv _ => ((intOf iv).toNat))
      case atStart => exact ⟨j0, rfl, by omega, hS1, Lib.hid rfl, hO1⟩
      case round =>
        clear hS1 hO1
        obtain ⟨k, rfl, hij, hS, HI, hO⟩ := hrel
        by_cases hil : i2 ≤ k
        · have hjg : decide ((i2 : Int) ≤ (k : Int)) = true := by simp; omega
          obtain ⟨im, him⟩ : ∃ m, m = k - 1 := ⟨_, rfl⟩
          have hs1 : IntKind.i64.wrap ((k : Int) - 1) = (im : Int) := by rw [IntWalk.i64_in _ (by omega)]; omega
          have HIM := Lib.hid him
          have himi : im + 1 = k := by omega
          clear him
          have b0 : (0 : Int) ≤ (k : Int) := by omega
          have b1 : (k : Int) < (n : Int) := by omega
          have b2 : (0 : Int) ≤ (a : Int) := by omega
          have b3 : (a : Int) < (n : Int) := by omega
          have hcp := hS.cell (i := k) (by rw [HZ0.out]; omega)
          have hcq := hS.cell (i := a) (by rw [HZ0.out]; omega)
          obtain ⟨x, hx⟩ : ∃ x, x = d0[k]! := ⟨_, rfl⟩
          obtain ⟨y, hy⟩ : ∃ y, y = d0[a]! := ⟨_, rfl⟩
          rw [← hx] at hcp
          rw [← hy] at hcq
          have HXY := Lib.hid (And.intro hx hy)
          clear hx hy
          obtain ⟨t, ht⟩ : ∃ t, t = ltN x y := ⟨_, rfl⟩
          have HL := Lib.hid (fun (w0 : World) (k : Nat) => less_q x y ht w0 k)
          have HT := Lib.hid ht
          clear ht
          cases t
          · go_wp2_with fail
            go_quiet ((go_at_call 76; exact HL.out _ _))
            have hS2 := hS.drewN nq
            have hO2 := Lib.hid (hO.out.drewN nq)
            clear hcp hcq hS hO HL
            have HII := Lib.hid (show scanDown (fun x => !ltN x d0[a]!) d0 i2 im = scanDown (fun x => !ltN x d0[a]!) d0 i2 j0 by rw [← HI.out]; rw [HIM.out]; exact (scD_go (p := fun x => !ltN x d0[a]!) hil (by omega) (by show (!ltN d0[k]! d0[a]!) = true; rw [← HXY.out.1, ← HXY.out.2, ← HT.out]; rfl)).symm)
            go_wp2
            go_roundw
            case rel => exact ⟨im, rfl, by omega, hS2, HII, hO2⟩
            case measure => simp [intOf]; omega
          · go_wp2_with fail
            go_quiet ((go_at_call 76; exact HL.out _ _))
            have hS2 := hS.drewN nq
            have hO2 := Lib.hid (hO.out.drewN nq)
            clear hcp hcq hS hO HL
            have HZZ := Lib.hid (show k = scanDown (fun x => !ltN x d0[a]!) d0 i2 j0 by rw [← HI.out]; exact (scD_end (p := fun x => !ltN x d0[a]!) (Or.inr (by show (!ltN d0[k]! d0[a]!) = false; rw [← HXY.out.1, ← HXY.out.2, ← HT.out]; rfl))).symm)
            go_wp2
            go_meet
            exact ⟨k, rfl, hij, hS2, HZZ, hO2⟩
        · have hjg : decide ((i2 : Int) ≤ (k : Int)) = false := by simp; omega
          have HZZ := Lib.hid (show k = scanDown (fun x => !ltN x d0[a]!) d0 i2 j0 by rw [← HI.out]; exact (scD_end (Or.inl hil)).symm)
          go_wp2_with fail
          go_quiet (fail)
          have hS2 := hS.drewN nq
          have hO2 := Lib.hid (hO.out.drewN nq)
          clear hS hO
          go_wp2
          go_meet
          exact ⟨k, rfl, hij, hS2, HZZ, hO2⟩
    case rest =>
      obtain ⟨j2, rfl, hj2, hS2, HJ2, hO2⟩ := hcut
      by_cases hgt : i2 > j2
      · have ggt : decide ((j2 : Int) < (i2 : Int)) = true := by simp; omega
        have b0 : (0 : Int) ≤ (j2 : Int) := by omega
        have b1 : (j2 : Int) < (n : Int) := by omega
        have b2 : (0 : Int) ≤ (a : Int) := by omega
        have b3 : (a : Int) < (n : Int) := by omega
        have hci := hS2.cell (i := j2) (by rw [HZ0.out]; omega)
        have hcj := hS2.cell (i := a) (by rw [HZ0.out]; omega)
        have hfi := hS2.frozen j2
        have hfj := hS2.frozen a
        obtain ⟨x, hx⟩ : ∃ x, x = d0[j2]! := ⟨_, rfl⟩
        obtain ⟨y, hy⟩ : ∃ y, y = d0[a]! := ⟨_, rfl⟩
        rw [← hx] at hci
        rw [← hy] at hcj
        have HXY := Lib.hid (And.intro hx hy)
        clear hx hy
        obtain ⟨y2, hcj2⟩ : ∃ y2 : Nat, (wc.setCell ⟨g, j2, none⟩ (.int .u32 (y : Nat))).cell? ⟨g, a, none⟩ = some (.int .u32 y2) := ⟨_, (hS2.set (i := j2) (by rw [HZ0.out]; omega) y).cell (i := a) (by rw [Array.size_setIfInBounds, HZ0.out]; omega)⟩
        go_wp2_with fail
        go_region
        have hS3 := (hS2.swap (i := j2) (j := a) (by rw [HZ0.out]; omega) (by rw [HZ0.out]; omega) HXY.out.2 HXY.out.1).drew
        have hO3 := Lib.hid (((hO2.out.set (i := j2) (.int .u32 (y : Nat))).set (i := a) (.int .u32 (x : Nat))).drew)
        have HZ3 := Lib.hid (show (swp d0 j2 a).size = n by rw [size_swp]; exact HZ0.out)
        clear hci hcj hfi hfj hS2 hO2 hcj2 HXY b0 b1 b2 b3
        generalize ((wc.setCell ⟨g, j2, none⟩ (.int .u32 (y : Nat))).setCell ⟨g, a, none⟩ (.int .u32 (x : Nat))).drew = w3 at hS3 hO3 ⊢
        obtain ⟨d3, hd3⟩ : ∃ z, z = swp d0 j2 a := ⟨_, rfl⟩
        rw [← hd3] at hS3 HZ3
        have HD3 := Lib.hid hd3
        clear hd3
        have HF := Lib.hid (pf_break HD0.out HI0.out HJ0.out HI2.out HJ2.out hgt)
        go_wp2
        go_ret2
        rw [HF.out]
        exact ⟨rfl, by rw [← HD3.out]; exact hS3, hO3.out⟩
      · have ggt : decide ((j2 : Int) < (i2 : Int)) = false := by simp; omega
        have b0 : (0 : Int) ≤ (i2 : Int) := by omega
        have b1 : (i2 : Int) < (n : Int) := by omega
        have b2 : (0 : Int) ≤ (j2 : Int) := by omega
        have b3 : (j2 : Int) < (n : Int) := by omega
        have hci := hS2.cell (i := i2) (by rw [HZ0.out]; omega)
        have hcj := hS2.cell (i := j2) (by rw [HZ0.out]; omega)
        have hfi := hS2.frozen i2
        have hfj := hS2.frozen j2
        obtain ⟨x, hx⟩ : ∃ x, x = d0[i2]! := ⟨_, rfl⟩
        obtain ⟨y, hy⟩ : ∃ y, y = d0[j2]! := ⟨_, rfl⟩
        rw [← hx] at hci
        rw [← hy] at hcj
        have HXY := Lib.hid (And.intro hx hy)
        clear hx hy
        obtain ⟨y2, hcj2⟩ : ∃ y2 : Nat, (wc.setCell ⟨g, i2, none⟩ (.int .u32 (y : Nat))).cell? ⟨g, j2, none⟩ = some (.int .u32 y2) := ⟨_, (hS2.set (i := i2) (by rw [HZ0.out]; omega) y).cell (i := j2) (by rw [Array.size_setIfInBounds, HZ0.out]; omega)⟩
        go_wp2_with fail
        go_region
        have hS3 := (hS2.swap (i := i2) (j := j2) (by rw [HZ0.out]; omega) (by rw [HZ0.out]; omega) HXY.out.2 HXY.out.1).drew
        have hO3 := Lib.hid (((hO2.out.set (i := i2) (.int .u32 (y : Nat))).set (i := j2) (.int .u32 (x : Nat))).drew)
        have HZ3 := Lib.hid (show (swp d0 i2 j2).size = n by rw [size_swp]; exact HZ0.out)
        clear hci hcj hfi hfj hS2 hO2 hcj2 HXY b0 b1 b2 b3
        generalize ((wc.setCell ⟨g, i2, none⟩ (.int .u32 (y : Nat))).setCell ⟨g, j2, none⟩ (.int .u32 (x : Nat))).drew = w3 at hS3 hO3 ⊢
        obtain ⟨d3, hd3⟩ : ∃ z, z = swp d0 i2 j2 := ⟨_, rfl⟩
        rw [← hd3] at hS3 HZ3
        have HD3 := Lib.hid hd3
        clear hd3
        obtain ⟨j3, hj3⟩ : ∃ x, x = j2 - 1 := ⟨_, rfl⟩
        have e3 : IntKind.i64.wrap ((j2 : Int) - 1) = (j3 : Int) := by rw [IntWalk.i64_in _ (by omega)]; omega
        have hj23 : j3 + 1 = j2 := by omega
        have HF := Lib.hid (show partition ltN d a b p = ((partLoop ltN a (i2 + 1) j3 d3).1, false, swp (partLoop ltN a (i2 + 1) j3 d3).2 (partLoop ltN a (i2 + 1) j3 d3).1 a) by rw [pf_go HD0.out HI0.out HJ0.out HI2.out HJ2.out hgt, HD3.out, hj3])
        clear hj3 HI2 HJ2
        go_wp2_with fail
        clear e3
        go_loopw [10, 11] (fun iv jv wr => ∃ (i j : Nat) (dk : Array Nat), iv = .int .i64 i ∧ jv = .int .i64 j ∧ (a + 1 ≤ i ∧ i ≤ j + 2 ∧ a ≤ j ∧ j < b) ∧ SB wr g dk rest ∧ Hid (dk.size = n) ∧ Hid (partLoop ltN a i j dk = partLoop ltN a (i2 + 1) j3 d3) ∧ Hid (Om g w wr)) (fun iv jv _ => (intOf jv + 2 - intOf iv).toNat)
        case atStart => exact ⟨i2 + 1, j3, d3, by go_num, rfl, by omega, hS3, HZ3, Lib.hid rfl, hO3⟩
        case round =>
          clear hS3 hO3 HZ0 HZ3
          obtain ⟨i, j, dk, rfl, rfl, hij, hSk, HZk, HP, hOk⟩ := hrel
          go_upto_block 6 with fail
          go_cut [10] from 99 to 114 (fun iv wx => ∃ z : Nat, iv = .int .i64 z ∧ (a + 1 ≤ z ∧ z ≤ j + 2) ∧ SB wx g dk rest ∧ Hid (z = scanUp (fun x => ltN x dk[a]!) dk j i) ∧ Hid (Om g w wx))
          case first =>
            go_wp2_with fail
            go_loopw [10] (fun iv wr => ∃ k : Nat, iv = .int .i64 k ∧ (a + 1 ≤ k ∧ k ≤ j + 2) ∧ SB wr g dk rest ∧ Hid (scanUp (fun x => ltN x dk[a]!) dk j k = scanUp (fun x => ltN x dk[a]!) dk j i) ∧ Hid (Om g w wr)) (fun iv _ => (j + 2 - (intOf iv).toNat))
            case atStart => exact ⟨i, rfl, by omega, hSk, Lib.hid rfl, hOk⟩
            case round =>
              clear hSk hOk
              obtain ⟨k, rfl, hij, hS, HI, hO⟩ := hrel
              by_cases hil : k ≤ j
              · have hjg : decide ((k : Int) ≤ (j : Int)) = true := by simp; omega
                have b0 : (0 : Int) ≤ (k : Int) := by omega
                have b1 : (k : Int) < (n : Int) := by omega
                have b2 : (0 : Int) ≤ (a : Int) := by omega
                have b3 : (a : Int) < (n : Int) := by omega
                have hcp := hS.cell (i := k) (by rw [HZk.out]; omega)
                have hcq := hS.cell (i := a) (by rw [HZk.out]; omega)
                obtain ⟨x, hx⟩ : ∃ x, x = dk[k]! := ⟨_, rfl⟩
                obtain ⟨y, hy⟩ : ∃ y, y = dk[a]! := ⟨_, rfl⟩
                rw [← hx] at hcp
                rw [← hy] at hcq
                have HXY := Lib.hid (And.intro hx hy)
                clear hx hy
                obtain ⟨t, ht⟩ : ∃ t, t = ltN x y := ⟨_, rfl⟩
                have HL := Lib.hid (fun (w0 : World) (k : Nat) => less_q x y ht w0 k)
                have HT := Lib.hid ht
                clear ht
                cases t
                · go_wp2_with fail
                  go_quiet ((go_at_call 76; exact HL.out _ _))
                  have hS2 := hS.drewN nq
                  have hO2 := Lib.hid (hO.out.drewN nq)
                  clear hcp hcq hS hO HL
                  have HZZ := Lib.hid (show k = scanUp (fun x => ltN x dk[a]!) dk j i by rw [← HI.out]; exact (scU_end (p := fun x => ltN x dk[a]!) (Or.inr (by show ltN dk[k]! dk[a]! = false; rw [← HXY.out.1, ← HXY.out.2, ← HT.out]))).symm)
                  go_wp2
                  go_meet
                  exact ⟨k, rfl, hij, hS2, HZZ, hO2⟩
                · go_wp2_with fail
                  go_quiet ((go_at_call 76; exact HL.out _ _))
                  have hS2 := hS.drewN nq
                  have hO2 := Lib.hid (hO.out.drewN nq)
                  clear hcp hcq hS hO HL
                  have HII := Lib.hid (show scanUp (fun x => ltN x dk[a]!) dk j (k + 1) = scanUp (fun x => ltN x dk[a]!) dk j i by rw [← HI.out]; exact (scU_go (p := fun x => ltN x dk[a]!) hil (by show ltN dk[k]! dk[a]! = true; rw [← HXY.out.1, ← HXY.out.2, ← HT.out])).symm)
                  go_wp2
                  go_roundw
                  case rel => exact ⟨(k + 1), by go_num, by omega, hS2, HII, hO2⟩
                  case measure => simp [intOf]; omega
              · have hjg : decide ((k : Int) ≤ (j : Int)) = false := by simp; omega
                have HZZ := Lib.hid (show k = scanUp (fun x => ltN x dk[a]!) dk j i by rw [← HI.out]; exact (scU_end (Or.inl hil)).symm)
                go_wp2_with fail
                go_quiet (fail)
                have hS2 := hS.drewN nq
                have hO2 := Lib.hid (hO.out.drewN nq)
                clear hS hO
                go_wp2
                go_meet
                exact ⟨k, rfl, hij, hS2, HZZ, hO2⟩
          case rest =>
            obtain ⟨i4, rfl, hi4, hS4, HI4, hO4⟩ := hcut
            go_upto_block 8 with fail
            go_cut [11] from 115 to 131 (fun iv wx => ∃ z : Nat, iv = .int .i64 z ∧ (a ≤ z ∧ i4 ≤ z + 2 ∧ z < b) ∧ SB wx g dk rest ∧ Hid (z = scanDown (fun x => !ltN x dk[a]!) dk i4 j) ∧ Hid (Om g w wx))
            case first =>
              go_wp2_with fail
              go_loopw [11] (fun iv wr => ∃ k : Nat, iv = .int .i64 k ∧ (a ≤ k ∧ i4 ≤ k + 2 ∧ k < b) ∧ SB wr g dk rest ∧ Hid (scanDown (fun x => !ltN x dk[a]!) dk i4 k = scanDown (fun x => !ltN x dk[a]!) dk i4 j) ∧ Hid (Om g w wr)) (fun iv _ => ((intOf iv).toNat))
              case atStart => exact ⟨j, rfl, by omega, hS4, Lib.hid rfl, hO4⟩
              case round =>
                clear hS4 hO4
                obtain ⟨k, rfl, hij, hS, HI, hO⟩ := hrel
                by_cases hil : i4 ≤ k
                · have hjg : decide ((i4 : Int) ≤ (k : Int)) = true := by simp; omega
                  obtain ⟨im, him⟩ : ∃ m, m = k - 1 := ⟨_, rfl⟩
                  have hs1 : IntKind.i64.wrap ((k : Int) - 1) = (im : Int) := by rw [IntWalk.i64_in _ (by omega)]; omega
                  have HIM := Lib.hid him
                  have himi : im + 1 = k := by omega
                  clear him
                  have b0 : (0 : Int) ≤ (k : Int) := by omega
                  have b1 : (k : Int) < (n : Int) := by omega
                  have b2 : (0 : Int) ≤ (a : Int) := by omega
                  have b3 : (a : Int) < (n : Int) := by omega
                  have hcp := hS.cell (i := k) (by rw [HZk.out]; omega)
                  have hcq := hS.cell (i := a) (by rw [HZk.out]; omega)
                  obtain ⟨x, hx⟩ : ∃ x, x = dk[k]! := ⟨_, rfl⟩
                  obtain ⟨y, hy⟩ : ∃ y, y = dk[a]! := ⟨_, rfl⟩
                  rw [← hx] at hcp
                  rw [← hy] at hcq
                  have HXY := Lib.hid (And.intro hx hy)
                  clear hx hy
                  obtain ⟨t, ht⟩ : ∃ t, t = ltN x y := ⟨_, rfl⟩
                  have HL := Lib.hid (fun (w0 : World) (k : Nat) => less_q x y ht w0 k)
                  have HT := Lib.hid ht
                  clear ht
                  cases t
                  · go_wp2_with fail
                    go_quiet ((go_at_call 76; exact HL.out _ _))
                    have hS2 := hS.drewN nq
                    have hO2 := Lib.hid (hO.out.drewN nq)
                    clear hcp hcq hS hO HL
                    have HII := Lib.hid (show scanDown (fun x => !ltN x dk[a]!) dk i4 im = scanDown (fun x => !ltN x dk[a]!) dk i4 j by rw [← HI.out]; rw [HIM.out]; exact (scD_go (p := fun x => !ltN x dk[a]!) hil (by omega) (by show (!ltN dk[k]! dk[a]!) = true; rw [← HXY.out.1, ← HXY.out.2, ← HT.out]; rfl)).symm)
                    go_wp2
                    go_roundw
                    case rel => exact ⟨im, rfl, by omega, hS2, HII, hO2⟩
                    case measure => simp [intOf]; omega
                  · go_wp2_with fail
                    go_quiet ((go_at_call 76; exact HL.out _ _))
                    have hS2 := hS.drewN nq
                    have hO2 := Lib.hid (hO.out.drewN nq)
                    clear hcp hcq hS hO HL
                    have HZZ := Lib.hid (show k = scanDown (fun x => !ltN x dk[a]!) dk i4 j by rw [← HI.out]; exact (scD_end (p := fun x => !ltN x dk[a]!) (Or.inr (by show (!ltN dk[k]! dk[a]!) = false; rw [← HXY.out.1, ← HXY.out.2, ← HT.out]; rfl))).symm)
                    go_wp2
                    go_meet
                    exact ⟨k, rfl, hij, hS2, HZZ, hO2⟩
                · have hjg : decide ((i4 : Int) ≤ (k : Int)) = false := by simp; omega
                  have HZZ := Lib.hid (show k = scanDown (fun x => !ltN x dk[a]!) dk i4 j by rw [← HI.out]; exact (scD_end (Or.inl hil)).symm)
                  go_wp2_with fail
                  go_quiet (fail)
                  have hS2 := hS.drewN nq
                  have hO2 := Lib.hid (hO.out.drewN nq)
                  clear hS hO
                  go_wp2
                  go_meet
                  exact ⟨k, rfl, hij, hS2, HZZ, hO2⟩
            case rest =>
              obtain ⟨j4, rfl, hj4, hS5, HJ4, hO5⟩ := hcut
              by_cases hgt4 : i4 > j4
              · have ggt : decide ((j4 : Int) < (i4 : Int)) = true := by simp; omega
                have b0 : (0 : Int) ≤ (j4 : Int) := by omega
                have b1 : (j4 : Int) < (n : Int) := by omega
                have b2 : (0 : Int) ≤ (a : Int) := by omega
                have b3 : (a : Int) < (n : Int) := by omega
                have hci := hS5.cell (i := j4) (by rw [HZk.out]; omega)
                have hcj := hS5.cell (i := a) (by rw [HZk.out]; omega)
                have hfi := hS5.frozen j4
                have hfj := hS5.frozen a
                obtain ⟨x, hx⟩ : ∃ x, x = dk[j4]! := ⟨_, rfl⟩
                obtain ⟨y, hy⟩ : ∃ y, y = dk[a]! := ⟨_, rfl⟩
                rw [← hx] at hci
                rw [← hy] at hcj
                have HXY := Lib.hid (And.intro hx hy)
                clear hx hy
                obtain ⟨y2, hcj2⟩ : ∃ y2 : Nat, (wc.setCell ⟨g, j4, none⟩ (.int .u32 (y : Nat))).cell? ⟨g, a, none⟩ = some (.int .u32 y2) := ⟨_, (hS5.set (i := j4) (by rw [HZk.out]; omega) y).cell (i := a) (by rw [Array.size_setIfInBounds, HZk.out]; omega)⟩
                go_wp2_with fail
                go_region
                have hS6 := (hS5.swap (i := j4) (j := a) (by rw [HZk.out]; omega) (by rw [HZk.out]; omega) HXY.out.2 HXY.out.1).drew
                have hO6 := Lib.hid (((hO5.out.set (i := j4) (.int .u32 (y : Nat))).set (i := a) (.int .u32 (x : Nat))).drew)
                have HZ6 := Lib.hid (show (swp dk j4 a).size = n by rw [size_swp]; exact HZk.out)
                clear hci hcj hfi hfj hS5 hO5 hcj2 HXY b0 b1 b2 b3
                generalize ((wc.setCell ⟨g, j4, none⟩ (.int .u32 (y : Nat))).setCell ⟨g, a, none⟩ (.int .u32 (x : Nat))).drew = w6 at hS6 hO6 ⊢
                obtain ⟨d6, hd6⟩ : ∃ z, z = swp dk j4 a := ⟨_, rfl⟩
                rw [← hd6] at hS6 HZ6
                have HD6 := Lib.hid hd6
                clear hd6
                have HG := Lib.hid (show partLoop ltN a (i2 + 1) j3 d3 = (j4, dk) by rw [← HP.out]; exact pl_break HI4.out HJ4.out hgt4)
                go_wp2
                go_ret2
                rw [HF.out, HG.out]
                exact ⟨rfl, by show SB _ g (swp dk j4 a) rest; rw [← HD6.out]; exact hS6, hO6.out⟩
              · have ggt : decide ((j4 : Int) < (i4 : Int)) = false := by simp; omega
                have b0 : (0 : Int) ≤ (i4 : Int) := by omega
                have b1 : (i4 : Int) < (n : Int) := by omega
                have b2 : (0 : Int) ≤ (j4 : Int) := by omega
                have b3 : (j4 : Int) < (n : Int) := by omega
                have hci := hS5.cell (i := i4) (by rw [HZk.out]; omega)
                have hcj := hS5.cell (i := j4) (by rw [HZk.out]; omega)
                have hfi := hS5.frozen i4
                have hfj := hS5.frozen j4
                obtain ⟨x, hx⟩ : ∃ x, x = dk[i4]! := ⟨_, rfl⟩
                obtain ⟨y, hy⟩ : ∃ y, y = dk[j4]! := ⟨_, rfl⟩
                rw [← hx] at hci
                rw [← hy] at hcj
                have HXY := Lib.hid (And.intro hx hy)
                clear hx hy
                obtain ⟨y2, hcj2⟩ : ∃ y2 : Nat, (wc.setCell ⟨g, i4, none⟩ (.int .u32 (y : Nat))).cell? ⟨g, j4, none⟩ = some (.int .u32 y2) := ⟨_, (hS5.set (i := i4) (by rw [HZk.out]; omega) y).cell (i := j4) (by rw [Array.size_setIfInBounds, HZk.out]; omega)⟩
                go_wp2_with fail
                go_region
                have hS6 := (hS5.swap (i := i4) (j := j4) (by rw [HZk.out]; omega) (by rw [HZk.out]; omega) HXY.out.2 HXY.out.1).drew
                have hO6 := Lib.hid (((hO5.out.set (i := i4) (.int .u32 (y : Nat))).set (i := j4) (.int .u32 (x : Nat))).drew)
                have HZ6 := Lib.hid (show (swp dk i4 j4).size = n by rw [size_swp]; exact HZk.out)
                clear hci hcj hfi hfj hS5 hO5 hcj2 HXY b0 b1 b2 b3
                generalize ((wc.setCell ⟨g, i4, none⟩ (.int .u32 (y : Nat))).setCell ⟨g, j4, none⟩ (.int .u32 (x : Nat))).drew = w6 at hS6 hO6 ⊢
                obtain ⟨d6, hd6⟩ : ∃ z, z = swp dk i4 j4 := ⟨_, rfl⟩
                rw [← hd6] at hS6 HZ6
                have HD6 := Lib.hid hd6
                clear hd6
                obtain ⟨j5, hj5⟩ : ∃ x, x = j4 - 1 := ⟨_, rfl⟩
                have e5 : IntKind.i64.wrap ((j4 : Int) - 1) = (j5 : Int) := by rw [IntWalk.i64_in _ (by omega)]; omega
                have hj45 : j5 + 1 = j4 := by omega
                have HP6 := Lib.hid (show partLoop ltN a (i4 + 1) j5 d6 = partLoop ltN a (i2 + 1) j3 d3 by rw [← HP.out, HD6.out, hj5]; exact (pl_go HI4.out HJ4.out hgt4).symm)
                have HMU := Lib.hid (show i ≤ i4 ∧ j4 ≤ j from ⟨by rw [HI4.out]; exact scanUp_ge _ _ _ _, by rw [HJ4.out]; exact scanDown_le _ _ _ _⟩)
                clear hj5
                go_wp2
                go_roundw
                case rel => exact ⟨i4 + 1, j5, d6, by go_num, rfl, by omega, hS6, HZ6, HP6, hO6⟩
                case measure => have := HMU.out; simp [intOf]; omega
end Go.Proofs.YtjnhfakdpnnboaaDoor
