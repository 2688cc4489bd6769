/- Sorting words: partition off the equal ones. -/
import Derived.Test.YtjnhfakdpnnboaaDoorZ7
namespace Go.Proofs.YtjnhfakdpnnboaaDoor
open Go.RowKit Go.IntWalk Go.Sort

def RetPe (g : Nat) (rest : List Value) (r : Nat × Array Nat) (w : World) (e : Ending) (w' : World) : Prop := e = .returned (.int .i64 r.1) ∧ SB w' g r.2 rest ∧ Om g w w'
set_option maxRecDepth 100000 in
set_option maxHeartbeats 8000000 in
theorem parteq_any {g n cap : Nat} {d : Array Nat} {rest : List Value} {w : World} (hS : SB w g d rest) (hn : d.size = n) (a b p : Nat) (hb : b ≤ n) (hap : a ≤ p) (hpb : p < b) (hsz : n ≤ 1099511627776) :
    Calls Tryd.prog 77 #[.slice (some ⟨g, 0, none⟩) n cap, .int .i64 a, .int .i64 b, .int .i64 p] w (RetPe g rest (partitionEqual ltN d a b p) w) := by
  have HN := Lib.hid hn
  obtain ⟨i0, hi0⟩ : ∃ x, x = a + 1 := ⟨_, rfl⟩
  obtain ⟨j0, hj0⟩ : ∃ x, x = b - 1 := ⟨_, rfl⟩
  have e1 : IntKind.i64.wrap ((a : Int) + 1) = (i0 : Int) := by rw [IntWalk.i64_in _ (by omega)]; omega
  have e2 : IntKind.i64.wrap ((b : Int) - 1) = (j0 : Int) := by rw [IntWalk.i64_in _ (by omega)]; omega
  have HI0 := Lib.hid hi0
  have HJ0 := Lib.hid hj0
  have ij0 : a + 1 ≤ i0 ∧ i0 ≤ j0 + 2 ∧ a ≤ j0 ∧ j0 < b := by omega
  have hO : Hid (Om g w w) := Lib.hid (Om.refl _ _)
  clear hn hi0 hj0
  go_enter Tryd.func77, Tryd.ntmps77
  have b0 : (0 : Int) ≤ (a : Int) := by omega
  have b1 : (a : Int) < (n : Int) := by omega
  have b2 : (0 : Int) ≤ (p : Int) := by omega
  have b3 : (p : Int) < (n : Int) := by omega
  have hci := hS.cell (i := a) (by rw [HN.out]; omega)
  have hcj := hS.cell (i := p) (by rw [HN.out]; omega)
  have hfi := hS.frozen a
  have hfj := hS.frozen p
  obtain ⟨x, hx⟩ : ∃ x, x = d[a]! := ⟨_, rfl⟩
  obtain ⟨y, hy⟩ : ∃ y, y = d[p]! := ⟨_, rfl⟩
  rw [← hx] at hci
  rw [← hy] at hcj
  have HXY := Lib.hid (And.intro hx hy)
  clear hx hy
  obtain ⟨y2, hcj2⟩ : ∃ y2 : Nat, (w.setCell ⟨g, a, none⟩ (.int .u32 (y : Nat))).cell? ⟨g, p, none⟩ = some (.int .u32 y2) := ⟨_, (hS.set (i := a) (by rw [HN.out]; omega) y).cell (i := p) (by rw [Array.size_setIfInBounds, HN.out]; omega)⟩
  go_wp2_with fail
  go_region
  have hS0 := (hS.swap (i := a) (j := p) (by rw [HN.out]; omega) (by rw [HN.out]; omega) HXY.out.2 HXY.out.1).drew
  have hO0 := Lib.hid (((hO.out.set (i := a) (.int .u32 (y : Nat))).set (i := p) (.int .u32 (x : Nat))).drew)
  have HZ0 := Lib.hid (show (swp d a p).size = n by rw [size_swp]; exact HN.out)
  clear hci hcj hfi hfj hS hO hcj2 HXY b0 b1 b2 b3
  generalize ((w.setCell ⟨g, a, none⟩ (.int .u32 (y : Nat))).setCell ⟨g, p, none⟩ (.int .u32 (x : Nat))).drew = w0 at hS0 hO0 ⊢
  obtain ⟨d0, hd0⟩ : ∃ z, z = swp d a p := ⟨_, rfl⟩
  rw [← hd0] at hS0 HZ0
  have HD0 := Lib.hid hd0
  clear hd0
  have HF := Lib.hid (show partitionEqual ltN d a b p = partEqLoop ltN a i0 j0 d0 by rw [HD0.out, HI0.out, HJ0.out]; rfl)
  go_wp2_with fail
  clear e1 e2
  go_loopw [9, 10] (fun iv jv wr => ∃ (i j : Nat) (dk : Array Nat), iv = .int .i64 i ∧ jv = .int .i64 j ∧ (a + 1 ≤ i ∧ i ≤ j + 2 ∧ a ≤ j ∧ j < b) ∧ SB wr g dk rest ∧ Hid (dk.size = n) ∧ Hid (partEqLoop ltN a i j dk = partEqLoop ltN a i0 j0 d0) ∧ Hid (Om g w wr)) (fun iv jv _ => (intOf jv + 2 - intOf iv).toNat)
  case atStart => exact ⟨i0, j0, d0, rfl, rfl, ij0, hS0, HZ0, Lib.hid rfl, hO0⟩
  case round =>
    clear hS0 hO0 HZ0
    obtain ⟨i, j, dk, rfl, rfl, hij, hSk, HZk, HP, hOk⟩ := hrel
    go_upto_block 2 with fail
    go_cut [9] from 29 to 45 (fun iv wx => ∃ z : Nat, iv = .int .i64 z ∧ (a + 1 ≤ z ∧ z ≤ j + 2) ∧ SB wx g dk rest ∧ Hid (z = scanUp (fun x => !ltN dk[a]! x) dk j i) ∧ Hid (Om g w wx))
    case first =>
      go_wp2_with fail
      go_loopw [9] (fun iv wr => ∃ k : Nat, iv = .int .i64 k ∧ (a + 1 ≤ k ∧ k ≤ j + 2) ∧ SB wr g dk rest ∧ Hid (scanUp (fun x => !ltN dk[a]! x) dk j k = scanUp (fun x => !ltN dk[a]! x) dk j i) ∧ Hid (Om g w wr)) (fun iv _ => (j + 2 - (intOf iv).toNat))
      case atStart => exact ⟨i, rfl, by omega, hSk, Lib.hid rfl, hOk⟩
      case round =>
        clear hSk hOk
        obtain ⟨k, rfl, hij, hS, HI, hO⟩ := hrel
        by_cases hil : k ≤ j
        · have hjg : decide ((k : Int) ≤ (j : Int)) = true := by simp; omega
          have b0 : (0 : Int) ≤ (k : Int) := by omega
          have b1 : (k : Int) < (n : Int) := by omega
          have b2 : (0 : Int) ≤ (a : Int) := by omega
          have b3 : (a : Int) < (n : Int) := by omega
          have hcp := hS.cell (i := a) (by rw [HZk.out]; omega)
          have hcq := hS.cell (i := k) (by rw [HZk.out]; omega)
          obtain ⟨x, hx⟩ : ∃ x, x = dk[a]! := ⟨_, rfl⟩
          obtain ⟨y, hy⟩ : ∃ y, y = dk[k]! := ⟨_, rfl⟩
          rw [← hx] at hcp
          rw [← hy] at hcq
          have HXY := Lib.hid (And.intro hx hy)
          clear hx hy
          obtain ⟨t, ht⟩ : ∃ t, t = ltN x y := ⟨_, rfl⟩
          have HL := Lib.hid (fun (w0 : World) (k : Nat) => less_q x y ht w0 k)
          have HT := Lib.hid ht
          clear ht
          cases t
          · go_wp2_with fail
            go_quiet ((go_at_call 76; exact HL.out _ _))
            have hS2 := hS.drewN nq
            have hO2 := Lib.hid (hO.out.drewN nq)
            clear hcp hcq hS hO HL
            have HII := Lib.hid (show scanUp (fun x => !ltN dk[a]! x) dk j (k + 1) = scanUp (fun x => !ltN dk[a]! x) dk j i by rw [← HI.out]; exact (scU_go (p := fun x => !ltN dk[a]! x) hil (by show (!ltN dk[a]! dk[k]!) = true; rw [← HXY.out.1, ← HXY.out.2, ← HT.out]; rfl)).symm)
            go_wp2
            go_roundw
            case rel => exact ⟨(k + 1), by go_num, by omega, hS2, HII, hO2⟩
            case measure => simp [intOf]; omega
          · go_wp2_with fail
            go_quiet ((go_at_call 76; exact HL.out _ _))
            have hS2 := hS.drewN nq
            have hO2 := Lib.hid (hO.out.drewN nq)
            clear hcp hcq hS hO HL
            have HZZ := Lib.hid (show k = scanUp (fun x => !ltN dk[a]! x) dk j i by rw [← HI.out]; exact (scU_end (p := fun x => !ltN dk[a]! x) (Or.inr (by show (!ltN dk[a]! dk[k]!) = false; rw [← HXY.out.1, ← HXY.out.2, ← HT.out]; rfl))).symm)
            go_wp2
            go_meet
            exact ⟨k, rfl, hij, hS2, HZZ, hO2⟩
        · have hjg : decide ((k : Int) ≤ (j : Int)) = false := by simp; omega
          have HZZ := Lib.hid (show k = scanUp (fun x => !ltN dk[a]! x) dk j i by rw [← HI.out]; exact (scU_end (Or.inl hil)).symm)
          go_wp2_with fail
          go_quiet (fail)
          have hS2 := hS.drewN nq
          have hO2 := Lib.hid (hO.out.drewN nq)
          clear hS hO
          go_wp2
          go_meet
          exact ⟨k, rfl, hij, hS2, HZZ, hO2⟩
    case rest =>
      obtain ⟨i4, rfl, hi4, hS4, HI4, hO4⟩ := hcut
      go_upto_block 4 with fail
      go_cut [10] from 46 to 61 (fun iv wx => ∃ z : Nat, iv = .int .i64 z ∧ (a ≤ z ∧ i4 ≤ z + 2 ∧ z < b) ∧ SB wx g dk rest ∧ Hid (z = scanDown (fun x => ltN dk[a]! x) dk i4 j) ∧ Hid (Om g w wx))
      case first =>
        go_wp2_with fail
        go_loopw [10] (fun iv wr => ∃ k : Nat, iv = .int .i64 k ∧ (a ≤ k ∧ i4 ≤ k + 2 ∧ k < b) ∧ SB wr g dk rest ∧ Hid (scanDown (fun x => ltN dk[a]! x) dk i4 k = scanDown (fun x => ltN dk[a]! x) dk i4 j) ∧ Hid (Om g w wr)) (fun iv _ => ((intOf iv).toNat))
        case atStart => exact ⟨j, rfl, by omega, hS4, Lib.hid rfl, hO4⟩
        case round =>
          clear hS4 hO4
          obtain ⟨k, rfl, hij, hS, HI, hO⟩ := hrel
          by_cases hil : i4 ≤ k
          · have hjg : decide ((i4 : Int) ≤ (k : Int)) = true := by simp; omega
            obtain ⟨im, him⟩ : ∃ m, m = k - 1 := ⟨_, rfl⟩
            have hs1 : IntKind.i64.wrap ((k : Int) - 1) = (im : Int) := by rw [IntWalk.i64_in _ (by omega)]; omega
            have HIM := Lib.hid him
            have himi : im + 1 = k := by omega
            clear him
            have b0 : (0 : Int) ≤ (k : Int) := by omega
            have b1 : (k : Int) < (n : Int) := by omega
            have b2 : (0 : Int) ≤ (a : Int) := by omega
            have b3 : (a : Int) < (n : Int) := by omega
            have hcp := hS.cell (i := a) (by rw [HZk.out]; omega)
            have hcq := hS.cell (i := k) (by rw [HZk.out]; omega)
            obtain ⟨x, hx⟩ : ∃ x, x = dk[a]! := ⟨_, rfl⟩
            obtain ⟨y, hy⟩ : ∃ y, y = dk[k]! := ⟨_, rfl⟩
            rw [← hx] at hcp
            rw [← hy] at hcq
            have HXY := Lib.hid (And.intro hx hy)
            clear hx hy
            obtain ⟨t, ht⟩ : ∃ t, t = ltN x y := ⟨_, rfl⟩
            have HL := Lib.hid (fun (w0 : World) (k : Nat) => less_q x y ht w0 k)
            have HT := Lib.hid ht
            clear ht
            cases t
            · go_wp2_with fail
              go_quiet ((go_at_call 76; exact HL.out _ _))
              have hS2 := hS.drewN nq
              have hO2 := Lib.hid (hO.out.drewN nq)
              clear hcp hcq hS hO HL
              have HZZ := Lib.hid (show k = scanDown (fun x => ltN dk[a]! x) dk i4 j by rw [← HI.out]; exact (scD_end (p := fun x => ltN dk[a]! x) (Or.inr (by show ltN dk[a]! dk[k]! = false; rw [← HXY.out.1, ← HXY.out.2, ← HT.out]))).symm)
              go_wp2
              go_meet
              exact ⟨k, rfl, hij, hS2, HZZ, hO2⟩
            · go_wp2_with fail
              go_quiet ((go_at_call 76; exact HL.out _ _))
              have hS2 := hS.drewN nq
              have hO2 := Lib.hid (hO.out.drewN nq)
              clear hcp hcq hS hO HL
              have HII := Lib.hid (show scanDown (fun x => ltN dk[a]! x) dk i4 im = scanDown (fun x => ltN dk[a]! x) dk i4 j by rw [← HI.out]; rw [HIM.out]; exact (scD_go (p := fun x => ltN dk[a]! x) hil (by omega) (by show ltN dk[a]! dk[k]! = true; rw [← HXY.out.1, ← HXY.out.2, ← HT.out])).symm)
              go_wp2
              go_roundw
              case rel => exact ⟨im, rfl, by omega, hS2, HII, hO2⟩
              case measure => simp [intOf]; omega
          · have hjg : decide ((i4 : Int) ≤ (k : Int)) = false := by simp; omega
            have HZZ := Lib.hid (show k = scanDown (fun x => ltN dk[a]! x) dk i4 j by rw [← HI.out]; exact (scD_end (Or.inl hil)).symm)
            go_wp2_with fail
            go_quiet (fail)
            have hS2 := hS.drewN nq
            have hO2 := Lib.hid (hO.out.drewN nq)
            clear hS hO
            go_wp2
            go_meet
            exact ⟨k, rfl, hij, hS2, HZZ, hO2⟩
      case rest =>
        obtain ⟨j4, rfl, hj4, hS5, HJ4, hO5⟩ := hcut
        by_cases hgt4 : i4 > j4
        · have ggt : decide ((j4 : Int) < (i4 : Int)) = true := by simp; omega
          have HG := Lib.hid (show partEqLoop ltN a i0 j0 d0 = (i4, dk) by rw [← HP.out]; exact pe_break HI4.out HJ4.out hgt4)
          go_wp2
          go_ret
          rw [HF.out, HG.out]
          exact ⟨rfl, hS5, hO5.out⟩
        · have ggt : decide ((j4 : Int) < (i4 : Int)) = false := by simp; omega
          have b0 : (0 : Int) ≤ (i4 : Int) := by omega
          have b1 : (i4 : Int) < (n : Int) := by omega
          have b2 : (0 : Int) ≤ (j4 : Int) := by omega
          have b3 : (j4 : Int) < (n : Int) := by omega
          have hci := hS5.cell (i := i4) (by rw [HZk.out]; omega)
          have hcj := hS5.cell (i := j4) (by rw [HZk.out]; omega)
          have hfi := hS5.frozen i4
          have hfj := hS5.frozen j4
          obtain ⟨x, hx⟩ : ∃ x, x = dk[i4]! := ⟨_, rfl⟩
          obtain ⟨y, hy⟩ : ∃ y, y = dk[j4]! := ⟨_, rfl⟩
          rw [← hx] at hci
          rw [← hy] at hcj
          have HXY := Lib.hid (And.intro hx hy)
          clear hx hy
          obtain ⟨y2, hcj2⟩ : ∃ y2 : Nat, (wc.setCell ⟨g, i4, none⟩ (.int .u32 (y : Nat))).cell? ⟨g, j4, none⟩ = some (.int .u32 y2) := ⟨_, (hS5.set (i := i4) (by rw [HZk.out]; omega) y).cell (i := j4) (by rw [Array.size_setIfInBounds, HZk.out]; omega)⟩
          go_wp2_with fail
          go_region
          have hS6 := (hS5.swap (i := i4) (j := j4) (by rw [HZk.out]; omega) (by rw [HZk.out]; omega) HXY.out.2 HXY.out.1).drew
          have hO6 := Lib.hid (((hO5.out.set (i := i4) (.int .u32 (y : Nat))).set (i := j4) (.int .u32 (x : Nat))).drew)
          have HZ6 := Lib.hid (show (swp dk i4 j4).size = n by rw [size_swp]; exact HZk.out)
          clear hci hcj hfi hfj hS5 hO5 hcj2 HXY b0 b1 b2 b3
          generalize ((wc.setCell ⟨g, i4, none⟩ (.int .u32 (y : Nat))).setCell ⟨g, j4, none⟩ (.int .u32 (x : Nat))).drew = w6 at hS6 hO6 ⊢
          obtain ⟨d6, hd6⟩ : ∃ z, z = swp dk i4 j4 := ⟨_, rfl⟩
          rw [← hd6] at hS6 HZ6
          have HD6 := Lib.hid hd6
          clear hd6
          obtain ⟨j5, hj5⟩ : ∃ x, x = j4 - 1 := ⟨_, rfl⟩
          have e5 : IntKind.i64.wrap ((j4 : Int) - 1) = (j5 : Int) := by rw [IntWalk.i64_in _ (by omega)]; omega
          have hj45 : j5 + 1 = j4 := by omega
          have HP6 := Lib.hid (show partEqLoop ltN a (i4 + 1) j5 d6 = partEqLoop ltN a i0 j0 d0 by rw [← HP.out, HD6.out, hj5]; exact (pe_go HI4.out HJ4.out hgt4).symm)
          have HMU := Lib.hid (show i ≤ i4 ∧ j4 ≤ j from ⟨by rw [HI4.out]; exact scanUp_ge _ _ _ _, by rw [HJ4.out]; exact scanDown_le _ _ _ _⟩)
          clear hj5
          go_wp2
          go_roundw
          case rel => exact ⟨i4 + 1, j5, d6, by go_num, rfl, by omega, hS6, HZ6, HP6, hO6⟩
          case measure => have := HMU.out; simp [intOf]; omega
end Go.Proofs.YtjnhfakdpnnboaaDoor
