/- Sorting words: the patterns broken. -/
import Derived.Test.YtjnhfakdpnnboaaDoorZ7b
import Derived.Test.YtjnhfakdpnnboaaDoorZs
import Derived.Laws.Bits64b
import Derived.Lib.ItoaNum
namespace Go.Proofs.YtjnhfakdpnnboaaDoor
open Go.RowKit Go.IntWalk Go.Sort

/-- Block q is a box with the word k of 64 bits. -/
def CX (w : World) (q : Nat) (k : Nat) : Prop := w.heap[q]? = some (.cells #[.int .u64 (k : Nat)] 85 (0, 0)) ∧ k < 18446744073709551616
theorem CX.cell {w : World} {q : Nat} {k : Nat} (h : CX w q k) : w.cell? ⟨q, 0, none⟩ = some (.int .u64 (k : Nat)) := by
  rw [cell_of_row w q 0 _ _ _ h.1]; rfl
theorem CX.frozen {w : World} {q : Nat} {k : Nat} (h : CX w q k) : w.frozen? ⟨q, 0, none⟩ = false := frozen_of_row w q 0 _ _ h.1
theorem CX.set {w : World} {q : Nat} {k : Nat} (h : CX w q k) (k' : Nat) (hk : k' < 18446744073709551616) : CX (w.setCell ⟨q, 0, none⟩ (.int .u64 (k' : Nat))) q k' := by
  refine ⟨?_, hk⟩
  have h := h.1
  simp only [World.setCell, Array.getElem?_modify, h]
  simp
theorem CX.drew {w : World} {q : Nat} {k : Nat} (h : CX w q k) : CX w.drew q k := h
theorem xor_lt {a b : Nat} (ha : a < 18446744073709551616) (hb : b < 18446744073709551616) : a ^^^ b < 18446744073709551616 := Nat.xor_lt_two_pow (n := 64) (by omega) (by omega)
set_option maxRecDepth 100000 in
set_option maxHeartbeats 2000000 in
theorem next_any {q X : Nat} {w : World} (hX : CX w q X) :
    Calls Tryd.prog 83 #[.pointer (some ⟨q, 0, none⟩)] w fun e w' => ∃ k : Nat, e = .returned (.int .u64 (k : Nat)) ∧ CX w' q k ∧ Om q w w' := by
  obtain ⟨A, hA⟩ : ∃ A : Nat, A = X ^^^ (X * 8192 % 18446744073709551616) := ⟨_, rfl⟩
  obtain ⟨B, hB⟩ : ∃ B : Nat, B = A ^^^ (A / 128) := ⟨_, rfl⟩
  obtain ⟨C, hC⟩ : ∃ C : Nat, C = B ^^^ (B * 131072 % 18446744073709551616) := ⟨_, rfl⟩
  have lX := hX.2
  have lA : A < 18446744073709551616 := by rw [hA]; exact xor_lt (by omega) (by omega)
  have lB : B < 18446744073709551616 := by rw [hB]; exact xor_lt (by omega) (by omega)
  have lC : C < 18446744073709551616 := by rw [hC]; exact xor_lt (by omega) (by omega)
  have e1 : bits .xor .u64 (X : Int) (IntKind.u64.wrap ((X : Int) * 8192)) = (A : Int) := by
    rw [IntKind.wrap_u64, show ((X : Int) * 8192 % 18446744073709551616) = ((X * 8192 % 18446744073709551616 : Nat) : Int) by omega, bits_xor_u64_nat _ _ lX (by omega), hA]
  have e2 : bits .xor .u64 (A : Int) ((A : Int) / 128) = (B : Int) := by
    rw [show ((A : Int) / 128) = ((A / 128 : Nat) : Int) by omega, bits_xor_u64_nat _ _ lA (by omega), hB]
  have e3 : bits .xor .u64 (B : Int) (IntKind.u64.wrap ((B : Int) * 131072)) = (C : Int) := by
    rw [IntKind.wrap_u64, show ((B : Int) * 131072 % 18446744073709551616) = ((B * 131072 % 18446744073709551616 : Nat) : Int) by omega, bits_xor_u64_nat _ _ lB (by omega), hC]
  have HX := Lib.hid hX
  have hc := hX.cell
  have hf := hX.frozen
  have LA := Lib.hid lA
  have LB := Lib.hid lB
  have LC := Lib.hid lC
  clear hA hB hC hX lX lA lB lC
  go_enter Tryd.func83, Tryd.ntmps83
  go_wp2_with fail
  go_region
  have h1 := (CX.set HX.out A LA.out).drew
  have o1 := Lib.hid (((Om.refl q w).set (i := 0) (.int .u64 (A : Nat))).drew)
  clear hc hf HX e1
  generalize (w.setCell ⟨q, 0, none⟩ (.int .u64 (A : Nat))).drew = w1 at h1 o1 ⊢
  have hc := h1.cell
  have hf := h1.frozen
  have HX := Lib.hid h1
  clear h1
  go_wp2_with fail
  go_region
  have h1 := (CX.set HX.out B LB.out).drew
  have o2 := Lib.hid ((o1.out.set (i := 0) (.int .u64 (B : Nat))).drew)
  clear hc hf HX e2 o1
  generalize (w1.setCell ⟨q, 0, none⟩ (.int .u64 (B : Nat))).drew = w2 at h1 o2 ⊢
  have hc := h1.cell
  have hf := h1.frozen
  have HX := Lib.hid h1
  clear h1
  go_wp2_with fail
  go_region
  have h1 := (CX.set HX.out C LC.out).drew
  have o3 := Lib.hid ((o2.out.set (i := 0) (.int .u64 (C : Nat))).drew)
  clear hc hf HX e3 o2
  generalize (w2.setCell ⟨q, 0, none⟩ (.int .u64 (C : Nat))).drew = w3 at h1 o3 ⊢
  have hc := h1.cell
  have HX := Lib.hid h1
  clear h1
  go_wp2
  go_ret
  exact ⟨C, rfl, HX.out, o3.out⟩
theorem two_bitLen {n : Nat} (h0 : 0 < n) (h : n ≤ 1099511627776) : Lib.bitLen n ≤ 41 ∧ 2 ^ Lib.bitLen n ≤ 2 * n := by
  obtain ⟨h1, h2, h3⟩ := Lib.bitLenAux_bounds 64 n (by omega) (by omega)
  have h4 : Lib.bitLen n = Lib.bitLenAux 64 n := rfl
  rw [← h4] at h1 h2 h3
  refine ⟨Lib.bitLen_le n 41 (by omega) (by omega), ?_⟩
  obtain ⟨k, hk⟩ : ∃ k, Lib.bitLen n = k + 1 := ⟨Lib.bitLen n - 1, by omega⟩
  rw [hk] at h2 ⊢
  rw [Nat.pow_succ]
  simp at h2
  omega
set_option maxRecDepth 100000 in
set_option maxHeartbeats 2000000 in
theorem npow_any {n : Nat} (h0 : 0 < n) (h : n ≤ 1099511627776) (w : World) :
    Calls Tryd.prog 82 #[.int .i64 n] w fun e w' => ∃ M : Nat, e = .returned (.int .u64 M) ∧ 0 < M ∧ M ≤ 2 * n ∧ w' = w := by
  obtain ⟨hk, hp⟩ := two_bitLen h0 h
  have HL := Lib.hid (fun w0 : World => bits_Len (n : Int) w0 (by omega) (by omega))
  rw [Int.toNat_natCast] at HL
  obtain ⟨k, hk'⟩ : ∃ k, k = Lib.bitLen n := ⟨_, rfl⟩
  rw [← hk'] at HL hk hp
  have hw : IntKind.u64.wrap ((2 : Int) ^ k) = ((2 ^ k : Nat) : Int) := by
    rw [show ((2 : Int) ^ k) = ((2 ^ k : Nat) : Int) by simp, IntKind.wrap_u64]; generalize 2 ^ k = P at hp ⊢; omega
  have H0 := Lib.hid (And.intro hp (Nat.two_pow_pos k))
  have HW := Lib.hid hw
  clear hk' hp hw
  go_enter Tryd.func82, Tryd.ntmps82
  go_wp2_with fail
  refine (HL.out _).mono ?_
  rintro _ _ ⟨rfl, rfl⟩
  go_wp2
  go_ret
  exact ⟨2 ^ k, by rw [← HW.out]; rfl, H0.out.2, H0.out.1, rfl⟩
theorem and_lt {r M : Nat} (hM : 0 < M) : r &&& (M - 1) < M := Nat.lt_of_le_of_lt Nat.and_le_right (by omega)
theorem CX.new (w : World) (k : Nat) (hk : k < 18446744073709551616) : CX (w.alloc (.cells #[.int .u64 (k : Nat)] 85)) w.heap.size k := ⟨heap_alloc_new w _, hk⟩
theorem CX.aside {w w' : World} {g q : Nat} {k : Nat} (h : CX w q k) (hO : Om g w w') (hne : q ≠ g) : CX w' q k := ⟨by rw [hO.far q hne]; exact h.1, h.2⟩
theorem Ox.next {g : Nat} {w w1 w' : World} (h : Ox g w w1) (k : Om g w1 w') : Ox g w w' := h.trans k.ox
/-- The row is another order of the part from a to b. -/
def RetBr (g : Nat) (rest : List Value) (a b : Nat) (d : Array Nat) (w : World) (e : Ending) (w' : World) : Prop := e = .returned (.tuple #[]) ∧ ∃ d', SB w' g d' rest ∧ PermIn a b d d' ∧ Ox g w w'
set_option maxRecDepth 100000 in
set_option maxHeartbeats 4000000 in
theorem brk_any {g n cap : Nat} {d : Array Nat} {rest : List Value} {w : World} (hS : SB w g d rest) (hn : d.size = n) (a b : Nat) (hab : a + 12 < b) (hb : b ≤ n) (hsz : n ≤ 1099511627776) :
    Calls Tryd.prog 72 #[.slice (some ⟨g, 0, none⟩) n cap, .int .i64 a, .int .i64 b] w (RetBr g rest a b d w) := by
  have HN := Lib.hid hn
  have hg := hS.lt
  obtain ⟨q, hq⟩ : ∃ q, q = w.heap.size := ⟨_, rfl⟩
  have hqg : q ≠ g := by omega
  obtain ⟨l, hl⟩ : ∃ x, x = b - a := ⟨_, rfl⟩
  obtain ⟨m, hm⟩ : ∃ x, x = l / 4 := ⟨_, rfl⟩
  obtain ⟨m2, hm2⟩ : ∃ x, x = m * 2 := ⟨_, rfl⟩
  obtain ⟨j, hj⟩ : ∃ x, x = a + m2 := ⟨_, rfl⟩
  obtain ⟨i0, hi0⟩ : ∃ x, x = j - 1 := ⟨_, rfl⟩
  have e1 : (b : Int) - a = (l : Int) := by omega
  have e2 : (l : Int) / 4 = (m : Int) := by omega
  have e3 : (m : Int) * 2 = (m2 : Int) := by omega
  have e5 : (a : Int) + m2 = (j : Int) := by omega
  have e6 : (j : Int) - 1 = (i0 : Int) := by omega
  have hl12 : 12 < l := by omega
  obtain ⟨j1, hj1⟩ : ∃ x, x = j + 1 := ⟨_, rfl⟩
  have e7 : (j : Int) + 1 = (j1 : Int) := by omega
  have bi := Lib.hid (show a ≤ i0 ∧ i0 ≤ j1 ∧ j1 + 1 < b ∧ l ≤ n ∧ a + l = b by omega)
  have bn : j1 < n := by omega
  have g8 : decide ((8 : Int) ≤ (l : Int)) = true := by simp; omega
  have HNP := Lib.hid (fun w0 : World => npow_any (n := l) (by omega) (by omega) w0)
  have hX0 := CX.new w l (by omega)
  have hS0 := hS.alloc (.cells #[.int .u64 (l : Nat)] 85)
  have hO0 := Lib.hid ((Ox.refl g w).alloc (.cells #[.int .u64 (l : Nat)] 85))
  clear hn hl hm hm2 hj hi0 hj1 hS
  go_enter Tryd.func72, Tryd.ntmps72
  go_wp2_with fail
  refine (HNP.out _).mono ?_
  rintro _ _ ⟨M, rfl, hM0, hM2, rfl⟩
  obtain ⟨M1, hM1⟩ : ∃ x, x = M - 1 := ⟨_, rfl⟩
  have eM : IntKind.u64.wrap ((M : Int) - 1) = (M1 : Int) := by rw [IntKind.wrap_u64]; omega
  have HM1 := Lib.hid (show M1 = M - 1 ∧ 0 < M ∧ M ≤ 2 * l from ⟨hM1, hM0, hM2⟩)
  clear HNP hM1 hM0 hM2 g8
  go_wp2_with fail
  rw [← hq] at hX0 ⊢
  have HQ := Lib.hid (And.intro hq hqg)
  clear hq hqg hg
  generalize w.alloc (.cells #[.int .u64 (l : Nat)] 85) = w1 at hX0 hS0 hO0 ⊢
  go_loopw [9] (fun iv wr => ∃ (i : Nat) (dk : Array Nat) (X : Nat), iv = .int .i64 i ∧ i0 ≤ i ∧ i ≤ j1 + 1 ∧ SB wr g dk rest ∧ CX wr q X ∧ Hid (dk.size = n ∧ PermIn a b d dk) ∧ Hid (Ox g w wr)) (fun iv _ => j1 + 1 - (intOf iv).toNat)
  case atStart => exact ⟨i0, d, l, rfl, Nat.le_refl _, by have := bi.out; omega, hS0, hX0, Lib.hid ⟨HN.out, permIn_refl _ _ _⟩, hO0⟩
  case round =>
    clear hS0 hX0 hO0
    obtain ⟨i, dk, X, rfl, hi0, hi1, hS, hX, HE, hO⟩ := hrel
    by_cases hij : i ≤ j1
    · have gij : decide ((i : Int) ≤ (j1 : Int)) = true := by simp; omega
      have HNX := Lib.hid (next_any hX)
      go_wp2_with fail
      refine HNX.out.mono ?_
      rintro _ w2 ⟨r, rfl, hX2, hO2⟩
      have hS2 := hS.aside hO2 HQ.out.2.symm
      have hOx2 := Lib.hid (hO.out.box (q := q) (by rw [HQ.out.1]; exact Nat.le_refl _) hO2)
      obtain ⟨o, ho⟩ : ∃ o, o = r &&& M1 := ⟨_, rfl⟩
      have eo : bits .and .u64 (r : Int) (M1 : Int) = (o : Int) := by
        have := HM1.out
        rw [bits_and_u64_nat _ _ hX2.2 (by omega), ho]
      have hol : o < 2 * l := by
        have h1 := HM1.out
        have h2 := and_lt (r := r) h1.2.1
        rw [ho, h1.1]; omega
      have HX2 := Lib.hid hX2
      clear ho HNX hX hS hO hO2 hX2
      have HZ := Lib.hid HE.out.1
      by_cases hol2 : l ≤ o
      · have gol : decide ((l : Int) ≤ (o : Int)) = true := by simp; omega
        obtain ⟨o1, ho1⟩ : ∃ x, x = o - l := ⟨_, rfl⟩
        obtain ⟨s, hs⟩ : ∃ x, x = a + o1 := ⟨_, rfl⟩
        have es0 : (o : Int) - l = (o1 : Int) := by omega
        have s1 : IntKind.i64.wrap ((a : Int) + o1) = (s : Int) := by rw [IntWalk.i64_in _ (by omega)]; omega
        have hsb : a ≤ s ∧ s < b := by have := bi.out; omega
        clear ho1 hs
        go_wp2_with fail
        clear es0
        have b0 : (0 : Int) ≤ (i : Int) := by omega
        have b1 : (i : Int) < (n : Int) := by omega
        have b2 : (0 : Int) ≤ (s : Int) := by omega
        have b3 : (s : Int) < (n : Int) := by omega
        have hci := hS2.cell (i := i) (by rw [HZ.out]; omega)
        have hcj := hS2.cell (i := s) (by rw [HZ.out]; omega)
        have hfi := hS2.frozen i
        have hfj := hS2.frozen s
        obtain ⟨x, hx⟩ : ∃ x, x = dk[i]! := ⟨_, rfl⟩
        obtain ⟨y, hy⟩ : ∃ y, y = dk[s]! := ⟨_, rfl⟩
        rw [← hx] at hci
        rw [← hy] at hcj
        have HXY := Lib.hid (And.intro hx hy)
        clear hx hy
        obtain ⟨y2, hcj2⟩ : ∃ y2 : Nat, (w2.setCell ⟨g, i, none⟩ (.int .u32 (y : Nat))).cell? ⟨g, s, none⟩ = some (.int .u32 y2) := ⟨_, (hS2.set (i := i) (by rw [HZ.out]; omega) y).cell (i := s) (by rw [Array.size_setIfInBounds, HZ.out]; omega)⟩
        go_wp2_with fail
        go_region
        have hS3 := (hS2.swap (i := i) (j := s) (by rw [HZ.out]; omega) (by rw [HZ.out]; omega) HXY.out.2 HXY.out.1).drew
        have hO3 := Lib.hid (hOx2.out.next (((Om.refl g w2).set (i := i) (.int .u32 (y : Nat))).set (i := s) (.int .u32 (x : Nat))).drew)
        have HZ3 := Lib.hid (show (swp dk i s).size = n by rw [size_swp]; exact HZ.out)
        have HOW : Hid (Om g w2 ((w2.setCell ⟨g, i, none⟩ (.int .u32 (y : Nat))).setCell ⟨g, s, none⟩ (.int .u32 (x : Nat))).drew) := Lib.hid ((((Om.refl g w2).set (i := i) (.int .u32 (y : Nat))).set (i := s) (.int .u32 (x : Nat))).drew)
        clear hci hcj hfi hfj hS2 hOx2 hcj2 HXY b0 b1 b2 b3
        generalize ((w2.setCell ⟨g, i, none⟩ (.int .u32 (y : Nat))).setCell ⟨g, s, none⟩ (.int .u32 (x : Nat))).drew = w3 at hS3 hO3 HOW ⊢
        obtain ⟨d3, hd3⟩ : ∃ z, z = swp dk i s := ⟨_, rfl⟩
        rw [← hd3] at hS3 HZ3
        have HD3 := Lib.hid hd3
        clear hd3
        have HX3 := HX2.out.aside (HOW.out) HQ.out.2
        have HE3 := Lib.hid (show d3.size = n ∧ PermIn a b d d3 from ⟨HZ3.out, permIn_trans _ _ _ _ _ HE.out.2 (by rw [HD3.out]; exact swp_permIn _ _ _ _ _ (by have := bi.out; omega) (by have := bi.out; omega) (by have := bi.out; omega) (by have := bi.out; omega) (by rw [HE.out.1]; omega))⟩)
        go_wp2
        go_roundw
        case rel => exact ⟨i + 1, d3, r, by go_num, by omega, by omega, hS3, HX3, HE3, hO3⟩
        case measure => simp [intOf]; omega
      · have gol : decide ((l : Int) ≤ (o : Int)) = false := by simp; omega
        obtain ⟨s, hs⟩ : ∃ x, x = a + o := ⟨_, rfl⟩
        have s1 : IntKind.i64.wrap ((a : Int) + o) = (s : Int) := by rw [IntWalk.i64_in _ (by omega)]; omega
        have hsb : a ≤ s ∧ s < b := by have := bi.out; omega
        clear hs
        go_wp2_with fail
        have b0 : (0 : Int) ≤ (i : Int) := by omega
        have b1 : (i : Int) < (n : Int) := by omega
        have b2 : (0 : Int) ≤ (s : Int) := by omega
        have b3 : (s : Int) < (n : Int) := by omega
        have hci := hS2.cell (i := i) (by rw [HZ.out]; omega)
        have hcj := hS2.cell (i := s) (by rw [HZ.out]; omega)
        have hfi := hS2.frozen i
        have hfj := hS2.frozen s
        obtain ⟨x, hx⟩ : ∃ x, x = dk[i]! := ⟨_, rfl⟩
        obtain ⟨y, hy⟩ : ∃ y, y = dk[s]! := ⟨_, rfl⟩
        rw [← hx] at hci
        rw [← hy] at hcj
        have HXY := Lib.hid (And.intro hx hy)
        clear hx hy
        obtain ⟨y2, hcj2⟩ : ∃ y2 : Nat, (w2.setCell ⟨g, i, none⟩ (.int .u32 (y : Nat))).cell? ⟨g, s, none⟩ = some (.int .u32 y2) := ⟨_, (hS2.set (i := i) (by rw [HZ.out]; omega) y).cell (i := s) (by rw [Array.size_setIfInBounds, HZ.out]; omega)⟩
        go_wp2_with fail
        go_region
        have hS3 := (hS2.swap (i := i) (j := s) (by rw [HZ.out]; omega) (by rw [HZ.out]; omega) HXY.out.2 HXY.out.1).drew
        have hO3 := Lib.hid (hOx2.out.next (((Om.refl g w2).set (i := i) (.int .u32 (y : Nat))).set (i := s) (.int .u32 (x : Nat))).drew)
        have HZ3 := Lib.hid (show (swp dk i s).size = n by rw [size_swp]; exact HZ.out)
        have HOW : Hid (Om g w2 ((w2.setCell ⟨g, i, none⟩ (.int .u32 (y : Nat))).setCell ⟨g, s, none⟩ (.int .u32 (x : Nat))).drew) := Lib.hid ((((Om.refl g w2).set (i := i) (.int .u32 (y : Nat))).set (i := s) (.int .u32 (x : Nat))).drew)
        clear hci hcj hfi hfj hS2 hOx2 hcj2 HXY b0 b1 b2 b3
        generalize ((w2.setCell ⟨g, i, none⟩ (.int .u32 (y : Nat))).setCell ⟨g, s, none⟩ (.int .u32 (x : Nat))).drew = w3 at hS3 hO3 HOW ⊢
        obtain ⟨d3, hd3⟩ : ∃ z, z = swp dk i s := ⟨_, rfl⟩
        rw [← hd3] at hS3 HZ3
        have HD3 := Lib.hid hd3
        clear hd3
        have HX3 := HX2.out.aside (HOW.out) HQ.out.2
        have HE3 := Lib.hid (show d3.size = n ∧ PermIn a b d d3 from ⟨HZ3.out, permIn_trans _ _ _ _ _ HE.out.2 (by rw [HD3.out]; exact swp_permIn _ _ _ _ _ (by have := bi.out; omega) (by have := bi.out; omega) (by have := bi.out; omega) (by have := bi.out; omega) (by rw [HE.out.1]; omega))⟩)
        go_wp2
        go_roundw
        case rel => exact ⟨i + 1, d3, r, by go_num, by omega, by omega, hS3, HX3, HE3, hO3⟩
        case measure => simp [intOf]; omega
    · have gij : decide ((i : Int) ≤ (j1 : Int)) = false := by simp; omega
      go_wp2
      go_end0
      exact ⟨rfl, dk, hS, HE.out.2, hO.out⟩
end Go.Proofs.YtjnhfakdpnnboaaDoor
