/- The law PrimeFactors. -/
import Derived.Test.YtjnhfakdpnnboaaDoorZg
namespace Go.Proofs.YtjnhfakdpnnboaaDoor
open Go.RowKit Go.IntWalk

/-- What is told of the factors of any number. -/
def FacOf (n : Nat) (L : List (Nat × Nat)) : Prop := (n = 0 → L = []) ∧ (0 < n → Nt.IsFac n L)
def DivOf (n : Nat) (C : List Nat) : Prop := (n = 0 → C = []) ∧ (0 < n → ∃ L, Nt.IsFac n L ∧ C.Perm (Nt.divsN [1] L) ∧ C.Pairwise (· ≤ ·))
noncomputable def tot (n : Nat) : Nat := if n = 0 then 0 else Nt.phi n
theorem FacOf.unique {n : Nat} {L M : List (Nat × Nat)} (h : FacOf n L) (k : FacOf n M) : L = M := by
  rcases Nat.eq_zero_or_pos n with h0 | h0
  · rw [h.1 h0, k.1 h0]
  · exact Nt.IsFac.unique (h.2 h0) (k.2 h0)
theorem DivOf.unique {n : Nat} {C D : List Nat} (h : DivOf n C) (k : DivOf n D) : C = D := by
  rcases Nat.eq_zero_or_pos n with h0 | h0
  · rw [h.1 h0, k.1 h0]
  · obtain ⟨L, h1, h2, h3⟩ := h.2 h0
    obtain ⟨M, k1, k2, k3⟩ := k.2 h0
    obtain rfl := Nt.IsFac.unique h1 k1
    exact Nt.asc_unique h2 k2 h3 k3
theorem FacOf.len {n : Nat} {L : List (Nat × Nat)} (h : FacOf n L) (hn : n < 4294967296) : L.length < 32 := by
  rcases Nat.eq_zero_or_pos n with h0 | h0
  · rw [h.1 h0]; decide
  · exact len32 (h.2 h0).len hn
theorem DivOf.len {n : Nat} {C : List Nat} (h : DivOf n C) : C.length ≤ n := by
  rcases Nat.eq_zero_or_pos n with h0 | h0
  · rw [h.1 h0]; exact Nat.zero_le _
  · obtain ⟨L, h1, h2, _⟩ := h.2 h0
    have := Nt.divs_len L (M := [1]) (D := 1) h1.pr (Nat.le_refl _)
    rw [h2.length_eq]
    rwa [Nat.one_mul, h1.prod] at this
/-- The words C, read behind a slice's address. -/
def RdW (w : World) (A : Option Addr) (C : List Nat) : Prop := ∀ (j d : Nat), C[j]? = some d → ∃ g, A = some ⟨g, 0, none⟩ ∧ g < w.heap.size ∧ w.cell? ⟨g, j, none⟩ = some (.int .u32 d)
theorem RdW.below {w w' : World} {A : Option Addr} {C : List Nat} (h : RdW w A C) (hb : Below w.heap.size w w') : RdW w' A C := fun j d hd => by
  obtain ⟨g, h1, h2, h3⟩ := h j d hd
  exact ⟨g, h1, Nat.lt_of_lt_of_le h2 hb.size, (hb.cell (p := ⟨g, j, none⟩) h2).trans h3⟩
def RetFs (n : Nat) (w : World) (e : Ending) (w' : World) : Prop := ∃ (A : Option Addr) (c : Nat) (L : List (Nat × Nat)), e = .returned (.slice A L.length c) ∧ Hid (FacOf n L) ∧ FacAt w' A L ∧ Below w.heap.size w w'
def RetDs (n : Nat) (w : World) (e : Ending) (w' : World) : Prop := ∃ (A : Option Addr) (c : Nat) (C : List Nat), e = .returned (.slice A C.length c) ∧ Hid (DivOf n C) ∧ RdW w' A C ∧ Below w.heap.size w w'
theorem RetF.all {n : Nat} {w w' : World} {e : Ending} (h0 : 0 < n) (h : RetF n w e w') : RetFs n w e w' := by
  obtain ⟨v, L, rfl, hL, hown, hB⟩ := h
  obtain ⟨ad, cap, rfl, hA⟩ := fac_slice hown
  exact ⟨ad, cap, L, rfl, Lib.hid ⟨fun h => by omega, fun _ => hL.out⟩, hA, hB⟩
theorem RetDv.all {n : Nat} {w w' : World} {e : Ending} (h0 : 0 < n) (h : RetDv n w e w') : RetDs n w e w' := by
  obtain ⟨g, c, C, rfl, hU, hC, hB⟩ := h
  exact ⟨_, c, C, rfl, Lib.hid ⟨fun h => by omega, fun _ => hC.out⟩, fun j d hd => ⟨g, rfl, hU.lt, hU.cell hd⟩, hB⟩
theorem nil_fs (w : World) : RetFs 0 w (.returned (.slice none 0 0)) w := ⟨none, 0, [], rfl, Lib.hid ⟨fun _ => rfl, fun h => by omega⟩, ⟨fun i x hx => by simp at hx⟩, Below.refl _ _⟩
theorem nil_ds (w : World) : RetDs 0 w (.returned (.slice none 0 0)) w := ⟨none, 0, [], rfl, Lib.hid ⟨fun _ => rfl, fun h => by omega⟩, fun i x hx => by simp at hx, Below.refl _ _⟩
set_option maxRecDepth 100000 in
theorem fac0_any (w : World) : Calls Tryd.prog 42 #[.int .u32 0] w fun e w' => e = .returned (.slice none 0 0) ∧ w = w' := by
  go_enter Tryd.func42, Tryd.ntmps42
  go_wp2
  go_ret
  exact ⟨rfl, rfl⟩
set_option maxRecDepth 100000 in
theorem div0_any (w : World) : Calls Tryd.prog 44 #[.int .u32 0] w fun e w' => e = .returned (.slice none 0 0) ∧ w = w' := by
  go_enter Tryd.func44, Tryd.ntmps44
  go_wp2
  go_ret
  exact ⟨rfl, rfl⟩
set_option maxRecDepth 100000 in
theorem rdiv0_any (w : World) : Calls Tryd.prog 45 #[.int .u32 0] w fun e w' => e = .returned (.slice none 0 0) ∧ w = w' := by
  go_enter Tryd.func45, Tryd.ntmps45
  go_wp2
  go_ret
  exact ⟨rfl, rfl⟩
set_option maxRecDepth 100000 in
theorem rfac0_any (w : World) : Calls Tryd.prog 43 #[.int .u32 0] w fun e w' => e = .returned (.slice none 0 0) ∧ w = w' := by
  go_enter Tryd.func43, Tryd.ntmps43
  go_wp2_with fail
  go_loopw [0, 3] (fun nv lv wr => nv = .int .u32 0 ∧ lv = .slice none 0 0 ∧ w = wr) (fun _ _ _ => 0)
  case atStart => exact ⟨rfl, rfl, rfl⟩
  case round =>
    obtain ⟨rfl, rfl, rfl⟩ := hrel
    go_wp2
    go_ret
    exact ⟨rfl, rfl⟩
set_option maxRecDepth 100000 in
theorem tot0_any (w : World) : Calls Tryd.prog 46 #[.int .u32 0] w fun e w' => e = .returned (.int .u32 0) ∧ w = w' := by
  go_enter Tryd.func46, Tryd.ntmps46
  go_wp2_with fail
  refine (fac0_any _).mono ?_
  rintro _ _ ⟨rfl, rfl⟩
  go_wp2_with fail
  go_loopw [3, 10] (fun mv iv wr => mv = .int .u32 0 ∧ iv = .int .i64 0 ∧ w = wr) (fun _ _ _ => 0)
  case atStart => exact ⟨rfl, rfl, rfl⟩
  case round =>
    obtain ⟨rfl, rfl, rfl⟩ := hrel
    go_wp2
    go_ret
    exact ⟨rfl, rfl⟩
set_option maxRecDepth 100000 in
theorem rtot0_any (w : World) : Calls Tryd.prog 47 #[.int .u32 0] w fun e w' => e = .returned (.int .u32 0) ∧ w = w' := by
  go_enter Tryd.func47, Tryd.ntmps47
  go_wp2_with fail
  refine (rfac0_any _).mono ?_
  rintro _ _ ⟨rfl, rfl⟩
  go_wp2_with fail
  go_loopw [3, 10] (fun mv iv wr => mv = .int .u32 0 ∧ iv = .int .i64 0 ∧ w = wr) (fun _ _ _ => 0)
  case atStart => exact ⟨rfl, rfl, rfl⟩
  case round =>
    obtain ⟨rfl, rfl, rfl⟩ := hrel
    go_wp2
    go_ret
    exact ⟨rfl, rfl⟩
theorem facs_any (n : Nat) (hn : n < 4294967296) (w : World) : Calls Tryd.prog 42 #[.int .u32 n] w (RetFs n w) := by
  rcases Nat.eq_zero_or_pos n with h0 | h0
  · subst h0
    exact (fac0_any w).mono fun _ _ ⟨h1, h2⟩ => by subst h1 h2; exact nil_fs _
  · exact (factors_any n rfl hn h0 w).mono fun _ _ h => RetF.all h0 h
theorem rfacs_any (n : Nat) (hn : n < 4294967296) (w : World) : Calls Tryd.prog 43 #[.int .u32 n] w (RetFs n w) := by
  rcases Nat.eq_zero_or_pos n with h0 | h0
  · subst h0
    exact (rfac0_any w).mono fun _ _ ⟨h1, h2⟩ => by subst h1 h2; exact nil_fs _
  · exact (refFactors_any n rfl hn h0 w).mono fun _ _ h => RetF.all h0 h
theorem divs_any (n : Nat) (hn : n < 4294967296) (w : World) : Calls Tryd.prog 44 #[.int .u32 n] w (RetDs n w) := by
  rcases Nat.eq_zero_or_pos n with h0 | h0
  · subst h0
    exact (div0_any w).mono fun _ _ ⟨h1, h2⟩ => by subst h1 h2; exact nil_ds _
  · exact (divisors_any n rfl hn h0 w).mono fun _ _ h => RetDv.all h0 h
theorem rdivs_any (n : Nat) (hn : n < 4294967296) (w : World) : Calls Tryd.prog 45 #[.int .u32 n] w (RetDs n w) := by
  rcases Nat.eq_zero_or_pos n with h0 | h0
  · subst h0
    exact (rdiv0_any w).mono fun _ _ ⟨h1, h2⟩ => by subst h1 h2; exact nil_ds _
  · exact (refDivisors_any n rfl hn h0 w).mono fun _ _ h => RetDv.all h0 h
theorem tots_any (n : Nat) (hn : n < 4294967296) (w : World) : Calls Tryd.prog 46 #[.int .u32 n] w (RetRB .u32 (fun v => v = tot n) w) := by
  rcases Nat.eq_zero_or_pos n with h0 | h0
  · subst h0
    exact (tot0_any w).mono fun _ _ ⟨h1, h2⟩ => by subst h1 h2; exact ⟨0, rfl, Lib.hid (by simp [tot]), Below.refl _ _⟩
  · exact (tot_any n rfl hn h0 w).mono fun _ _ ⟨v, h1, h2, h3⟩ => ⟨v, h1, Lib.hid (by rw [h2.out, tot, if_neg (by omega)]), h3⟩
theorem rtots_any (n : Nat) (hn : n < 4294967296) (w : World) : Calls Tryd.prog 47 #[.int .u32 n] w (RetRB .u32 (fun v => v = tot n) w) := by
  rcases Nat.eq_zero_or_pos n with h0 | h0
  · subst h0
    exact (rtot0_any w).mono fun _ _ ⟨h1, h2⟩ => by subst h1 h2; exact ⟨0, rfl, Lib.hid (by simp [tot]), Below.refl _ _⟩
  · exact (rtot_any n rfl hn h0 w).mono fun _ _ ⟨v, h1, h2, h3⟩ => ⟨v, h1, Lib.hid (by rw [h2.out, tot, if_neg (by omega)]), h3⟩

set_option maxRecDepth 100000 in
set_option maxHeartbeats 4000000 in
theorem walk_PrimeFactors (n : Nat) (hn : n < 4294967296) (w : World) (hT : Tabs w) : Calls Tryd.prog 13 #[.int .u32 n] w (RetT w) := by
  have H1 := Lib.hid (fun w0 : World => facs_any n hn w0)
  have H2 := Lib.hid (fun w0 : World => rfacs_any n hn w0)
  have H3 := Lib.hid (fun w0 : World => divs_any n hn w0)
  have H4 := Lib.hid (fun w0 : World => rdivs_any n hn w0)
  have H5 := Lib.hid (fun w0 : World => tots_any n hn w0)
  have H6 := Lib.hid (fun w0 : World => rtots_any n hn w0)
  go_enter Tryd.func13, Tryd.ntmps13
  go_wp2_with fail
  refine (H1.out _).mono ?_
  rintro _ w1 ⟨A1, c1, L, rfl, hL, hA1, hB1⟩
  go_wp2_with fail
  refine (H2.out _).mono ?_
  rintro _ w2 ⟨A2, c2, L2, rfl, hL2, hA2, hB2⟩
  obtain rfl := hL.out.unique hL2.out
  have hA1' := hA1.below hB2
  go_wp2_with fail
  refine (H3.out _).mono ?_
  rintro _ w3 ⟨A3, c3, C, rfl, hC, hA3, hB3⟩
  go_wp2_with fail
  refine (H4.out _).mono ?_
  rintro _ w4 ⟨A4, c4, C2, rfl, hC2, hA4, hB4⟩
  obtain rfl := hC.out.unique hC2.out
  have hA3' := hA3.below hB4
  have hl1 := hL.out.len hn
  have hl2 := hC.out.len
  go_wp2_with fail
  refine (H5.out _).mono ?_
  rintro _ w5 ⟨t1, rfl, ht1, hB5⟩
  go_wp2_with fail
  refine (H6.out _).mono ?_
  rintro _ w6 ⟨t2, rfl, ht2, hB6⟩
  obtain rfl : t1 = t2 := ht1.out.trans ht2.out.symm
  have hF1 := (((hA1'.below hB3).below hB4).below hB5).below hB6
  have hF2 := (((hA2.below hB3).below hB4).below hB5).below hB6
  have hD1 := (hA3'.below hB5).below hB6
  have hD2 := (hA4.below hB5).below hB6
  have s1 := hB1.size
  have s2 := hB2.size
  have s3 := hB3.size
  have s4 := hB4.size
  have s5 := hB5.size
  have s6 := hB6.size
  have HB := Lib.hid (((((hB1.trans (hB2.mono (by omega))).trans (hB3.mono (by omega))).trans (hB4.mono (by omega))).trans (hB5.mono (by omega))).trans (hB6.mono (by omega)))
  clear H1 H2 H3 H4 H5 H6 hA1 hA1' hA2 hA3 hA3' hA4 hB1 hB2 hB3 hB4 hB5 hB6 s1 s2 s3 s4 s5 s6
  go_wp2_with fail
  go_loopg [38] L.length (fun gk iv wr => ∃ i : Nat, i + gk = L.length ∧ iv = .int .i64 i ∧ Below w6.heap.size w6 wr)
  case atStart => exact ⟨0, by omega, rfl, Below.refl _ _⟩
  case round =>
    obtain ⟨i, hig, rfl, hB1⟩ := hrel
    by_cases hil : i < L.length
    · obtain ⟨W, rfl⟩ : ∃ W : World, W = wr := ⟨_, rfl⟩
      obtain ⟨g, rfl⟩ : ∃ g, gk = g + 1 := ⟨gk - 1, by omega⟩
      obtain ⟨⟨f, k⟩, hx⟩ : ∃ x, L[i]? = some x := ⟨_, List.getElem?_eq_getElem hil⟩
      obtain ⟨ga, rfl, hgl, hc0, hc1⟩ := (hF1.below hB1).at_ i _ hx
      obtain ⟨gb, rfl, hgl2, hc2, hc3⟩ := (hF2.below hB1).at_ i _ hx
      simp only at hc0 hc1 hc2 hc3
      clear hx
      go_wp2_with fail
      go_quiet (fail)
      go_wp2
      go_roundg g
      case measure => omega
      case rel => exact ⟨i + 1, by omega, by go_num, below_drewN hB1 _⟩
    · obtain rfl : i = L.length := by omega
      have HB1 := Lib.hid hB1
      clear hF1 hF2
      go_wp2_with fail
      go_loopg [53] C.length (fun gk iv wr => ∃ i : Nat, i + gk = C.length ∧ iv = .int .i64 i ∧ Below w6.heap.size w6 wr)
      case atStart => exact ⟨0, by omega, rfl, HB1.out⟩
      case round =>
        clear hB1 HB1 hil hig
        obtain ⟨i, hig, rfl, hB1⟩ := hrel
        by_cases hil : i < C.length
        · obtain ⟨W, rfl⟩ : ∃ W : World, W = wr := ⟨_, rfl⟩
          obtain ⟨g, rfl⟩ : ∃ g, gk = g + 1 := ⟨gk - 1, by omega⟩
          obtain ⟨d, hx⟩ : ∃ x, C[i]? = some x := ⟨_, List.getElem?_eq_getElem hil⟩
          obtain ⟨ga, rfl, hgl, hc0⟩ := (hD1.below hB1) i _ hx
          obtain ⟨gb, rfl, hgl2, hc2⟩ := (hD2.below hB1) i _ hx
          clear hx
          go_wp2_with fail
          go_quiet (fail)
          go_wp2
          go_roundg g
          case measure => omega
          case rel => exact ⟨i + 1, by omega, by go_num, below_drewN hB1 _⟩
        · obtain rfl : i = C.length := by omega
          have HB2 := Lib.hid (HB.out.trans (hB1.mono HB.out.size))
          go_wp2_with fail
          refine (awake_any _ (hT.below HB2.out)).mono ?_
          rintro _ w9 ⟨rfl, hB9⟩
          have HB3 := Lib.hid (HB2.out.trans (hB9.mono HB2.out.size))
          go_wp2
          go_ret
          exact ⟨rfl, HB3.out⟩
end Go.Proofs.YtjnhfakdpnnboaaDoor
