/- modpoly, the document's example: two numbers are put in order. -/
import Derived.Test.YtmgacikdgbedfaaGreatDoorF7
import Derived.Test.YtmgacikdgbedfaaGreatDoorW7
import Derived.Test.YtmgacikdgbedfaaGreatDoorM13
import Derived.Test.YtmgacikdgbedfaaGreatDoorNt
import Derived.Test.YtmgacikdgbedfaaGreatDoorW8
namespace Go.Proofs.YtmgacikdgbedfaaGreatDoor
open Go.RowKit Go.IntWalk
attribute [local go_sem ↓] Go.wp_at_zero Go.wp_at_succ

set_option maxHeartbeats 400000 in
theorem less16 (w : World) : Calls Tryz.prog 90 #[.int .u32 1, .int .u32 6] w fun e w' => e = .returned (.bool true) ∧ w = w' := by
  go_enter Tryz.func90, Tryz.ntmps90
  go_wp2_with (go_at_call 107; refine (isNaN_any _ _).mono ?_; rintro _ _ ⟨rfl, rfl⟩)
  go_ret
  exact ⟨rfl, rfl⟩
set_option maxRecDepth 100000 in
set_option maxHeartbeats 4000000 in
theorem ins16 {g c0 : Nat} {w : World} (hg : RP w g 24 [.int .u32 6, .int .u32 1]) :
    Calls Tryz.prog 84 #[.slice (some ⟨g, 0, none⟩) 2 c0, .int .i64 0, .int .i64 2] w fun e w' => e = .returned (.tuple #[]) ∧ RP w' g 24 [.int .u32 1, .int .u32 6] ∧ OnlyG g w w' := by
  have HG := Lib.hid hg
  clear hg
  go_enter Tryz.func84, Tryz.ntmps84
  go_wp2_with fail
  go_loopw [6] (fun iv wr => ∃ i : Nat, iv = .int .i64 i ∧ i ≤ 2 ∧ Hid ((i = 1 ∧ wr = w) ∨ (i = 2 ∧ RP wr g 24 [.int .u32 1, .int .u32 6] ∧ OnlyG g w wr))) (fun iv _ => 2 - (intOf iv).toNat)
  case atStart => exact ⟨1, rfl, by omega, Lib.hid (.inl ⟨rfl, rfl⟩)⟩
  case round =>
    obtain ⟨i, rfl, hi, hI⟩ := hrel
    rcases hI.out with ⟨rfl, rfl⟩ | ⟨rfl, ho, hf⟩
    · clear hI
      obtain ⟨wo, rfl⟩ : ∃ wo : World, wo = wr := ⟨_, rfl⟩
      go_wp2_with fail
      go_loopw [7] (fun jv wr => ∃ j : Nat, jv = .int .i64 j ∧ Hid ((j = 1 ∧ wr = wo) ∨ (j = 0 ∧ RP wr g 24 [.int .u32 1, .int .u32 6] ∧ OnlyG g wo wr))) (fun jv _ => (intOf jv).toNat)
      case atStart => exact ⟨1, rfl, Lib.hid (.inl ⟨rfl, rfl⟩)⟩
      case round =>
        obtain ⟨j, rfl, hJ⟩ := hrel
        rcases hJ.out with ⟨rfl, rfl⟩ | ⟨rfl, ho, hf⟩
        · clear hJ
          obtain ⟨w1, rfl⟩ : ∃ w1 : World, w1 = wr := ⟨_, rfl⟩
          have hc0 := HG.out.cell (j := 0) rfl
          have hc1' := HG.out.cell (j := 1) rfl
          go_wp2_with fail
          go_quiet ((go_at_call 90; exact quiet_left' (less16 _)))
          have hf0 := HG.out.frozen 0
          have hf1 := HG.out.frozen 1
          go_wp2_with fail
          go_region
          all_goals
            go_wp2
          have hR := (((HG.out.drewN (nq + 1)).set 1 (.int .u32 6)).set 0 (.int .u32 1))
          have hO := ((((OnlyG.refl g w1).drewN (nq + 1)).set 1 (.int .u32 6)).set 0 (.int .u32 1))
          exact ⟨⟨0, rfl, Lib.hid (.inr ⟨rfl, hR, hO⟩)⟩, by simp [intOf]⟩
        · clear hJ
          have hc0 := ho.cell (j := 0) rfl
          have hc1' := ho.cell (j := 1) rfl
          have HO := Lib.hid ho
          have HF := Lib.hid hf
          clear ho hf
          go_wp2_with fail
          go_quiet (fail)
          go_wp2
          exact ⟨⟨2, rfl, by omega, Lib.hid (.inr ⟨rfl, HO.out.drewN nq, HF.out.drewN nq⟩)⟩, by simp [intOf]⟩
    · clear hI
      go_wp2
      go_end0
      exact ⟨rfl, ho, hf⟩
set_option maxRecDepth 100000 in
set_option maxHeartbeats 4000000 in
theorem pdq16 {g c0 : Nat} {w : World} (l : Int) (hg : RP w g 24 [.int .u32 6, .int .u32 1]) :
    Calls Tryz.prog 70 #[.slice (some ⟨g, 0, none⟩) 2 c0, .int .i64 0, .int .i64 2, .int .i64 l] w fun e w' => e = .returned (.tuple #[]) ∧ RP w' g 24 [.int .u32 1, .int .u32 6] ∧ OnlyG g w w' := by
  have HC := Lib.hid (ins16 (c0 := c0) hg)
  clear hg
  go_enter Tryz.func70, Tryz.ntmps70
  go_wp2_with fail
  go_loopw [1, 2] (fun av bv wr => av = .int .i64 0 ∧ bv = .int .i64 2 ∧ wr = w) (fun _ _ _ => 0)
  case atStart => exact ⟨rfl, rfl, rfl⟩
  case round =>
    obtain ⟨rfl, rfl, rfl⟩ := hrel
    go_wp2_with fail
    refine HC.out.mono ?_
    rintro _ w1 ⟨rfl, ho, hf⟩
    go_wp2
    refine bodyPost_ret (results_none rfl _ _ _) rfl ?_
    exact ⟨rfl, ho, hf⟩
set_option maxRecDepth 100000 in
set_option maxHeartbeats 4000000 in
theorem sort16 {g c0 : Nat} {w : World} (hg : RP w g 24 [.int .u32 6, .int .u32 1]) :
    Calls Tryz.prog 59 #[.slice (some ⟨g, 0, none⟩) 2 c0] w fun e w' => e = .returned (.tuple #[]) ∧ RP w' g 24 [.int .u32 1, .int .u32 6] ∧ OnlyG g w w' := by
  have HC := Lib.hid (fun l : Int => pdq16 (c0 := c0) l hg)
  clear hg
  go_enter Tryz.func59, Tryz.ntmps59
  go_wp2_with fail
  refine (len2_ex w).mono ?_
  rintro _ _ ⟨l, rfl, rfl⟩
  go_wp2_with fail
  refine (HC.out l).mono ?_
  rintro _ w1 ⟨rfl, ho, hf⟩
  go_wp2
  go_end0
  exact ⟨rfl, ho, hf⟩
set_option maxRecDepth 100000 in
set_option maxHeartbeats 4000000 in
theorem compact16 {g c0 : Nat} {w : World} (hg : RP w g 24 [.int .u32 1, .int .u32 6]) :
    Calls Tryz.prog 60 #[.slice (some ⟨g, 0, none⟩) 2 c0] w fun e w' => e = .returned (.slice (some ⟨g, 0, none⟩) 2 c0) ∧ ∃ n, w' = w.drewN n := by
  have hc0 := hg.cell (j := 0) rfl
  have hc1 := hg.cell (j := 1) rfl
  clear hg
  go_enter Tryz.func60, Tryz.ntmps60
  go_wp2_with fail
  go_loopw [3] (fun kv wr => ∃ k : Nat, kv = .int .i64 k ∧ Hid ((k = 1 ∧ wr = w) ∨ (k = 2 ∧ ∃ n, wr = w.drewN n))) (fun kv _ => 2 - (intOf kv).toNat)
  case atStart => exact ⟨1, rfl, Lib.hid (.inl ⟨rfl, rfl⟩)⟩
  case round =>
    obtain ⟨k, rfl, hI⟩ := hrel
    rcases hI.out with ⟨rfl, rfl⟩ | ⟨rfl, n, rfl⟩
    · clear hI
      go_wp2_with fail
      go_quiet (fail)
      go_wp2
      exact ⟨⟨2, rfl, Lib.hid (.inr ⟨rfl, nq, rfl⟩)⟩, by simp [intOf]⟩
    · clear hI
      go_wp2
      go_ret
      exact ⟨rfl, n, rfl⟩
end Go.Proofs.YtmgacikdgbedfaaGreatDoor

/- modpoly, the document's example: Roots. -/
namespace Go.Proofs.YtmgacikdgbedfaaGreatDoor
open Go.RowKit Go.IntWalk
attribute [local go_sem ↓] Go.wp_at_zero Go.wp_at_succ

theorem infoU : (Tryz.prog.info? 24).map (fun i => (i.zero, i.size, i.bytes)) = some (some (.int .u32 0), 1, 4) := by kernel_rfl
/-- Two roots come back. -/
def RetRoots (w : World) (e : Ending) (w' : World) : Prop :=
  ∃ (g c : Nat), e = .returned (.tuple #[.slice (some ⟨g, 0, none⟩) 2 c, .int .i64 0]) ∧ RP w' g 24 [.int .u32 1, .int .u32 6] ∧ Below w.heap.size w w'
theorem row_two {w : World} {b : Nat} {t : TypeId} {v x y : Value} (h : w.ownsRow b t 1 v 2 [x, y]) : ∃ g c, v = .slice (some ⟨g, 0, none⟩) 2 c ∧ b ≤ g ∧ RP w g t [x, y] := by
  rcases h.2 with ⟨_, e⟩ | ⟨g, cap, cur, rfl, e2, e3, e4, e5, e6, e7⟩
  · simp at e
  · exact ⟨g, cap, rfl, e2, cur, e3, by simp at e4 ⊢; omega, by simpa using e7⟩
set_option maxRecDepth 100000 in
set_option maxHeartbeats 4000000 in
theorem roots_ex {A : Option Addr} {c : Nat} {w : World} (h : RdU w w.heap.size A 3 c Pm.a7) (hT : Tabs w) :
    Calls Tryz.prog 44 #[.slice A 3 c, .int .u32 7] w (RetRoots w) := by
  go_enter Tryz.func44, Tryz.ntmps44
  go_wp2_with fail
  refine (factor_ex h hT).mono ?_
  rintro _ w1 ⟨g, c0, c1, c2, A1, A2, rfl, hr, hp2, hp1, hb⟩
  have HR := Lib.hid hr
  have HP1 := Lib.hid hp1
  have HP2 := Lib.hid hp2
  have HB := Lib.hid hb
  have HT := Lib.hid (hT.below hb)
  clear hr hp1 hp2 hb
  obtain ⟨i0, hi0, hz0, hz1, hz2⟩ := info_parts infoU
  go_wp2_with fail
  go_loopw [8, 24] (fun v kv wr => ∃ k : Nat, kv = .int .i64 k ∧ k ≤ 2 ∧ Hid (wr.ownsRow w1.heap.size 24 1 v k ([.int .u32 6, .int .u32 1].take k) ∧ Below w1.heap.size w1 wr)) (fun _ kv _ => 2 - (intOf kv).toNat)
  case atStart => exact ⟨0, rfl, by omega, Lib.hid ⟨⟨rfl, .inl ⟨rfl, rfl⟩⟩, Below.refl _ _⟩⟩
  case round =>
    obtain ⟨k, rfl, hk, hI⟩ := hrel
    obtain ⟨hown, hB⟩ := hI.out
    obtain ⟨A0, c9, rfl⟩ := row_sl hown
    clear hI
    have HBw := Lib.hid hB
    have HOWN := Lib.hid hown
    by_cases hk2 : k < 2
    · obtain ⟨A, c, x, y, hck, hp, hy⟩ : ∃ (A : Option Addr) (c : Nat) (x y : Nat), wr.cell? ⟨g, k, none⟩ = some (.slice A 2 c) ∧ Po w1 w.heap.size A 2 c [x, 1] ∧ Hid (x < 4294967296 ∧ (0 % 7 + 7 - x % 7) % 7 = y ∧ [.int .u32 6, .int .u32 1].take k ++ [.int .u32 y] = [Value.int .u32 6, .int .u32 1].take (k + 1)) := by
        match k, hk2 with
        | 0, _ => exact ⟨_, _, 1, 6, (rp_next HR.out hB).cell (j := 0) rfl, HP2.out, Lib.hid ⟨by decide, by decide, rfl⟩⟩
        | 1, _ => exact ⟨_, _, 6, 1, (rp_next HR.out hB).cell (j := 1) rfl, HP1.out, Lib.hid ⟨by decide, by decide, rfl⟩⟩
      obtain ⟨_, ad, rfl, _, hca⟩ := (hp.next hB).rd.at_ 0 x rfl
      simp [Addr.add] at hca
      have hlt : ((k : Int) < 2) := by omega
      clear hown hB
      go_wp2_with fail
      refine (neg_ok x 7 rfl rfl hy.out.1 (by omega) Pm.pr7' _ (HT.out.below HBw.out)).mono ?_
      rintro _ w5 ⟨y5, rfl, hy5, hb5⟩
      obtain rfl : y5 = y := by rw [← hy.out.2.1]; exact hy5.out
      clear hck hca
      go_wp2_with (at_builtin; refine wpList_append_own _ rfl _ _ 22 rfl w1.heap.size 24 i0 (.int .u32 0) 1 4 Tryz.underlying22 hi0 hz0 hz1 hz2 rfl (by decide) _ _ _ rfl ((row_next HOWN.out hb5).alloc _) ⟨w5.heap.size, 0, none⟩ 1 1 [.int .u32 y5] rfl rfl (World.news_of_block (cs := #[.int .u32 y5]) (t := 24) (fr := (0, 0)) (heap_alloc_new w5 _)) (by simp [Value.oneCell']) (by unfold maxLen; omega) (by omega) (by have := HBw.out.size; have := hb5.size; simp; omega) ?_; intro v' w6 hown' hgrow _)
      have hG : (w5.alloc (.cells #[.int .u32 y5] 24)).grownBy w6 (Value.slice A0 k c9).ownBlock := hgrow
      clear hgrow
      rw [hy.out.2.2] at hown'
      have hO1 := (row_next HOWN.out hb5).alloc (.cells #[.int .u32 y5] 24)
      have hB1 : Below w1.heap.size w1 (w5.alloc (.cells #[.int .u32 y5] 24)) := (HBw.out.trans (hb5.mono HBw.out.size)).alloc (Nat.le_trans HBw.out.size hb5.size) _
      exact ⟨⟨k + 1, by simp, by omega, Lib.hid ⟨hown', hB1.grown hG hB1.size (own_block hO1)⟩⟩, by simp [intOf]; omega⟩
    · obtain rfl : k = 2 := by omega
      obtain ⟨g6, c6, he6, hg6, hr6⟩ := row_two hown
      injection he6 with he6 _ he7
      subst he6 he7
      have HR6 := Lib.hid hr6
      clear hown hB hr6
      go_wp2_with fail
      refine (sort16 HR6.out).mono ?_
      rintro _ w7 ⟨rfl, hr7, ho7⟩
      have HR7 := Lib.hid hr7
      have HB7 := Lib.hid (HBw.out.trans (only_below ho7 hg6 HBw.out.size))
      clear hr7 ho7
      go_wp2_with fail
      refine (compact16 HR7.out).mono ?_
      rintro _ _ ⟨rfl, n, rfl⟩
      go_wp2_with fail
      go_ret2
      exact ⟨_, _, rfl, HR7.out.drewN n, below_drewN (HB.out.trans (HB7.out.mono HB.out.size)) n⟩
end Go.Proofs.YtmgacikdgbedfaaGreatDoor

/- modpoly: the laws' own small functions; the document's example. -/
namespace Go.Proofs.YtmgacikdgbedfaaGreatDoor
open Go.RowKit Go.IntWalk
attribute [local go_sem ↓] Go.wp_at_zero Go.wp_at_succ

set_option maxHeartbeats 400000 in
theorem num_any (z : Int) (w : World) : Calls Tryz.prog 16 #[.int .i64 z] w (RetZ z w) := by
  go_enter Tryz.func16, Tryz.ntmps16
  go_wp2
  go_ret
  exact ⟨_, rfl, Lib.hid rfl, rfl⟩
/-- A truth comes back; at most the order of some operations was drawn. -/
def RetBD (b : Bool) (w : World) (e : Ending) (w' : World) : Prop := e = .returned (.bool b) ∧ ∃ j, w' = w.drewN j
set_option maxRecDepth 100000 in
set_option maxHeartbeats 1000000 in
theorem rsame_any {A A' : Option Addr} {B n n' c c' : Nat} {L L' : List Nat} {w : World} (h : RdU w B A n c L) (h' : RdU w B A' n' c' L') :
    Calls Tryz.prog 43 #[.slice A n c, .slice A' n' c'] w (RetBD (L == L') w) := by
  have hL := h.len
  have hL' := h'.len
  have hmx := h.mx
  have hle := h.le
  unfold maxLen at hmx
  by_cases hn : n = n'
  · subst hn
    have H := Lib.hid h
    have H' := Lib.hid h'
    clear h h'
    have hne : ((n : Int) != n) = false := by simp
    go_enter Tryz.func43, Tryz.ntmps43
    go_wp2_with fail
    go_loopw [13] (fun iv wr => ∃ i : Nat, iv = .int .i64 i ∧ i ≤ n ∧ Hid (L.take i = L'.take i ∧ ∃ j, wr = w.drewN j)) (fun iv _ => n - (intOf iv).toNat)
    case atStart => exact ⟨0, rfl, by omega, Lib.hid ⟨rfl, 0, rfl⟩⟩
    case round =>
      obtain ⟨i, rfl, hi, hI⟩ := hrel
      by_cases hin : i < n
      · obtain ⟨hT, j, rfl⟩ := hI.out
        have hx : i < L.length := by omega
        have hy : i < L'.length := by omega
        obtain ⟨x, hxe⟩ : ∃ x, L[i]? = some x := ⟨_, List.getElem?_eq_getElem hx⟩
        obtain ⟨y, hye⟩ : ∃ y, L'[i]? = some y := ⟨_, List.getElem?_eq_getElem hy⟩
        obtain ⟨_, ad, rfl, _, hc⟩ := H.out.at_ i x hxe
        obtain ⟨_, ad', rfl, _, hc'⟩ := H'.out.at_ i y hye
        have hlt : (i : Int) < n := by omega
        have HX := Lib.hid (And.intro hxe hye)
        have HT := Lib.hid hT
        clear hI hxe hye hT
        by_cases hxy : x = y
        · subst hxy
          have hxx : ((x : Int) != x) = false := by simp
          go_wp2_with fail
          go_quiet (fail)
          go_wp2
          go_roundw
          case rel => exact ⟨i + 1, by simp, by omega, Lib.hid ⟨by rw [List.take_add_one, List.take_add_one, HX.out.1, HX.out.2, HT.out], j + nq, by simp [World.drewN]⟩⟩
          case measure => simp [intOf]; omega
        · have hxx : ((x : Int) != y) = true := by simp; omega
          have hb : (L == L') = false := by
            simp
            rintro rfl
            have h := HX.out
            rw [h.1] at h
            exact hxy (by simpa using h.2)
          rw [hb]
          go_wp2_with fail
          go_quiet (fail)
          go_wp2
          go_ret
          exact ⟨rfl, j + nq, by simp [World.drewN, Nat.add_assoc]⟩
      · obtain rfl : i = n := by omega
        obtain ⟨hT, j, rfl⟩ := hI.out
        rw [List.take_of_length_le (by omega), List.take_of_length_le (by omega)] at hT
        subst hT
        clear hI
        go_wp2
        go_ret
        exact ⟨by simp, j, rfl⟩
  · have hb : (L == L') = false := by
      simp
      rintro rfl
      omega
    rw [hb]
    have hne : ((n : Int) != n') = true := by simp; omega
    clear h h'
    go_enter Tryz.func43, Tryz.ntmps43
    go_wp2_with fail
    go_ret
    exact ⟨rfl, 0, rfl⟩
set_option maxHeartbeats 1000000 in
theorem lsame_any {A A' : Option Addr} {B n n' c c' : Nat} {L L' : List Nat} {w : World} (h : RdU w B A n c L) (h' : RdU w B A' n' c' L') :
    Calls Tryz.prog 22 #[.slice A n c, .slice A' n' c'] w (RetBD (L == L') w) := by
  go_enter Tryz.func22, Tryz.ntmps22
  go_wp2_with fail
  refine (rsame_any h h').mono ?_
  rintro _ _ ⟨rfl, j, rfl⟩
  go_wp2
  go_ret
  exact ⟨rfl, j, rfl⟩
end Go.Proofs.YtmgacikdgbedfaaGreatDoor

/- modpoly: the document's example holds. -/
namespace Pm
theorem mul2 {R : List Nat} (h : Pn 2 R ∧ Cg 2 (co R) (cv (co [1, 1]) (co [1, 1]))) : R = [1, 0, 1] :=
  h.1.ext (by omega) (pn_of (.inr (by decide)) (by decide)) fun k => (h.2 k).trans (by
    match k with
    | 0 => exact cz_int (by decide)
    | 1 => exact cz_int (by decide)
    | 2 => exact cz_int (by decide)
    | k + 3 => rw [co_zero (show [1, 0, 1].length ≤ k + 3 by simp)]; exact cv_end (by decide) (by decide) (by simp))
theorem pr2' : Nt.Pr 2 := by
  refine ⟨by omega, fun d hd => ?_⟩
  have h1 : d ≤ 2 := Nat.le_of_dvd (by omega) hd
  have h2 : ∀ d, d ≤ 2 → 2 % d = 0 → d = 1 ∨ d = 2 := by decide
  exact h2 d h1 (Nat.mod_eq_zero_of_dvd hd)
end Pm
namespace Go.Proofs.YtmgacikdgbedfaaGreatDoor
open Go.RowKit Go.IntWalk
attribute [local go_sem ↓] Go.wp_at_zero Go.wp_at_succ

theorem rd_new {w : World} (L : List Nat) (hw : Dg.Wd L) (hm : L.length ≤ maxLen) : RdU (w.alloc (.cells (uc L).toArray 24)) (w.heap.size + 1) (some ⟨w.heap.size, 0, none⟩) L.length L.length L := by
  have := (UB.new w L).rd hw (B := w.heap.size + 1) (Nat.lt_succ_self _) (Nat.le_refl _) hm
  rwa [List.take_length] at this
set_option maxRecDepth 100000 in
set_option maxHeartbeats 4000000 in
theorem awake_any (w : World) (hT : Tabs w) : Calls Tryz.prog 23 #[] w (RetT w) := by
  have hw11 : Dg.Wd [1, 1] := fun x hx => by simp at hx; omega
  have hw601 : Dg.Wd [6, 0, 1] := fun x hx => by simp at hx; omega
  have hw101 : Dg.Wd [1, 0, 1] := fun x hx => by simp at hx; omega
  have hB1 := below1 w (.cells #[.int .u32 1, .int .u32 1] 24)
  have hB2 := below1 (w.alloc (.cells #[.int .u32 1, .int .u32 1] 24)) (.cells #[.int .u32 1, .int .u32 1] 24)
  have HB2 := Lib.hid (hB1.trans (hB2.mono hB1.size))
  have HT2 := Lib.hid (hT.below HB2.out)
  have hr1 : RdU (w.alloc (.cells #[.int .u32 1, .int .u32 1] 24)) (w.heap.size + 1) (some ⟨w.heap.size, 0, none⟩) 2 2 [1, 1] := rd_new (w := w) [1, 1] hw11 (by decide)
  have hr1' : RdU ((w.alloc (.cells #[.int .u32 1, .int .u32 1] 24)).alloc (.cells #[.int .u32 1, .int .u32 1] 24)) ((w.alloc (.cells #[.int .u32 1, .int .u32 1] 24)).alloc (.cells #[.int .u32 1, .int .u32 1] 24)).heap.size (some ⟨w.heap.size, 0, none⟩) 2 2 [1, 1] := (hr1.below (by simpa using hB2)).more (by simp)
  have hr2 : RdU ((w.alloc (.cells #[.int .u32 1, .int .u32 1] 24)).alloc (.cells #[.int .u32 1, .int .u32 1] 24)) ((w.alloc (.cells #[.int .u32 1, .int .u32 1] 24)).alloc (.cells #[.int .u32 1, .int .u32 1] 24)).heap.size (some ⟨w.heap.size + 1, 0, none⟩) 2 2 [1, 1] := by
    have := rd_new (w := w.alloc (.cells #[.int .u32 1, .int .u32 1] 24)) [1, 1] hw11 (by decide)
    simpa [uc] using this
  clear hB1 hB2 hr1
  go_enter Tryz.func23, Tryz.ntmps23
  go_wp2_with fail
  refine (mMul_ok 2 Pm.pr2' (by omega) hr1' hr2 (by omega) (by omega) HT2.out).mono ?_
  rintro _ w1 ⟨A, n, c, R, rfl, hp, hR, hb⟩
  have hR' := Pm.mul2 hR.out
  subst hR'
  obtain rfl : n = 3 := hp.len.symm
  have HB1 := Lib.hid (HB2.out.trans (hb.mono HB2.out.size))
  have HP := Lib.hid hp
  have hB3 := below1 w1 (.cells #[.int .u32 6, .int .u32 0, .int .u32 1] 24)
  have hr3 : RdU (w1.alloc (.cells #[.int .u32 6, .int .u32 0, .int .u32 1] 24)) (w1.alloc (.cells #[.int .u32 6, .int .u32 0, .int .u32 1] 24)).heap.size (some ⟨w1.heap.size, 0, none⟩) 3 3 Pm.a7 := by
    have := rd_new (w := w1) [6, 0, 1] hw601 (by decide)
    simpa [uc, Pm.a7] using this
  have HX := Lib.hid (roots_ex hr3 ((HT2.out.below hb).below hB3))
  have HB3 := Lib.hid hB3
  clear hp hb hr1' hr2 hR hB3 hr3
  go_wp2_with fail
  refine HX.out.mono ?_
  rintro _ w2 ⟨g, c2, rfl, hr, hb2⟩
  have hc0 := hr.cell (j := 0) rfl
  have hc1 := hr.cell (j := 1) rfl
  have HB4 := Lib.hid (HB3.out.trans (hb2.mono HB3.out.size))
  clear hb2
  go_wp2_with fail
  refine (num_any _ _).mono ?_
  rintro _ _ ⟨z1, rfl, hz1, rfl⟩
  obtain rfl : z1 = 0 := hz1.out
  obtain ⟨w2, rfl⟩ : ∃ w2' : World, w2' = w2 := ⟨_, rfl⟩
  have hr4 : RdU (w2.alloc (.cells #[.int .u32 1, .int .u32 0, .int .u32 1] 24)) (w2.heap.size + 1) (some ⟨w2.heap.size, 0, none⟩) 3 3 [1, 0, 1] := rd_new (w := w2) [1, 0, 1] hw101 (by decide)
  have hB5 := below1 w2 (.cells #[.int .u32 1, .int .u32 0, .int .u32 1] 24)
  have hp5 := ((HP.out.next (HB4.out)).next hB5).rd.more (B' := w2.heap.size + 1) (by simp)
  have HB5 := Lib.hid (HB4.out.trans (hB5.mono HB4.out.size))
  have HS := Lib.hid (lsame_any hp5 hr4)
  have HC := Lib.hid (And.intro ((hB5.cell (p := ⟨g, 0, none⟩) hr.lt).trans hc0) ((hB5.cell (p := ⟨g, 1, none⟩) hr.lt).trans hc1))
  clear hB5 hp5 hr4 hz1
  go_wp2_with fail
  refine HS.out.mono ?_
  rintro _ _ ⟨rfl, j, rfl⟩
  have hcA : ((w2.alloc (.cells #[.int .u32 1, .int .u32 0, .int .u32 1] 24)).drewN j).cell? ⟨g, 0, none⟩ = some (.int .u32 1) := HC.out.1
  have hcB : ((w2.alloc (.cells #[.int .u32 1, .int .u32 0, .int .u32 1] 24)).drewN j).cell? ⟨g, 1, none⟩ = some (.int .u32 6) := HC.out.2
  clear hc0 hc1
  have hB6 := HB1.out.trans ((below_drewN HB5.out j).mono HB1.out.size)
  generalize (w2.alloc (.cells #[.int .u32 1, .int .u32 0, .int .u32 1] 24)).drewN j = W6 at hcA hcB hB6 ⊢
  have htt : ([1, 0, 1] == [1, 0, 1]) = true := by decide
  rw [htt]
  go_wp2_with fail
  refine (num_any _ _).mono ?_
  rintro _ _ ⟨z2, rfl, hz2, rfl⟩
  obtain rfl : z2 = 0 := hz2.out
  go_wp2
  go_ret
  exact ⟨rfl, hB6⟩
end Go.Proofs.YtmgacikdgbedfaaGreatDoor

/- modpoly's laws: Names. -/
namespace Go.Proofs.YtmgacikdgbedfaaGreatDoor
open Go.RowKit Go.IntWalk

end Go.Proofs.YtmgacikdgbedfaaGreatDoor
