/- modpoly, the document's example: two lists are put in order. -/
import Derived.Test.YtmgacikdgbedfaaGreatDoorF4
import Derived.Lib.BitFns
import Derived.Test.YtmgacikdgbedfaaGreatDoorM12
namespace Go.Proofs.YtmgacikdgbedfaaGreatDoor
open Go.RowKit Go.IntWalk
attribute [local go_sem ↓] Go.wp_at_zero Go.wp_at_succ

set_option maxHeartbeats 400000 in
theorem isNaN_any (x : Int) (w : World) : Calls Tryz.prog 107 #[.int .u32 x] w fun e w' => e = .returned (.bool false) ∧ w = w' := by
  go_enter Tryz.func107, Tryz.ntmps107
  go_wp2
  go_ret
  exact ⟨by simp, rfl⟩
set_option maxHeartbeats 400000 in
theorem cmpLt_any {x y : Int} (h : x < y) (w : World) : Calls Tryz.prog 101 #[.int .u32 x, .int .u32 y] w fun e w' => e = .returned (.int .i64 (-1)) ∧ w = w' := by
  go_enter Tryz.func101, Tryz.ntmps101
  go_wp2_with (go_at_call 107; refine (isNaN_any _ _).mono ?_; rintro _ _ ⟨rfl, rfl⟩)
  go_ret
  exact ⟨rfl, rfl⟩
set_option maxRecDepth 100000 in
set_option maxHeartbeats 1000000 in
theorem compare_ex {A A' : Option Addr} {B c c' : Nat} {w : World} (h : RdU w B A 2 c [1, 1]) (h' : RdU w B A' 2 c' [6, 1]) :
    Calls Tryz.prog 81 #[.slice A 2 c, .slice A' 2 c'] w fun e w' => e = .returned (.int .i64 (-1)) ∧ w = w' := by
  obtain ⟨_, ad, rfl, _, h1⟩ := h.at_ 0 1 rfl
  obtain ⟨_, ad', rfl, _, h2⟩ := h'.at_ 0 6 rfl
  simp [Addr.add] at h1 h2
  go_enter Tryz.func81, Tryz.ntmps81
  go_wp2_with fail
  go_loop [11] (fun iv => iv = .int .i64 0) (fun _ => 0)
  case atStart => rfl
  case round =>
    subst hrel
    go_wp2_with (go_at_call 101; refine (cmpLt_any (by decide) _).mono ?_; rintro _ _ ⟨rfl, rfl⟩)
    go_ret
    exact ⟨rfl, rfl⟩
set_option maxRecDepth 100000 in
set_option maxHeartbeats 1000000 in
theorem order_ex {A A' : Option Addr} {B c c' : Nat} {w : World} (h : RdU w B A 2 c [1, 1]) (h' : RdU w B A' 2 c' [6, 1]) :
    Calls Tryz.prog 80 #[.slice A 2 c, .slice A' 2 c'] w fun e w' => e = .returned (.int .i64 (-1)) ∧ w = w' := by
  go_enter Tryz.func80, Tryz.ntmps80
  go_wp2_with fail
  refine (compare_ex h h').mono ?_
  rintro _ _ ⟨rfl, rfl⟩
  go_wp2
  go_ret
  exact ⟨rfl, rfl⟩

theorem quiet_left' {P : Program} {f : FuncId} {args : Array Value} {w : World} {n : Nat} {v : Value}
    (h : Calls P f args (w.drewN n) fun e w' => e = .returned v ∧ w.drewN n = w') : Calls P f args (w.drewN n) fun e w'' => e = .returned v ∧ ∃ m, w'' = w.drewN m :=
  h.mono fun _ _ ⟨he, hm⟩ => ⟨he, n, hm.symm⟩
/-- Block g begins with the values vs. -/
def RP (w : World) (g : Nat) (t : TypeId) (vs : List Value) : Prop := ∃ cur, w.heap[g]? = some (.cells cur t (0, 0)) ∧ vs.length ≤ cur.size ∧ cur.toList.take vs.length = vs
theorem RP.lt {w : World} {g : Nat} {t : TypeId} {vs : List Value} (h : RP w g t vs) : g < w.heap.size := h.elim fun _ h => (Array.getElem?_eq_some_iff.1 h.1).1
theorem RP.cell {w : World} {g : Nat} {t : TypeId} {vs : List Value} (h : RP w g t vs) {j : Nat} {v : Value} (hv : vs[j]? = some v) : w.cell? ⟨g, j, none⟩ = some v := by
  obtain ⟨cur, h1, h2, h3⟩ := h
  rw [cell_of_row w g j _ _ _ h1, ← Array.getElem?_toList]
  have hj : j < vs.length := by
    rcases Nat.lt_or_ge j vs.length with h4 | h4
    · exact h4
    · rw [List.getElem?_eq_none h4] at hv; cases hv
  rw [← h3, List.getElem?_take_of_lt hj] at hv
  exact hv
theorem RP.frozen {w : World} {g : Nat} {t : TypeId} {vs : List Value} (h : RP w g t vs) (j : Nat) : w.frozen? ⟨g, j, none⟩ = false := h.elim fun _ h => frozen_of_row w g j _ _ h.1
theorem RP.set {w : World} {g : Nat} {t : TypeId} {vs : List Value} (h : RP w g t vs) (k : Nat) (v : Value) : RP (w.setCell ⟨g, k, none⟩ v) g t (vs.set k v) := by
  obtain ⟨cur, h1, h2, h3⟩ := h
  refine ⟨cur.setIfInBounds k v, ?_, by simpa using h2, ?_⟩
  · simp [World.setCell, Array.getElem?_modify, h1]
  · rw [List.length_set, Array.toList_setIfInBounds, List.take_set, h3]
theorem RP.drewN {w : World} {g : Nat} {t : TypeId} {vs : List Value} (h : RP w g t vs) (n : Nat) : RP (w.drewN n) g t vs := h

/-- Only the row g has turned. -/
def OnlyG (g : Nat) (w w' : World) : Prop := w.grownBy w' (some g)
theorem OnlyG.refl (g : Nat) (w : World) : OnlyG g w w := World.grownBy.refl w _
theorem OnlyG.drewN {g : Nat} {a w : World} (h : OnlyG g a w) (n : Nat) : OnlyG g a (w.drewN n) := ⟨h.os, h.tape, h.output, h.size, h.block⟩
theorem OnlyG.set {g : Nat} {a w : World} (h : OnlyG g a w) (k : Nat) (u : Value) : OnlyG g a (w.setCell ⟨g, k, none⟩ u) :=
  ⟨h.os, h.tape, h.output, by simpa [World.setCell] using h.size, fun i hi hne => (Below.heap_setCell w ⟨g, k, none⟩ u i (fun e => hne (by rw [e]))).trans (h.block i hi hne)⟩

set_option maxRecDepth 100000 in
set_option maxHeartbeats 4000000 in
theorem insert_ex {g B c0 c1 c2 : Nat} {A1 A2 : Option Addr} {w : World} (hg : RP w g 22 [.slice A1 2 c1, .slice A2 2 c2]) (h1 : RdU w B A1 2 c1 [6, 1]) (h2 : RdU w B A2 2 c2 [1, 1]) :
    Calls Tryz.prog 110 #[.slice (some ⟨g, 0, none⟩) 2 c0, .int .i64 0, .int .i64 2, .func (.func 80) #[] #[]] w fun e w' => e = .returned (.tuple #[]) ∧ RP w' g 22 [.slice A2 2 c2, .slice A1 2 c1] ∧ OnlyG g w w' := by
  have HG := Lib.hid hg
  clear hg
  go_enter Tryz.func110, Tryz.ntmps110
  go_wp2_with fail
  go_loopw [8] (fun iv wr => ∃ i : Nat, iv = .int .i64 i ∧ i ≤ 2 ∧ Hid ((i = 1 ∧ wr = w) ∨ (i = 2 ∧ RP wr g 22 [.slice A2 2 c2, .slice A1 2 c1] ∧ OnlyG g w wr))) (fun iv _ => 2 - (intOf iv).toNat)
  case atStart => exact ⟨1, rfl, by omega, Lib.hid (.inl ⟨rfl, rfl⟩)⟩
  case round =>
    obtain ⟨i, rfl, hi, hI⟩ := hrel
    rcases hI.out with ⟨rfl, rfl⟩ | ⟨rfl, ho, hf⟩
    · clear hI
      obtain ⟨wo, rfl⟩ : ∃ wo : World, wo = wr := ⟨_, rfl⟩
      go_wp2_with fail
      go_loopw [9] (fun jv wr => ∃ j : Nat, jv = .int .i64 j ∧ Hid ((j = 1 ∧ wr = wo) ∨ (j = 0 ∧ RP wr g 22 [.slice A2 2 c2, .slice A1 2 c1] ∧ OnlyG g wo wr))) (fun jv _ => (intOf jv).toNat)
      case atStart => exact ⟨1, rfl, Lib.hid (.inl ⟨rfl, rfl⟩)⟩
      case round =>
        obtain ⟨j, rfl, hJ⟩ := hrel
        rcases hJ.out with ⟨rfl, rfl⟩ | ⟨rfl, ho, hf⟩
        · clear hJ
          obtain ⟨w1, rfl⟩ : ∃ w1 : World, w1 = wr := ⟨_, rfl⟩
          have hc0 := HG.out.cell (j := 0) rfl
          have hc1' := HG.out.cell (j := 1) rfl
          have HCMP := Lib.hid (show ∀ n, Calls Tryz.prog 80 #[.slice A2 2 c2, .slice A1 2 c1] (w1.drewN n) fun e w' => e = .returned (.int .i64 (-1)) ∧ w1.drewN n = w' from fun n => order_ex ⟨h2.len, h2.le, h2.mx, h2.at_⟩ ⟨h1.len, h1.le, h1.mx, h1.at_⟩)
          go_wp2_with fail
          go_quiet ((go_at_call 80; exact quiet_left' (HCMP.out _)))
          have hf0 := HG.out.frozen 0
          have hf1 := HG.out.frozen 1
          go_wp2_with fail
          go_region
          all_goals
            go_wp2
          have hR := (((HG.out.drewN (nq + 1)).set 1 (.slice A1 2 c1)).set 0 (.slice A2 2 c2))
          have hO := ((((OnlyG.refl g w1).drewN (nq + 1)).set 1 (.slice A1 2 c1)).set 0 (.slice A2 2 c2))
          exact ⟨⟨0, rfl, Lib.hid (.inr ⟨rfl, hR, hO⟩)⟩, by simp [intOf]⟩
        · clear hJ
          have hc0 := ho.cell (j := 0) rfl
          have hc1' := ho.cell (j := 1) rfl
          have HO := Lib.hid ho
          have HF := Lib.hid hf
          clear ho hf
          go_wp2_with fail
          go_quiet (fail)
          go_wp2
          exact ⟨⟨2, rfl, by omega, Lib.hid (.inr ⟨rfl, HO.out.drewN nq, HF.out.drewN nq⟩)⟩, by simp [intOf]⟩
    · clear hI
      go_wp2
      go_end0
      exact ⟨rfl, ho, hf⟩
set_option maxRecDepth 100000 in
set_option maxHeartbeats 4000000 in
theorem pdq_ex {g B c0 c1 c2 : Nat} {A1 A2 : Option Addr} {w : World} (l : Int) (hg : RP w g 22 [.slice A1 2 c1, .slice A2 2 c2]) (h1 : RdU w B A1 2 c1 [6, 1]) (h2 : RdU w B A2 2 c2 [1, 1]) :
    Calls Tryz.prog 100 #[.slice (some ⟨g, 0, none⟩) 2 c0, .int .i64 0, .int .i64 2, .int .i64 l, .func (.func 80) #[] #[]] w fun e w' => e = .returned (.tuple #[]) ∧ RP w' g 22 [.slice A2 2 c2, .slice A1 2 c1] ∧ OnlyG g w w' := by
  have HC := Lib.hid (insert_ex (c0 := c0) hg h1 h2)
  clear hg h1 h2
  go_enter Tryz.func100, Tryz.ntmps100
  go_wp2_with fail
  go_loopw [1, 2] (fun av bv wr => av = .int .i64 0 ∧ bv = .int .i64 2 ∧ wr = w) (fun _ _ _ => 0)
  case atStart => exact ⟨rfl, rfl, rfl⟩
  case round =>
    obtain ⟨rfl, rfl, rfl⟩ := hrel
    go_wp2_with fail
    refine HC.out.mono ?_
    rintro _ w1 ⟨rfl, ho, hf⟩
    go_wp2
    refine bodyPost_ret (results_none rfl _ _ _) rfl ?_
    exact ⟨rfl, ho, hf⟩
end Go.Proofs.YtmgacikdgbedfaaGreatDoor

/- modpoly, the document's example: the factors. -/
namespace Go.Proofs.YtmgacikdgbedfaaGreatDoor
open Go.RowKit Go.IntWalk
attribute [local go_sem ↓] Go.wp_at_zero Go.wp_at_succ

set_option maxRecDepth 100000 in
set_option maxHeartbeats 4000000 in
theorem len2_ex (w : World) : Calls Tryz.prog 71 #[.int .u64 2] w fun e w' => ∃ l : Int, e = .returned (.int .i64 l) ∧ w = w' := by
  go_enter Tryz.func71, Tryz.ntmps71
  go_wp2
  go_ret
  exact ⟨_, rfl, rfl⟩
set_option maxRecDepth 100000 in
set_option maxHeartbeats 4000000 in
theorem sort_ex {g B c0 c1 c2 : Nat} {A1 A2 : Option Addr} {w : World} (hg : RP w g 22 [.slice A1 2 c1, .slice A2 2 c2]) (h1 : RdU w B A1 2 c1 [6, 1]) (h2 : RdU w B A2 2 c2 [1, 1]) :
    Calls Tryz.prog 79 #[.slice (some ⟨g, 0, none⟩) 2 c0, .func (.func 80) #[] #[]] w fun e w' => e = .returned (.tuple #[]) ∧ RP w' g 22 [.slice A2 2 c2, .slice A1 2 c1] ∧ OnlyG g w w' := by
  have HC := Lib.hid (fun l : Int => pdq_ex (c0 := c0) l hg h1 h2)
  clear hg h1 h2
  go_enter Tryz.func79, Tryz.ntmps79
  go_wp2_with fail
  refine (len2_ex w).mono ?_
  rintro _ _ ⟨l, rfl, rfl⟩
  go_wp2_with fail
  refine (HC.out l).mono ?_
  rintro _ w1 ⟨rfl, ho, hf⟩
  go_wp2
  go_end0
  exact ⟨rfl, ho, hf⟩

theorem only_po {w w' : World} {g b n c : Nat} {A : Option Addr} {L : List Nat} {vs : List Value} (h : Po w b A n c L) (hr : RP w g 22 vs) (ho : OnlyG g w w') : Po w' b A n c L := by
  refine ⟨h.len, h.le, h.mx, h.wd, ?_⟩
  rcases h.at_ with h0 | ⟨g', cur, h1, h2, h3, h4⟩
  · exact .inl h0
  · refine .inr ⟨g', cur, h1, h2, (ho.block g' (Array.getElem?_eq_some_iff.1 h3).1 ?_).trans h3, h4⟩
    intro e
    injection e with e
    subst e
    obtain ⟨cur', e1, _⟩ := hr
    rw [h3] at e1
    injection e1 with e1
    injection e1 with _ e2 _
    exact absurd e2 (by decide)
theorem only_vb {w w' : World} {g g' : Nat} {t : TypeId} {vs us : List Value} (h : VB w g' t us) (hr : RP w g 22 vs) (ho : OnlyG g w w') (ht : t ≠ 22) : VB w' g' t us := by
  refine (ho.block g' h.lt ?_).trans h
  intro e
  injection e with e
  subst e
  obtain ⟨cur', e1, _⟩ := hr
  unfold VB at h
  rw [h] at e1
  injection e1 with e1
  injection e1 with _ e2 _
  exact ht e2
theorem only_below {w w' : World} {g b : Nat} (h : OnlyG g w w') (hb : b ≤ g) (hw : b ≤ w.heap.size) : Below b w w' :=
  (Below.refl b w).grown h hw (fun k e => by injection e with e; omega)
/-- The row of a variable with two lists, laid open. -/
theorem out_two {w : World} {b bo : Nat} {L1 L2 : List Nat} (h : OutR w b bo [L1, L2]) : ∃ (g c0 : Nat) (A1 A2 : Option Addr) (n1 c1 n2 c2 : Nat), VB w bo 52 [.slice (some ⟨g, 0, none⟩) 2 c0] ∧ b ≤ g ∧ RP w g 22 [.slice A1 n1 c1, .slice A2 n2 c2] ∧ Po w b A1 n1 c1 L1 ∧ Po w b A2 n2 c2 L2 := by
  obtain ⟨v, T, h1, h2, h3, h4⟩ := h
  match T, h3, h2, h4 with
  | [x1, x2], _, h2, h4 =>
    obtain ⟨A1, n1, c1, rfl, p1⟩ := h4 0 _ _ rfl rfl
    obtain ⟨A2, n2, c2, rfl, p2⟩ := h4 1 _ _ rfl rfl
    rcases h2.2 with ⟨_, e⟩ | ⟨g, cap, cur, rfl, e2, e3, e4, e5, e6, e7⟩
    · simp at e
    · exact ⟨g, cap, A1, A2, n1, c1, n2, c2, h1, e2, ⟨cur, e3, by simp at e4 ⊢; omega, by simpa using e7⟩, p1, p2⟩
/-- The two factors come back. -/
def RetFs (w : World) (e : Ending) (w' : World) : Prop :=
  ∃ (g c0 c1 c2 : Nat) (A1 A2 : Option Addr), e = .returned (.slice (some ⟨g, 0, none⟩) 2 c0) ∧ RP w' g 22 [.slice A2 2 c2, .slice A1 2 c1] ∧ Po w' w.heap.size A2 2 c2 [1, 1] ∧ Po w' w.heap.size A1 2 c1 [6, 1] ∧ Below w.heap.size w w'
set_option maxRecDepth 100000 in
set_option maxHeartbeats 4000000 in
theorem factors_ex {A : Option Addr} {c b0 : Nat} {w : World} (h : Po w b0 A 3 c Pm.a7) (hT : Tabs w) :
    Calls Tryz.prog 68 #[.agg #[.int .u64 7], .slice A 3 c] w (RetFs w) := by
  have hB0 : Below w.heap.size w ((w.alloc (.cells #[.int .u64 7] 51)).alloc (.cells #[.slice none 0 0] 52)) := (below1 w _).alloc (by simp) _
  have hbf : VB ((w.alloc (.cells #[.int .u64 7] 51)).alloc (.cells #[.slice none 0 0] 52)) w.heap.size 51 [.int .u64 7] := (box_new w 51 (.int .u64 7)).below (below1 _ _) (by simp)
  have hbo : VB ((w.alloc (.cells #[.int .u64 7] 51)).alloc (.cells #[.slice none 0 0] 52)) (w.heap.size + 1) 52 [.slice none 0 0] := by
    have := box_new (w.alloc (.cells #[.int .u64 7] 51)) 52 (.slice none 0 0)
    rwa [World.size_alloc] at this
  have HSQ := Lib.hid (sqfree_ex (h.next hB0) hbf (b := w.heap.size) (bo := w.heap.size + 1) ⟨.slice none 0 0, [], hbo, ⟨rfl, .inl ⟨rfl, rfl⟩⟩, rfl, fun j x L hx => by simp at hx⟩ (by omega) hB0.size (hT.below hB0) hT.size)
  clear hbf hbo
  go_enter Tryz.func68, Tryz.ntmps68
  go_wp2_with fail
  refine HSQ.out.mono ?_
  rintro _ w1 ⟨rfl, ho, hf, hb⟩
  obtain ⟨g, c0, A1, A2, n1, c1, n2, c2, hv, hbg, hrp, hp1, hp2⟩ := out_two ho
  obtain rfl : n1 = 2 := hp1.len.symm
  obtain rfl : n2 = 2 := hp2.len.symm
  have hcv := hv.cell (j := 0) rfl
  have HS := Lib.hid (sort_ex (c0 := c0) hrp hp1.rd hp2.rd)
  have HV := Lib.hid hv
  have HRP := Lib.hid hrp
  have HP1 := Lib.hid hp1
  have HP2 := Lib.hid hp2
  have HB1 := Lib.hid (hB0.trans hb)
  have HSZ := Lib.hid (Nat.le_trans hB0.size hf.size)
  clear hv hrp hp1 hp2 ho hf hb
  go_wp2_with fail
  refine HS.out.mono ?_
  rintro _ w2 ⟨rfl, hr2, ho2⟩
  have hv2 := (only_vb HV.out HRP.out ho2 (by decide)).cell (j := 0) rfl
  have HX := Lib.hid (And.intro (only_po HP2.out HRP.out ho2) (And.intro (only_po HP1.out HRP.out ho2) (HB1.out.trans (only_below ho2 hbg HSZ.out))))
  go_wp2
  go_ret
  exact ⟨g, c0, c1, c2, A1, A2, rfl, hr2, HX.out.1, HX.out.2.1, HX.out.2.2⟩
end Go.Proofs.YtmgacikdgbedfaaGreatDoor

/- modpoly, the document's example: Factor. -/
namespace Go.Proofs.YtmgacikdgbedfaaGreatDoor
open Go.RowKit Go.IntWalk
attribute [local go_sem ↓] Go.wp_at_zero Go.wp_at_succ

theorem infoM : (Tryz.prog.info? 23).map (fun i => (i.zero, i.size, i.bytes)) = some (some (.slice none 0 0), 1, 24) := by kernel_rfl
theorem blk_grown {w w' : World} {b g n s : Nat} {t t' : TypeId} {v : Value} {T : List Value} {cur : Array Value} {fr : Nat × Nat} (hg : w.heap[g]? = some (.cells cur t fr)) (hown : w.ownsRow b t' s v n T) (h : w.grownBy w' v.ownBlock) (ht : t ≠ t') : w'.heap[g]? = some (.cells cur t fr) := by
  refine (h.block g (Array.getElem?_eq_some_iff.1 hg).1 ?_).trans hg
  intro e
  rcases hown.2 with ⟨rfl, _⟩ | ⟨g', cap, cur', rfl, _, e3, _⟩
  · simp [Value.ownBlock] at e
  · simp [Value.ownBlock] at e
    subst e
    rw [hg] at e3
    injection e3 with e3
    injection e3 with _ e4 _
    exact ht e4
theorem po_grown {w w' : World} {b b' m s n c : Nat} {A : Option Addr} {L : List Nat} {t' : TypeId} {v : Value} {T : List Value} (h : Po w b A n c L) (hown : w.ownsRow b' t' s v m T) (hg : w.grownBy w' v.ownBlock) (ht : 24 ≠ t') : Po w' b A n c L := by
  refine ⟨h.len, h.le, h.mx, h.wd, ?_⟩
  rcases h.at_ with h0 | ⟨g', cur, h1, h2, h3, h4⟩
  · exact .inl h0
  · exact .inr ⟨g', cur, h1, h2, blk_grown h3 hown hg ht, h4⟩
theorem rp_grown {w w' : World} {b m s g : Nat} {t t' : TypeId} {vs : List Value} {v : Value} {T : List Value} (h : RP w g t vs) (hown : w.ownsRow b t' s v m T) (hg : w.grownBy w' v.ownBlock) (ht : t ≠ t') : RP w' g t vs := by
  obtain ⟨cur, h1, h2⟩ := h
  exact ⟨cur, blk_grown h1 hown hg ht, h2⟩
theorem rp_next {w w' : World} {g : Nat} {t : TypeId} {vs : List Value} (h : RP w g t vs) (hb : Below w.heap.size w w') : RP w' g t vs := by
  obtain ⟨cur, h1, h2⟩ := h
  exact ⟨cur, (hb.block g (Array.getElem?_eq_some_iff.1 h1).1).trans h1, h2⟩
/-- Two factors and no error come back. -/
def RetFac (w : World) (e : Ending) (w' : World) : Prop :=
  ∃ (g c0 c1 c2 : Nat) (A1 A2 : Option Addr), e = .returned (.tuple #[.slice (some ⟨g, 0, none⟩) 2 c0, .int .i64 0]) ∧ RP w' g 23 [.slice A2 2 c2, .slice A1 2 c1] ∧ Po w' w.heap.size A2 2 c2 [1, 1] ∧ Po w' w.heap.size A1 2 c1 [6, 1] ∧ Below w.heap.size w w'
/-- The front of what is told. -/
def FacSt (w : World) (b k : Nat) (v : Value) : Prop := ∃ T : List Value, w.ownsRow b 23 1 v k T ∧ T.length = k ∧ ∀ (j : Nat) x L, T[j]? = some x → [[1, 1], [6, 1]][j]? = some L → LiOf b w L x
theorem facSt_more {w3 w5 : World} {b k : Nat} {v : Value} {T : List Value} {x : Value} {L : List Nat} (hown : w3.ownsRow b 23 1 v k T) (hTl : T.length = k) (hT : ∀ (j : Nat) x L, T[j]? = some x → [[1, 1], [6, 1]][j]? = some L → LiOf b w3 L x)
    (hx : LiOf b w3 L x) (hL : [[1, 1], [6, 1]][k]? = some L) (hg : w3.grownBy w5 v.ownBlock) {v5 : Value} (hown5 : w5.ownsRow b 23 1 v5 (k + 1) (T ++ [x])) : FacSt w5 b (k + 1) v5 := by
  refine ⟨T ++ [x], hown5, by simp [hTl], fun j y M hy hM => ?_⟩
  have key : ∀ {L : List Nat} {y : Value}, LiOf b w3 L y → LiOf b w5 L y := fun {L y} h => by
    obtain ⟨A, n, c, e, hp⟩ := h
    exact ⟨A, n, c, e, po_grown hp hown hg (by decide)⟩
  rcases Nat.lt_or_ge j T.length with hj | hj
  · rw [List.getElem?_append_left hj] at hy
    exact key (hT j y M hy hM)
  · rw [List.getElem?_append_right hj] at hy
    rcases Nat.eq_zero_or_pos (j - T.length) with e | e
    · rw [e] at hy
      injection hy with hy
      subst hy
      have hjk : j = k := by omega
      subst hjk
      rw [hL] at hM
      injection hM with hM
      subst hM
      exact key hx
    · rw [List.getElem?_eq_none (by simp; omega)] at hy
      cases hy

theorem fac_two {w : World} {b : Nat} {v : Value} (h : FacSt w b 2 v) : ∃ (g c0 : Nat) (A1 A2 : Option Addr) (n1 c1 n2 c2 : Nat), v = .slice (some ⟨g, 0, none⟩) 2 c0 ∧ RP w g 23 [.slice A1 n1 c1, .slice A2 n2 c2] ∧ Po w b A1 n1 c1 [1, 1] ∧ Po w b A2 n2 c2 [6, 1] := by
  obtain ⟨T, h2, h3, h4⟩ := h
  match T, h3, h2, h4 with
  | [x1, x2], _, h2, h4 =>
    obtain ⟨A1, n1, c1, rfl, p1⟩ := h4 0 _ _ rfl rfl
    obtain ⟨A2, n2, c2, rfl, p2⟩ := h4 1 _ _ rfl rfl
    rcases h2.2 with ⟨_, e⟩ | ⟨g, cap, cur, rfl, e2, e3, e4, e5, e6, e7⟩
    · simp at e
    · exact ⟨g, cap, A1, A2, n1, c1, n2, c2, rfl, ⟨cur, e3, by simp at e4 ⊢; omega, by simpa using e7⟩, p1, p2⟩

set_option maxRecDepth 100000 in
set_option maxHeartbeats 4000000 in
theorem factor_ex {A : Option Addr} {c : Nat} {w : World} (h : RdU w w.heap.size A 3 c Pm.a7) (hT : Tabs w) :
    Calls Tryz.prog 57 #[.slice A 3 c, .int .u32 7] w (RetFac w) := by
  have HA := Lib.hid (mall1_any 7 Pm.pr7' (by omega) h (by omega) hT)
  go_enter Tryz.func57, Tryz.ntmps57
  go_wp2_with fail
  refine HA.out.mono ?_
  rintro _ w1 ⟨g, A1, n1, c1, M1, rfl, hg, hcg0, hp1, hM, hn1, hb1⟩
  have hM1 : M1 = Pm.a7 := hM.out.1.ext (by omega) Pm.a7_pn hM.out.2
  subst hM1
  obtain rfl : n1 = 3 := hp1.len.symm
  have hB2 := below1 w1 (.cells #[.int .u64 7] 51)
  have hVB := box_new w1 51 (.int .u64 7)
  have HC0 := Lib.hid ((hB2.cell (p := ⟨g, 0, none⟩) hg).trans hcg0)
  have hP1 := hp1.next hB2
  have HT2 := Lib.hid ((hT.below hb1).below hB2)
  have HB := Lib.hid (hb1.trans (hB2.mono hb1.size))
  have hgl : g < (w1.alloc (.cells #[.int .u64 7] 51)).heap.size := by simp; omega
  have HVB := Lib.hid hVB
  clear hcg0 hB2 hp1 hVB
  have hc0 := HC0.out
  have hone : ((3 : Int) == 0) = false := by decide
  go_wp2_with fail
  clear hc0
  generalize w1.alloc (.cells #[.int .u64 7] 51) = W2 at HC0 HVB hP1 HT2 HB hgl ⊢
  have hc0 := HC0.out
  have hcb := HVB.out.cell (j := 0) rfl
  have hsz := HVB.out.lt
  have hr1 := hP1.rd.drew
  have hTd := HT2.out.drew
  go_region_held3 (fun w' => w'.cell? ⟨w1.heap.size, 0, none⟩ = some (.int .u64 7) ∧ w'.cell? ⟨g, 0, none⟩ = some (.slice A1 3 c1)) (go_keep)
    (first
      | (go_at_call 33; refine (mmonic_any 7 Pm.pr7' (by omega) hr1 (by omega) Pm.a7_pn hTd).mono ?_; rintro _ w3 ⟨A3, n3, c3, M3, rfl, hp3, hM3, hb3⟩; have hM3' := hM3.out.unique Pm.pr7' (Pm.mo_self Pm.a7_pn (by decide)); subst hM3'; obtain rfl : n3 = 3 := hp3.len.symm; have hcb3 := (hb3.cell (p := ⟨w1.heap.size, 0, none⟩) hsz).trans hcb; have hc03 := (hb3.cell (p := ⟨g, 0, none⟩) hgl).trans hc0)
      | (go_at_call 68; refine (factors_ex hp3 (hTd.below hb3)).mono ?_; rintro _ w4 ⟨g4, c4, c5, c6, A5, A6, rfl, hr4, hp4, hp5, hb4⟩; have hcb4 := (hb4.cell (p := ⟨w1.heap.size, 0, none⟩) (Nat.lt_of_lt_of_le hsz hb3.size)).trans hcb3; have hc04 := (hb4.cell (p := ⟨g, 0, none⟩) (Nat.lt_of_lt_of_le hgl hb3.size)).trans hc03))
  have hbw : w.heap.size ≤ w3.heap.size := Nat.le_trans HB.out.size hb3.size
  have HB4 := Lib.hid (HB.out.trans (((Below.refl _ _).drew.trans (hb3.trans (hb4.mono hb3.size))).mono HB.out.size))
  have HP4 := Lib.hid (hp4.base (b' := w.heap.size) hbw)
  have HP5 := Lib.hid (hp5.base (b' := w.heap.size) hbw)
  have HR4 := Lib.hid hr4
  clear hb4 hp4 hp5 hr4 hcb4 hc04 hcb3 hc03 hb3 hp3 hM3 hTd hr1 hc0 hcb HC0 HVB hP1 HT2 HB HA hone
  obtain ⟨i0, hi0, hz0, hz1, hz2⟩ := info_parts infoM
  go_wp2_with fail
  go_loopw [9, 36] (fun v kv wr => ∃ k : Nat, kv = .int .i64 k ∧ k ≤ 2 ∧ Hid (FacSt wr w.heap.size k v ∧ RP wr g4 22 [.slice A6 2 c6, .slice A5 2 c5] ∧ Po wr w.heap.size A6 2 c6 [1, 1] ∧ Po wr w.heap.size A5 2 c5 [6, 1] ∧ Below w.heap.size w wr)) (fun _ kv _ => 2 - (intOf kv).toNat)
  case atStart => exact ⟨0, rfl, by omega, Lib.hid ⟨⟨[], ⟨rfl, .inl ⟨rfl, rfl⟩⟩, rfl, fun j x L hx => by simp at hx⟩, HR4.out, HP4.out, HP5.out, HB4.out⟩⟩
  case round =>
    clear HR4 HP4 HP5 HB4
    obtain ⟨k, rfl, hk, hI⟩ := hrel
    obtain ⟨⟨T, hown, hTl, hTT⟩, hrp, hp4, hp5, hB⟩ := hI.out
    obtain ⟨A0, c0, rfl⟩ := row_sl hown
    clear hI
    by_cases hk2 : k < 2
    · obtain ⟨A, c, L, hck, hp, hL⟩ : ∃ (A : Option Addr) (c : Nat) (L : List Nat), wr.cell? ⟨g4, k, none⟩ = some (.slice A 2 c) ∧ Po wr w.heap.size A 2 c L ∧ [[1, 1], [6, 1]][k]? = some L := by
        match k, hk2 with
        | 0, _ => exact ⟨_, _, _, hrp.cell (j := 0) rfl, hp4, rfl⟩
        | 1, _ => exact ⟨_, _, _, hrp.cell (j := 1) rfl, hp5, rfl⟩
      have HO := Lib.hid (And.intro hTl hTT)
      have HX := Lib.hid (And.intro hrp (And.intro hp4 (And.intro hp5 hB)))
      have HOWN := Lib.hid hown
      clear hown hTl hTT hrp hp4 hp5 hB
      have hlt : ((k : Int) < 2) := by omega
      go_wp2_with fail
      refine (mtold_any hp).mono ?_
      rintro _ w5 ⟨A', c', rfl, hp', rfl⟩
      clear hck
      go_wp2_with (at_builtin; refine wpList_append_own _ rfl _ _ 69 rfl w.heap.size 23 i0 (.slice none 0 0) 1 24 Tryz.underlying69 hi0 hz0 hz1 hz2 rfl (by decide) _ _ _ rfl (HOWN.out.alloc _) ⟨wr.heap.size, 0, none⟩ 1 1 [.slice A' 2 c'] rfl rfl (World.news_of_block (cs := #[.slice A' 2 c']) (t := 23) (fr := (0, 0)) (heap_alloc_new wr _)) (by simp [Value.oneCell']) (by unfold maxLen; omega) (by omega) (by have := HX.out.2.2.2.size; simp; omega) ?_; intro v' w6 hown' hgrow _)
      have hG : (wr.alloc (.cells #[.slice A' 2 c'] 23)).grownBy w6 (Value.slice A0 k c0).ownBlock := hgrow
      clear hgrow
      have hB1 := below1 wr (.cells #[.slice A' 2 c'] 23)
      have hO1 := HOWN.out.alloc (.cells #[.slice A' 2 c'] 23)
      have hX := HX.out
      refine ⟨⟨k + 1, by simp, by omega, Lib.hid ⟨?_, ?_, ?_, ?_, ?_⟩⟩, ?_⟩
      · refine facSt_more (w3 := wr.alloc (.cells #[.slice A' 2 c'] 23)) hO1 HO.out.1 (fun j x L hx hL => ?_) (L := L) ⟨_, _, _, rfl, hp'.next hB1⟩ hL hG hown'
        obtain ⟨A9, n9, c9, e9, p9⟩ := HO.out.2 j x L hx hL
        exact ⟨A9, n9, c9, e9, p9.next hB1⟩
      · exact rp_grown (rp_next hX.1 hB1) hO1 hG (by decide)
      · exact po_grown (hX.2.1.next hB1) hO1 hG (by decide)
      · exact po_grown (hX.2.2.1.next hB1) hO1 hG (by decide)
      · exact (hX.2.2.2.trans (hB1.mono hX.2.2.2.size)).grown hG (Nat.le_trans hX.2.2.2.size hB1.size) (own_block hO1)
      · simp [intOf]; omega
    · obtain rfl : k = 2 := by omega
      have HB := Lib.hid hB
      obtain ⟨g6, c6, A2, A1, n2, c2, n1, c1, he6, hr6, hq2, hq1⟩ := fac_two ⟨T, hown, hTl, hTT⟩
      injection he6 with he6 _ he7
      subst he6 he7
      obtain rfl : n2 = 2 := hq2.len.symm
      obtain rfl : n1 = 2 := hq1.len.symm
      clear hrp hp4 hp5 hB hown hTl hTT
      go_wp2_with fail
      go_ret2
      exact ⟨_, _, _, _, _, _, rfl, hr6, hq2, hq1, HB.out⟩
end Go.Proofs.YtmgacikdgbedfaaGreatDoor
