/- modpoly, the document's example: what was found is kept. -/
import Derived.Test.YtmgacikdgbedfaaGreatDoorF2
import Derived.Test.YtmgacikdgbedfaaGreatDoorM11
import Derived.Deep.RegionLaw
import Derived.Deep.AppendLies
namespace Go.Proofs.YtmgacikdgbedfaaGreatDoor
open Go.RowKit Go.IntWalk
attribute [local go_sem ↓] Go.wp_at_zero Go.wp_at_succ

/-- Only rows of lists, and what holds one, have turned. -/
structure TF (w w' : World) : Prop where
  size : w.heap.size ≤ w'.heap.size
  keep : ∀ (g : Nat) (cur : Array Value) (t : TypeId) (fr : Nat × Nat), w.heap[g]? = some (.cells cur t fr) → t ≠ 22 → t ≠ 52 → w'.heap[g]? = w.heap[g]?
theorem TF.refl (w : World) : TF w w := ⟨Nat.le_refl _, fun _ _ _ _ _ _ _ => rfl⟩
theorem TF.trans {a b c : World} (h : TF a b) (k : TF b c) : TF a c :=
  ⟨Nat.le_trans h.size k.size, fun g cur t fr hg h1 h2 => by
    have e := h.keep g cur t fr hg h1 h2
    exact (k.keep g cur t fr (e.trans hg) h1 h2).trans e⟩
theorem TF.of {w w' : World} (h : Below w.heap.size w w') : TF w w' := ⟨h.size, fun g _ _ _ hg _ _ => h.block g (Array.getElem?_eq_some_iff.1 hg).1⟩
theorem VB.tf {w w' : World} {g : Nat} {t : TypeId} {vs : List Value} (h : VB w g t vs) (hf : TF w w') (h1 : t ≠ 22) (h2 : t ≠ 52) : VB w' g t vs := (hf.keep g _ t (0, 0) h h1 h2).trans h
theorem Po.tf {w w' : World} {b n c : Nat} {A : Option Addr} {L : List Nat} (h : Po w b A n c L) (hf : TF w w') : Po w' b A n c L := by
  refine ⟨h.len, h.le, h.mx, h.wd, ?_⟩
  rcases h.at_ with h0 | ⟨g, cur, h1, h2, h3, h4⟩
  · exact .inl h0
  · exact .inr ⟨g, cur, h1, h2, (hf.keep g _ _ _ h3 (by decide) (by decide)).trans h3, h4⟩
/-- A list's slice in memory from block b on. -/
def LiOf (b : Nat) (w : World) (L : List Nat) (v : Value) : Prop := ∃ (A : Option Addr) (n c : Nat), v = .slice A n c ∧ Po w b A n c L
theorem LiOf.tf {b : Nat} {w w' : World} {L : List Nat} {v : Value} (h : LiOf b w L v) (hf : TF w w') : LiOf b w' L v := by
  obtain ⟨A, n, c, h1, h2⟩ := h
  exact ⟨A, n, c, h1, h2.tf hf⟩
/-- The variable bo holds a row of the lists Ls. -/
def OutR (w : World) (b bo : Nat) (Ls : List (List Nat)) : Prop := ∃ (v : Value) (T : List Value), VB w bo 52 [v] ∧ w.ownsRow b 22 1 v T.length T ∧ T.length = Ls.length ∧ ∀ (j : Nat) x L, T[j]? = some x → Ls[j]? = some L → LiOf b w L x
theorem OutR.next {w w' : World} {b bo : Nat} {Ls : List (List Nat)} (h : OutR w b bo Ls) (hb : Below w.heap.size w w') : OutR w' b bo Ls := by
  obtain ⟨v, T, h1, h2, h3, h4⟩ := h
  refine ⟨v, T, h1.below hb h1.lt, ⟨h2.1, ?_⟩, h3, fun j x L hx hL => (h4 j x L hx hL).tf (TF.of hb)⟩
  rcases h2.2 with h0 | ⟨g, cap, cur, e1, e2, e3, e4⟩
  · exact .inl h0
  · exact .inr ⟨g, cap, cur, e1, e2, (hb.block g (Array.getElem?_eq_some_iff.1 e3).1).trans e3, e4⟩
theorem OutR.drew {w : World} {b bo : Nat} {Ls : List (List Nat)} (h : OutR w b bo Ls) : OutR w.drew b bo Ls := h.next (Below.refl _ _).drew

theorem row_sl {W : World} {base : Nat} {T : TypeId} {size : Nat} {v : Value} {n : Nat} {xs : List Value} (h : W.ownsRow base T size v n xs) : ∃ a c, v = .slice a n c := by
  rcases h.2 with ⟨rfl, h0⟩ | ⟨g, cap, _, rfl, _⟩
  · exact ⟨none, 0, by rw [h0]⟩
  · exact ⟨_, _, rfl⟩
theorem row_next {w w' : World} {b : Nat} {t : TypeId} {s : Nat} {v : Value} {n : Nat} {xs : List Value} (h : w.ownsRow b t s v n xs) (hb : Below w.heap.size w w') : w'.ownsRow b t s v n xs := by
  refine ⟨h.1, ?_⟩
  rcases h.2 with h0 | ⟨g, cap, cur, e1, e2, e3, e4⟩
  · exact .inl h0
  · exact .inr ⟨g, cap, cur, e1, e2, (hb.block g (Array.getElem?_eq_some_iff.1 e3).1).trans e3, e4⟩
theorem cl_li {w w3 : World} {b n c : Nat} {A : Option Addr} {L : List Nat} (hl : L.length = n) (hw : Dg.Wd L) (hb : b ≤ w.heap.size) (h : n = 0 ∨ ∃ g, A = some ⟨g, 0, none⟩ ∧ w.heap.size ≤ g ∧ UP w3 g L) (h1 : n ≤ c) (h2 : c ≤ maxLen) : LiOf b w3 L (.slice A n c) := by
  rcases h with h0 | ⟨g, rfl, hg, hup⟩
  · exact ⟨_, _, _, rfl, ⟨hl, h1, h2, hw, .inl h0⟩⟩
  · have := hup.po (b := b) hw (Nat.le_trans hb hg) (k := n) (c := c) (by rw [hl]; exact Nat.le_refl _) h1 h2
    rw [List.take_of_length_le (by rw [hl]; exact Nat.le_refl _)] at this
    exact ⟨_, _, _, rfl, this⟩
/-- Growing a row turns no other kind of block. -/
theorem TF.grown {w w' : World} {b : Nat} {v : Value} {n : Nat} {T : List Value} (h : w.grownBy w' v.ownBlock) (ho : w.ownsRow b 22 1 v n T) : TF w w' := by
  refine ⟨h.size, fun g cur t fr hg h1 _ => ?_⟩
  refine h.block g (Array.getElem?_eq_some_iff.1 hg).1 ?_
  intro e
  rcases ho.2 with ⟨rfl, _⟩ | ⟨g', cap, cur', rfl, _, e3, _⟩
  · simp [Value.ownBlock] at e
  · simp [Value.ownBlock] at e
    subst e
    rw [hg] at e3
    injection e3 with e3
    injection e3 with _ e4 _
    exact h1 e4
theorem TF.setVar {w : World} {bo : Nat} {vs : List Value} (h : VB w bo 52 vs) (u : Value) : TF w (w.setCell ⟨bo, 0, none⟩ u) := by
  refine ⟨by simp [World.setCell], fun g cur t fr hg _ h2 => Below.heap_setCell w ⟨bo, 0, none⟩ u g ?_⟩
  rintro rfl
  unfold VB at h
  rw [hg] at h
  injection h with h
  injection h with _ h _
  exact h2 h
theorem VB.grown {w w5 : World} {b g n : Nat} {t : TypeId} {vs : List Value} {v : Value} {T : List Value} (hv : VB w g t vs) (hown : w.ownsRow b 22 1 v n T) (hg : w.grownBy w5 v.ownBlock) (ht : t ≠ 22) : VB w5 g t vs := by
  refine (hg.block g hv.lt ?_).trans hv
  intro e
  rcases hown.2 with ⟨rfl, _⟩ | ⟨g', cap, cur', rfl, _, e3, _⟩
  · simp [Value.ownBlock] at e
  · simp [Value.ownBlock] at e
    subst e
    unfold VB at hv
    rw [hv] at e3
    injection e3 with e3
    injection e3 with _ e4 _
    exact ht e4
/-- One list more. -/
theorem out_more {w3 w5 : World} {b bo n g5 c5 : Nat} {Ls : List (List Nat)} {L : List Nat} {T : List Value} {A0 : Option Addr} {c0 : Nat} {x : Value} (hv : VB w3 bo 52 [.slice A0 n c0]) (hown : w3.ownsRow b 22 1 (.slice A0 n c0) n T) (hTl : T.length = Ls.length) (hT : ∀ (j : Nat) x L, T[j]? = some x → Ls[j]? = some L → LiOf b w3 L x)
    (hx : LiOf b w3 L x) (hg : w3.grownBy w5 (Value.slice A0 n c0).ownBlock) (hown5 : w5.ownsRow b 22 1 (.slice (some ⟨g5, 0, none⟩) (n + 1) c5) (n + 1) (T ++ [x])) :
    OutR (w5.setCell ⟨bo, 0, none⟩ (.slice (some ⟨g5, 0, none⟩) (n + 1) c5)) b bo (Ls ++ [L]) ∧ TF w3 (w5.setCell ⟨bo, 0, none⟩ (.slice (some ⟨g5, 0, none⟩) (n + 1) c5)) := by
  have hn : n = T.length := by have := hown.1; omega
  have hF := TF.grown hg hown
  have hv5 : VB w5 bo 52 [.slice A0 n c0] := by
    refine (hg.block bo hv.lt ?_).trans hv
    intro e
    rcases hown.2 with ⟨e1, _⟩ | ⟨g', cap, cur', e1, _, e3, _⟩
    · injection e1 with e1; subst e1; simp [Value.ownBlock] at e
    · injection e1 with e1
      subst e1
      simp [Value.ownBlock] at e
      subst e
      unfold VB at hv
      rw [hv] at e3
      injection e3 with e3
      injection e3 with _ e4 _
      exact absurd e4 (by decide)
  have hF2 := hF.trans (TF.setVar hv5 (.slice (some ⟨g5, 0, none⟩) (n + 1) c5))
  refine ⟨⟨_, T ++ [x], hv5.set 0 _, ?_, by simp [hTl], fun j y M hy hM => ?_⟩, hF2⟩
  · rw [List.length_append, List.length_singleton, ← hn]
    refine ⟨hown5.1, ?_⟩
    rcases hown5.2 with h0 | ⟨g', cap, cur', e1, e2, e3, e4⟩
    · exact .inl h0
    · refine .inr ⟨g', cap, cur', e1, e2, (Below.heap_setCell w5 ⟨bo, 0, none⟩ _ g' ?_).trans e3, e4⟩
      rintro rfl
      unfold VB at hv5
      rw [e3] at hv5
      injection hv5 with hv5
      injection hv5 with _ e5 _
      exact absurd e5 (by decide)
  · rcases Nat.lt_or_ge j T.length with hj | hj
    · rw [List.getElem?_append_left hj] at hy
      rw [List.getElem?_append_left (by omega)] at hM
      exact (hT j y M hy hM).tf hF2
    · rw [List.getElem?_append_right hj] at hy
      rw [List.getElem?_append_right (by omega), ← hTl] at hM
      rcases Nat.eq_zero_or_pos (j - T.length) with e | e
      · rw [e] at hy hM
        injection hy with hy; injection hM with hM
        subst hy hM
        exact hx.tf hF2
      · rw [List.getElem?_eq_none (by simp; omega)] at hy
        cases hy
theorem own_block {w : World} {base : Nat} {e : TypeId} {size : Nat} {v : Value} {n : Nat} {xs : List Value} (h : w.ownsRow base e size v n xs) : ∀ k, v.ownBlock = some k → base ≤ k := by
  intro k hk
  rcases h.2 with ⟨rfl, _⟩ | ⟨g, cap, cur, rfl, hb, _⟩
  · cases hk
  · cases hk; exact hb
theorem take_fin {wr w3 w5 : World} {b bo g5 c5 n c3 : Nat} {Ls : List (List Nat)} {L : List Nat} {T : List Value} {A0 A3 : Option Addr} {c0 : Nat} (hv : VB wr bo 52 [.slice A0 T.length c0]) (hown : wr.ownsRow b 22 1 (.slice A0 T.length c0) T.length T)
    (hTT : T.length = Ls.length ∧ ∀ (j : Nat) x L, T[j]? = some x → Ls[j]? = some L → LiOf b wr L x) (hL : L.length = n ∧ Dg.Wd L) (hb3 : Below wr.drew.heap.size wr.drew w3) (hcl : n = 0 ∨ ∃ g, A3 = some ⟨g, 0, none⟩ ∧ wr.drew.heap.size ≤ g ∧ UP w3 g L) (h1 : n ≤ c3) (h2 : c3 ≤ maxLen)
    (hg : (w3.alloc (.cells #[.slice A3 n c3] 22)).grownBy w5 (Value.slice A0 T.length c0).ownBlock) (hown5 : w5.ownsRow b 22 1 (.slice (some ⟨g5, 0, none⟩) (T.length + 1) c5) (T.length + 1) (T ++ [.slice A3 n c3])) (hbw : b ≤ wr.heap.size) (hbo : b ≤ bo) :
    OutR (w5.setCell ⟨bo, 0, none⟩ (.slice (some ⟨g5, 0, none⟩) (T.length + 1) c5)) b bo (Ls ++ [L]) ∧ TF wr (w5.setCell ⟨bo, 0, none⟩ (.slice (some ⟨g5, 0, none⟩) (T.length + 1) c5)) ∧ Below b wr (w5.setCell ⟨bo, 0, none⟩ (.slice (some ⟨g5, 0, none⟩) (T.length + 1) c5)) := by
  have hB1 : Below wr.heap.size wr w3 := (Below.refl _ _).drew.trans hb3
  have hB2 : Below wr.heap.size wr (w3.alloc (.cells #[.slice A3 n c3] 22)) := hB1.alloc hB1.size _
  have hv3 := hv.below hB2 hv.lt
  have hli : LiOf b (w3.alloc (.cells #[.slice A3 n c3] 22)) L (.slice A3 n c3) := (cl_li (w := wr.drew) (w3 := w3) hL.1 hL.2 hbw hcl h1 h2).tf (TF.of (below1 w3 _))
  have hX := out_more hv3 (row_next hown hB2) hTT.1 (fun j x L hx hM => (hTT.2 j x L hx hM).tf (TF.of hB2)) hli hg hown5
  refine ⟨hX.1, (TF.of hB2).trans hX.2, ?_⟩
  exact ((hB2.mono hbw).grown hg (Nat.le_trans hbw hB2.size) (own_block hown)).setCell (p := ⟨bo, 0, none⟩) hbo _
set_option maxRecDepth 100000 in
set_option maxHeartbeats 4000000 in
theorem take1_ex {A : Option Addr} {n c b bo bp bt : Nat} {L : List Nat} {Ls : List (List Nat)} {w : World} (h : Po w b A n c L) (hn : n ≤ 1099511627776) (hbp : VB w bp 94 [.pointer (some ⟨bo, 0, none⟩)]) (hbt : VB w bt 3 [.int .i64 1])
    (hout : OutR w b bo Ls) (hls : Ls.length ≤ 100) (hbo : b ≤ bo) (hbw : b ≤ w.heap.size) :
    Calls Tryz.prog 99 #[.slice A n c, .pointer (some ⟨bt, 0, none⟩), .pointer (some ⟨bp, 0, none⟩)] w fun e w' => e = .returned (.tuple #[]) ∧ OutR w' b bo (Ls ++ [L]) ∧ TF w w' ∧ Below b w w' := by
  have hct := hbt.cell (j := 0) rfl
  have HBP := Lib.hid hbp
  have HOUT := Lib.hid hout
  clear hout hbp
  go_enter Tryz.func99, Tryz.ntmps99
  go_wp2_with fail
  go_loopw [5] (fun iv wr => ∃ i : Nat, iv = .int .i64 i ∧ i ≤ 1 ∧ Hid ((i = 0 ∧ wr = w) ∨ (i = 1 ∧ OutR wr b bo (Ls ++ [L]) ∧ TF w wr ∧ Below b w wr))) (fun iv _ => 1 - (intOf iv).toNat)
  case atStart => exact ⟨0, rfl, by omega, Lib.hid (.inl ⟨rfl, rfl⟩)⟩
  case round =>
    obtain ⟨i, rfl, hi, hI⟩ := hrel
    rcases hI.out with ⟨rfl, rfl⟩ | ⟨rfl, hO, hF, hB⟩
    · obtain ⟨v, T, hv, hown, hT1, hT2⟩ := HOUT.out
      obtain ⟨A0, c0, rfl⟩ := row_sl hown
      have hcp := HBP.out.cell (j := 0) rfl
      have hcv := hv.cell (j := 0) rfl
      have HV := Lib.hid hv
      have HOWN := Lib.hid hown
      have HTT := Lib.hid (And.intro hT1 hT2)
      have HCL := Lib.hid (mclone_any h.rd.drew (by omega))
      have HLT := Lib.hid (And.intro HBP.out.lt hv.lt)
      have HL := Lib.hid (And.intro h.len h.wd)
      have HTL := Lib.hid (show T.length + 1 ≤ 101 by omega)
      have hne1 := World.new_ne wr ⟨bp, 0, none⟩ hcp
      have hne2 := World.new_ne wr ⟨bo, 0, none⟩ hcv
      obtain ⟨i0, hi0, hz0, hz1, hz2⟩ := info_parts infoS
      clear hv hown hT1 hT2 hct hI
      go_wp2_with fail
      go_region_law (first
        | (go_simp; go_at_call 95; refine HCL.out.mono ?_; rintro _ w3 ⟨A3, c3, rfl, hcl, hc31, hc32, hb3⟩; have hcp3 := (hb3.cell (p := ⟨bp, 0, none⟩) HLT.out.1).trans hcp; have hcv3 := (hb3.cell (p := ⟨bo, 0, none⟩) HLT.out.2).trans hcv; have hne3 := World.new_ne w3 ⟨bp, 0, none⟩ hcp3; have hne4 := World.new_ne w3 ⟨bo, 0, none⟩ hcv3;
            have HOW3 := Lib.hid (row_next (row_next (row_next HOWN.out (Below.refl _ _).drew) hb3) (below1 w3 (.cells #[.slice A3 n c3] 22))); have HV3 := Lib.hid (And.intro ((HV.out.below (Below.refl _ _).drew HLT.out.2).below (hb3.trans ((below1 w3 (.cells #[.slice A3 n c3] 22)).mono hb3.size)) HLT.out.2) ((HBP.out.below (Below.refl _ _).drew HLT.out.1).below (hb3.trans ((below1 w3 (.cells #[.slice A3 n c3] 22)).mono hb3.size)) HLT.out.1)); have hcv3a := HV3.out.1.cell (j := 0) rfl; have hcp3a := HV3.out.2.cell (j := 0) rfl; have HNEW := Lib.hid (World.news_of_block (cs := #[.slice A3 n c3]) (t := 22) (fr := (0, 0)) (heap_alloc_new w3 _)); have HBW := Lib.hid (Nat.le_trans hbw (Nat.le_trans hb3.size (below1 w3 (.cells #[.slice A3 n c3] 22)).size)))
        | (refine step_append_lies _ (by rfl) _ _ _ (by rfl) b 22 i0 (.slice none 0 0) 1 24 Tryz.underlying52 hi0 hz0 hz1 hz2 rfl (by decide) (.slice A0 T.length c0) T.length T (by rfl) HOW3.out ⟨w3.heap.size, 0, none⟩ 1 1 [.slice A3 n c3] (by rfl) (by rfl) HNEW.out (by simp [Value.oneCell']) (by decide) (by have := HTL.out; unfold maxLen; omega) (by have := HTL.out; omega) HBW.out _ rfl ?_; intro g5 cap5 w5 hown5 hgrow5 hat5 hlt5; have hV5 := HV3.out.1.grown HOW3.out hgrow5 (by decide); have hcv5 := hV5.cell (j := 0) rfl; have hfv5 := hV5.frozen 0; have hcp5 := (HV3.out.2.grown HOW3.out hgrow5 (by decide)).cell (j := 0) rfl))
      all_goals
        have HX := Lib.hid (take_fin HV.out HOWN.out HTT.out HL.out hb3 hcl.out hc31 hc32 hgrow5 hown5 hbw hbo)
        clear hV5 hcv5 hfv5 hcp5 hcv3a hcp3a hcp3 hcv3 hne3 hne4 hown5 hgrow5 hat5
        go_wp2
        go_roundw
        case rel => exact ⟨1, rfl, by omega, Lib.hid (.inr ⟨rfl, HX.out.1, HX.out.2.1, HX.out.2.2⟩)⟩
        case measure => simp [intOf]
    · clear hI
      go_wp2
      go_end0
      exact ⟨rfl, hO, hF, hB⟩
end Go.Proofs.YtmgacikdgbedfaaGreatDoor
