/- modpoly, the document's example: the factors of one degree. -/
import Derived.Test.YtmgacikdgbedfaaGreatDoorF3
import Derived.Test.YtmgacikdgbedfaaGreatDoorPm7
import Derived.Test.YtmgacikdgbedfaaGreatDoorM10
namespace Go.Proofs.YtmgacikdgbedfaaGreatDoor
open Go.RowKit Go.IntWalk
attribute [local go_sem ↓] Go.wp_at_zero Go.wp_at_succ

/-- Some lists more lie in the row. -/
def RetOut (b bo : Nat) (Ls : List (List Nat)) (w : World) (e : Ending) (w' : World) : Prop := e = .returned (.tuple #[]) ∧ OutR w' b bo Ls ∧ TF w w' ∧ Below b w w'
theorem box_new (w : World) (t : TypeId) (v : Value) : VB (w.alloc (.cells #[v] t)) w.heap.size t [v] := VB.new w t [v]

set_option maxRecDepth 100000 in
set_option maxHeartbeats 1000000 in
theorem equal_base {A : Option Addr} {c b bo bp bt x y : Nat} {Ls : List (List Nat)} {w : World} (h : Po w b A 2 c [x, y]) (hbp : VB w bp 94 [.pointer (some ⟨bo, 0, none⟩)]) (hbt : VB w bt 3 [.int .i64 1])
    (hout : OutR w b bo Ls) (hls : Ls.length ≤ 100) (hbo : b ≤ bo) (hbw : b ≤ w.heap.size) :
    Calls Tryz.prog 98 #[.agg #[.int .u64 7], .slice A 2 c, .int .i64 1, .func (.func 99) #[] #[.pointer (some ⟨bt, 0, none⟩), .pointer (some ⟨bp, 0, none⟩)]] w (RetOut b bo (Ls ++ [[x, y]]) w) := by
  have hB0 := below1 w (.cells #[.int .u64 7] 51)
  have HC := Lib.hid (take1_ex (h.next hB0) (by omega) (hbp.below hB0 hbp.lt) (hbt.below hB0 hbt.lt) (hout.next hB0) hls hbo (Nat.le_trans hbw hB0.size))
  have HB := Lib.hid hB0
  clear hB0 hout hbp hbt
  go_enter Tryz.func98, Tryz.ntmps98
  go_wp2_with (go_at_call 99; refine HC.out.mono ?_; rintro _ w1 ⟨rfl, ho1, hf1, hb1⟩)
  refine bodyPost_ret (results_none rfl _ _ _) rfl ?_
  exact ⟨rfl, ho1, (TF.of HB.out).trans hf1, (HB.out.mono hbw).trans hb1⟩

set_option maxRecDepth 100000 in
set_option maxHeartbeats 4000000 in
theorem equal_top {A : Option Addr} {c b bo bp bt : Nat} {Ls : List (List Nat)} {w : World} (h : Po w b A 3 c Pm.a7) (hbp : VB w bp 94 [.pointer (some ⟨bo, 0, none⟩)]) (hbt : VB w bt 3 [.int .i64 1])
    (hout : OutR w b bo Ls) (hls : Ls.length ≤ 90) (hbo : b ≤ bo) (hbw : b ≤ w.heap.size) (hT : Tabs w) :
    Calls Tryz.prog 98 #[.agg #[.int .u64 7], .slice A 3 c, .int .i64 1, .func (.func 99) #[] #[.pointer (some ⟨bt, 0, none⟩), .pointer (some ⟨bp, 0, none⟩)]] w (RetOut b bo (Ls ++ [[6, 1]] ++ [[1, 1]]) w) := by
  have hB0 := below1 w (.cells #[.int .u64 7] 51)
  have HVB := Lib.hid (box_new w 51 (.int .u64 7))
  have HBP := Lib.hid (hbp.below hB0 hbp.lt)
  have HBT := Lib.hid (hbt.below hB0 hbt.lt)
  have HOUT := Lib.hid (hout.next hB0)
  have HP := Lib.hid (h.next hB0)
  have hT0 := hT.below hB0
  clear hout hbp hbt
  go_enter Tryz.func98, Tryz.ntmps98
  go_wp2_with fail
  generalize w.alloc (.cells #[.int .u64 7] 51) = W1 at hB0 HVB HBP HBT HOUT HP hT0 ⊢
  obtain ⟨gb, hgb⟩ : ∃ gb, gb = w.heap.size := ⟨_, rfl⟩
  rw [← hgb] at HVB ⊢
  have hgw : w.heap.size ≤ gb := by omega
  clear hgb
  go_loopw [8] (fun sv wr => sv = .int .u32 1 ∧ wr = W1) (fun _ _ => 0)
  case atStart => exact ⟨rfl, rfl⟩
  case round =>
    obtain ⟨rfl, rfl⟩ := hrel
    obtain ⟨W1, rfl⟩ : ∃ W1 : World, W1 = wr := ⟨_, rfl⟩
    have hcb := HVB.out.cell (j := 0) rfl
    go_wp2_with fail
    refine (cand_ex W1).mono ?_
    rintro _ w2 ⟨A2, n2, c2, R2, rfl, hp2, rfl, hb2⟩
    obtain rfl : n2 = 2 := hp2.len.symm
    have hA2 := (HP.out.next hb2).rd.drew
    have hx2 := hp2.rd.drew
    have hT2 := (hT0.below hb2).drew
    have hV2 := HVB.out.below hb2 HVB.out.lt
    have hcb2 := hV2.cell (j := 0) rfl
    have hgl2 := hV2.lt
    have HP2 := Lib.hid (HP.out.next hb2)
    have HB2 := Lib.hid hb2
    have HV2 := Lib.hid hV2
    clear hcb hp2 hV2 hb2
    go_wp2_with fail
    go_region_held3 (fun w' => w'.cell? ⟨gb, 0, none⟩ = some (.int .u64 7)) (go_keep)
      (first
        | (go_at_call 109; refine (split_ex hx2 hA2 hT2).mono ?_; rintro _ w3 ⟨A3, n3, c3, R3, rfl, hp3, rfl, hb3⟩; obtain rfl : n3 = 2 := hp3.len.symm; have hcb3 := (hb3.cell (p := ⟨gb, 0, none⟩) hgl2).trans hcb2)
        | (go_at_call 47; refine (mgcd_any 7 Pm.pr7' (by omega) (hA2.next hb3) hp3.rd (by omega) (by omega) Pm.a7_pn Pm.b7_pn (hT2.below hb3)).mono ?_; rintro _ w4 ⟨A4, n4, c4, G, rfl, hp4, hG, hb4⟩; have hcb4 := (hb4.cell (p := ⟨gb, 0, none⟩) (Nat.lt_of_lt_of_le hgl2 hb3.size)).trans hcb3))
    have hG4 := Pm.gc7 hG.out
    subst hG4
    obtain rfl : n4 = 2 := hp4.len.symm
    have hb24 : Below w2.heap.size w2 w4 := ((Below.refl _ _).drew.trans hb3).trans (hb4.mono hb3.size)
    have hb14 : Below W1.heap.size W1 w4 := HB2.out.trans (hb24.mono HB2.out.size)
    have HB14 := Lib.hid hb14
    have hA4 := (HP.out.next hb14).rd
    have hg4 := hp4.rd
    have hT4 := hT0.below hb14
    have HP4 := Lib.hid (hp4.base (b' := b) (Nat.le_trans hbw (Nat.le_trans hB0.size (Nat.le_trans HB2.out.size hb3.size))))
    clear hb3 hb4 hb24 hb14 hcb3 hp3 hp4 hG hA2 hx2 hT2
    have hne2 : ((2 : Int) == 3) = false := by decide
    go_wp2_with fail
    refine (mdiv_any 7 Pm.pr7' (by omega) hA4 hg4 (by omega) (by omega) Pm.a7_pn Pm.b7_pn (by omega) hT4).mono ?_
    rintro _ w5 ⟨A5, A6, n5, c5, n6, c6, Q, R, rfl, hp5, hp6, hd, hb5⟩
    have hQ := (Pm.div7 hd.out.1 hd.out.2.1 hd.out.2.2.1).1
    subst hQ
    obtain rfl : n5 = 2 := hp5.len.symm
    have HB15 := Lib.hid (HB14.out.trans (hb5.mono HB14.out.size))
    have hcb5 := (HVB.out.below HB15.out HVB.out.lt).cell (j := 0) rfl
    have HQ5 := Lib.hid (hp5.base (b' := b) (Nat.le_trans hbw (Nat.le_trans hB0.size HB14.out.size)))
    have HE1 := Lib.hid (equal_base (HP4.out.next hb5) (HBP.out.below HB15.out HBP.out.lt) (HBT.out.below HB15.out HBT.out.lt) (HOUT.out.next HB15.out) (by omega) hbo (Nat.le_trans hbw (Nat.le_trans hB0.size HB15.out.size)))
    clear hd hp5 hp6 hb5 hA4 hg4 hT4 hcb4 hne2
    go_wp2_with fail
    refine HE1.out.mono ?_
    rintro _ w7 ⟨rfl, ho7, hf7, hb7⟩
    have hV7 := (HVB.out.below HB15.out HVB.out.lt).tf hf7 (by decide) (by decide)
    have hcb7 := hV7.cell (j := 0) rfl
    have HE2 := Lib.hid (equal_base (HQ5.out.tf hf7) ((HBP.out.below HB15.out HBP.out.lt).tf hf7 (by decide) (by decide)) ((HBT.out.below HB15.out HBT.out.lt).tf hf7 (by decide) (by decide)) ho7 (by simp; omega) hbo (Nat.le_trans hbw (Nat.le_trans hB0.size (Nat.le_trans HB15.out.size hf7.size))))
    have HF7 := Lib.hid (And.intro hf7 hb7)
    clear hV7 ho7 hf7 hb7 hcb5
    go_wp2_with fail
    refine HE2.out.mono ?_
    rintro _ w8 ⟨rfl, ho8, hf8, hb8⟩
    go_wp2
    refine bodyPost_ret (results_none rfl _ _ _) rfl ?_
    exact ⟨rfl, ho8, (TF.of hB0).trans ((TF.of HB15.out).trans (HF7.out.1.trans hf8)), (hB0.mono hbw).trans ((HB15.out.mono (Nat.le_trans hbw hB0.size)).trans (HF7.out.2.trans hb8))⟩
end Go.Proofs.YtmgacikdgbedfaaGreatDoor

/- modpoly, the document's example: the factors of a square-free part. -/
namespace Go.Proofs.YtmgacikdgbedfaaGreatDoor
open Go.RowKit Go.IntWalk
attribute [local go_sem ↓] Go.wp_at_zero Go.wp_at_succ

set_option maxRecDepth 100000 in
set_option maxHeartbeats 1000000 in
theorem take_ex {A : Option Addr} {c b bo : Nat} {Ls : List (List Nat)} {w : World} (h : Po w b A 3 c Pm.a7) (hout : OutR w b bo Ls) (hls : Ls.length ≤ 90) (hbo : b ≤ bo) (hbw : b ≤ w.heap.size) (hT : Tabs w) :
    Calls Tryz.prog 77 #[.agg #[.int .u64 7], .slice A 3 c, .int .i64 1, .int .i64 1, .pointer (some ⟨bo, 0, none⟩)] w (RetOut b bo (Ls ++ [[6, 1]] ++ [[1, 1]]) w) := by
  have hB0 : Below w.heap.size w (((w.alloc (.cells #[.int .u64 7] 51)).alloc (.cells #[.int .i64 1] 3)).alloc (.cells #[.pointer (some ⟨bo, 0, none⟩)] 94)) := ((below1 w _).alloc (by simp) _).alloc (by simp; omega) _
  have hbt : VB (((w.alloc (.cells #[.int .u64 7] 51)).alloc (.cells #[.int .i64 1] 3)).alloc (.cells #[.pointer (some ⟨bo, 0, none⟩)] 94)) (w.heap.size + 1) 3 [.int .i64 1] := by
    have := (box_new (w.alloc (.cells #[.int .u64 7] 51)) 3 (.int .i64 1)).below (below1 _ (.cells #[.pointer (some ⟨bo, 0, none⟩)] 94)) (by simp)
    rwa [World.size_alloc] at this
  have hbp : VB (((w.alloc (.cells #[.int .u64 7] 51)).alloc (.cells #[.int .i64 1] 3)).alloc (.cells #[.pointer (some ⟨bo, 0, none⟩)] 94)) (w.heap.size + 1 + 1) 94 [.pointer (some ⟨bo, 0, none⟩)] := by
    have := box_new ((w.alloc (.cells #[.int .u64 7] 51)).alloc (.cells #[.int .i64 1] 3)) 94 (.pointer (some ⟨bo, 0, none⟩))
    rwa [World.size_alloc, World.size_alloc] at this
  have HE := Lib.hid (equal_top (h.next hB0) hbp hbt (hout.next hB0) hls hbo (Nat.le_trans hbw hB0.size) (hT.below hB0))
  clear hbt hbp hout
  go_enter Tryz.func77, Tryz.ntmps77
  go_wp2_with fail
  refine HE.out.mono ?_
  rintro _ w1 ⟨rfl, ho1, hf1, hb1⟩
  go_wp2
  go_end0
  exact ⟨rfl, ho1, (TF.of hB0).trans hf1, (hB0.mono hbw).trans hb1⟩

theorem Tabs.belowB {w w' : World} {b : Nat} (h : Tabs w) (hb : 2 ≤ b) (hB : Below b w w') (hs : w.heap.size ≤ w'.heap.size) : Tabs w' :=
  ⟨Nat.le_trans h.size hs, fun j hj => (hB.cell (p := ⟨_, j, none⟩) (Nat.lt_of_lt_of_le (m := 2) (by simp) hb)).trans (h.tz j hj),
    (hB.cell (p := ⟨_, 0, none⟩) (Nat.lt_of_lt_of_le (m := 2) (by simp) hb)).trans h.b0, (hB.cell (p := ⟨_, 1, none⟩) (Nat.lt_of_lt_of_le (m := 2) (by simp) hb)).trans h.b1,
    (hB.cell (p := ⟨_, 2, none⟩) (Nat.lt_of_lt_of_le (m := 2) (by simp) hb)).trans h.b2⟩
set_option maxRecDepth 100000 in
set_option maxHeartbeats 4000000 in
theorem part_ex {A : Option Addr} {c b bo bf : Nat} {w : World} (h : Po w b A 3 c Pm.a7) (hbf : VB w bf 51 [.int .u64 7]) (hout : OutR w b bo []) (hbo : b ≤ bo) (hbw : b ≤ w.heap.size) (hT : Tabs w) (hb2 : 2 ≤ b) :
    Calls Tryz.prog 76 #[.slice A 3 c, .int .i64 1, .pointer (some ⟨bf, 0, none⟩), .pointer (some ⟨bo, 0, none⟩)] w (RetOut b bo [[6, 1], [1, 1]] w) := by
  have hB0 := below1 w (.cells #[.int .u32 0, .int .u32 1] 24)
  have hU0 : UB (w.alloc (.cells #[.int .u32 0, .int .u32 1] 24)) w.heap.size [0, 1] := UB.new w [0, 1]
  have hwx : Dg.Wd [0, 1] := fun x hx => by simp at hx; omega
  have hx0 := hU0.rd hwx hU0.lt (k := 2) (Nat.le_refl _) (by unfold maxLen; simp)
  have HP := Lib.hid h
  have HOUT := Lib.hid hout
  have HBF := Lib.hid hbf
  have hcf := hbf.cell (j := 0) rfl
  have hA0 := (h.next hB0).rd
  have hT0 := hT.below hB0
  clear hU0 hout
  go_enter Tryz.func76, Tryz.ntmps76
  go_wp2_with fail
  refine (mrest_any 7 Pm.pr7' (by omega) hx0 hA0 (by omega) (by omega) Pm.x7_pn Pm.a7_pn (by omega) hT0).mono ?_
  rintro _ w1 ⟨A2, n2, c2, R2, rfl, hp2, hr2, hb1⟩
  have hR2 := Pm.rm_x hr2.out.1
  subst hR2
  obtain rfl : n2 = 2 := hp2.len.symm
  have HB1 := Lib.hid (hB0.trans (hb1.mono hB0.size))
  have HP2 := Lib.hid hp2
  clear hr2 hx0 hA0 hT0 hb1 hB0 hcf h hp2
  go_wp2_with fail
  go_loopw [0, 7, 8] (fun pv qv dv wr => ∃ (A1 : Option Addr) (n1 c1 : Nat), pv = .slice A1 n1 c1 ∧ Hid ((n1 = 3 ∧ A1 = A ∧ c1 = c ∧ qv = .slice A2 2 c2 ∧ dv = .int .i64 1 ∧ wr = w1) ∨ (n1 = 1 ∧ OutR wr b bo [[6, 1], [1, 1]] ∧ TF w wr ∧ Below b w wr))) (fun pv _ _ _ => slLen pv)
  case atStart => exact ⟨A, 3, c, rfl, Lib.hid (.inl ⟨rfl, rfl, rfl, rfl, rfl, rfl⟩)⟩
  case round =>
    obtain ⟨A1, n1, c1, rfl, hI⟩ := hrel
    rcases hI.out with ⟨rfl, rfl, rfl, rfl, rfl, rfl⟩ | ⟨rfl, ho, hf, hb⟩
    · clear hI
      obtain ⟨w1, rfl⟩ : ∃ w1 : World, w1 = wr := ⟨_, rfl⟩
      have hf1 := HBF.out.below HB1.out HBF.out.lt
      have hcf := hf1.cell (j := 0) rfl
      have hq1 := HP2.out.rd
      have hA1 := (HP.out.next HB1.out).rd
      have hT1 := hT.below HB1.out
      have hgl1 := hf1.lt
      have HF1 := Lib.hid hf1
      have HPOW : Hid (Calls Tryz.prog 78 #[.agg #[.int .u64 7], .slice A2 2 c2, .int .u64 7, .slice A1 3 c1] w1 (RetQ (Pq 7 [0, 1] 7 Pm.a7) w1)) :=
        Lib.hid (mpow_any 7 7 Pm.pr7' (by omega) (by omega) hq1 hA1 (by omega) (by omega) Pm.x7_pn Pm.a7_pn (by omega) hT1)
      clear hf1 hq1 hA1 hT1
      go_wp2_with fail
      refine HPOW.out.mono ?_
      rintro _ w3 ⟨A3, n3, c3, R3, rfl, hp3, hr3, hb3⟩
      have hR3 := Pm.pw_x (n := 3) hr3.out.1 hr3.out.2.1 hr3.out.2.2
      subst hR3
      obtain rfl : n3 = 2 := hp3.len.symm
      have HB3 := Lib.hid (HB1.out.trans (hb3.mono HB1.out.size))
      have hf3 := HF1.out.below hb3 hgl1
      have hcf3 := hf3.cell (j := 0) rfl
      have hgl3 := hf3.lt
      have hB4 := below1 w3 (.cells #[.int .u32 0, .int .u32 1] 24)
      have hx4 := (UB.new w3 [0, 1]).rd hwx (UB.new w3 [0, 1]).lt (k := 2) (Nat.le_refl _) (by unfold maxLen; simp)
      have HREST : Hid (Calls Tryz.prog 62 #[.agg #[.int .u64 7], .slice (some ⟨w3.heap.size, 0, none⟩) 2 2, .slice A1 3 c1] (w3.alloc (.cells #[.int .u32 0, .int .u32 1] 24)).drew (RetQ (fun R => Pm.Rm 7 [0, 1] Pm.a7 R ∧ R.length ≤ [0, 1].length) (w3.alloc (.cells #[.int .u32 0, .int .u32 1] 24)).drew)) :=
        Lib.hid (mrest_any 7 Pm.pr7' (by omega) hx4.drew ((HP.out.next HB3.out).next hB4).rd.drew (by omega) (by omega) Pm.x7_pn Pm.a7_pn (by omega) ((hT.below HB3.out).below hB4).drew)
      have HEG := Lib.hid (enters_of Tryz.func36 (by kernel_rfl) rfl)
      have HE : Hid (∀ (W : World) (A3 A4 : Option Addr) (c3 c4 : Nat), RdU W W.heap.size A3 2 c3 [0, 1] → RdU W W.heap.size A4 2 c4 [0, 1] →
          Calls Tryz.prog 34 #[.agg #[.int .u64 7], .slice A3 2 c3, .slice A4 2 c4, .func (.func 36) #[.agg #[.int .u64 7]] #[]] W (RetPo 7 (fun k => Pm.co [0, 1] k - Pm.co [0, 1] k) W)) :=
        Lib.hid fun W A3 A4 c3 c4 ha hb => meach_any (F := fun x y => x - y) 7 (by omega) (by omega) HEG.out fld_sub rfl ha hb (by omega) (by omega) (fun x hx => by simp at hx; omega) (fun x hx => by simp at hx; omega)
      have HB4 := Lib.hid hB4.drew
      have HP3 := Lib.hid hp3
      have HC4 := Lib.hid (show (w3.alloc (.cells #[.int .u32 0, .int .u32 1] 24)).drew.cell? ⟨bf, 0, none⟩ = some (.int .u64 7) from (hB4.cell (p := ⟨bf, 0, none⟩) hgl3).trans hcf3)
      have hne3 := World.new_ne w3 ⟨bf, 0, none⟩ hcf3
      clear hx4 hp3 hr3 hf3 hb3 hcf hB4
      go_wp2_with fail
      go_region_held3 (fun w' => w'.cell? ⟨bf, 0, none⟩ = some (.int .u64 7)) (go_keep)
        (first
          | (go_at_call 62; refine HREST.out.mono ?_; rintro _ w4 ⟨A4, n4, c4, R4, rfl, hp4, hr4, hb4⟩; have HR4 := Pm.rm_x hr4.out.1; subst HR4; obtain rfl : n4 = 2 := hp4.len.symm; have hcf4 := (hb4.cell (p := ⟨bf, 0, none⟩) (Nat.lt_of_lt_of_le hgl3 HB4.out.size)).trans HC4.out; have HB34 := Lib.hid (HB4.out.trans (hb4.mono HB4.out.size)))
          | (go_at_call 34; refine (HE.out _ _ _ _ _ (HP3.out.next HB34.out).rd hp4.rd).mono ?_; rintro _ w5 ⟨A5, n5, c5, R5, rfl, hp5, hr5, hb5⟩; have HR5 := Pm.none_of hr5.out (fun k => Int.sub_self _); subst HR5; obtain rfl : n5 = 0 := hp5.len.symm; have HB35 := Lib.hid (HB34.out.trans (hb5.mono HB34.out.size)); have hcf5 := (HB35.out.cell (p := ⟨bf, 0, none⟩) hgl3).trans hcf3)
          | (go_at_call 47; refine (mgcd_any 7 Pm.pr7' (by omega) (HP.out.next (HB3.out.trans (HB35.out.mono HB3.out.size))).rd hp5.rd (by omega) (by omega) Pm.a7_pn Pm.Pn.nil (hT.below (HB3.out.trans (HB35.out.mono HB3.out.size)))).mono ?_; rintro _ w6 ⟨A6, n6, c6, G, rfl, hp6, hG, hb6⟩; have hG' := Pm.gc_nil Pm.a7_pn (by decide) hG.out; subst hG'; obtain rfl : n6 = 3 := hp6.len.symm; have HB36 := Lib.hid (HB35.out.trans (hb6.mono HB35.out.size)); have hcf6 := (HB36.out.cell (p := ⟨bf, 0, none⟩) hgl3).trans hcf3))
      all_goals
        have HB6 := Lib.hid (HB3.out.trans (HB36.out.mono HB3.out.size))
        have HP6 := Lib.hid (hp6.base (b' := b) (Nat.le_trans hbw (Nat.le_trans HB3.out.size HB35.out.size)))
        have HTK := Lib.hid (take_ex HP6.out (HOUT.out.next HB6.out) (by simp) hbo (Nat.le_trans hbw HB6.out.size) (hT.below HB6.out))
        clear hp6 hb6 hp5 hb5 hr5 hp4 hr4 hb4 hcf5 hcf4 hcf3
        go_wp2_with fail
        refine HTK.out.mono ?_
        rintro _ w7 ⟨rfl, ho7, hf7, hb7⟩
        have HF7 := Lib.hid ((TF.of HB6.out).trans hf7)
        have HB7 := Lib.hid ((HB6.out.mono hbw).trans hb7)
        have hV7 := HBF.out.tf HF7.out (by decide) (by decide)
        have hcf7 := hV7.cell (j := 0) rfl
        have hpA := (HP.out.tf HF7.out).rd
        have hpG := (HP6.out.tf hf7).rd
        have hT7 := Tabs.belowB hT hb2 HB7.out HF7.out.size
        have HO7 := Lib.hid ho7
        clear hV7 ho7 hf7 hb7 hcf6
        go_wp2_with fail
        refine (mdiv_any 7 Pm.pr7' (by omega) hpA hpG (by omega) (by omega) Pm.a7_pn Pm.a7_pn (by omega) hT7).mono ?_
        rintro _ w8 ⟨A8, A9, n8, c8, n9, c9, Q, R, rfl, hp8, hp9, hd, hb8⟩
        have hQ := (Pm.div_self Pm.a7_pn (by decide) hd.out.1 hd.out.2.1 hd.out.2.2.1).1
        subst hQ
        obtain rfl : n8 = 1 := hp8.len.symm
        have HX := Lib.hid (And.intro (HO7.out.next hb8) (And.intro (HF7.out.trans (TF.of hb8)) (HB7.out.trans (hb8.mono (Nat.le_trans hbw HF7.out.size)))))
        clear hd hp8 hp9 hb8 hpA hpG hT7
        go_wp2
        go_roundw
        case rel => exact ⟨A8, 1, c8, rfl, Lib.hid (.inr ⟨rfl, HX.out.1, HX.out.2.1, HX.out.2.2⟩)⟩
        case measure => simp [slLen]
    · clear hI
      go_wp2
      go_end0
      exact ⟨rfl, ho, hf, hb⟩
end Go.Proofs.YtmgacikdgbedfaaGreatDoor

/- modpoly, the document's example: the square-free parts. -/
namespace Go.Proofs.YtmgacikdgbedfaaGreatDoor
open Go.RowKit Go.IntWalk
attribute [local go_sem ↓] Go.wp_at_zero Go.wp_at_succ

set_option maxRecDepth 100000 in
set_option maxHeartbeats 4000000 in
theorem sqfree_ex {A : Option Addr} {c b b0 bo bf : Nat} {w : World} (h : Po w b0 A 3 c Pm.a7) (hbf : VB w bf 51 [.int .u64 7]) (hout : OutR w b bo []) (hbo : b ≤ bo) (hbw : b ≤ w.heap.size) (hT : Tabs w) (hb2 : 2 ≤ b) :
    Calls Tryz.prog 75 #[.agg #[.int .u64 7], .slice A 3 c, .int .i64 1, .func (.func 76) #[] #[.pointer (some ⟨bf, 0, none⟩), .pointer (some ⟨bo, 0, none⟩)]] w (RetOut b bo [[6, 1], [1, 1]] w) := by
  have hB0 := below1 w (.cells #[.int .u64 7] 51)
  have HVB := Lib.hid (box_new w 51 (.int .u64 7))
  have HP := Lib.hid (h.next hB0)
  have HBF := Lib.hid (hbf.below hB0 hbf.lt)
  have HOUT := Lib.hid (hout.next hB0)
  have hT0 := hT.below hB0
  have HBW := Lib.hid (Nat.le_trans hbw hB0.size)
  clear h hbf hout
  go_enter Tryz.func75, Tryz.ntmps75
  go_wp2_with fail
  generalize w.alloc (.cells #[.int .u64 7] 51) = W1 at hB0 HVB HP HBF HOUT hT0 HBW ⊢
  obtain ⟨gb, hgb⟩ : ∃ gb, gb = w.heap.size := ⟨_, rfl⟩
  rw [← hgb] at HVB ⊢
  clear hgb
  have hr1 := HP.out.rd
  refine (mderive_any 7 (by omega) (by omega) hr1 (by omega)).mono ?_
  rintro _ w2 ⟨A2, n2, c2, D, rfl, hp2, hd2, hb2'⟩
  have hD := Pm.der7 hd2.out (fun k => rfl)
  subst hD
  obtain rfl : n2 = 2 := hp2.len.symm
  have HB2 := Lib.hid hb2'
  have hcb2 := (HVB.out.below hb2' HVB.out.lt).cell (j := 0) rfl
  have hA2 := (HP.out.next hb2').rd
  have hD2 := hp2.rd
  have hT2 := hT0.below hb2'
  clear hp2 hd2 hb2' hr1
  go_wp2_with fail
  refine (mgcd_any 7 Pm.pr7' (by omega) hA2 hD2 (by omega) (by omega) Pm.a7_pn Pm.d7_pn hT2).mono ?_
  rintro _ w3 ⟨A3, n3, c3, G, rfl, hp3, hG, hb3⟩
  have hG' := Pm.gcd7 hG.out
  subst hG'
  obtain rfl : n3 = 1 := hp3.len.symm
  have HB3 := Lib.hid (HB2.out.trans (hb3.mono HB2.out.size))
  have hcb3 := (HVB.out.below HB3.out HVB.out.lt).cell (j := 0) rfl
  have hA3 := (HP.out.next HB3.out).rd
  have hc3 := hp3.rd
  have hT3 := hT0.below HB3.out
  have HP3 := Lib.hid hp3
  clear hG hb3 hA2 hD2 hT2 hcb2 hp3
  go_wp2_with fail
  refine (mdiv_any 7 Pm.pr7' (by omega) hA3 hc3 (by omega) (by omega) Pm.a7_pn Pm.o7_pn (by omega) hT3).mono ?_
  rintro _ w4 ⟨A4, A5, n4, c4, n5, c5, Q, R, rfl, hp4, hp5, hd4, hb4⟩
  have hQ := (Pm.div_one Pm.a7_pn hd4.out.1 hd4.out.2.1 hd4.out.2.2.1).1
  subst hQ
  obtain rfl : n4 = 3 := hp4.len.symm
  have HB4 := Lib.hid (HB3.out.trans (hb4.mono HB3.out.size))
  have HP4 := Lib.hid (hp4.base (Nat.le_trans HBW.out HB3.out.size))
  have HC4 := Lib.hid ((HP3.out.next hb4).base (Nat.le_trans HBW.out HB2.out.size))
  clear hd4 hb4 hp4 hp5 hA3 hc3 hT3 hcb3
  go_wp2_with fail
  go_loopw [9, 10, 12] (fun cv wv iv wr => ∃ (Ac Aw : Option Addr) (cc cw nw : Nat), cv = .slice Ac 1 cc ∧ wv = .slice Aw nw cw ∧ Hid ((nw = 3 ∧ Aw = A4 ∧ cw = c4 ∧ Ac = A3 ∧ cc = c3 ∧ iv = .int .i64 1 ∧ wr = w4) ∨ (nw = 1 ∧ OutR wr b bo [[6, 1], [1, 1]] ∧ TF W1 wr ∧ Below b W1 wr))) (fun _ wv _ _ => slLen wv)
  case atStart => exact ⟨A3, A4, c3, c4, 3, rfl, rfl, Lib.hid (.inl ⟨rfl, rfl, rfl, rfl, rfl, rfl, rfl⟩)⟩
  case round =>
    obtain ⟨Ac, Aw, cc, cw, nw, rfl, rfl, hI⟩ := hrel
    rcases hI.out with ⟨rfl, rfl, rfl, rfl, rfl, rfl, rfl⟩ | ⟨rfl, ho, hf, hb⟩
    · clear hI
      obtain ⟨w4, rfl⟩ : ∃ w4 : World, w4 = wr := ⟨_, rfl⟩
      have hcb4 := (HVB.out.below HB4.out HVB.out.lt).cell (j := 0) rfl
      have hA4 := HP4.out.rd
      have hc4 := HC4.out.rd
      have hT4 := hT0.below HB4.out
      go_wp2_with fail
      refine (mgcd_any 7 Pm.pr7' (by omega) hA4 hc4 (by omega) (by omega) Pm.a7_pn Pm.o7_pn hT4).mono ?_
      rintro _ w5 ⟨A6, n6, c6, G, rfl, hp6, hG, hb5⟩
      have hG' := Pm.gc_one hG.out
      subst hG'
      obtain rfl : n6 = 1 := hp6.len.symm
      have HB5 := Lib.hid (HB4.out.trans (hb5.mono HB4.out.size))
      have hcb5 := (HVB.out.below HB5.out HVB.out.lt).cell (j := 0) rfl
      have hA5 := (HP4.out.next hb5).rd
      have hy5 := hp6.rd
      have hT5 := hT0.below HB5.out
      have HY5 := Lib.hid (hp6.base (b' := b) (Nat.le_trans HBW.out HB4.out.size))
      have HC5 := Lib.hid (HC4.out.next hb5)
      clear hG hb5 hA4 hc4 hT4 hcb4 hp6
      go_wp2_with fail
      refine (mdiv_any 7 Pm.pr7' (by omega) hA5 hy5 (by omega) (by omega) Pm.a7_pn Pm.o7_pn (by omega) hT5).mono ?_
      rintro _ w6 ⟨A7, A8, n7, c7, n8, c8, Q, R, rfl, hp7, hp8, hd6, hb6⟩
      have hQ := (Pm.div_one Pm.a7_pn hd6.out.1 hd6.out.2.1 hd6.out.2.2.1).1
      subst hQ
      obtain rfl : n7 = 3 := hp7.len.symm
      have HB6 := Lib.hid (HB5.out.trans (hb6.mono HB5.out.size))
      have HY6 := Lib.hid (HY5.out.next hb6)
      have HC6 := Lib.hid (HC5.out.next hb6)
      have HPT := Lib.hid (part_ex (hp7.base (Nat.le_trans HBW.out HB5.out.size)) (HBF.out.below HB6.out HBF.out.lt) (HOUT.out.next HB6.out) hbo (Nat.le_trans HBW.out HB6.out.size) (hT0.below HB6.out) hb2)
      clear hd6 hb6 hp7 hp8 hA5 hy5 hT5 hcb5
      go_wp2_with (go_at_call 76; refine HPT.out.mono ?_; rintro _ w7 ⟨rfl, ho7, hf7, hb7⟩; have hcb7 := ((HVB.out.below HB6.out HVB.out.lt).tf hf7 (by decide) (by decide)).cell (j := 0) rfl)
      have HF7 := Lib.hid ((TF.of HB6.out).trans hf7)
      have HB7 := Lib.hid ((HB6.out.mono HBW.out).trans hb7)
      have hc7 := (HC6.out.tf hf7).rd
      have hy7 := (HY6.out.tf hf7).rd
      have hT7 := Tabs.belowB hT0 hb2 HB7.out HF7.out.size
      have HO7 := Lib.hid ho7
      clear ho7 hf7 hb7
      refine (mdiv_any 7 Pm.pr7' (by omega) hc7 hy7 (by omega) (by omega) Pm.o7_pn Pm.o7_pn (by omega) hT7).mono ?_
      rintro _ w8 ⟨A9, A10, n9, c9, n10, c10, Q, R, rfl, hp9, hp10, hd8, hb8⟩
      have hQ := (Pm.div_self Pm.o7_pn (by decide) hd8.out.1 hd8.out.2.1 hd8.out.2.2.1).1
      subst hQ
      obtain rfl : n9 = 1 := hp9.len.symm
      have HX := Lib.hid (And.intro (HO7.out.next hb8) (And.intro (HF7.out.trans (TF.of hb8)) (HB7.out.trans (hb8.mono (Nat.le_trans HBW.out HF7.out.size)))))
      clear hd8 hp9 hp10 hb8 hc7 hy7 hT7 hcb7
      go_wp2
      go_roundw
      case rel => exact ⟨A9, A6, c9, c6, 1, rfl, rfl, Lib.hid (.inr ⟨rfl, HX.out.1, HX.out.2.1, HX.out.2.2⟩)⟩
      case measure => simp [slLen]
    · clear hI
      go_wp2
      go_end0
      exact ⟨rfl, ho, (TF.of hB0).trans hf, (hB0.mono hbw).trans hb⟩
end Go.Proofs.YtmgacikdgbedfaaGreatDoor
