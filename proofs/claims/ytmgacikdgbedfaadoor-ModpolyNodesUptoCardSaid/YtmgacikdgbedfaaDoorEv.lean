/- A region that draws its order, in a round of a range over a function: by the plain walk's law. Nothing of the program. -/
import Derived.RangeFuncCalls
import Derived.Deep.RegionHeld
import Derived.OrdersIn
import Derived.Test.YtmgacikdgbedfaaDoorM1
import Derived.Test.YtmgacikdgbedfaaDoorPq
import Derived.RangeFuncNested
import Derived.RangeFuncBound
import Derived.RangeFuncLeaves
import Derived.OwnWalkIn
import Derived.TacticsInMore
import Derived.LoopNIn
import Derived.LoopIn
import Derived.Shelf.Abstract
import Derived.Deep.RegionWith
import Derived.Test.YtmgacikdgbedfaaDoorS1
import Derived.Maps.OwnOps
import Derived.Maps.Views
import Derived.Maps.OwnSet
namespace Go.Proofs.YtmgacikdgbedfaaDoor
open Go

theorem rows_in {l n : Nat} {P : Program} {row : String} {args : Array Value} {w : World} {R : Value → World → Prop} (h : Rows P row args w R) : RowsIn (Fence.wide.inRound l) n P row args w R :=
  fun c cs _ => let ⟨v, w', r, s⟩ := h c cs; ⟨v, w', r, stepsIn_wide.2 s⟩
theorem wpOp_round {l n : Nat} {P : Program} {ops : Array Oper} {Q : Exit → Act → World → Prop} {i : Nat} {K K' : Act → World → Prop} {a : Act} {w : World} (hd : ∀ (j : Nat) o c, ops[j]? = some o → o.op ≠ .defer c) (hL : ¬ LetsOut Q)
    (hK : ∀ a w, K a w → K' a w) (h : wpOp P ops Q i K a w) : wpOpIn (Fence.wide.inRound l) n P ops Q i K' a w := by
  unfold wpOp at h
  unfold wpOpIn
  cases ho : ops[i]? with
  | none => rw [ho] at h; exact hK _ _ h
  | some o =>
    rw [ho] at h
    simp only at h ⊢
    by_cases hw : Region.wanted o (yielded ops a.tmps) = true
    · rw [if_pos hw] at h ⊢
      have h := h.resolve_right fun h => hL h.2
      refine ⟨fun _ _ => trivial, ?_⟩
      rw [Oper.semAt_eq _ _ _ (fun c => hd i o c ho)]
      unfold Oper.wp at h
      revert h
      generalize (execOp a.eval o).run P w = res
      intro h
      cases res with
      | ok x w1 =>
        cases x with
        | value v => exact hK _ _ h
        | skip => exact hK _ _ h
        | defer d => exact hK _ _ h
        | enter f args =>
          refine ⟨fun e => absurd e (by simp [Fence.wide]), (callsIn_wide.2 (Calls.mono h fun e w2 he => ?_)).inRound l⟩
          cases e <;> first | exact hK _ _ he | exact he
        | row r args => exact ⟨fun e => absurd e (by simp [Fence.wide]), (rows_in h).mono fun v w2 he => hK _ _ he⟩
        | _ => exact h.elim
      | halt x w1 => cases x <;> first | exact h | exact h.elim
    · rw [if_neg hw] at h ⊢
      exact ⟨fun _ _ => trivial, hK _ _ h⟩
theorem any_round {l n : Nat} {P : Program} {md : Region.Mode} {ops : Array Oper} {Q : Exit → Act → World → Prop} {S : World → Prop} (hd : ∀ (j : Nat) o c, ops[j]? = some o → o.op ≠ .defer c) (hL : ¬ LetsOut Q) :
    ∀ (fuel : Nat) (listed : Array Bool) (a : Act) (w : World), wpAnyH P md ops Q S fuel listed a w → wpAnyIn (Fence.wide.inRound l) n P md ops Q fuel listed a w
  | 0, _, _, _, h => h
  | fuel + 1, _, _, _, h => ⟨h.1, fun i hi => wpOp_round hd hL (fun a' w' h' => any_round hd hL fuel _ a' w' h'.2) (h.2 i hi)⟩
/-- No operation of them defers. -/
def noDefer (ops : List Oper) : Bool := ops.all fun o => match o.op with
  | .defer _ => false
  | _ => true
theorem noDefer_at {ops : Array Oper} (h : noDefer ops.toList = true) (j : Nat) (o : Oper) (c : Go.Call) (ho : ops[j]? = some o) : o.op ≠ .defer c := by
  intro e
  have hm : o ∈ ops.toList := by
    rw [← Array.getElem?_toList] at ho
    exact List.mem_of_getElem? ho
  have := List.all_eq_true.1 h o hm
  rw [e] at this
  cases this
/-- The beginning. -/
theorem wpIn_region_round {l n id : Nat} {P : Program} {ops : Array Oper} {Q : Exit → Act → World → Prop} {S : World → Prop} {a : Act} {w : World} (hm : P.follows .mixedOrders = true) (hd : noDefer ops.toList = true) (hL : ¬ LetsOut Q) (hS : S w.drew)
    (h : S w.drew → wpAnyH P .any ops Q S ops.size (Array.replicate ops.size false) a w.drew) : (Code.region id ops true).wpIn (Fence.wide.inRound l) n P Q a w :=
  wpIn_region_any hm (any_round (noDefer_at hd) hL _ _ _ _ (h hS))
end Go.Proofs.YtmgacikdgbedfaaDoor

/- slices.Backward at words: its contract. -/
namespace Go.Proofs.YtmgacikdgbedfaaDoor
open Go.RowKit Go.IntWalk Go.Shelf
attribute [local go_sem] Oper.semAt_some

/-- What is handed out: a place and a word. -/
abbrev Bkw := { q : Nat × Nat // q.2 < 4294967296 }
def bkw {L : List Nat} (h : Dg.Wd L) (j : Nat) : Bkw := ⟨Pm.bk L j, Dg.ld_word h _⟩
/-- The first k of them. -/
def bks {L : List Nat} (h : Dg.Wd L) (k : Nat) : List Bkw := (List.range k).map (bkw h)
theorem bks_succ {L : List Nat} (h : Dg.Wd L) (k : Nat) : bks h (k + 1) = bks h k ++ [bkw h k] := by simp [bks, List.range_succ]
theorem bks_len {L : List Nat} (h : Dg.Wd L) (k : Nat) : (bks h k).length = k := by simp [bks]
/-- Below n, and the one block, nothing turns. -/
structure KpO (n b : Nat) (W W' : World) : Prop where
  lo : Below n W W'
  at_ : W'.heap[b]? = W.heap[b]?
theorem KpO.refl (n b : Nat) (W : World) : KpO n b W W := ⟨Below.refl _ _, rfl⟩
theorem KpO.trans {n b : Nat} {A B C : World} (h : KpO n b A B) (k : KpO n b B C) : KpO n b A C := ⟨h.lo.trans k.lo, k.at_.trans h.at_⟩
theorem KpO.put {n b : Nat} {w : World} (hn : n ≤ w.heap.size) (hb : b < w.heap.size) (W : World) (l : Nat) (o o' : Obj) (hw : w.heap.size ≤ l) (h : W.heap[l]? = some o) (hc : o.isCells = false) (hk : o.isWalk = false) : KpO n b W (W.putObj l o') :=
  ⟨belowK_b hn W l o o' hw h hc hk, World.putObj_heap_other (by omega)⟩
theorem KpO.cell {n b : Nat} {W W' : World} (h : KpO n b W W') (j : Nat) : W'.cell? ⟨b, j, none⟩ = W.cell? ⟨b, j, none⟩ := World.cell?_of_block (w := W) h.at_

set_option maxRecDepth 100000 in
set_option maxHeartbeats 2000000 in
theorem back1_in (n : Nat) (hn : 1 ≤ n) (l Bs n₁ : Nat) {A : Option Addr} {m c : Nat} {L : List Nat} (hw : Dg.Wd L) (J Jx : List Bkw → World → Prop)
    (hY : ∀ pre (x : Bkw) W, J pre W → pre.length < m → YieldAt Fence.wide (n - 1) Tryd.prog l #[.int .i64 (x.1.1 : Nat), .int .u32 (x.1.2 : Nat)] W fun e W' =>
      (e = .returned (.bool true) ∧ J (pre ++ [x]) W' ∧ KpO n₁ Bs W W') ∨ (e = .returned (.bool false) ∧ Jx (pre ++ [x]) W'))
    (W : World) (hR : RdU W n₁ A m c L) (hcs : W.cell? ⟨Bs, 0, none⟩ = some (.slice A m c)) (h0 : J [] W) :
    CallsIn Fence.wide n Tryd.prog 70 #[.func (.yield l) #[] #[], .pointer (some ⟨Bs, 0, none⟩)] W fun e W' => (∃ v, e = .returned v) ∧
      ((∃ ys, ys = bks hw m ∧ J ys W') ∨ (∃ pre, (∃ k, k ≤ m ∧ pre = bks hw k) ∧ Jx pre W')) := by
  have HLEN := Lib.hid hR.len
  have hle := hR.le
  have hmx := hR.mx
  unfold maxLen at hmx
  have HCS := Lib.hid hcs
  refine callsIn_of_wp Tryd.func70 rfl trivial ?_ rfl
  simp only [Tryd.ntmps70, List.size_toArray, List.length_cons, List.length_nil, Nat.reduceAdd, Nat.reduceSub, Array.replicate_succ, Array.replicate_zero, List.push_toArray, List.append_toArray, List.nil_append, List.cons_append]
  gi_wp2
  gi_loopw [3] (fun i wr => ∃ j k : Nat, j + k = m ∧ i = .int .i64 ((j : Int) - 1) ∧ J (bks hw k) wr ∧ KpO n₁ Bs W wr) (fun i _ => (intOf i + 1).toNat)
  case atStart => exact ⟨m, 0, rfl, rfl, h0, KpO.refl _ _ _⟩
  case round =>
    obtain ⟨j, k, hjk, rfl, hJ, hB⟩ := hrel
    have hcs' := (hB.cell 0).trans HCS.out
    clear hcs h0
    rcases Nat.eq_zero_or_pos j with hj | hj
    · subst hj
      obtain rfl : k = m := by omega
      gi_wp2
      go_end0
      exact ⟨⟨_, rfl⟩, .inl ⟨_, rfl, hJ⟩⟩
    · obtain ⟨i, rfl⟩ : ∃ i, j = i + 1 := ⟨j - 1, by omega⟩
      rw [show (((i + 1 : Nat) : Int) - 1) = (i : Int) by omega]
      obtain ⟨hx, ad, had, hbx, hcx⟩ := (hR.below hB.lo).at_ i _ (Dg.get_of_ld (by rw [HLEN.out]; omega))
      subst had
      have hbk : bkw hw k = ⟨(i, Dg.ld L i), Dg.ld_word hw _⟩ := by
        apply Subtype.ext
        show Pm.bk L k = _
        unfold Pm.bk
        rw [HLEN.out, show m - 1 - k = i by omega]
      obtain ⟨fn, tmps, assign, body, hy, hRd⟩ := hY _ (bkw hw k) wr hJ (by rw [bks_len]; omega)
      rw [hbk] at hy
      have HBK := Lib.hid hbk
      obtain ⟨x, ex⟩ : ∃ x, x = Dg.ld L i := ⟨_, rfl⟩
      dsimp only at hy
      rw [← ex] at hcx hx hy
      have him : i < m := by omega
      clear hbk ex
      gi_wp2
      refine hRd.mono ?_
      rintro e W3 (⟨rfl, hJ3, hk3⟩ | ⟨rfl, hJx3⟩)
      · gi_wp2
        go_roundw
        case rel => exact ⟨i, k + 1, by omega, rfl, by rw [bks_succ]; exact hJ3, hB.trans hk3⟩
        case measure => simp [intOf]
      · gi_wp2
        refine bodyPost_ret (results_none rfl _ _ _) rfl ?_
        exact ⟨⟨_, rfl⟩, .inr ⟨_, ⟨k + 1, by omega, (bks_succ hw k).symm⟩, hJx3⟩⟩

/-- What Backward hands back, ranged over. -/
theorem back_stops (n : Nat) (hn : 1 ≤ n) (Bs n₁ : Nat) {A : Option Addr} {m c : Nat} {L : List Nat} (hw : Dg.Wd L) (w : World) (hn1 : n₁ ≤ w.heap.size) (hBs : Bs < w.heap.size) (hR : RdU w n₁ A m c L) (hcs : w.cell? ⟨Bs, 0, none⟩ = some (.slice A m c)) :
    SeqStopsK Fence.wide n Tryd.prog 70 #[.pointer (some ⟨Bs, 0, none⟩)] (fun x : Bkw => #[Value.int .i64 (x.1.1 : Nat), Value.int .u32 (x.1.2 : Nat)]) (KpO n₁ Bs)
      (fun xs => xs = bks hw m) (fun pre => ∃ k, k ≤ m ∧ pre = bks hw k) m w := by
  intro l J Jx W hW _ _ hY h0
  exact back1_in n hn l Bs n₁ hw J Jx hY W (hR.below (hW.mono hn1)) ((hW.cell (p := ⟨Bs, 0, none⟩) hBs).trans hcs) h0

set_option maxHeartbeats 400000 in
theorem back_any {A : Option Addr} {m c : Nat} (w : World) :
    Calls Tryd.prog 59 #[.slice A m c] w fun e w' =>
      e = .returned (.func (.func 70) #[] #[.pointer (some ⟨w.heap.size, 0, none⟩)]) ∧ w.alloc (.cells #[.slice A m c] 25) = w' := by
  go_enter Tryd.func59, Tryd.ntmps59
  go_wp2
  go_ret
  exact ⟨rfl, rfl⟩
end Go.Proofs.YtmgacikdgbedfaaDoor

/- modpoly: the value of a polynomial. -/
namespace Go.Proofs.YtmgacikdgbedfaaDoor
open Go.RowKit Go.IntWalk Go.Shelf
attribute [local go_sem] Oper.semAt_some

theorem below_others {W W' : World} (hb : Below W.heap.size W W') : KeepsOthers W W' := ⟨hb.size, fun k _ hk _ => (hb.block k (Array.getElem?_eq_some_iff.1 hk).1).trans hk⟩
/-- What the rounds hold. -/
structure EvI (p x b : Nat) (pre : List Bkw) (W : World) : Prop where
  v : ∃ v : Nat, v < p ∧ W.cell? ⟨b + 1 + 1, 0, none⟩ = some (.int .u32 v) ∧ Hid (Pm.cz p v (Pm.hor x (pre.map (·.1.2))))
  f : W.frozen? ⟨b + 1 + 1, 0, none⟩ = false
  c0 : W.cell? ⟨b, 0, none⟩ = some (.int .u64 p)
  c1 : W.cell? ⟨b + 1, 0, none⟩ = some (.int .u32 x)
  s : b + 1 + 1 + 1 < W.heap.size
theorem EvI.own (p x b : Nat) : Own (EvI p x b) := fun s A B row hs hg hr => by
  obtain ⟨v, hv, hc, hz⟩ := hs.v
  exact ⟨⟨v, hv, cell_kept hc hg hr, hz⟩, (frozen_kept hc hg hr).trans hs.f, cell_kept hs.c0 hg hr, cell_kept hs.c1 hg hr, Nat.lt_of_lt_of_le hs.s hg.size⟩
theorem hor_step {p x v d u z : Nat} {pre : List Bkw} {hd : d < 4294967296} {i : Nat} (h : Pm.cz p v (Pm.hor x (pre.map (·.1.2)))) (hu : Pm.cz p u ((v : Int) * x)) (hz : Pm.cz p z ((u : Int) + d)) :
    Pm.cz p z (Pm.hor x ((pre ++ [(⟨(i, d), hd⟩ : Bkw)]).map (·.1.2))) := by
  rw [List.map_append, List.map_singleton, Pm.hor_snoc]
  exact hz.trans ((hu.trans (h.mul (Pm.cz.refl _))).add (Pm.cz.refl _))

set_option maxRecDepth 100000 in
set_option maxHeartbeats 2000000 in
theorem meval_any {A : Option Addr} {n c : Nat} {L : List Nat} {w : World} (p x : Nat) (h0 : 0 < p) (hp : p < 4294967296) (hx : x < 4294967296) (h : RdU w w.heap.size A n c L) :
    Calls Tryd.prog 41 #[.agg #[.int .u64 p], .slice A n c, .int .u32 x] w (RetC p (Pm.ev L x) w) := by
  refine (callsIn_wide (n := 4)).1 ?_
  refine callsIn_of_wp_marks Tryd.func41 rfl trivial ?_ rfl
  simp only [Tryd.ntmps41, List.size_toArray, List.length_cons, List.length_nil, Nat.reduceAdd, Nat.reduceSub, Array.replicate_succ, Array.replicate_zero, List.push_toArray, List.append_toArray, List.nil_append, List.cons_append]
  gi_wp2_with (refine ⟨trivial, ?_⟩; gi_at_call 59; refine (callsIn_wide.2 (back_any _)).mono ?_; rintro e w' ⟨rfl, rfl⟩)
  obtain ⟨W0, hW0⟩ : ∃ W0, W0 = ((((w.alloc (.cells #[.int .u64 p] 63)).alloc (.cells #[.int .u32 x] 27)).alloc (.cells #[.int .u32 0] 27)).alloc (.cells #[.slice A n c] 25)) := ⟨_, rfl⟩
  have hsz : W0.heap.size = w.heap.size + 4 := by rw [hW0]; simp
  have hc0 : W0.cell? ⟨w.heap.size, 0, none⟩ = some (.int .u64 p) := by rw [hW0]; go_simp
  have hc1 : W0.cell? ⟨w.heap.size + 1, 0, none⟩ = some (.int .u32 x) := by rw [hW0]; go_simp
  have hc2 : W0.cell? ⟨w.heap.size + 1 + 1, 0, none⟩ = some (.int .u32 (0 : Nat)) := by rw [hW0]; go_simp
  have hc3 : W0.cell? ⟨w.heap.size + 1 + 1 + 1, 0, none⟩ = some (.slice A n c) := by rw [hW0]; go_simp
  have hf2 : W0.frozen? ⟨w.heap.size + 1 + 1, 0, none⟩ = false := by rw [hW0]; go_simp
  have hB0 : Below w.heap.size w W0 := by
    rw [hW0]
    exact ((((Below.refl _ w).alloc (Nat.le_refl _) _).alloc (by simp) _).alloc (by simp; omega) _).alloc (by simp; omega) _
  have hI0 : EvI p x w.heap.size [] W0 := ⟨⟨0, h0, hc2, Lib.hid (Pm.cz.refl _)⟩, hf2, hc0, hc1, by omega⟩
  have hR0 := h.below hB0
  have HWD := h.wd
  have HWDH := Lib.hid HWD
  have hseq := back_stops 3 (by omega) (w.heap.size + 1 + 1 + 1) w.heap.size HWD W0 (by omega) (by omega) hR0 hc3
  have hKb := KpO.put (n := w.heap.size) (b := w.heap.size + 1 + 1 + 1) (w := W0) (by omega) (by omega)
  rw [← hW0]
  clear hW0 hc0 hc1 hc2 hc3 hf2
  apply wpIn_rangeFunc_ownG (F := Fence.wide) (n := 4) (P := Tryd.prog) rfl (by omega) (gf := 70) (lb := #[.pointer (some ⟨w.heap.size + 1 + 1 + 1, 0, none⟩)]) rfl trivial (enters_of Tryd.func70 (by kernel_rfl) rfl)
    hseq KpO.trans hKb (Below.refl _ _) (fun _ => by rfl)
    (fun pre W => EvI p x w.heap.size pre W ∧ Below w.heap.size w W)
    (fun _ _ _ => False)
    (OwnFrom.and (Own.from (EvI.own p x w.heap.size) _) (ownFrom_below (Nat.le_refl _) (by omega)))
    (fun _ _ _ _ _ hs _ _ => hs)
    ⟨hI0, hB0⟩
  case hassign =>
    intro l x W K hK
    gi_wp2
    exact hK
  case hbody =>
    clear hI0 hB0 hR0 hseq hKb
    rintro l pre ⟨⟨i, d⟩, hd⟩ W ⟨hI, hB⟩ _
    obtain ⟨v, hv, hcv, hz⟩ := hI.v
    have hf := hI.f
    have h00 := hI.c0
    have h01 := hI.c1
    have hlt : w.heap.size + 1 + 1 < W.heap.size := World.block_lt_of_cell? W _ hcv
    have hl3 := hI.s
    refine wpIn_block ?_
    refine wpIn_region_round (S := fun w' => w'.cell? ⟨w.heap.size, 0, none⟩ = some (.int .u64 p) ∧ w'.cell? ⟨w.heap.size + 1, 0, none⟩ = some (.int .u32 x)) (by kernel_rfl) (by kernel_rfl) (by rintro ⟨_, _, h⟩; exact h) ⟨h00, h01⟩ (fun hS => ?_)
    refine wpAnyH_take (i := 0) (v := .agg #[.int .u64 p]) rfl (by kernel_rfl) (by kernel_rfl) (by kernel_rfl) (fun _ _ _ h => h) (Or.inl ⟨by rfl, ?_⟩) (by assumption) ?_
    · intro w' hSw; go_simp
    simp only [Act.put, List.getElem_toArray, List.getElem_cons_zero, List.setIfInBounds_toArray, List.set_cons_zero, List.set_cons_succ]
    refine wpAnyH_take (i := 1) (v := .agg #[.int .u64 p]) rfl (by kernel_rfl) (by kernel_rfl) (by kernel_rfl) (fun _ _ _ h => h) (Or.inl ⟨by rfl, ?_⟩) (by assumption) ?_
    · intro w' hSw; go_simp
    simp only [Act.put, List.getElem_toArray, List.getElem_cons_zero, List.getElem_cons_succ, List.setIfInBounds_toArray, List.set_cons_zero, List.set_cons_succ]
    refine wpAnyH_take (i := 3) (v := .int .u32 x) rfl (by kernel_rfl) (by kernel_rfl) (by kernel_rfl) (fun _ _ _ h => h) (Or.inl ⟨by rfl, ?_⟩) (by assumption) ?_
    · intro w' hSw; go_simp
    simp only [Act.put, List.getElem_toArray, List.getElem_cons_zero, List.getElem_cons_succ, List.setIfInBounds_toArray, List.set_cons_zero, List.set_cons_succ]
    refine wpAnyH_take (i := 5) (v := .int .u32 d) rfl (by kernel_rfl) (by kernel_rfl) (by kernel_rfl) (fun _ _ _ h => h) (Or.inl ⟨by rfl, ?_⟩) (by assumption) ?_
    · intro w' hSw; go_simp
    simp only [Act.put, List.getElem_toArray, List.getElem_cons_zero, List.getElem_cons_succ, List.setIfInBounds_toArray, List.set_cons_zero, List.set_cons_succ]
    refine wpAnyH_ready (rs := [2]) (by kernel_rfl) (by simp) ?_
    refine AllReadyH.cons rfl (fun K hK => ?_) AllReadyH.nil
    simp only [List.getElem_toArray, List.getElem_cons_zero, List.getElem_cons_succ]
    go_simp
    refine hK.out _ _ hS (fun hHeld => ?_)
    clear hK K
    refine wpAnyH_ready (rs := [4]) (by kernel_rfl) (by simp) ?_
    refine AllReadyH.cons rfl (fun K hK => ?_) AllReadyH.nil
    simp only [List.getElem_toArray, List.getElem_cons_zero, List.getElem_cons_succ]
    go_simp
    go_at_call 42
    refine (fmul_any p v x h0 hp (by omega) hx _).mono ?_
    rintro _ w1 ⟨u, rfl, hu, hz1, hb1⟩
    have hS1 : w1.cell? ⟨w.heap.size, 0, none⟩ = some (.int .u64 p) ∧ w1.cell? ⟨w.heap.size + 1, 0, none⟩ = some (.int .u32 x) := ⟨(hb1.cell (p := ⟨w.heap.size, 0, none⟩) (by show w.heap.size < W.heap.size; omega)).trans h00, (hb1.cell (p := ⟨w.heap.size + 1, 0, none⟩) (by show w.heap.size + 1 < W.heap.size; omega)).trans h01⟩
    refine hK.out _ _ hS1 (fun hHeld1 => ?_)
    clear hK K
    refine wpAnyH_ready (rs := [6]) (by kernel_rfl) (by simp) ?_
    refine AllReadyH.cons rfl (fun K hK => ?_) AllReadyH.nil
    simp only [List.getElem_toArray, List.getElem_cons_zero, List.getElem_cons_succ]
    go_simp
    go_at_call 46
    refine (fadd_any p u d h0 hp (by omega) hd _).mono ?_
    rintro _ w2 ⟨z, rfl, hz2, hz3, hb2⟩
    have hb12 : Below W.heap.size W w2 := (Below.refl _ W).drew.trans (hb1.trans (hb2.mono hb1.size))
    have hS2 : w2.cell? ⟨w.heap.size, 0, none⟩ = some (.int .u64 p) ∧ w2.cell? ⟨w.heap.size + 1, 0, none⟩ = some (.int .u32 x) := ⟨(hb12.cell (p := ⟨w.heap.size, 0, none⟩) (by show w.heap.size < W.heap.size; omega)).trans h00, (hb12.cell (p := ⟨w.heap.size + 1, 0, none⟩) (by show w.heap.size + 1 < W.heap.size; omega)).trans h01⟩
    have hcz := (hb12.cell (p := ⟨w.heap.size + 1 + 1, 0, none⟩) hlt).trans hcv
    have hfz := (hb12.frozen (p := ⟨w.heap.size + 1 + 1, 0, none⟩) hlt).trans hf
    refine hK.out _ _ hS2 (fun hHeld2 => ?_)
    clear hK K
    refine wpAnyH_ready (rs := [7]) (by kernel_rfl) (by simp) ?_
    refine AllReadyH.cons rfl (fun K hK => ?_) AllReadyH.nil
    simp only [List.getElem_toArray, List.getElem_cons_zero, List.getElem_cons_succ]
    go_simp
    have hS3 : (w2.setCell ⟨w.heap.size + 1 + 1, 0, none⟩ (.int .u32 (z : Nat))).cell? ⟨w.heap.size, 0, none⟩ = some (.int .u64 p) ∧ (w2.setCell ⟨w.heap.size + 1 + 1, 0, none⟩ (.int .u32 (z : Nat))).cell? ⟨w.heap.size + 1, 0, none⟩ = some (.int .u32 x) := ⟨by go_simp, by go_simp⟩
    have hcv3 : (w2.setCell ⟨w.heap.size + 1 + 1, 0, none⟩ (.int .u32 (z : Nat))).cell? ⟨w.heap.size + 1 + 1, 0, none⟩ = some (.int .u32 (z : Nat)) := by go_simp
    refine hK.out _ _ hS3 (fun _ => ?_)
    clear hK K
    refine wpAnyH_done (by kernel_rfl) ?_ _
    refine ⟨((below_others hb12).trans (KeepsOthers.setCell _ _ _)).from _, ⟨(hb12.mono hB.size).setCell (p := ⟨w.heap.size + 1 + 1, 0, none⟩) (by simp; omega) _, ?_⟩, ⟨⟨z, hz2, hcv3, Lib.hid (hor_step hz.out hz1.out hz3.out)⟩, by rw [World.frozen?_setCell]; exact hfz, hS3.1, hS3.2, by have := hb12.size; simp [World.setCell]; omega⟩, (hB.trans (hb12.mono hB.size)).setCell (p := ⟨w.heap.size + 1 + 1, 0, none⟩) (by simp; omega) _⟩
    exact (Below.heap_setCell w2 ⟨w.heap.size + 1 + 1, 0, none⟩ _ _ (by simp)).trans (hb12.block _ hl3)
  case hdone =>
    clear hI0 hB0 hR0 hseq hKb
    rintro D ys W hD rfl ⟨hI, hB⟩ hK
    obtain ⟨v, hv, hcv, hz⟩ := hI.v
    have HV := Lib.hid (show Pm.cz p v (Pm.ev L x) by
      have h1 := hz.out
      have h2 : (bks HWD n).map (·.1.2) = L.reverse := by
        have e := Pm.bk_all L
        rw [h.len] at e
        rw [← e]
        simp [bks, bkw]
      rwa [h2, Pm.hor_rev] at h1)
    clear hz
    gi_wp2
    refine ⟨by simp, .inl ⟨_, _, rfl, run_takeDeferred hK, ?_⟩⟩
    exact ⟨_, results_tmp rfl _ _ _, v, rfl, hv, HV, hB.trans (belowK_b (w := w) (Nat.le_refl _) W D _ _ (by omega) hK rfl rfl)⟩
  case hstop =>
    rintro D c pre W _ _ h _
    exact h.elim
end Go.Proofs.YtmgacikdgbedfaaDoor

/- modpoly: Eval. -/
namespace Go.Proofs.YtmgacikdgbedfaaDoor
open Go.RowKit Go.IntWalk
attribute [local go_sem ↓] Go.wp_at_zero Go.wp_at_succ

/-- The value comes back, and no error. -/
def RetEv (p : Nat) (z : Int) (w : World) (e : Ending) (w' : World) : Prop :=
  ∃ v : Nat, e = .returned (.tuple #[.int .u32 v, .int .i64 0]) ∧ v < p ∧ Hid (Pm.cz p v z) ∧ Below w.heap.size w w'
/-- An error comes back. -/
def RetN0 (code : Int) (w : World) (e : Ending) (w' : World) : Prop := e = .returned (.tuple #[.int .u32 0, .int .i64 code]) ∧ Below w.heap.size w w'
set_option maxRecDepth 100000 in
set_option maxHeartbeats 1000000 in
theorem mEval_none {A : Option Addr} {n c : Nat} {w : World} {z : Int} (p : Nat) (hpr : ¬ Nt.Pr p) (hp : p < 4294967296) (hT : Tabs w) :
    Calls Tryd.prog 22 #[.slice A n c, .int .u32 z, .int .u32 p] w (RetN0 40 w) := by
  have HP := Lib.hid hpr
  have hB0 := below1 w (.cells #[.slice A n c] 26)
  have hT0 := hT.below hB0
  clear hpr
  go_enter Tryd.func22, Tryd.ntmps22
  go_wp2_with fail
  refine (mall_none p HP.out hp hT0).mono ?_
  rintro _ w1 ⟨rfl, hb1⟩
  have HB := Lib.hid ((hB0.trans (hb1.mono hB0.size)).alloc (Nat.le_trans hB0.size hb1.size) (.cells #[.int .u64 0] 63))
  go_wp2
  go_ret2
  exact ⟨rfl, HB.out⟩
set_option maxRecDepth 100000 in
set_option maxHeartbeats 1000000 in
theorem mEval_ok {A : Option Addr} {n c : Nat} {L : List Nat} {w : World} (a p : Nat) (ha : a < 4294967296) (hpr : Nt.Pr p) (hp : p < 4294967296) (h : RdU w w.heap.size A n c L) (hn : n ≤ 1099511627776) (hT : Tabs w) :
    Calls Tryd.prog 22 #[.slice A n c, .int .u32 a, .int .u32 p] w (RetEv p (Pm.ev L a) w) := by
  have HA := Lib.hid (mall1_any p hpr hp h hn hT)
  have h0 := hpr.pos
  have hpn : ¬ p = 0 := by omega
  clear hpr
  go_enter Tryd.func22, Tryd.ntmps22
  go_wp2_with fail
  refine HA.out.mono ?_
  rintro _ w1 ⟨g, A1, n1, c1, M1, rfl, hg, hcg0, hp1, hM, hn1, hb1⟩
  have hB2 := below1 w1 (.cells #[.int .u64 p] 63)
  have HC0 := Lib.hid ((hB2.cell (p := ⟨g, 0, none⟩) hg).trans hcg0)
  have hP1 := hp1.next hB2
  have HB := Lib.hid (hb1.trans (hB2.mono hb1.size))
  have hsz : w1.heap.size < (w1.alloc (.cells #[.int .u64 p] 63)).heap.size := by simp
  have HCB := Lib.hid (show (w1.alloc (.cells #[.int .u64 p] 63)).cell? ⟨w1.heap.size, 0, none⟩ = some (.int .u64 p) by go_simp)
  clear hcg0 hB2 hp1
  go_wp2_with fail
  generalize w1.alloc (.cells #[.int .u64 p] 63) = W2 at HC0 HCB hP1 HB hsz ⊢
  have hgl : g < W2.heap.size := Nat.lt_trans hg hsz
  have hc0 := HC0.out
  have hcb := HCB.out
  obtain ⟨q, hq⟩ : ∃ q, q = a % p := ⟨_, rfl⟩
  have hq32 : q < 4294967296 := by rw [hq]; exact Nat.lt_of_le_of_lt (Nat.mod_le _ _) ha
  have htm : (a : Int).tmod p = q := by rw [hq]; rfl
  have hw1 : IntKind.u64.wrap (a : Int) = a := wide_u64 ha
  have hw2 : IntKind.u32.wrap (q : Int) = q := wide_u32 hq32
  have HQ := Lib.hid hq
  have HE := Lib.hid (meval_any p q h0 hp hq32 hP1.rd.drew)
  clear hq
  go_region_held3 (fun w' => w'.cell? ⟨w1.heap.size, 0, none⟩ = some (.int .u64 p) ∧ w'.cell? ⟨g, 0, none⟩ = some (.slice A1 n1 c1)) (go_keep)
    (first
      | (go_at_call 41; refine HE.out.mono ?_; rintro _ w3 ⟨v, rfl, hv, hz, hb3⟩; have hcb3 := (hb3.cell (p := ⟨w1.heap.size, 0, none⟩) hsz).trans hcb; have hc03 := (hb3.cell (p := ⟨g, 0, none⟩) hgl).trans hc0))
  have HF := Lib.hid (HB.out.drew.trans (hb3.mono HB.out.size))
  have HZ := Lib.hid (hz.out.trans ((Pm.ev_of_cg hM.out.2 (q : Int)).trans (Pm.ev_cz L (by rw [HQ.out]; exact Pm.cz_mod a))))
  clear hcb3 hc03
  go_wp2
  go_ret2
  exact ⟨v, rfl, hv, HZ.out, HF.out⟩
end Go.Proofs.YtmgacikdgbedfaaDoor

/- modpoly: lists of nodes; no polynomials and the field. -/
namespace Go.Proofs.YtmgacikdgbedfaaDoor
open Go.RowKit Go.IntWalk Go.Maps
attribute [local go_sem ↓] Go.wp_at_zero Go.wp_at_succ

/-- The field comes back, with no polynomials. -/
def RetA0 (p : Nat) (w : World) (e : Ending) (w' : World) : Prop :=
  ∃ g : Nat, e = .returned (.tuple #[.agg #[.int .u64 p], .slice (some ⟨g, 0, none⟩) 0 0, .int .i64 0]) ∧ Below w.heap.size w w'
set_option maxRecDepth 100000 in
set_option maxHeartbeats 1000000 in
theorem mall0_any {w : World} (p : Nat) (hpr : Nt.Pr p) (hp : p < 4294967296) (hT : Tabs w) :
    Calls Tryd.prog 30 #[.int .u32 p, .slice none 0 0] w (RetA0 p w) := by
  have HP := Lib.hid hpr
  have hmk : ∀ W : World, (Instr.makeSlice 64 (.int .i64 0) (.int .i64 0)).run Tryd.prog W = .ok (.slice (some ⟨W.heap.size, 0, none⟩) 0 0) (W.alloc (.cells (madeCells #[.slice none 0 0] 0) 25)) := fun W => make_slices 0 (by omega) W
  have hT0 := hT.alloc (.cells #[.int .u64 0] 63)
  clear hpr
  go_enter Tryd.func30, Tryd.ntmps30
  go_wp2_with fail
  refine (is_true HP.out rfl hp _ hT0).mono ?_
  rintro _ _ ⟨rfl, rfl⟩
  go_wp2_with fail
  have HC0 := Lib.hid (show (((w.alloc (.cells #[.int .u64 0] 63)).alloc (.cells #[.int .u64 p] 63)).alloc (.cells (madeCells #[.slice none 0 0] 0) 25)).cell? ⟨w.heap.size, 0, none⟩ = some (.int .u64 0) by go_simp)
  have HF0 := Lib.hid (show (((w.alloc (.cells #[.int .u64 0] 63)).alloc (.cells #[.int .u64 p] 63)).alloc (.cells (madeCells #[.slice none 0 0] 0) 25)).frozen? ⟨w.heap.size, 0, none⟩ = false by go_simp)
  have HC1 := Lib.hid (show (((w.alloc (.cells #[.int .u64 0] 63)).alloc (.cells #[.int .u64 p] 63)).alloc (.cells (madeCells #[.slice none 0 0] 0) 25)).cell? ⟨w.heap.size + 1, 0, none⟩ = some (.int .u64 p) by go_simp)
  have hB0 : Below w.heap.size w (((w.alloc (.cells #[.int .u64 0] 63)).alloc (.cells #[.int .u64 p] 63)).alloc (.cells (madeCells #[.slice none 0 0] 0) 25)) := ((below1 w _).alloc (by simp) _).alloc (by simp; omega) _
  clear hmk
  generalize ((w.alloc (.cells #[.int .u64 0] 63)).alloc (.cells #[.int .u64 p] 63)).alloc (.cells (madeCells #[.slice none 0 0] 0) 25) = W3 at HC0 HF0 HC1 hB0 ⊢
  have hc0 := HC0.out
  have hf0 := HF0.out
  have hc1 := HC1.out
  have hcn : (W3.setCell ⟨w.heap.size, 0, none⟩ (.int .u64 p)).cell? ⟨w.heap.size, 0, none⟩ = some (.int .u64 p) := by go_simp
  have HB := Lib.hid (hB0.setCell (p := ⟨w.heap.size, 0, none⟩) (Nat.le_refl _) (.int .u64 p))
  refine wp_loop_rounds 1 ?_
  rw [rounds_succ]
  go_wp2
  refine bodyPost_ret (v := .tuple #[.agg #[.int .u64 p], .slice (some ⟨w.heap.size + 1 + 1, 0, none⟩) 0 0, .int .i64 0]) (by simp [results, Tryd.results30, go_sem, hcn]) rfl ?_
  exact ⟨w.heap.size + 1 + 1, rfl, HB.out⟩

theorem infoNode : (Tryd.prog.info? 49).map (fun i => (i.zero, i.size, i.bytes)) = some (some (.agg #[.int .u32 0, .int .u32 0]), 2, 8) := by kernel_rfl
/-- The cells of a list of nodes. -/
def ncells (L : List (Nat × Nat)) : List Value := L.flatMap fun x => [Value.int .u32 x.1, Value.int .u32 x.2]
theorem ncells_append (L M : List (Nat × Nat)) : ncells (L ++ M) = ncells L ++ ncells M := by simp [ncells]
theorem ncells_one (p k : Nat) : ncells [(p, k)] = [Value.int .u32 p, Value.int .u32 k] := rfl
theorem ncells_get0 (L : List (Nat × Nat)) : ∀ (i : Nat) (x : Nat × Nat), L[i]? = some x → (ncells L)[i * 2]? = some (.int .u32 x.1) ∧ (ncells L)[i * 2 + 1]? = some (.int .u32 x.2) := by
  induction L with
  | nil => intro i x h; simp at h
  | cons a L ih =>
    intro i x h
    have e : ncells (a :: L) = .int .u32 a.1 :: .int .u32 a.2 :: ncells L := by simp [ncells]
    cases i with
    | zero => simp at h; subst h; rw [e]; simp
    | succ i =>
      simp at h
      obtain ⟨h1, h2⟩ := ih i x h
      rw [e, show (i + 1) * 2 = i * 2 + 1 + 1 by omega]
      simpa using ⟨h1, h2⟩
/-- The nodes can be read. -/
structure NodAt (W : World) (ad : Option Addr) (L : List (Nat × Nat)) : Prop where
  at_ : ∀ (i : Nat) (x : Nat × Nat), L[i]? = some x → ∃ g, ad = some ⟨g, 0, none⟩ ∧ g < W.heap.size ∧ W.cell? ⟨g, i * 2, none⟩ = some (.int .u32 x.1) ∧ W.cell? ⟨g, i * 2 + 1, none⟩ = some (.int .u32 x.2)
theorem nod_slice {W : World} {base : Nat} {T : TypeId} {v : Value} {L : List (Nat × Nat)} (h : W.ownsRow base T 2 v L.length (ncells L)) :
    ∃ ad cap, v = .slice ad L.length cap ∧ NodAt W ad L := by
  rcases h.2 with ⟨rfl, hn⟩ | ⟨g, cap, cur, rfl, hb, hg, _⟩
  · have : L = [] := List.eq_nil_of_length_eq_zero hn
    subst this
    exact ⟨none, 0, rfl, ⟨fun i x hx => by simp at hx⟩⟩
  · refine ⟨_, _, rfl, ⟨fun i x hx => ?_⟩⟩
    obtain ⟨h1, h2⟩ := ncells_get0 L i x hx
    have hlt : i < L.length := (List.getElem?_eq_some_iff.1 hx).1
    refine ⟨g, rfl, ?_, (h.cellAt (i * 2) (by omega)).trans h1, (h.cellAt (i * 2 + 1) (by omega)).trans h2⟩
    apply Classical.byContradiction
    intro hc
    rw [Array.getElem?_eq_none (by omega)] at hg
    cases hg
theorem NodAt.below {W W' : World} {ad : Option Addr} {L : List (Nat × Nat)} (h : NodAt W ad L) (hb : Below W.heap.size W W') : NodAt W' ad L :=
  ⟨fun i x hx => by
    obtain ⟨g, h1, h2, h3, h4⟩ := h.at_ i x hx
    exact ⟨g, h1, Nat.lt_of_lt_of_le h2 hb.size, (hb.cell (p := ⟨g, i * 2, none⟩) h2).trans h3, (hb.cell (p := ⟨g, i * 2 + 1, none⟩) h2).trans h4⟩⟩
end Go.Proofs.YtmgacikdgbedfaaDoor

/- modpoly: Interp. -/
namespace Go.Proofs.YtmgacikdgbedfaaDoor
open Go.RowKit Go.IntWalk Go.Maps
attribute [local go_sem ↓] Go.wp_at_zero Go.wp_at_succ

theorem keyU : Keyed Tryd.prog 27 := int_keyed Tryd.underlying27
theorem zeroI (w : World) : (zeroValue 3).run Tryd.prog w = .ok (.int .i64 0) w := by kernel_rfl
/-- The map holds no number but those of the first k places. -/
def Seen (p : Nat) (ns : List (Nat × Nat)) (k : Nat) (D : DataW Unit) : Prop :=
  IsMap D ∧ ∀ q : Nat, (∀ x ∈ ns.take k, ¬ x.1 % p = q) → D.atKey (.int .u32 q) (.lit (.int .i64 0)) = .lit (.int .i64 0)
theorem Seen.more {p : Nat} {ns : List (Nat × Nat)} {k : Nat} {D : DataW Unit} {x : Nat × Nat} (h : Seen p ns k D) (hx : ns[k]? = some x) (d : DataW Unit) {z : Int} (hz : z = (x.1 % p : Nat)) : Seen p ns (k + 1) (D.put (.int .u32 z) d) := by
  subst hz
  refine ⟨h.1.put _ _, fun q hq => ?_⟩
  rw [List.take_add_one, hx] at hq
  have h1 : ¬ x.1 % p = q := hq x (by simp)
  rw [atKey_put_other (fun e => h1 (by injection e with _ e; omega))]
  exact h.2 q fun y hy => hq y (by simp [hy])
/-- No two nodes at one place. -/
def Apart (p : Nat) (ns : List (Nat × Nat)) : Prop := ns.Pairwise fun x y => ¬ x.1 % p = y.1 % p
theorem Apart.at_ {p : Nat} {ns : List (Nat × Nat)} (h : Apart p ns) {k : Nat} {y : Nat × Nat} (hy : ns[k]? = some y) : ∀ x ∈ ns.take k, ¬ x.1 % p = y.1 % p := by
  intro x hx
  obtain ⟨i, hi, rfl⟩ := List.mem_iff_getElem.1 hx
  have hk := (List.getElem?_eq_some_iff.1 hy)
  simp at hi
  have h1 := List.pairwise_iff_getElem.1 h i k (by omega) hk.1 (by omega)
  rw [hk.2] at h1
  rw [List.getElem_take]
  exact h1
theorem look0 {X : DataW Unit} {c : Int} (h1 : X = .lit (.int .i64 0)) (h2 : X = .lit (.int .i64 c)) : c = 0 := by
  rw [h1] at h2
  injection h2 with h2
  injection h2 with _ h2
  exact h2.symm

/-- The nodes modulo p. -/
def nm (p : Nat) (ns : List (Nat × Nat)) : List (Int × Int) := ns.map fun q => (((q.1 % p : Nat) : Int), ((q.2 % p : Nat) : Int))
theorem nm_more {p : Nat} {ns : List (Nat × Nat)} {k : Nat} {x : Nat × Nat} (hx : ns[k]? = some x) : nm p (ns.take (k + 1)) = nm p (ns.take k) ++ [(((x.1 % p : Nat) : Int), ((x.2 % p : Nat) : Int))] := by
  unfold nm; rw [List.take_add_one, hx]; simp
/-- The rounds' polynomials. -/
structure Ip (p b : Nat) (ns : List (Nat × Nat)) (W : World) (A1 : Option Addr) (n1 c1 : Nat) (O : List Nat) (A2 : Option Addr) (n2 c2 : Nat) (B : List Nat) : Prop where
  po : Po W b A1 n1 c1 O
  pb : Po W b A2 n2 c2 B
  no : Pm.Pn p O
  nb : Pm.Pn p B
  nw : Pm.Nw p (nm p ns) O B
theorem Ip.sizes {p b : Nat} {ns : List (Nat × Nat)} {W : World} {A1 : Option Addr} {n1 c1 : Nat} {O : List Nat} {A2 : Option Addr} {n2 c2 : Nat} {B : List Nat} (h : Ip p b ns W A1 n1 c1 O A2 n2 c2 B) : n1 ≤ ns.length ∧ n2 ≤ ns.length + 1 := by
  have h1 := h.nw.lo
  have h2 := h.nw.lb
  rw [h.po.len] at h1
  rw [h.pb.len] at h2
  unfold nm at h1 h2
  simp at h1 h2
  exact ⟨h1, h2⟩
theorem Ip.nz {p b : Nat} (_ : 0 < p) {ns : List (Nat × Nat)} {W : World} {A1 : Option Addr} {n1 c1 : Nat} {O : List Nat} {A2 : Option Addr} {n2 c2 : Nat} {B : List Nat} {x : Nat × Nat} (h : Ip p b ns W A1 n1 c1 O A2 n2 c2 B) (hx : ∀ y ∈ ns, ¬ y.1 % p = x.1 % p)
    {v : Nat} (hv : Pm.cz p v (Pm.ev B ((x.1 % p : Nat) : Int))) : ¬ v % p = 0 := by
  intro h0
  refine h.nw.nz ((x.1 % p : Nat) : Int) (fun q hq hd => ?_) ?_
  · obtain ⟨y, hy, rfl⟩ := List.mem_map.1 hq
    refine hx y hy ?_
    have h1 : Pm.cz p ((x.1 % p : Nat) : Int) ((y.1 % p : Nat) : Int) := hd
    exact (Pm.cz_eq (Nat.mod_lt _ ‹_›) (Nat.mod_lt _ ‹_›) h1).symm
  · have h1 := hv.symm.trans (Pm.cz.of_zero h0)
    unfold Pm.cz at h1
    rwa [Int.sub_zero] at h1
/-- One node more. -/
theorem Ip.step {p b b' : Nat} (hp : Nt.Pr p) {ns : List (Nat × Nat)} {k : Nat} {W W' : World} {A1 : Option Addr} {n1 c1 : Nat} {O : List Nat} {A2 : Option Addr} {n2 c2 : Nat} {B : List Nat} {x : Nat × Nat} (hx : ns[k]? = some x) (h : Ip p b (ns.take k) W A1 n1 c1 O A2 n2 c2 B)
    {A3 : Option Addr} {n3 c3 : Nat} {O' : List Nat} {A4 : Option Addr} {n4 c4 : Nat} {B' S : List Nat} {v1 u v2 v3 c d : Nat}
    (z1 : Pm.cz p v1 (Pm.ev O ((x.1 % p : Nat) : Int))) (z2 : Pm.cz p u (((x.2 % p : Nat) : Int) - v1)) (z3 : Pm.cz p v2 (Pm.ev B ((x.1 % p : Nat) : Int))) (z4 : Pm.cz p ((v3 : Int) * v2) 1) (z5 : Pm.cz p c ((u : Int) * v3))
    (hS : Pm.Cg p (Pm.co S) (fun k => (c : Int) * Pm.co B k)) (hO : Pm.Pn p O' ∧ Pm.Cg p (Pm.co O') (fun k => Pm.co O k + Pm.co S k)) (z6 : Pm.cz p d (0 - ((x.1 % p : Nat) : Int))) (hB : Pm.Pn p B' ∧ Pm.Cg p (Pm.co B') (Pm.cv (Pm.co B) (Pm.co [d, 1])))
    (p3 : Po W' b' A3 n3 c3 O') (p4 : Po W' b' A4 n4 c4 B') (hb : b ≤ b') : Ip p b (ns.take (k + 1)) W' A3 n3 c3 O' A4 n4 c4 B' := by
  refine ⟨p3.base hb, p4.base hb, hO.1, hB.1, ?_⟩
  rw [nm_more hx]
  refine h.nw.step hp (c := c) ?_ hO.1 (hO.2.trans fun k => (Pm.cz.refl _).add (hS k)) rfl (fun z => ?_) hB.1 hB.2
  · have h1 := z5.mul z3.symm
    have h2 : Pm.cz p ((u : Int) * v3 * v2) ((u : Int) * 1) := by
      rw [Int.mul_assoc]; exact (Pm.cz.refl _).mul z4
    rw [Int.mul_one] at h2
    exact (h1.trans h2).trans (z2.trans ((Pm.cz.refl _).sub z1))
  · show Pm.cz p ((d : Int) + z * (1 + z * 0)) (z - ((x.1 % p : Nat) : Int))
    rw [Int.mul_zero, Int.add_zero, Int.mul_one]
    have := z6.add (Pm.cz.refl (p := p) z)
    rwa [show (0 : Int) - ((x.1 % p : Nat) : Int) + z = z - ((x.1 % p : Nat) : Int) by omega] at this
theorem Ip.start {p b g : Nat} (hp : Nt.Pr p) {ns : List (Nat × Nat)} {W : World} (hU : UB W g [1]) (hb : b ≤ g) : Ip p b (ns.take 0) W none 0 0 [] (some ⟨g, 0, none⟩) 1 1 [1] := by
  refine ⟨Po.nil _ _ 0 none (Nat.zero_le _), ?_, Pm.Pn.nil, one_pn hp.two_le, Pm.Nw.start hp⟩
  have := hU.po (b := b) (fun x hx => by simp at hx; omega) hb (k := 1) (c := 1) (Nat.le_refl _) (Nat.le_refl _) (by unfold maxLen; omega)
  exact this

theorem Po.drew {w : World} {b : Nat} {A : Option Addr} {n c : Nat} {L : List Nat} (h : Po w b A n c L) : Po w.drew b A n c L := ⟨h.len, h.le, h.mx, h.wd, h.at_⟩
theorem Ip.out {p b : Nat} {ns : List (Nat × Nat)} {W : World} {A1 : Option Addr} {n1 c1 : Nat} {O : List Nat} {A2 : Option Addr} {n2 c2 : Nat} {B : List Nat} (h : Ip p b ns W A1 n1 c1 O A2 n2 c2 B) : Pm.Pn p O ∧ O.length ≤ ns.length ∧ ∀ q ∈ ns, Pm.cz p (Pm.ev O (q.1 : Int)) q.2 := by
  refine ⟨h.no, by rw [h.po.len]; exact h.sizes.1, fun q hq => ?_⟩
  have h1 := h.nw.val (((q.1 % p : Nat) : Int), ((q.2 % p : Nat) : Int)) (List.mem_map.2 ⟨q, hq, rfl⟩)
  exact (Pm.ev_cz O (Pm.cz_mod q.1).symm).trans (h1.trans (Pm.cz_mod q.2))
theorem scl_short {p : Nat} (hp : 0 < p) {z : Int} {L M : List Nat} {w w' : World} {b B n c m d : Nat} {A A' : Option Addr} (hM : Pm.Pn p M ∧ Pm.Cg p (Pm.co M) (fun k => z * Pm.co L k)) (h : Po w b A m d M) (h' : RdU w' B A' n c L) : m ≤ n := by
  rw [← h.len, ← h'.len]
  refine hM.1.short hp fun k hk => (hM.2 k).trans ?_
  have := (Pm.cz.refl (p := p) z).mul (Pm.co_up (p := p) L k hk)
  rwa [Int.mul_zero] at this
theorem rd_two (W : World) {d : Nat} (hd : d < 4294967296) : RdU (W.alloc (.cells #[.int .u32 d, .int .u32 1] 27)) (W.alloc (.cells #[.int .u32 d, .int .u32 1] 27)).heap.size (some ⟨W.heap.size, 0, none⟩) 2 2 [d, 1] := by
  have hU := UB.new W [d, 1]
  have := hU.rd (fun x hx => by simp at hx; omega) (B := (W.alloc (.cells #[.int .u32 d, .int .u32 1] 27)).heap.size) (by simp) (k := 2) (Nat.le_refl _) (by show 2 ≤ maxLen; unfold maxLen; omega)
  exact this
theorem pn_two {p d : Nat} (h2 : 2 ≤ p) (hd : d < p) : Pm.Pn p [d, 1] := ⟨Pm.nm_of_top (.inr (by show (1 : Nat) ≠ 0; omega)), fun x hx => by simp at hx; omega⟩
theorem fsub0_any (p x : Nat) (h0 : 0 < p) (hp : p < 4294967296) (hx : x ≤ p) (w : World) :
    Calls Tryd.prog 43 #[.agg #[.int .u64 p], .int .u32 0, .int .u32 x] w (RetC p ((0 : Int) - x) w) := fsub_any p 0 x h0 hp (by omega) hx w

set_option maxRecDepth 100000 in
set_option maxHeartbeats 4000000 in
theorem mInterp_ok {ad : Option Addr} {c : Nat} {ns : List (Nat × Nat)} {w : World} (p : Nat) (hpr : Nt.Pr p) (hp : p < 4294967296) (h : NodAt w ad ns) (hw : ∀ x ∈ ns, x.1 < 4294967296 ∧ x.2 < 4294967296) (hn : ns.length ≤ 1000) (hap : Apart p ns) (hT : Tabs w) :
    Calls Tryd.prog 23 #[.slice ad ns.length c, .int .u32 p] w (RetPE (fun B => Pm.Pn p B ∧ B.length ≤ ns.length ∧ ∀ q ∈ ns, Pm.cz p (Pm.ev B (q.1 : Int)) q.2) w) := by
  have HA := Lib.hid (mall0_any p hpr hp hT)
  have HP := Lib.hid hpr
  have h0 := hpr.pos
  have hpn : ¬ p = 0 := by omega
  have HW := Lib.hid hw
  have HAP := Lib.hid hap
  obtain ⟨n, hnn⟩ : ∃ n, n = ns.length := ⟨_, rfl⟩
  rw [← hnn] at hn ⊢
  have HN := Lib.hid hnn
  have hmm := @run_makeMap Tryd.prog
  have hd30 : decide ((1000 : Int) < (n : Int)) = false := by simp; omega
  clear hpr hw hap hnn
  go_enter Tryd.func23, Tryd.ntmps23
  go_wp2_with fail
  refine HA.out.mono ?_
  rintro _ w1 ⟨g, rfl, hb1⟩
  have hB2 := below1 w1 (.cells #[.int .u64 p] 63)
  have HB := Lib.hid (hb1.trans (hB2.mono hb1.size))
  have HCB := Lib.hid (show (w1.alloc (.cells #[.int .u64 p] 63)).cell? ⟨w1.heap.size, 0, none⟩ = some (.int .u64 p) by go_simp)
  have hsz : w1.heap.size < (w1.alloc (.cells #[.int .u64 p] 63)).heap.size := by simp
  have hbw : w.heap.size ≤ w1.heap.size := hb1.size
  clear hB2 hb1
  go_wp2_with fail
  go_loopw [34] (fun i wr => ∃ (k : Nat) (D : DataW Unit), i = .int .i64 k ∧ k ≤ n ∧ wr.ownsMap Tryd.prog 27 (plainElem Tryd.prog 3) (w1.heap.size + 1) k D ∧ Hid (Seen p ns k D) ∧ wr.cell? ⟨w1.heap.size, 0, none⟩ = some (.int .u64 p) ∧ Below w.heap.size w wr ∧ w1.heap.size + 1 < wr.heap.size) (fun i _ => n - (intOf i).toNat)
  case atStart => exact ⟨0, _, rfl, Nat.zero_le _, by simpa using World.ownsMap_made (w1.alloc (.cells #[.int .u64 p] 63)) _ _ _, Lib.hid ⟨⟨_, rfl⟩, fun q _ => rfl⟩, by have := HCB.out; go_simp, HB.out.alloc HB.out.size _, by simp⟩
  case round =>
    obtain ⟨k, D, rfl, hk, hown, hS, hc, hB, hsw⟩ := hrel
    by_cases hkn : k < n
    · obtain ⟨⟨X, Y⟩, hx⟩ : ∃ x, ns[k]? = some x := ⟨_, List.getElem?_eq_getElem (by have := HN.out; omega)⟩
      obtain ⟨gn, hgn, hgl, hcx, hcy⟩ := (h.below hB).at_ k _ hx
      subst hgn
      have hxw := (HW.out _ (List.mem_of_getElem? hx)).1
      simp only at hcx hcy hxw
      have HX := Lib.hid hx
      have HSK := Lib.hid (hS.out.2 (X % p) fun y hy => HAP.out.at_ hx y hy)
      obtain ⟨q, hq⟩ : ∃ q, q = X % p := ⟨_, rfl⟩
      rw [← hq] at HSK
      have hq32 : q < 4294967296 := by rw [hq]; exact Nat.lt_of_le_of_lt (Nat.mod_le _ _) hxw
      have htm : (X : Int).tmod p = q := by rw [hq]; rfl
      have hw1 : IntKind.u64.wrap (X : Int) = X := wide_u64 hxw
      have hw2 : IntKind.u32.wrap (q : Int) = q := wide_u32 hq32
      have HQ := Lib.hid hq
      have hwf : (Lit.int .u32 (q : Int)).wf = true := WalkArith.wf_u32 ⟨by omega, by omega⟩
      have hsw' : w1.heap.size < wr.heap.size := by omega
      have hownA := hown.alloc (.cells #[.int .u32 X, .int .u32 Y] 49)
      clear hx hq
      go_wp2_with (first
        | (at_lookup; refine wpList_lookup_own_int _ rfl _ _ 75 rfl 27 3 .i64 keyU Tryd.underlying75 Tryd.underlying3 (zeroI _) (w1.heap.size + 1) k _ rfl hownA _ _ rfl (keyOf_int_mk Tryd.underlying27 hwf) ?_; intro c hat hwc; obtain rfl := look0 HSK.out hat)
        | (at_mapUpdate; refine wpList_mapUpdate_own _ rfl _ _ _ 75 rfl 27 3 keyU Tryd.underlying75 _ (w1.heap.size + 1) k _ rfl hownA (by unfold maxLen; omega) _ _ _ rfl rfl (keyOf_int_mk Tryd.underlying27 hwf) _ [] (plainElem_int Tryd.underlying3 (WalkArith.wf_i64 (by omega))) ?_; intro w2 hown2 hgrow2)
        | go_in)
      have hbl : Below (w1.heap.size + 1) wr w2 := ((Below.refl _ wr).alloc (by omega) _).grown hgrow2 (by simp; omega) (fun j e => by cases e; exact Nat.le_refl _)
      have HSE := Lib.hid (hS.out.more HX.out (.lit (.int .i64 ((k : Int) + 1))) (z := (q : Int)) (by rw [HQ.out]))
      exact ⟨⟨k + 1, _, by go_num, hkn, hown2, HSE, (hbl.cell (p := ⟨w1.heap.size, 0, none⟩) (by simp)).trans hc, (hB.alloc hB.size _).grown hgrow2 (by have := hB.size; simp; omega) (fun j e => by cases e; omega), Nat.lt_of_lt_of_le hsw hbl.size⟩, by simp [intOf]; omega⟩
    · obtain rfl : k = n := by omega
      have hsw' : w1.heap.size < wr.heap.size := by omega
      clear hown hS
      have HI0 := Lib.hid (Ip.start (ns := ns) HP.out (UB.new wr [1]) (Nat.le_of_lt (Nat.lt_of_le_of_lt hbw hsw')))
      obtain ⟨gu, hgu⟩ : ∃ gu, gu = wr.heap.size := ⟨_, rfl⟩
      have hB4 := Lib.hid (hB.alloc hB.size (.cells #[.int .u32 1] 27))
      have hc4 := Lib.hid (show (wr.alloc (.cells #[.int .u32 1] 27)).cell? ⟨w1.heap.size, 0, none⟩ = some (.int .u64 p) by go_simp)
      have hs4 : w1.heap.size < (wr.alloc (.cells #[.int .u32 1] 27)).heap.size := by simp; omega
      go_wp2_with fail
      have HIW := Lib.hid (show Ip p w.heap.size (ns.take 0) (wr.alloc (.cells #[.int .u32 1] 27)) none 0 0 [] (some ⟨gu, 0, none⟩) 1 1 [1] by rw [hgu]; exact HI0.out)
      rw [← hgu]
      clear hgu HI0 hc hB hsw hsw'
      generalize wr.alloc (.cells #[.int .u32 1] 27) = W4 at HIW hB4 hc4 hs4 ⊢
      go_loopw [12, 13, 63] (fun a b i wr => ∃ (j : Nat) (A1 : Option Addr) (n1 c1 : Nat) (O : List Nat) (A2 : Option Addr) (n2 c2 : Nat) (B : List Nat), i = .int .i64 j ∧ a = .slice A1 n1 c1 ∧ b = .slice A2 n2 c2 ∧ j ≤ k ∧ Hid (Ip p w.heap.size (ns.take j) wr A1 n1 c1 O A2 n2 c2 B) ∧ wr.cell? ⟨w1.heap.size, 0, none⟩ = some (.int .u64 p) ∧ w1.heap.size < wr.heap.size ∧ Hid (Below w.heap.size w wr)) (fun _ _ i _ => k - (intOf i).toNat)
      case atStart => exact ⟨0, _, _, _, _, _, _, _, _, rfl, rfl, rfl, Nat.zero_le _, HIW, hc4.out, hs4, hB4⟩
      case round =>
        clear HIW hc4 hs4 hB4
        obtain ⟨j, A1, n1, c1, O, A2, n2, c2, B, rfl, rfl, rfl, hj, hI, hc, hs, hB⟩ := hrel
        have hsz1 : n1 ≤ 1000 ∧ n2 ≤ 1001 := by
          have h1 := hI.out.sizes
          have h2 : (ns.take j).length ≤ 1000 := by have := HN.out; rw [List.length_take]; omega
          omega
        by_cases hjk : j < k
        · obtain ⟨⟨X, Y⟩, hx⟩ : ∃ x, ns[j]? = some x := ⟨_, List.getElem?_eq_getElem (by have := HN.out; omega)⟩
          obtain ⟨gn, hgn, hgl, hcx, hcy⟩ := (h.below hB.out).at_ j _ hx
          subst hgn
          have hxw := (HW.out _ (List.mem_of_getElem? hx)).1
          have hyw := (HW.out _ (List.mem_of_getElem? hx)).2
          simp only at hcx hcy hxw hyw
          have HX := Lib.hid hx
          have HAT := Lib.hid (HAP.out.at_ hx)
          obtain ⟨q, hq⟩ : ∃ q, q = X % p := ⟨_, rfl⟩
          obtain ⟨r, hr⟩ : ∃ r, r = Y % p := ⟨_, rfl⟩
          have hqp : q < p := by rw [hq]; exact Nat.mod_lt _ h0
          have hrp : r < p := by rw [hr]; exact Nat.mod_lt _ h0
          have hq32 : q < 4294967296 := by omega
          have hr32 : r < 4294967296 := by omega
          have htm : (X : Int).tmod p = q := by rw [hq]; rfl
          have htm' : (Y : Int).tmod p = r := by rw [hr]; rfl
          have hw1 : IntKind.u64.wrap (X : Int) = X := wide_u64 hxw
          have hw1' : IntKind.u64.wrap (Y : Int) = Y := wide_u64 hyw
          have hw2 : IntKind.u32.wrap (q : Int) = q := wide_u32 hq32
          have hw2' : IntKind.u32.wrap (r : Int) = r := wide_u32 hr32
          have HQ := Lib.hid hq
          have HR := Lib.hid hr
          have hB5 := Lib.hid (hB.out.alloc hB.out.size (.cells #[.int .u32 X, .int .u32 Y] 49))
          have HC5 := Lib.hid (show (wr.alloc (.cells #[.int .u32 X, .int .u32 Y] 49)).cell? ⟨w1.heap.size, 0, none⟩ = some (.int .u64 p) ∧ (wr.alloc (.cells #[.int .u32 X, .int .u32 Y] 49)).cell? ⟨wr.heap.size, 0, none⟩ = some (.int .u32 X) ∧ (wr.alloc (.cells #[.int .u32 X, .int .u32 Y] 49)).cell? ⟨wr.heap.size, 1, none⟩ = some (.int .u32 Y) from ⟨by go_simp, by go_simp, by go_simp⟩)
          have HP5 := Lib.hid (And.intro (hI.out.po.next (below1 wr (.cells #[.int .u32 X, .int .u32 Y] 49))) (hI.out.pb.next (below1 wr (.cells #[.int .u32 X, .int .u32 Y] 49))))
          have hs5 : w1.heap.size < (wr.alloc (.cells #[.int .u32 X, .int .u32 Y] 49)).heap.size := by simp; omega
          clear hx hq hr
          go_wp2_with fail
          generalize wr.alloc (.cells #[.int .u32 X, .int .u32 Y] 49) = W5 at hB5 HC5 HP5 hs5 ⊢
          have hc5 := HC5.out.1
          have hcx5 := HC5.out.2.1
          have hcy5 := HC5.out.2.2
          clear hc hcx hcy
          go_region_held3 (fun w' => w'.cell? ⟨w1.heap.size, 0, none⟩ = some (.int .u64 p) ∧ w'.cell? ⟨wr.heap.size, 0, none⟩ = some (.int .u32 X) ∧ w'.cell? ⟨wr.heap.size, 1, none⟩ = some (.int .u32 Y)) (go_keep) (fail)
          go_wp2_with fail
          have hB6 := Lib.hid hB5.out.drew
          have HC6 := Lib.hid (show W5.drew.cell? ⟨w1.heap.size, 0, none⟩ = some (.int .u64 p) from hc5)
          have HP6 := Lib.hid (show RdU W5.drew W5.drew.heap.size A1 n1 c1 O ∧ RdU W5.drew W5.drew.heap.size A2 n2 c2 B from ⟨HP5.out.1.rd.drew, HP5.out.2.rd.drew⟩)
          have hs6 : w1.heap.size < W5.drew.heap.size := hs5
          clear hB5 HC5 HP5 hs5 hc5 hcx5 hcy5
          generalize W5.drew = W6 at hB6 HC6 HP6 hs6 ⊢
          have hc6 := HC6.out
          have hr1 : RdU W6.drew W6.drew.heap.size A1 n1 c1 O := HP6.out.1.drew
          have HR1 := Lib.hid hr1
          have HR2 := Lib.hid (show RdU W6.drew W6.drew.heap.size A2 n2 c2 B from HP6.out.2.drew)
          have hs6' : w1.heap.size < W6.drew.heap.size := hs6
          have hc6' : W6.drew.cell? ⟨w1.heap.size, 0, none⟩ = some (.int .u64 p) := hc6
          have HT := Lib.hid (show Tabs W6.drew from (hT.below hB6.out).drew)
          have HNZ : Hid (∀ v : Nat, Pm.cz p v (Pm.ev B (q : Int)) → ¬ v % p = 0) := Lib.hid fun v hv => by
            rw [HQ.out] at hv
            exact hI.out.nz (x := (X, Y)) h0 HAT.out hv
          go_region_held3 (fun w' => w'.cell? ⟨w1.heap.size, 0, none⟩ = some (.int .u64 p)) (go_keep)
            (first
              | (go_at_call 41; refine (meval_any p q h0 hp hq32 hr1).mono ?_; rintro _ w5 ⟨v1, rfl, hv1, hz1, hb5⟩; have hc7 := (hb5.cell (p := ⟨w1.heap.size, 0, none⟩) hs6').trans hc6'; have hr2 := HR2.out.next hb5; have hs7 := Nat.lt_of_lt_of_le hs6' hb5.size; clear hr1)
              | (go_at_call 41; refine (meval_any p q h0 hp hq32 hr3).mono ?_; rintro _ w7 ⟨v2, rfl, hv2, hz3, hb7⟩; have hc9 := (hb7.cell (p := ⟨w1.heap.size, 0, none⟩) hs8).trans hc8; have hs9 := Nat.lt_of_lt_of_le hs8 hb7.size)
              | (go_at_call 43; refine (fsub_any p r v1 h0 hp hr32 (by omega) _).mono ?_; rintro _ w6 ⟨u, rfl, hu, hz2, hb6⟩; have hc8 := (hb6.cell (p := ⟨w1.heap.size, 0, none⟩) hs7).trans hc7; have hr3 := hr2.next hb6; have hs8 := Nat.lt_of_lt_of_le hs7 hb6.size)
              | (go_at_call 44; refine (finv_any p v2 HP.out hp (by omega) (HNZ.out v2 hz3.out) _ ((HT.out.below hb5).below hb6 |>.below hb7)).mono ?_; rintro _ w8 ⟨v3, rfl, hv3, hz4, hb8⟩; have hc10 := (hb8.cell (p := ⟨w1.heap.size, 0, none⟩) hs9).trans hc9; have hs10 := Nat.lt_of_lt_of_le hs9 hb8.size)
              | (go_at_call 42; refine (fmul_any p u v3 h0 hp (by omega) (by omega) _).mono ?_; rintro _ w9 ⟨cc, rfl, hcc, hz5, hb9⟩; have hc11 := (hb9.cell (p := ⟨w1.heap.size, 0, none⟩) hs10).trans hc10; have hs11 := Nat.lt_of_lt_of_le hs10 hb9.size))
          have hb69 := hb5.trans ((hb6.mono hb5.size).trans ((hb7.mono (Nat.le_trans hb5.size hb6.size)).trans ((hb8.mono (Nat.le_trans hb5.size (Nat.le_trans hb6.size hb7.size))).trans (hb9.mono (Nat.le_trans hb5.size (Nat.le_trans hb6.size (Nat.le_trans hb7.size hb8.size)))))))
          have HB9 := Lib.hid (hB6.out.drew.trans (hb69.mono hB6.out.size))
          have HO9 := Lib.hid (HR1.out.next hb69)
          have HB9' := Lib.hid (HR2.out.next hb69)
          have HZ1 := hz1
          clear hc6 hc6' hs6 hs6' HR1 HR2 HT HNZ hr2 hr3 hc7 hc8 hc9 hc10 hs7 hs8 hs9 hs10 hb5 hb6 hb7 hb8 hb9 hb69 HP6 HC6 hB6
          go_wp2_with fail
          have hc11' : w9.drew.cell? ⟨w1.heap.size, 0, none⟩ = some (.int .u64 p) := hc11
          have hs11' : w1.heap.size < w9.drew.heap.size := hs11
          have hrO : RdU w9.drew w9.drew.heap.size A1 n1 c1 O := HO9.out.drew
          have hrB : RdU w9.drew w9.drew.heap.size A2 n2 c2 B := HB9'.out.drew
          have HDO := Lib.hid (show ∀ (W : World) (x y : Nat), x < p → y < p → Calls Tryd.prog 46 #[.agg #[.int .u64 p], .int .u32 x, .int .u32 y] W (RetC p ((x : Int) + y) W) from fun W x y hx hy => fadd_any p x y h0 hp (by omega) (by omega) W)
          go_region_held3 (fun w' => w'.cell? ⟨w1.heap.size, 0, none⟩ = some (.int .u64 p)) (go_keep)
            (first
              | (go_at_call 39; refine (mscale_any p cc h0 hp (by omega) hrB (by omega)).mono ?_; rintro _ w10 ⟨As, ns', cs, S, rfl, hps, hS, hb10⟩; have hc12 := (hb10.cell (p := ⟨w1.heap.size, 0, none⟩) hs11').trans hc11'; have hs12 := Nat.lt_of_lt_of_le hs11' hb10.size; have hns : ns' ≤ n2 := scl_short h0 hS.out hps hrB)
              | (go_at_call 45; refine (meach_any (F := fun x y => x + y) p h0 hp (enters_of Tryd.func46 (by kernel_rfl) rfl) HDO.out rfl (hrO.next hb10) hps.rd (by omega) (by omega) hI.out.no.2 hS.out.1.2).mono ?_; rintro _ w11 ⟨A3, n3, c3, O3, rfl, hp3, hO3, hb11⟩; have hc13 := (hb11.cell (p := ⟨w1.heap.size, 0, none⟩) hs12).trans hc12; have hs13 := Nat.lt_of_lt_of_le hs12 hb11.size))
          all_goals
            have hb9_11 := hb10.trans (hb11.mono hb10.size)
            have HB11 := Lib.hid (HB9.out.drew.trans (hb9_11.mono HB9.out.size))
            have HB11' := Lib.hid (hrB.next hb9_11)
            have HP3 := Lib.hid (show Po w11 w9.drew.heap.size A3 n3 c3 O3 from hp3.base hb10.size)
            have HSZ := Lib.hid (show w9.drew.heap.size ≤ w11.drew.heap.size from hb9_11.size)
            clear hc11 hc11' hs11 hs11' hrO hrB HO9 HB9' hc12 hs12 hb10 hb11 hb9_11 hps hp3
            go_wp2_with fail
            have hc13' : w11.drew.cell? ⟨w1.heap.size, 0, none⟩ = some (.int .u64 p) := hc13
            have hs13' : w1.heap.size < w11.drew.heap.size := hs13
            have hrB : RdU w11.drew w11.drew.heap.size A2 n2 c2 B := HB11'.out.drew
            have hP3 : Po w11.drew w9.drew.heap.size A3 n3 c3 O3 := HP3.out.drew
            have h2p := HP.out.two_le
            go_region_held3 (fun w' => w'.cell? ⟨w1.heap.size, 0, none⟩ = some (.int .u64 p)) (go_keep)
              (first
                | (go_at_call 43; refine (fsub0_any p q h0 hp (by omega) _).mono ?_; rintro _ w12 ⟨dd, rfl, hdd, hz6, hb12⟩; have hc14 := (hb12.cell (p := ⟨w1.heap.size, 0, none⟩) hs13').trans hc13'; have hs14 := Nat.lt_of_lt_of_le hs13' hb12.size; have hrB12 := (hrB.next hb12).next (below1 w12 (.cells #[.int .u32 dd, .int .u32 1] 27)); have hrD := rd_two w12 (d := dd) (by omega))
                | (go_at_call 47; refine (mtimes_any p HP.out hp hrB12 hrD (by omega) (by omega) hI.out.nb (pn_two h2p hdd)).mono ?_; rintro _ w13 ⟨A4, n4, c4, B4, rfl, hp4, hB4', hb13⟩; have hc15 := (hb13.cell (p := ⟨w1.heap.size, 0, none⟩) (by simp; omega)).trans (((below1 w12 (.cells #[.int .u32 dd, .int .u32 1] 27)).cell (p := ⟨w1.heap.size, 0, none⟩) hs14).trans hc14)))
            have hb11_13 := hb12.trans (((below1 w12 (.cells #[.int .u32 dd, .int .u32 1] 27)).mono hb12.size).trans (hb13.mono (Nat.le_trans hb12.size (below1 w12 (.cells #[.int .u32 dd, .int .u32 1] 27)).size)))
            have HB13 := Lib.hid (HB11.out.drew.trans (hb11_13.mono HB11.out.size))
            have hI' := Ip.step (b' := w9.drew.heap.size) HP.out HX.out hI.out (O' := O3) (B' := B4) (c := cc) (d := dd) (by rw [← HQ.out]; exact HZ1.out) (by rw [← HR.out]; exact hz2.out) (by rw [← HQ.out]; exact hz3.out) hz4.out hz5.out hS.out.2 hO3.out (by rw [← HQ.out]; exact hz6.out) hB4'.out (hP3.next hb11_13) (hp4.base (Nat.le_trans HSZ.out (Nat.le_trans hb12.size (below1 w12 (.cells #[.int .u32 dd, .int .u32 1] 27)).size))) HB9.out.size
            have HI' := Lib.hid hI'
            have hs15 : w1.heap.size < w13.heap.size := Nat.lt_of_lt_of_le hs13' hb11_13.size
            clear hI' hb12 hb13 hrB12 hrD hrB hP3 hp4 hc14 hs14 hc13' hs13' hc13 hs13
            go_wp2
            go_roundw
            case rel => exact ⟨j + 1, _, _, _, _, _, _, _, _, by go_num, rfl, rfl, hjk, HI', hc15, hs15, HB13⟩
            case measure => simp [intOf]; omega
        · obtain rfl : j = k := by omega
          have HO := Lib.hid (show Pm.Pn p O ∧ O.length ≤ j ∧ ∀ q ∈ ns, Pm.cz p (Pm.ev O (q.1 : Int)) q.2 by
            have h1 := hI.out.out
            rw [List.take_of_length_le (by have := HN.out; omega)] at h1
            rw [HN.out]
            exact h1)
          go_wp2_with fail
          refine (mtold_any hI.out.po).mono ?_
          rintro _ _ ⟨A5, c5, rfl, hp5, rfl⟩
          go_wp2
          go_ret2
          exact ⟨A5, n1, c5, O, rfl, hp5, HO, hB.out⟩
end Go.Proofs.YtmgacikdgbedfaaDoor

/- The law ModpolyNodes: a polynomial is told by its values. -/
namespace Go.Proofs.YtmgacikdgbedfaaDoor
open Go.RowKit Go.IntWalk
attribute [local go_sem ↓] Go.wp_at_zero Go.wp_at_succ

/-- The nodes that the law has laid. -/
structure Nds (p : Nat) (L : List Nat) (k : Nat) (ns : List (Nat × Nat)) : Prop where
  ap : Apart p ns
  wd : ∀ x ∈ ns, x.1 < 4294967296 ∧ x.2 < 4294967296
  le : ns.length ≤ k
  val : ∀ x ∈ ns, Pm.cz p (x.2 : Nat) (Pm.ev L (x.1 : Int))
theorem Nds.start (p : Nat) (L : List Nat) : Nds p L 0 [] := ⟨List.Pairwise.nil, fun _ h => (by cases h), Nat.le_refl _, fun _ h => (by cases h)⟩
theorem Nds.skip {p k : Nat} {L : List Nat} {ns : List (Nat × Nat)} (h : Nds p L k ns) : Nds p L (k + 1) ns := ⟨h.ap, h.wd, Nat.le_succ_of_le h.le, h.val⟩
theorem Nds.more {p k v y : Nat} {L : List Nat} {ns : List (Nat × Nat)} (h : Nds p L k ns) (hv : v < 4294967296) (hy : y < 4294967296) (hn : ¬ ∃ x ∈ ns.take ns.length, x.1 % p = v % p) (hz : Pm.cz p y (Pm.ev L (v : Int))) : Nds p L (k + 1) (ns ++ [(v, y)]) := by
  rw [List.take_length] at hn
  refine ⟨List.pairwise_append.2 ⟨h.ap, List.pairwise_singleton _ _, fun a ha b hb e => hn ⟨a, ha, ?_⟩⟩, fun x hx => ?_, by have := h.le; simp; omega, fun x hx => ?_⟩
  · simp at hb; subst hb; exact e
  · rcases List.mem_append.1 hx with hx | hx
    · exact h.wd x hx
    · simp at hx; subst hx; exact ⟨hv, hy⟩
  · rcases List.mem_append.1 hx with hx | hx
    · exact h.val x hx
    · simp at hx; subst hx; exact hz
/-- What is known at enough places is told. -/
theorem nodes_same {p k : Nat} (hp : Nt.Pr p) {L M B : List Nat} {ns : List (Nat × Nat)} (h : Nds p L k ns) (hB : Pm.Pn p B ∧ B.length ≤ ns.length ∧ ∀ q ∈ ns, Pm.cz p (Pm.ev B (q.1 : Int)) q.2) (hM : Pm.Pn p M ∧ Pm.Cg p (Pm.co M) (Pm.co L)) (hl : M.length ≤ ns.length) : B = M := by
  refine Pm.interp_unique hp (R := ns.map fun q => (q.1 : Int)) hB.1 hM.1 (by simpa using hB.2.1) (by simpa using hl) ?_ fun x hx => ?_
  · refine List.pairwise_map.2 (h.ap.imp fun {a b} hab hd => hab ?_)
    have h1 : Pm.cz p ((b.1 : Nat) : Int) ((a.1 : Nat) : Int) := hd
    have h2 := (Pm.cz_mod (p := p) a.1).trans (h1.symm.trans (Pm.cz_mod b.1).symm)
    exact Pm.cz_eq (Nat.mod_lt _ hp.pos) (Nat.mod_lt _ hp.pos) h2
  · obtain ⟨q, hq, rfl⟩ := List.mem_map.1 hx
    exact (hB.2.2 q hq).trans ((h.val q hq).trans (Pm.ev_of_cg hM.2 (q.1 : Int)).symm)
/-- One node more in the row. -/
theorem nod_more {w W w1 : World} {v v' : Value} {L : List (Nat × Nat)} {p k : Nat} {T t : TypeId} (hB : Below w.heap.size w W) (hown : W.ownsRow w.heap.size T 2 v L.length (ncells L))
    (hown' : w1.ownsRow w.heap.size T 2 v' (L.length + 1) (ncells L ++ [Value.int .u32 p, Value.int .u32 k])) (hg : (W.alloc (.cells #[Value.int .u32 p, Value.int .u32 k] t)).grownBy w1 v.ownBlock) :
    w1.ownsRow w.heap.size T 2 v' (L ++ [(p, k)]).length (ncells (L ++ [(p, k)])) ∧ Below w.heap.size w w1 := by
  refine ⟨?_, (hB.alloc hB.size _).grown hg (by have := hB.size; simp; omega) (own_block hown)⟩
  rw [ncells_append, ncells_one, List.length_append]
  exact hown'
theorem walk_nodes_none (p : Nat) (hp : p < 4294967296) {a b : Value} (hpr : ¬ Nt.Pr p) (w : World) (hT : Tabs w) :
    Calls Tryd.prog 6 #[a, b, .int .u32 p] w (RetT w) := by
  have HP := Lib.hid (Nt.isP_false_iff.2 hpr)
  clear hpr
  go_enter Tryd.func6, Tryd.ntmps6
  go_wp2_with fail
  refine (refIs_any p rfl hp _).mono ?_
  rw [HP.out]
  rintro _ _ ⟨rfl, rfl⟩
  go_wp2_with fail
  refine (awake_any w hT).mono ?_
  rintro _ w6 ⟨rfl, hb6⟩
  go_wp2
  go_ret
  exact ⟨rfl, hb6⟩
theorem walk_nodes_many (p : Nat) (hp : p < 4294967296) {a : Value} {A : Option Addr} {n c : Nat} (hn : 1000 < n) (hpr : Nt.Pr p) (w : World) (hT : Tabs w) :
    Calls Tryd.prog 6 #[a, .slice A n c, .int .u32 p] w (RetT w) := by
  have HP := Lib.hid (Nt.isP_iff.2 hpr)
  have hn' : (1000 : Int) < (n : Int) := by omega
  clear hpr
  go_enter Tryd.func6, Tryd.ntmps6
  go_wp2_with fail
  refine (refIs_any p rfl hp _).mono ?_
  rw [HP.out]
  rintro _ _ ⟨rfl, rfl⟩
  go_wp2_with fail
  refine (awake_any w hT).mono ?_
  rintro _ w6 ⟨rfl, hb6⟩
  go_wp2
  go_ret
  exact ⟨rfl, hb6⟩

theorem seen_more {p q v x y : Nat} {ns : List (Nat × Nat)} (hx : ns[q]? = some (x, y)) : (∃ z ∈ ns.take (q + 1), z.1 % p = v % p) ↔ (∃ z ∈ ns.take q, z.1 % p = v % p) ∨ x % p = v % p := by
  rw [List.take_add_one, hx]
  constructor
  · rintro ⟨z, hz, e⟩
    rcases List.mem_append.1 hz with hz | hz
    · exact .inl ⟨z, hz, e⟩
    · simp at hz; subst hz; exact .inr e
  · rintro (⟨z, hz, e⟩ | e)
    · exact ⟨z, List.mem_append_left _ hz, e⟩
    · exact ⟨(x, y), by simp, e⟩
theorem cell_two_new (w : World) (x y : Value) (t : TypeId) : ∀ j u, [x, y][j]? = some u → (w.alloc (.cells #[x, y] t)).cell? ((⟨w.heap.size, 0, none⟩ : Addr).add j) = some u := by
  intro j u hj
  match j, hj with
  | 0, hj => simp at hj; subst hj; simp [Addr.add]
  | 1, hj => simp at hj; subst hj; simp [Addr.add]
  | (j + 2), hj => simp at hj
theorem nrow_next {w w' : World} {b : Nat} {T : TypeId} {sz n : Nat} {v : Value} {xs : List Value} (h : w.ownsRow b T sz v n xs) (hb : Below w.heap.size w w') : w'.ownsRow b T sz v n xs := by
  refine ⟨h.1, ?_⟩
  rcases h.2 with h0 | ⟨g, cap, cur, h1, h2, h3, h4⟩
  · exact .inl h0
  · exact .inr ⟨g, cap, cur, h1, h2, (hb.block g (Array.getElem?_eq_some_iff.1 h3).1).trans h3, h4⟩
theorem nrow_two {w : World} {b : Nat} {T : TypeId} {v : Value} {n : Nat} {xs : List Value} (h : w.ownsRow b T 2 v n xs) : ∃ ad cap, v = .slice ad n cap := by
  rcases h.2 with ⟨rfl, hn⟩ | ⟨g, cap, cur, rfl, _⟩
  · exact ⟨none, 0, by rw [hn]⟩
  · exact ⟨_, _, rfl⟩
set_option maxRecDepth 100000 in
set_option maxHeartbeats 4000000 in
theorem walk_nodes {A A' : Option Addr} {n n' c c' : Nat} {L X : List Nat} {w : World} (h : RdU w w.heap.size A n c L) (hn : n ≤ 1048576) (h' : RdU w w.heap.size A' n' c' X) (hn' : n' ≤ 1000) (p : Nat) (hp : p < 4294967296) (hpr : Nt.Pr p) (hT : Tabs w) :
    Calls Tryd.prog 6 #[.slice A n c, .slice A' n' c', .int .u32 p] w (RetT w) := by
  have HI := Lib.hid (Nt.isP_iff.2 hpr)
  have HP := Lib.hid hpr
  have h0 := hpr.pos
  have hpn : ¬ p = 0 := by omega
  have HLEN' := Lib.hid h'.len
  have HR := Lib.hid h
  have HR' := Lib.hid h'
  obtain ⟨i0, hi0, hz0, hz1, hz2⟩ := info_parts infoNode
  have hd : decide ((1000 : Int) < (n' : Int)) = false := by simp; omega
  clear hpr h h'
  go_enter Tryd.func6, Tryd.ntmps6
  go_wp2_with fail
  refine (refIs_any p rfl hp _).mono ?_
  rw [HI.out]
  rintro _ _ ⟨rfl, rfl⟩
  go_wp2_with fail
  go_loopw [7, 28] (fun l i wr => ∃ (k : Nat) (ad : Option Addr) (cap : Nat) (ns : List (Nat × Nat)), i = .int .i64 k ∧ l = .slice ad ns.length cap ∧ k ≤ n' ∧ Hid (Nds p L k ns) ∧ Hid (wr.ownsRow w.heap.size 49 2 (.slice ad ns.length cap) ns.length (ncells ns)) ∧ Hid (Below w.heap.size w wr)) (fun _ i _ => n' - (intOf i).toNat)
  case atStart => exact ⟨0, none, 0, [], rfl, rfl, Nat.zero_le _, Lib.hid (Nds.start p L), Lib.hid ⟨rfl, .inl ⟨rfl, rfl⟩⟩, Lib.hid (Below.refl _ _)⟩
  case round =>
    obtain ⟨k, ad, cap, ns, rfl, rfl, hk, hN, hO, hB⟩ := hrel
    have hnl : ns.length ≤ k := hN.out.le
    by_cases hkn : k < n'
    · obtain ⟨v, hv⟩ : ∃ v, X[k]? = some v := ⟨_, List.getElem?_eq_getElem (by rw [HLEN'.out]; exact hkn)⟩
      obtain ⟨hvw, ax, hax, hbx, hcx⟩ := (HR'.out.below hB.out).at_ k v hv
      subst hax
      have HNA := Lib.hid (show NodAt wr ad ns by
        obtain ⟨ad', cap', e, hA⟩ := nod_slice hO.out
        injection e with e; subst e; exact hA)
      obtain ⟨m, hm⟩ : ∃ m, m = ns.length := ⟨_, rfl⟩
      have hmk : m ≤ k := by omega
      have HM := Lib.hid hm
      clear hv
      rw [← hm]
      clear hm
      go_wp2_with fail
      obtain ⟨W, rfl⟩ : ∃ W : World, W = wr := ⟨_, rfl⟩
      go_loopw [10, 34] (fun b j wx => ∃ (q : Nat) (t : Bool), j = .int .i64 q ∧ b = .bool t ∧ q ≤ m ∧ Hid (t = true ↔ ∃ x ∈ ns.take q, x.1 % p = v % p) ∧ Hid (Below W.heap.size W wx)) (fun _ j _ => m - (intOf j).toNat)
      case atStart => exact ⟨0, false, rfl, rfl, Nat.zero_le _, Lib.hid (by simp), Lib.hid (Below.refl _ _)⟩
      case round =>
        clear hcx
        obtain ⟨q, t, rfl, rfl, hq, hT0, hbx'⟩ := hrel
        by_cases hqm : q < m
        · obtain ⟨⟨x, y⟩, hx⟩ : ∃ x, ns[q]? = some x := ⟨_, List.getElem?_eq_getElem (by have := HM.out; omega)⟩
          obtain ⟨gn, hgn, hgl, hc0, hc1⟩ := (HNA.out.below hbx'.out).at_ q _ hx
          subst hgn
          simp only at hc0 hc1
          have HB1 := Lib.hid (hbx'.out.alloc hbx'.out.size (.cells #[.int .u32 x, .int .u32 y] 49))
          have HX := Lib.hid (seen_more (p := p) (v := v) hx)
          have hcn : (wr.alloc (.cells #[.int .u32 x, .int .u32 y] 49)).cell? ⟨wr.heap.size, 0, none⟩ = some (.int .u32 x) := by go_simp
          have HCN := Lib.hid hcn
          clear hx hcn
          go_wp2_with fail
          clear hc0 hc1
          have hcn := HCN.out
          generalize wr.alloc (.cells #[.int .u32 x, .int .u32 y] 49) = wa at HB1 hcn HCN ⊢
          cases t
          · by_cases he : x % p = v % p
            · have he' : ((x : Int) % p == (v : Int) % p) = true := by
                rw [show (x : Int) % p = ((x % p : Nat) : Int) by omega, show (v : Int) % p = ((v % p : Nat) : Int) by omega, he]; simp
              have HE := Lib.hid he
              clear he
              go_quiet (fail)
              go_wp2
              go_roundw
              case rel => exact ⟨q + 1, true, by go_num, rfl, hqm, Lib.hid (by rw [HX.out]; simp [HE.out]), Lib.hid (below_drewN HB1.out nq)⟩
              case measure => simp [intOf]; omega
            · have he' : ((x : Int) % p == (v : Int) % p) = false := by
                rw [show (x : Int) % p = ((x % p : Nat) : Int) by omega, show (v : Int) % p = ((v % p : Nat) : Int) by omega]; simp; omega
              have HE := Lib.hid he
              clear he
              go_quiet (fail)
              go_wp2
              go_roundw
              case rel => exact ⟨q + 1, false, by go_num, rfl, hqm, Lib.hid (by rw [HX.out, ← hT0.out]; simp [HE.out]), Lib.hid (below_drewN HB1.out nq)⟩
              case measure => simp [intOf]; omega
          · go_quiet (fail)
            go_wp2
            go_roundw
            case rel => exact ⟨q + 1, true, by go_num, rfl, hqm, Lib.hid (by rw [HX.out, ← hT0.out]; simp), Lib.hid (below_drewN HB1.out nq)⟩
            case measure => simp [intOf]; omega
        · obtain rfl : q = m := by omega
          have HBr := Lib.hid (hB.out.trans (hbx'.out.mono hB.out.size))
          have HOr := Lib.hid (nrow_next hO.out hbx'.out)
          cases t
          · have HE := Lib.hid (mEval_ok v p hvw HP.out hp (HR.out.next HBr.out) (by omega) (hT.below HBr.out))
            have HNE := Lib.hid (show ¬ ∃ x ∈ ns.take ns.length, x.1 % p = v % p by rw [← HM.out]; intro h; exact absurd (hT0.out.2 h) (by simp))
            clear hT0 hbx' hB hO HNA
            go_wp2_with fail
            refine HE.out.mono ?_
            rintro _ w5 ⟨y, rfl, hy, hz, hb5⟩
            have HB5 := Lib.hid (HBr.out.trans (hb5.mono HBr.out.size))
            have HO5 := Lib.hid (nrow_next HOr.out hb5)
            have hy32 : y < 4294967296 := by omega
            have HMO := Lib.hid (hN.out.more hvw hy32 HNE.out hz.out)
            clear hb5 HOr HBr HE
            go_wp2_with fail
            refine (num_any _ _).mono ?_
            rintro _ _ ⟨z, rfl, hz', rfl⟩
            obtain rfl := hz'.out
            have hown : w5.ownsRow w.heap.size 49 2 (.slice ad q cap) q (ncells ns) := by rw [HM.out]; exact HO5.out
            have hownA := hown.alloc (.cells #[.int .u32 v, .int .u32 y] 49)
            go_wp2_with (at_builtin; refine wpList_append_own _ rfl _ _ 47 rfl w.heap.size 49 i0 (.agg #[.int .u32 0, .int .u32 0]) 2 8 Tryd.underlying47 hi0 hz0 hz1 hz2 rfl (by decide) _ _ _ rfl hownA ⟨w5.heap.size, 0, none⟩ 1 1 [.int .u32 v, .int .u32 y] rfl rfl (cell_two_new _ _ _ _) (by simp [Value.oneCell']) (by unfold maxLen; omega) (by omega) (by have := HB5.out.size; simp; omega) ?_; intro v' w6 hown' hgrow _; obtain ⟨ad', cap', rfl⟩ := nrow_two hown')
            have hmore := nod_more (L := ns) (p := v) (k := y) HB5.out HO5.out (by rw [← HM.out]; exact hown') (by rw [← HM.out]; exact hgrow)
            exact ⟨⟨k + 1, ad', cap', ns ++ [(v, y)], by go_num, by simp [HM.out], hkn, HMO, Lib.hid (by have h1 := hmore.1; rw [show (ns ++ [(v, y)]).length = q + 1 by simp [HM.out]] at h1 ⊢; exact h1), Lib.hid hmore.2⟩, by simp [intOf]; omega⟩
          · have HSK := Lib.hid hN.out.skip
            clear hT0 hbx' hB hO HNA
            go_wp2
            go_roundw
            case rel => exact ⟨k + 1, ad, cap, ns, by go_num, by rw [HM.out], hkn, HSK, HOr, HBr⟩
            case measure => simp [intOf]; omega
    · obtain rfl : k = n' := by omega
      have HNA := Lib.hid (show NodAt wr ad ns by
        obtain ⟨ad', cap', e, hA⟩ := nod_slice hO.out
        injection e with e; subst e; exact hA)
      go_wp2_with fail
      refine (mInterp_ok p HP.out hp HNA.out hN.out.wd (by omega) hN.out.ap (hT.below hB.out)).mono ?_
      rintro _ w5 ⟨A5, n5, c5, Bp, rfl, hp5, hB5, hb5⟩
      have HB5 := Lib.hid (hB.out.trans (hb5.mono hB.out.size))
      have hn5 : n5 ≤ ns.length := by have := hB5.out.2.1; rwa [hp5.len] at this
      go_wp2_with fail
      refine (num_any _ _).mono ?_
      rintro _ _ ⟨z, rfl, hz', rfl⟩
      obtain rfl := hz'.out
      have hd5 : decide ((ns.length : Int) < (n5 : Int)) = false := by simp; omega
      go_wp2_with fail
      refine (rNorm_any p h0 hp (HR.out.next HB5.out) (by omega)).mono ?_
      rintro _ w6 ⟨A6, n6, c6, M, rfl, hp6, hM, hb6⟩
      have HB6 := Lib.hid (HB5.out.trans (hb6.mono HB5.out.size))
      have HP5 := Lib.hid (hp5.next hb6)
      by_cases hl : ns.length < n6
      · have hl' : decide ((ns.length : Int) < (n6 : Int)) = true := by simp; omega
        go_wp2_with fail
        refine (awake_any w6 (hT.below HB6.out)).mono ?_
        rintro _ w7 ⟨rfl, hb7⟩
        have HF := Lib.hid (HB6.out.trans (hb7.mono HB6.out.size))
        go_wp2
        go_ret
        exact ⟨rfl, HF.out⟩
      · have hl' : decide ((ns.length : Int) < (n6 : Int)) = false := by simp; omega
        have hM6 := hp6.len
        go_wp2_with fail
        refine (rNorm_any p h0 hp (HR.out.next HB6.out) (by omega)).mono ?_
        rintro _ w7 ⟨A7, n7, c7, M7, rfl, hp7, hM7, hb7⟩
        have HB7 := Lib.hid (HB6.out.trans (hb7.mono HB6.out.size))
        have HP5' := Lib.hid (HP5.out.next hb7)
        have HEQ := Lib.hid (show Bp = M7 by
          have e : M7 = M := hM7.out.1.ext h0 hM.out.1 (hM7.out.2.trans hM.out.2.symm)
          exact nodes_same HP.out hN.out hB5.out hM7.out (by rw [e]; omega))
        have HSM := Lib.hid (lsame_any HP5'.out.rd hp7.rd)
        have HLL : Hid ((Bp == M7) = true) := Lib.hid (by rw [HEQ.out]; simp)
        rw [HLL.out] at HSM
        go_wp2_with fail
        refine HSM.out.mono ?_
        rintro _ _ ⟨rfl, j, rfl⟩
        have HBs := Lib.hid (below_drewN HB7.out j)
        clear HSM hb7 hb6 hb5
        generalize w7.drewN j = W5 at HBs ⊢
        go_wp2_with fail
        refine (awake_any W5 (hT.below HBs.out)).mono ?_
        rintro _ w8 ⟨rfl, hb8⟩
        have HF := Lib.hid (HBs.out.trans (hb8.mono HBs.out.size))
        go_wp2
        go_ret
        exact ⟨rfl, HF.out⟩
theorem walk_ModpolyNodes {A A' : Option Addr} {n n' c c' : Nat} {L L' : List Nat} {w : World} (h : RdU w w.heap.size A n c L) (_ : A = none → n = 0 ∧ c = 0) (hn : n ≤ 1048576) (h' : RdU w w.heap.size A' n' c' L') (_ : A' = none → n' = 0 ∧ c' = 0) (_ : n' ≤ 1048576) (p : Nat) (hp : p < 4294967296) (hT : Tabs w) :
    Calls Tryd.prog 6 #[.slice A n c, .slice A' n' c', .int .u32 p] w (RetT w) := by
  by_cases hpr : Nt.Pr p
  · rcases Nat.lt_or_ge 1000 n' with h1 | h1
    · exact walk_nodes_many p hp h1 hpr w hT
    · exact walk_nodes h hn h' h1 p hp hpr hT
  · exact walk_nodes_none p hp hpr w hT
end Go.Proofs.YtmgacikdgbedfaaDoor
