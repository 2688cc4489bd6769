/- The range-function Between: its contract, where the body writes cells of its own. -/
import Derived.Test.YtjnhfakdpnnboaaDoorW14
import Derived.RangeFuncNested
import Derived.RangeFuncBound
import Derived.RangeFuncCalls
import Derived.RangeFuncLeaves
import Derived.OwnWalkIn
import Derived.TacticsInMore
import Derived.LoopNIn
import Derived.LoopIn
namespace Go.Proofs.YtjnhfakdpnnboaaDoor
open Go.RowKit Go.IntWalk
attribute [local go_sem] Oper.semAt_some

/-- What the body keeps: the tables, and the two boxes. -/
structure KpB (Blo Bhi : Nat) (A B : World) : Prop where
  two : Below 2 A B
  lo : B.cell? ⟨Blo, 0, none⟩ = A.cell? ⟨Blo, 0, none⟩
  hi : B.cell? ⟨Bhi, 0, none⟩ = A.cell? ⟨Bhi, 0, none⟩
theorem KpB.refl (Blo Bhi : Nat) (A : World) : KpB Blo Bhi A A := ⟨Below.refl _ _, rfl, rfl⟩
theorem KpB.trans {Blo Bhi : Nat} {A B C : World} (h : KpB Blo Bhi A B) (k : KpB Blo Bhi B C) : KpB Blo Bhi A C := ⟨h.two.trans k.two, k.lo.trans h.lo, k.hi.trans h.hi⟩
theorem KpB.tabs {Blo Bhi : Nat} {A B : World} (h : KpB Blo Bhi A B) (hT : Tabs A) : Tabs B := hT.belowN (Nat.le_refl _) h.two

set_option maxHeartbeats 2000000 in
theorem between1_ink (n : Nat) (hn : 1 ≤ n) (l Blo Bhi lo hi : Nat) (hlo : lo < 4294967296) (hhi : hi < 4294967296) (J Jx : List Nat → World → Prop)
    (hY : ∀ pre (x : Nat) W, J pre W → pre.length < 4294967296 → YieldAt Fence.wide (n - 1) Tryd.prog l #[.int .u32 x] W fun e W' =>
      (e = .returned (.bool true) ∧ J (pre ++ [x]) W' ∧ KpB Blo Bhi W W') ∨ (e = .returned (.bool false) ∧ Jx (pre ++ [x]) W'))
    (W : World) (hT : Tabs W) (hcl : W.cell? ⟨Blo, 0, none⟩ = some (.int .u32 lo)) (hch : W.cell? ⟨Bhi, 0, none⟩ = some (.int .u32 hi)) (h0 : J [] W) :
    CallsIn Fence.wide n Tryd.prog 63 #[.func (.yield l) #[] #[], .pointer (some ⟨Blo, 0, none⟩), .pointer (some ⟨Bhi, 0, none⟩)] W fun e W' => (∃ v, e = .returned v) ∧
      ((∃ ys, ys = Nt.ups lo (hi + 1) ∧ J ys W') ∨ (∃ pre, (∃ k, lo ≤ k ∧ k ≤ hi ∧ Nt.Pr k ∧ pre = Nt.ups lo (k + 1)) ∧ Jx pre W')) := by
  have HCH := Lib.hid hch
  refine callsIn_of_wp Tryd.func63 rfl trivial ?_ rfl
  simp only [Tryd.ntmps63, List.size_toArray, List.length_cons, List.length_nil, Nat.reduceAdd, Nat.reduceSub, Array.replicate_succ, Array.replicate_zero, List.push_toArray, List.append_toArray, List.nil_append, List.cons_append]
  gi_wp2
  gi_loopw [4] (fun i wr => ∃ k : Nat, lo ≤ k ∧ (k ≤ hi + 1 ∨ k = lo) ∧ i = .int .u64 k ∧ J (Nt.ups lo k) wr ∧ KpB Blo Bhi W wr) (fun i _ => hi + 1 - (intOf i).toNat)
  case atStart => exact ⟨lo, Nat.le_refl _, Or.inr rfl, rfl, by rw [Nt.ups_self lo lo (Nat.le_refl _)]; exact h0, KpB.refl _ _ _⟩
  case round =>
    obtain ⟨k, hlk, hkh, rfl, hJ, hB⟩ := hrel
    have hch' : wr.cell? ⟨Bhi, 0, none⟩ = some (.int .u32 hi) := hB.hi.trans HCH.out
    have hT' := hB.tabs hT
    clear hch hcl h0
    by_cases hk : k ≤ hi
    · by_cases hp : Nt.Pr k
      · have hlen : (Nt.ups lo k).length < 4294967296 := by have := Nt.ups_len lo k; omega
        obtain ⟨fn, tmps, assign, body, hy, hR⟩ := hY _ k wr hJ hlen
        have HP := Lib.hid hp
        clear hp
        gi_wp2_with (refine ⟨trivial, ?_⟩; gi_at_call 35; refine (callsIn_wide.2 (is_true HP.out rfl (by omega) _ hT')).mono ?_; rintro _ _ ⟨rfl, rfl⟩)
        refine hR.mono ?_
        rintro e W3 (⟨rfl, hJ3, hk3⟩ | ⟨rfl, hJx3⟩)
        · gi_wp2
          go_roundw
          case rel => exact ⟨k + 1, by omega, by omega, by go_num, by rw [Nt.ups_yes hlk HP.out]; exact hJ3, hB.trans hk3⟩
          case measure => simp [intOf]; omega
        · gi_wp2
          refine bodyPost_ret (results_none rfl _ _ _) rfl ?_
          exact ⟨⟨_, rfl⟩, .inr ⟨_, ⟨k, hlk, hk, HP.out, (Nt.ups_yes hlk HP.out).symm⟩, hJx3⟩⟩
      · have HP := Lib.hid hp
        clear hp
        gi_wp2_with (refine ⟨trivial, ?_⟩; gi_at_call 35; refine (callsIn_wide.2 (is_false HP.out rfl (by omega) _ hT')).mono ?_; rintro _ _ ⟨rfl, rfl⟩)
        refine ⟨fun _ h => (by cases h), ?_⟩
        gi_wp2
        go_roundw
        case rel => exact ⟨k + 1, by omega, by omega, by go_num, by rw [Nt.ups_no hlk HP.out]; exact hJ, hB⟩
        case measure => simp [intOf]; omega
    · have he : Nt.ups lo k = Nt.ups lo (hi + 1) := by
        rcases hkh with h | h
        · rw [show k = hi + 1 by omega]
        · rw [h, Nt.ups_self lo lo (Nat.le_refl _), Nt.ups_self lo (hi + 1) (by omega)]
      have HE := Lib.hid he
      clear he
      gi_wp2
      go_end0
      exact ⟨⟨_, rfl⟩, .inl ⟨_, HE.out, hJ⟩⟩

/-- What Between hands back, ranged over: the body keeps the two boxes and the tables. -/
theorem between_stopsk (n : Nat) (hn : 1 ≤ n) (Blo Bhi lo hi : Nat) (hlo : lo < 4294967296) (hhi : hi < 4294967296) (w : World) (hbl : Blo < w.heap.size) (hbh : Bhi < w.heap.size) (hT : Tabs w)
    (hcl : w.cell? ⟨Blo, 0, none⟩ = some (.int .u32 lo)) (hch : w.cell? ⟨Bhi, 0, none⟩ = some (.int .u32 hi)) :
    SeqStopsK Fence.wide n Tryd.prog 63 #[.pointer (some ⟨Blo, 0, none⟩), .pointer (some ⟨Bhi, 0, none⟩)] (fun x : Nat => #[Value.int .u32 x]) (KpB Blo Bhi)
      (fun xs => xs = Nt.ups lo (hi + 1)) (fun pre => ∃ k, lo ≤ k ∧ k ≤ hi ∧ Nt.Pr k ∧ pre = Nt.ups lo (k + 1)) 4294967296 w := by
  intro l J Jx W hW _ _ hY h0
  exact between1_ink n hn l Blo Bhi lo hi hlo hhi J Jx hY W (hT.below hW) ((hW.cell (p := ⟨Blo, 0, none⟩) hbl).trans hcl) ((hW.cell (p := ⟨Bhi, 0, none⟩) hbh).trans hch) h0
theorem KpB.put {Blo Bhi : Nat} {w : World} (hl : Blo < w.heap.size) (hh : Bhi < w.heap.size) (h2 : 2 ≤ w.heap.size) (W : World) (l : Nat) (o o' : Obj) (hw : w.heap.size ≤ l) (h : W.heap[l]? = some o) (hc : o.isCells = false) (hk : o.isWalk = false) : KpB Blo Bhi W (W.putObj l o') := by
  have hB := belowK_b (w := w) (Nat.le_refl _) W l o o' hw h hc hk
  exact ⟨hB.mono h2, hB.cell (p := ⟨Blo, 0, none⟩) hl, hB.cell (p := ⟨Bhi, 0, none⟩) hh⟩
end Go.Proofs.YtjnhfakdpnnboaaDoor
