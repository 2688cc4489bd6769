/- qmat.grid: the iterator each, at fractions and at integers: its contract. -/
import Derived.Test.YtjnklbfhelbjgaaGreatSn26
import Derived.Test.YtjnklbfhelbjgaaGreatSn32
import Derived.RangeFuncNested
import Derived.RangeFuncBound
import Derived.RangeFuncCalls
import Derived.RangeFuncLeaves
import Derived.RangeFuncBox
import Derived.OwnWalkIn
import Derived.TacticsInMore
import Derived.LoopNIn
import Derived.LoopIn
import Derived.Shelf.Abstract
namespace Go.Proofs.YtjnklbfhelbjgaaGreat
open Go.RowKit Go.IntWalk Go.Shelf
attribute [local go_sem] Oper.semAt_some
structure KpO (n b : Nat) (W W' : World) : Prop where
 lo : Below n W W'
 at_ : W'.heap[b]? = W.heap[b]?
theorem KpO.refl (n b : Nat) (W : World) : KpO n b W W := ⟨Below.refl _ _, rfl⟩
theorem KpO.trans {n b : Nat} {A B C : World} (h : KpO n b A B) (k : KpO n b B C) : KpO n b A C := ⟨h.lo.trans k.lo, k.at_.trans h.at_⟩
theorem KpO.put {n b : Nat} {w : World} (hn : n ≤ w.heap.size) (hb : b < w.heap.size) (W : World) (l : Nat) (o o' : Obj) (hw : w.heap.size ≤ l) (h : W.heap[l]? = some o) (hc : o.isCells = false) (hk : o.isWalk = false) : KpO n b W (W.putObj l o') :=
 ⟨belowK_b hn W l o o' hw h hc hk, World.putObj_heap_other (by omega)⟩
theorem KpO.alloc {n b : Nat} {W : World} (hn : n ≤ W.heap.size) (hb : b < W.heap.size) (o : Obj) : KpO n b W (W.alloc o) := ⟨(Below.refl n W).alloc hn o, Below.heap_alloc W o b hb⟩
theorem exists_list {α : Type} {P : Nat → α → Prop} : ∀ n : Nat, (∀ j, j < n → ∃ x, P j x) → ∃ l : List α, l.length = n ∧ ∀ j x, l[j]? = some x → P j x
 | 0, _ => ⟨[], rfl, fun j x h => by simp at h⟩
 | n + 1, h => by
   obtain ⟨l, hl, hP⟩ := exists_list n fun j hj => h j (by omega)
   obtain ⟨x, hx⟩ := h n (by omega)
   refine ⟨l ++ [x], by simp [hl], fun j y hy => ?_⟩
   rcases Nat.lt_or_ge j n with h1 | h1
   ·rw [List.getElem?_append_left (by omega)] at hy
    exact hP j y hy
   ·rw [List.getElem?_append_right (by omega)] at hy
    have hj : j = n := by
     rcases Nat.eq_zero_or_pos (j - l.length) with e | e
     ·omega
     ·rw [List.getElem?_eq_none (by simp; omega)] at hy; cases hy
    subst hj
    rw [hl, Nat.sub_self] at hy
    simp at hy
    rw [← hy]
    exact hx
theorem flat_take {α : Type} {XX : List (List α)} {i : Nat} {row : List α} (h : XX[i]? = some row) : (XX.take i).flatten ++ row = (XX.take (i + 1)).flatten := by
 rw [List.take_add_one, h, List.flatten_append]
 simp
theorem app_take {α : Type} {pre row : List α} {j : Nat} {x : α} (h : row[j]? = some x) : (pre ++ row.take j) ++ [x] = pre ++ row.take (j + 1) := by
 rw [List.take_add_one, h, List.append_assoc]
 rfl
theorem flat_lt {α : Type} {XX : List (List α)} {i j : Nat} {row : List α} (h : XX[i]? = some row) (hj : j < row.length) : ((XX.take i).flatten ++ row.take j).length < XX.flatten.length := by
 have e : XX = XX.take i ++ (row :: XX.drop (i + 1)) := by
  have hi : i < XX.length := by
   rcases Nat.lt_or_ge i XX.length with h1 | h1
   ·exact h1
   ·rw [List.getElem?_eq_none h1] at h; cases h
  rw [List.getElem?_eq_getElem hi] at h
  injection h with h
  rw [← h, ← List.drop_eq_getElem_cons hi, List.take_append_drop]
 conv => rhs; rw [e]
 rw [List.flatten_append, List.length_append, List.length_append, List.flatten_cons, List.length_append, List.length_take]
 omega
abbrev GQ (W0 : World) (b : Nat) := { q : (Ent × Ent) × Rat // OwQ W0 b q.1.1.1 q.1.1.2.1 q.1.1.2.2.1 q.1.1.2.2.2 q.1.2.1 q.1.2.2.1 q.1.2.2.2.1 q.1.2.2.2.2 q.2 }
def gQ {W0 : World} {b : Nat} (x : GQ W0 b) : Value := .agg #[.bool x.1.1.1.1, .slice x.1.1.1.2.1 x.1.1.1.2.2.1 x.1.1.1.2.2.2, .bool x.1.1.2.1, .slice x.1.1.2.2.1 x.1.1.2.2.2.1 x.1.1.2.2.2.2]
structure GridQ {W0 : World} {b : Nat} (w : World) (B : Nat) (A : Option Addr) (n : Nat) (XX : List (List (GQ W0 b))) : Prop where
 len : XX.length = n
 at_ : ∀ (i : Nat) (row : List (GQ W0 b)), XX[i]? = some row → ∃ (ad : Addr) (A1 : Option Addr) (n1 c1 : Nat), A = some ad ∧ ad.block < B ∧ w.cell? (ad.add i) = some (.slice A1 n1 c1) ∧ row.length = n1 ∧ n1 ≤ maxLen ∧
  ∀ (j : Nat) (x : GQ W0 b), row[j]? = some x → ∃ ad1 : Addr, A1 = some ad1 ∧ ad1.block < B ∧ w.cell? (ad1.add (j * 4)) = some (.bool x.1.1.1.1) ∧ w.cell? ⟨(ad1.add (j * 4)).block, (ad1.add (j * 4)).off + 1, none⟩ = some (.slice x.1.1.1.2.1 x.1.1.1.2.2.1 x.1.1.1.2.2.2) ∧ w.cell? ⟨(ad1.add (j * 4)).block, (ad1.add (j * 4)).off + 2, none⟩ = some (.bool x.1.1.2.1) ∧ w.cell? ⟨(ad1.add (j * 4)).block, (ad1.add (j * 4)).off + 3, none⟩ = some (.slice x.1.1.2.2.1 x.1.1.2.2.2.1 x.1.1.2.2.2.2)
theorem GridQ.below {W0 : World} {b : Nat} {w w' : World} {B : Nat} {A : Option Addr} {n : Nat} {XX : List (List (GQ W0 b))} (h : GridQ w B A n XX) (hb : Below B w w') : GridQ w' B A n XX :=
 ⟨h.len, fun i row hi => by
  obtain ⟨ad, A1, n1, c1, h1, h2, h3, h4, h5, h6⟩ := h.at_ i row hi
  refine ⟨ad, A1, n1, c1, h1, h2, (hb.cell (p := ad.add i) (by rw [add_blk]; exact h2)).trans h3, h4, h5, fun j x hx => ?_⟩
  obtain ⟨ad1, e1, e2, k0, k1, k2, k3⟩ := h6 j x hx
  have hk : (ad1.add (j * 4)).block < B := by rw [add_blk]; exact e2
  exact ⟨ad1, e1, e2, (hb.cell (p := ad1.add (j * 4)) hk).trans k0, (hb.cell (p := ⟨(ad1.add (j * 4)).block, (ad1.add (j * 4)).off + 1, none⟩) hk).trans k1, (hb.cell (p := ⟨(ad1.add (j * 4)).block, (ad1.add (j * 4)).off + 2, none⟩) hk).trans k2, (hb.cell (p := ⟨(ad1.add (j * 4)).block, (ad1.add (j * 4)).off + 3, none⟩) hk).trans k3⟩⟩
set_option maxRecDepth 100000 in
set_option maxHeartbeats 4000000 in
theorem each1Q_in (n : Nat) (hn : 1 ≤ n) (l Bs n₁ : Nat) {W0 : World} {b : Nat} {A : Option Addr} {m c : Nat} {XX : List (List (GQ W0 b))} (hm : m ≤ maxLen) (J Jx : List (GQ W0 b) → World → Prop) (hJ : ∀ pre W o, J pre W → J pre (W.alloc o))
  (hY : ∀ pre (x : GQ W0 b) W, J pre W → pre.length < XX.flatten.length → YieldAt Fence.wide (n - 1) Tryz.prog l #[gQ x] W fun e W' =>
   (e = .returned (.bool true) ∧ J (pre ++ [x]) W' ∧ KpO n₁ Bs W W') ∨ (e = .returned (.bool false) ∧ Jx (pre ++ [x]) W'))
  (W : World) (hR : GridQ W n₁ A m XX) (hcs : W.cell? ⟨Bs, 0, none⟩ = some (.slice A m c)) (hn1 : n₁ ≤ W.heap.size) (hBs : Bs < W.heap.size) (h0 : J [] W) :
  CallsIn Fence.wide n Tryz.prog 168 #[.func (.yield l) #[] #[], .pointer (some ⟨Bs, 0, none⟩)] W fun e W' => (∃ v, e = .returned v) ∧
   ((∃ ys, ys = XX.flatten ∧ J ys W') ∨ (∃ pre, True ∧ Jx pre W')) := by
 have HLEN := Lib.hid hR.len
 have HR := Lib.hid (show ∀ W', Below n₁ W W' → GridQ W' n₁ A m XX from fun W' hb => hR.below hb)
 have HN := Lib.hid (And.intro hn1 hBs)
 unfold maxLen at hm
 clear hR hn1 hBs
 refine callsIn_of_wp Tryz.func168 rfl trivial ?_ rfl
 simp only [Tryz.ntmps168, List.size_toArray, List.length_cons, List.length_nil, Nat.reduceAdd, Nat.reduceSub, Array.replicate_succ, Array.replicate_zero, List.push_toArray, List.append_toArray, List.nil_append, List.cons_append]
 gi_wp2
 clear hcs
 gi_loopw [9] (fun iv wr => ∃ i : Nat, i ≤ m ∧ iv = .int .i64 (i : Int) ∧ J (XX.take i).flatten wr ∧ KpO n₁ Bs W wr) (fun iv _ => m - (intOf iv).toNat)
 case atStart => exact ⟨0, Nat.zero_le _, rfl, by simpa using h0, KpO.refl _ _ _⟩
 case round =>
  clear h0
  obtain ⟨i, hi, rfl, hJi, hB⟩ := hrel
  by_cases him : i = m
  ·have HJ := Lib.hid (show J XX.flatten wr by rw [List.take_of_length_le (by rw [HLEN.out, him]; exact Nat.le_refl _)] at hJi; exact hJi)
   subst him
   clear hJi hB
   gi_wp2
   go_end0
   exact ⟨⟨_, rfl⟩, .inl ⟨_, rfl, HJ.out⟩⟩
  ·have hil : i < m := by omega
   have hili : (i : Int) < (m : Int) := by omega
   clear him
   obtain ⟨row, hrow⟩ : ∃ row, XX[i]? = some row := ⟨XX[i]'(by rw [HLEN.out]; exact hil), List.getElem?_eq_getElem _⟩
   obtain ⟨ad, A1, n1, c1, rfl, hbk, hx, hl, hn1, hat⟩ := (HR.out wr hB.lo).at_ i row hrow
   have HROW := Lib.hid (And.intro hrow hl)
   have HAT := Lib.hid hat
   have HJI := Lib.hid hJi
   have HB := Lib.hid hB
   unfold maxLen at hn1
   clear hrow hl hJi hB hat
   obtain ⟨wo, rfl⟩ : ∃ V, V = wr := ⟨_, rfl⟩
   gi_wp2
   clear hx
   gi_loopw [15] (fun jv wr => ∃ j : Nat, j ≤ n1 ∧ jv = .int .i64 (j : Int) ∧ J ((XX.take i).flatten ++ row.take j) wr ∧ KpO n₁ Bs wo wr) (fun jv _ => n1 - (intOf jv).toNat)
   case atStart => exact ⟨0, Nat.zero_le _, rfl, by simpa using HJI.out, KpO.refl _ _ _⟩
   case round =>
    obtain ⟨j, hj, rfl, hJj, hBj⟩ := hrel
    by_cases hjn : j = n1
    ·have HJ := Lib.hid (show J (XX.take (i + 1)).flatten wr by rw [List.take_of_length_le (l := row) (by rw [HROW.out.2, hjn]; exact Nat.le_refl _), flat_take HROW.out.1] at hJj; exact hJj)
     have HBj := Lib.hid (HB.out.trans hBj)
     subst hjn
     clear hJj hBj
     gi_wp2
     go_roundw
     case rel => exact ⟨i + 1, by omega, by go_num, HJ.out, HBj.out⟩
     case measure => simp [intOf]; omega
    ·have hjl : j < n1 := by omega
     have hjli : (j : Int) < (n1 : Int) := by omega
     clear hjn
     obtain ⟨x, hxr⟩ : ∃ x, row[j]? = some x := ⟨row[j]'(by rw [HROW.out.2]; exact hjl), List.getElem?_eq_getElem _⟩
     obtain ⟨ad1, rfl, hbk1, k0, k1, k2, k3⟩ := HAT.out j x hxr
     obtain ⟨y0, y1, y2, y3⟩ := qs_cells hBj.lo hbk1 k0 k1 k2 k3
     have hY1 := fun W' h1 => hY ((XX.take i).flatten ++ row.take j) x W' h1 (flat_lt HROW.out.1 (by rw [HROW.out.2]; exact hjl))
     have HT := Lib.hid (show ((XX.take i).flatten ++ row.take j) ++ [x] = (XX.take i).flatten ++ row.take (j + 1) from app_take hxr)
     have HKA := Lib.hid (show ∀ o, KpO n₁ Bs wr (wr.alloc o) from fun o => KpO.alloc (Nat.le_trans HN.out.1 (HB.out.trans hBj).lo.size) (Nat.lt_of_lt_of_le HN.out.2 (HB.out.trans hBj).lo.size) o)
     have HBj := Lib.hid hBj
     clear hxr hBj k0 k1 k2 k3 hY
     obtain ⟨⟨⟨⟨s2, A2, n2, c2⟩, s3, A3, n3, c3⟩, v⟩, hv⟩ := x
     dsimp only [gQ] at y0 y1 y2 y3 hY1
     obtain ⟨fn, tmps, assign, body, hy, hRd⟩ := hY1 (wr.alloc (.cells #[.bool s2, .slice A2 n2 c2, .bool s3, .slice A3 n3 c3] 47)) (hJ _ _ _ hJj)
     clear hY1 hJj
     gi_wp2
     refine hRd.mono ?_
     rintro e W3 (⟨rfl, hJ3, hk3⟩ | ⟨rfl, hJx3⟩)
     ·have HJ3 := Lib.hid hJ3
      have HK3 := Lib.hid (HBj.out.trans ((HKA.out _).trans hk3))
      clear hJ3 hk3
      gi_wp2
      go_roundw
      case rel => exact ⟨j + 1, by omega, by go_num, by rw [← HT.out]; exact HJ3.out, HK3.out⟩
      case measure => simp [intOf]; omega
     ·have HJx3 := Lib.hid hJx3
      clear hJx3
      gi_wp2
      refine bodyPost_ret (results_none rfl _ _ _) rfl ?_
      exact ⟨⟨_, rfl⟩, .inr ⟨_, trivial, HJx3.out⟩⟩
theorem eachQ_stops (n : Nat) (hn : 1 ≤ n) (Bs n₁ : Nat) {W0 : World} {b : Nat} {A : Option Addr} {m c : Nat} {XX : List (List (GQ W0 b))} (hm : m ≤ maxLen) (w : World) (hn1 : n₁ ≤ w.heap.size) (hBs : Bs < w.heap.size) (hR : GridQ w n₁ A m XX) (hcs : w.cell? ⟨Bs, 0, none⟩ = some (.slice A m c)) :
  SeqStopsK Fence.wide n Tryz.prog 168 #[.pointer (some ⟨Bs, 0, none⟩)] (fun x : GQ W0 b => #[gQ x]) (KpO n₁ Bs)
   (fun xs => xs = XX.flatten) (fun _ => True) XX.flatten.length w := by
 intro l J Jx W hW hJ _ hY h0
 exact each1Q_in n hn l Bs n₁ hm J Jx (fun pre W o h => hJ pre W _ none h (World.grownBy_alloc W o none) (fun r e => by cases e)) hY W (hR.below (hW.mono hn1)) ((hW.cell (p := ⟨Bs, 0, none⟩) hBs).trans hcs) (Nat.le_trans hn1 hW.size) (Nat.lt_of_lt_of_le hBs hW.size) h0
set_option maxHeartbeats 400000 in
theorem eachQ_any {A : Option Addr} {m c : Nat} (w : World) :
  Calls Tryz.prog 117 #[.slice A m c] w fun e w' =>
   e = .returned (.func (.func 168) #[] #[.pointer (some ⟨w.heap.size, 0, none⟩)]) ∧ w.alloc (.cells #[.slice A m c] 148) = w' := by
 go_enter Tryz.func117, Tryz.ntmps117
 go_wp2
 go_ret
 exact ⟨rfl, rfl⟩
abbrev GZ (W0 : World) (b : Nat) := { q : Ent × (Bool × List Nat) // q.1.1 = q.2.1 ∧ RdU W0 b q.1.2.1 q.1.2.2.1 q.1.2.2.2 q.2.2 ∧ q.1.2.2.1 ≤ 400000000000 }
def gZ {W0 : World} {b : Nat} (x : GZ W0 b) : Value := .agg #[.bool x.1.1.1, .slice x.1.1.2.1 x.1.1.2.2.1 x.1.1.2.2.2]
structure GridZ {W0 : World} {b : Nat} (w : World) (B : Nat) (A : Option Addr) (n : Nat) (XX : List (List (GZ W0 b))) : Prop where
 len : XX.length = n
 at_ : ∀ (i : Nat) (row : List (GZ W0 b)), XX[i]? = some row → ∃ (ad : Addr) (A1 : Option Addr) (n1 c1 : Nat), A = some ad ∧ ad.block < B ∧ w.cell? (ad.add i) = some (.slice A1 n1 c1) ∧ row.length = n1 ∧ n1 ≤ maxLen ∧
  ∀ (j : Nat) (x : GZ W0 b), row[j]? = some x → ∃ ad1 : Addr, A1 = some ad1 ∧ ad1.block < B ∧ w.cell? (ad1.add (j * 2)) = some (.bool x.1.1.1) ∧ w.cell? ⟨(ad1.add (j * 2)).block, (ad1.add (j * 2)).off + 1, none⟩ = some (.slice x.1.1.2.1 x.1.1.2.2.1 x.1.1.2.2.2)
theorem GridZ.below {W0 : World} {b : Nat} {w w' : World} {B : Nat} {A : Option Addr} {n : Nat} {XX : List (List (GZ W0 b))} (h : GridZ w B A n XX) (hb : Below B w w') : GridZ w' B A n XX :=
 ⟨h.len, fun i row hi => by
  obtain ⟨ad, A1, n1, c1, h1, h2, h3, h4, h5, h6⟩ := h.at_ i row hi
  refine ⟨ad, A1, n1, c1, h1, h2, (hb.cell (p := ad.add i) (by rw [add_blk]; exact h2)).trans h3, h4, h5, fun j x hx => ?_⟩
  obtain ⟨ad1, e1, e2, k0, k1⟩ := h6 j x hx
  have hk : (ad1.add (j * 2)).block < B := by rw [add_blk]; exact e2
  exact ⟨ad1, e1, e2, (hb.cell (p := ad1.add (j * 2)) hk).trans k0, (hb.cell (p := ⟨(ad1.add (j * 2)).block, (ad1.add (j * 2)).off + 1, none⟩) hk).trans k1⟩⟩
set_option maxRecDepth 100000 in
set_option maxHeartbeats 4000000 in
theorem each1Z_in (n : Nat) (hn : 1 ≤ n) (l Bs n₁ : Nat) {W0 : World} {b : Nat} {A : Option Addr} {m c : Nat} {XX : List (List (GZ W0 b))} (hm : m ≤ maxLen) (J Jx : List (GZ W0 b) → World → Prop) (hJ : ∀ pre W o, J pre W → J pre (W.alloc o))
  (hY : ∀ pre (x : GZ W0 b) W, J pre W → pre.length < XX.flatten.length → YieldAt Fence.wide (n - 1) Tryz.prog l #[gZ x] W fun e W' =>
   (e = .returned (.bool true) ∧ J (pre ++ [x]) W' ∧ KpO n₁ Bs W W') ∨ (e = .returned (.bool false) ∧ Jx (pre ++ [x]) W'))
  (W : World) (hR : GridZ W n₁ A m XX) (hcs : W.cell? ⟨Bs, 0, none⟩ = some (.slice A m c)) (hn1 : n₁ ≤ W.heap.size) (hBs : Bs < W.heap.size) (h0 : J [] W) :
  CallsIn Fence.wide n Tryz.prog 211 #[.func (.yield l) #[] #[], .pointer (some ⟨Bs, 0, none⟩)] W fun e W' => (∃ v, e = .returned v) ∧
   ((∃ ys, ys = XX.flatten ∧ J ys W') ∨ (∃ pre, True ∧ Jx pre W')) := by
 have HLEN := Lib.hid hR.len
 have HR := Lib.hid (show ∀ W', Below n₁ W W' → GridZ W' n₁ A m XX from fun W' hb => hR.below hb)
 have HN := Lib.hid (And.intro hn1 hBs)
 unfold maxLen at hm
 clear hR hn1 hBs
 refine callsIn_of_wp Tryz.func211 rfl trivial ?_ rfl
 simp only [Tryz.ntmps211, List.size_toArray, List.length_cons, List.length_nil, Nat.reduceAdd, Nat.reduceSub, Array.replicate_succ, Array.replicate_zero, List.push_toArray, List.append_toArray, List.nil_append, List.cons_append]
 gi_wp2
 clear hcs
 gi_loopw [9] (fun iv wr => ∃ i : Nat, i ≤ m ∧ iv = .int .i64 (i : Int) ∧ J (XX.take i).flatten wr ∧ KpO n₁ Bs W wr) (fun iv _ => m - (intOf iv).toNat)
 case atStart => exact ⟨0, Nat.zero_le _, rfl, by simpa using h0, KpO.refl _ _ _⟩
 case round =>
  clear h0
  obtain ⟨i, hi, rfl, hJi, hB⟩ := hrel
  by_cases him : i = m
  ·have HJ := Lib.hid (show J XX.flatten wr by rw [List.take_of_length_le (by rw [HLEN.out, him]; exact Nat.le_refl _)] at hJi; exact hJi)
   subst him
   clear hJi hB
   gi_wp2
   go_end0
   exact ⟨⟨_, rfl⟩, .inl ⟨_, rfl, HJ.out⟩⟩
  ·have hil : i < m := by omega
   have hili : (i : Int) < (m : Int) := by omega
   clear him
   obtain ⟨row, hrow⟩ : ∃ row, XX[i]? = some row := ⟨XX[i]'(by rw [HLEN.out]; exact hil), List.getElem?_eq_getElem _⟩
   obtain ⟨ad, A1, n1, c1, rfl, hbk, hx, hl, hn1, hat⟩ := (HR.out wr hB.lo).at_ i row hrow
   have HROW := Lib.hid (And.intro hrow hl)
   have HAT := Lib.hid hat
   have HJI := Lib.hid hJi
   have HB := Lib.hid hB
   unfold maxLen at hn1
   clear hrow hl hJi hB hat
   obtain ⟨wo, rfl⟩ : ∃ V, V = wr := ⟨_, rfl⟩
   gi_wp2
   clear hx
   gi_loopw [15] (fun jv wr => ∃ j : Nat, j ≤ n1 ∧ jv = .int .i64 (j : Int) ∧ J ((XX.take i).flatten ++ row.take j) wr ∧ KpO n₁ Bs wo wr) (fun jv _ => n1 - (intOf jv).toNat)
   case atStart => exact ⟨0, Nat.zero_le _, rfl, by simpa using HJI.out, KpO.refl _ _ _⟩
   case round =>
    obtain ⟨j, hj, rfl, hJj, hBj⟩ := hrel
    by_cases hjn : j = n1
    ·have HJ := Lib.hid (show J (XX.take (i + 1)).flatten wr by rw [List.take_of_length_le (l := row) (by rw [HROW.out.2, hjn]; exact Nat.le_refl _), flat_take HROW.out.1] at hJj; exact hJj)
     have HBj := Lib.hid (HB.out.trans hBj)
     subst hjn
     clear hJj hBj
     gi_wp2
     go_roundw
     case rel => exact ⟨i + 1, by omega, by go_num, HJ.out, HBj.out⟩
     case measure => simp [intOf]; omega
    ·have hjl : j < n1 := by omega
     have hjli : (j : Int) < (n1 : Int) := by omega
     clear hjn
     obtain ⟨x, hxr⟩ : ∃ x, row[j]? = some x := ⟨row[j]'(by rw [HROW.out.2]; exact hjl), List.getElem?_eq_getElem _⟩
     obtain ⟨ad1, rfl, hbk1, k0, k1⟩ := HAT.out j x hxr
     obtain ⟨y0, y1⟩ := zs_cells hBj.lo hbk1 k0 k1
     have hY1 := fun W' h1 => hY ((XX.take i).flatten ++ row.take j) x W' h1 (flat_lt HROW.out.1 (by rw [HROW.out.2]; exact hjl))
     have HT := Lib.hid (show ((XX.take i).flatten ++ row.take j) ++ [x] = (XX.take i).flatten ++ row.take (j + 1) from app_take hxr)
     have HKA := Lib.hid (show ∀ o, KpO n₁ Bs wr (wr.alloc o) from fun o => KpO.alloc (Nat.le_trans HN.out.1 (HB.out.trans hBj).lo.size) (Nat.lt_of_lt_of_le HN.out.2 (HB.out.trans hBj).lo.size) o)
     have HBj := Lib.hid hBj
     clear hxr hBj k0 k1 hY
     obtain ⟨⟨⟨s2, A2, n2, c2⟩, v⟩, hv⟩ := x
     dsimp only [gZ] at y0 y1 hY1
     obtain ⟨fn, tmps, assign, body, hy, hRd⟩ := hY1 (wr.alloc (.cells #[.bool s2, .slice A2 n2 c2] 25)) (hJ _ _ _ hJj)
     clear hY1 hJj
     gi_wp2
     refine hRd.mono ?_
     rintro e W3 (⟨rfl, hJ3, hk3⟩ | ⟨rfl, hJx3⟩)
     ·have HJ3 := Lib.hid hJ3
      have HK3 := Lib.hid (HBj.out.trans ((HKA.out _).trans hk3))
      clear hJ3 hk3
      gi_wp2
      go_roundw
      case rel => exact ⟨j + 1, by omega, by go_num, by rw [← HT.out]; exact HJ3.out, HK3.out⟩
      case measure => simp [intOf]; omega
     ·have HJx3 := Lib.hid hJx3
      clear hJx3
      gi_wp2
      refine bodyPost_ret (results_none rfl _ _ _) rfl ?_
      exact ⟨⟨_, rfl⟩, .inr ⟨_, trivial, HJx3.out⟩⟩
theorem eachZ_stops (n : Nat) (hn : 1 ≤ n) (Bs n₁ : Nat) {W0 : World} {b : Nat} {A : Option Addr} {m c : Nat} {XX : List (List (GZ W0 b))} (hm : m ≤ maxLen) (w : World) (hn1 : n₁ ≤ w.heap.size) (hBs : Bs < w.heap.size) (hR : GridZ w n₁ A m XX) (hcs : w.cell? ⟨Bs, 0, none⟩ = some (.slice A m c)) :
  SeqStopsK Fence.wide n Tryz.prog 211 #[.pointer (some ⟨Bs, 0, none⟩)] (fun x : GZ W0 b => #[gZ x]) (KpO n₁ Bs)
   (fun xs => xs = XX.flatten) (fun _ => True) XX.flatten.length w := by
 intro l J Jx W hW hJ _ hY h0
 exact each1Z_in n hn l Bs n₁ hm J Jx (fun pre W o h => hJ pre W _ none h (World.grownBy_alloc W o none) (fun r e => by cases e)) hY W (hR.below (hW.mono hn1)) ((hW.cell (p := ⟨Bs, 0, none⟩) hBs).trans hcs) (Nat.le_trans hn1 hW.size) (Nat.lt_of_lt_of_le hBs hW.size) h0
set_option maxHeartbeats 400000 in
theorem eachZ_any {A : Option Addr} {m c : Nat} (w : World) :
  Calls Tryz.prog 172 #[.slice A m c] w fun e w' =>
   e = .returned (.func (.func 211) #[] #[.pointer (some ⟨w.heap.size, 0, none⟩)]) ∧ w.alloc (.cells #[.slice A m c] 165) = w' := by
 go_enter Tryz.func172, Tryz.ntmps172
 go_wp2
 go_ret
 exact ⟨rfl, rfl⟩
end Go.Proofs.YtjnklbfhelbjgaaGreat

/- A range over a function whose variable lies in a box of its own each round. -/
namespace Go.Proofs.YtjnklbfhelbjgaaGreat
open Go.RowKit Go.IntWalk Go.Shelf
def KeepC (W W' : World) : Prop := ∀ (i : Nat) (cs : Array Value) (t : TypeId) (f : Nat × Nat), W.heap[i]? = some (.cells cs t f) → W'.heap[i]? = some (.cells cs t f)
theorem keepC_own {W W' : World} {row : Option Nat} (hg : W.grownBy W' row) (hr : ∀ r, row = some r → ∃ o : Obj, W.heap[r]? = some o ∧ o.isCells = false) : KeepC W W' := fun _ _ _ _ hi => (grownBy_keeps_cells hg hr hi rfl).trans hi
theorem KeepC.q {W W' : World} (h : KeepC W W') : KeepQ W W' := ⟨fun i c f => h i c _ f, fun i c f => h i c _ f⟩
theorem KeepC.i {W W' : World} (h : KeepC W W') : KeepI W W' := ⟨fun i c f => h i c _ f, fun i c f => h i c _ f⟩
theorem KeepC.row {W W' : World} (h : KeepC W W') {b n k : Nat} {e : TypeId} {v : Value} {xs : List Value} (hr : W.ownsRow b e k v n xs) : W'.ownsRow b e k v n xs := by
 refine ⟨hr.1, ?_⟩
 rcases hr.2 with h0 | ⟨g, cap, cur, h1, h2, h3, h4⟩
 ·exact .inl h0
 ·exact .inr ⟨g, cap, cur, h1, h2, h _ _ _ _ h3, h4⟩
variable {n : Nat} {P : Program}
theorem rangeFunc_box {α : Type} {g : Operand} {ps : Array Tmp} {assign body : Code} {Q : Exit → Act → World → Prop} {a : Act} {w : World}
  (h1 : 1 ≤ n) {gf : Nat} {lb : Array Value} (hg : a.eval g = .func (.func gf) #[] lb) (eg : ∀ args w, (callFunc gf args).run P w = .ok (.enter gf args) w)
  {enc : α → Value} {n₁ Bs : Nat} {S : List α → Prop} {N : Nat} (hseq : SeqStopsK Fence.wide (n - 1) P gf lb (fun x => #[enc x]) (KpO n₁ Bs) S (fun _ => True) N w)
  (hn1 : n₁ ≤ w.heap.size) (hBs : Bs < w.heap.size) (hps : 1 = ps.size)
  (I : List α → World → Prop) (hI : OwnFrom w.heap.size I) (hsz : ∀ pre W, I pre W → w.heap.size ≤ W.heap.size) (h0 : I [] w) (t : TypeId) (cls : α → Array Value) {fr : α → Nat → Act}
  (hassign : ∀ (l : Nat) (x : α) (W : World) (K : Act → World → Prop) (B : Nat), B = W.heap.size → K (fr x B) (W.alloc (.cells (cls x) t)) →
   assign.wpIn (Fence.wide.inRound l) (n - 1 - 1) P (Exit.then K (fun _ _ _ => False)) { tmps := (ps.zip #[enc x]).foldl (fun t (p, v) => t.setIfInBounds p v) a.tmps, defers := [] } W)
  (hbody : ∀ (l : Nat) (pre : List α) (x : α) (B : Nat) (W : World), I pre W → w.heap.size ≤ B → W.heap[B]? = some (.cells (cls x) t (0, 0)) → pre.length < N → body.wpIn (Fence.wide.inRound l) (n - 1 - 1) P (ownPostG w.heap.size (KpO n₁ Bs) I (fun _ _ _ => False) (pre ++ [x]) W) (fr x B) W)
  (hdone : ∀ (D : Nat) (xs : List α) (W : World), w.heap.size ≤ D → S xs → I xs W → W.heap[D]? = some (.deferred (some [])) → Q .normal { a with defers := { target := .collected D, args := #[] } :: a.defers } W) :
  (Code.rangeFunc g ps assign body).wpIn Fence.wide n P Q a w :=
 wpIn_rangeFunc_ownH (F := Fence.wide) rfl h1 hg trivial eg hseq KpO.trans (KpO.put hn1 hBs) (Below.refl _ _) (fun _ => hps) I (fun _ _ _ => False) hI (fun _ _ _ _ _ hs _ _ => hs) h0
  (fun x a' W => ∃ B, w.heap.size ≤ B ∧ a' = fr x B ∧ W.heap[B]? = some (.cells (cls x) t (0, 0)))
  (fun x a' _ W W' row hs hgr hr => by
   obtain ⟨B, h1, h2, h3⟩ := hs
   exact ⟨B, h1, h2, (keepC_own hgr (fun r e => (hr r e).2)) _ _ _ _ h3⟩)
  (fun l pre x W K hi hK => hassign l x W K W.heap.size rfl (hK _ _ ((KeepsOthers.alloc W _).from _) (KpO.alloc (Nat.le_trans hn1 (hsz _ _ hi)) (Nat.lt_of_lt_of_le hBs (hsz _ _ hi)) _) (hI.alloc _ hi) ⟨_, hsz _ _ hi, rfl, World.alloc_heap_new W _⟩))
  (fun l pre x a' W _ _ hi hx hl => by
   obtain ⟨B, h1, h2, h3⟩ := hx
   subst h2
   exact hbody l pre x B W hi h1 h3 hl)
  hdone (fun _ _ _ _ _ _ hs _ => hs.elim)
end Go.Proofs.YtjnklbfhelbjgaaGreat

/- qmat.Rows. -/
namespace Go.Proofs.YtjnklbfhelbjgaaGreat
open Go.RowKit Go.IntWalk
attribute [local go_sem ↓] Go.wp_at_zero Go.wp_at_succ
def RwV (d : Int) (RR : List RawRow) (LL : List (List Rat)) (kk : Int) : Prop := (chk d RR = 0 ∧ LL = ent d RR ∧ kk = 0) ∨ (chk d RR ≠ 0 ∧ LL = [] ∧ kk = chk d RR)
def RetRw (d : Int) (RR : List RawRow) (w : World) (e : Ending) (w' : World) : Prop :=
 ∃ (A : Option Addr) (n c : Nat) (LL : List (List Rat)) (kk : Int), e = .returned (.tuple #[.slice A n c, .int .i64 kk]) ∧ OwQss w' w.heap.size A n c LL ∧ Hid (RwV d RR LL kk) ∧ Below w.heap.size w w'
theorem ent_take {d : Int} {RR : List RawRow} {j : Nat} {R : RawRow} (h : RR[j]? = some R) : ent d (RR.take j) ++ [R.map fun x => Rat.divInt (toZ x) d] = ent d (RR.take (j + 1)) := by
 unfold ent
 rw [List.take_add_one, h, List.map_append]
 rfl
theorem row_take {d : Int} {R : RawRow} {j : Nat} {x : Bool × List Nat} (h : R[j]? = some x) : ((R.take j).map fun x => Rat.divInt (toZ x) d) ++ [Rat.divInt (toZ x) d] = (R.take (j + 1)).map fun x => Rat.divInt (toZ x) d := by
 rw [List.take_add_one, h, List.map_append]
 rfl
theorem scell_new (w : World) (v : Value) (t : TypeId) : ∀ j a, [v][j]? = some a → (w.alloc (.cells #[v] t)).cell? ((⟨w.heap.size, 0, none⟩ : Addr).add j) = some a := by
 intro j a hj
 match j, hj with
 | 0, hj => simp at hj; subst hj; simp [Addr.add]
 | (j + 1), hj => simp at hj
set_option maxRecDepth 100000 in
set_option maxHeartbeats 8000000 in
theorem mRows_any {N K : Nat} {s : Bool} {A G : Option Addr} {n c r k : Nat} {d : Int} {RR : List RawRow} {w : World} (h : RdZ w w.heap.size s A n c d) (h' : RdRss w w.heap.size N K G r k RR) (hn : n ≤ 1000000000000) (hN : N ≤ 1000000000000) (hr : r ≤ 1048576) (hK : K ≤ 1048576) :
  Calls Tryz.prog 35 #[.agg #[.bool s, .slice A n c, .slice G r k]] w (RetRw d RR w) := by
 obtain ⟨W1, HW1⟩ : ∃ W, W = w.alloc (.cells #[.bool s, .slice A n c, .slice G r k] 28) := ⟨_, rfl⟩
 have hM : MC W1 w.heap.size s A n c G r k := by rw [HW1]; exact MC.new w s A n c G r k
 have hB : Below w.heap.size w W1 := by rw [HW1]; exact (Below.refl _ _).alloc (Nat.le_refl _) _
 obtain ⟨i0, hi, hz0, hz1, hz2⟩ := info_parts infoQ
 obtain ⟨i1, hjf, hy0, hy1, hy2⟩ := info_parts infoQr
 have HB := Lib.hid hB
 have HX := Lib.hid (show ∀ W, Below W1.heap.size W1 W → MC W w.heap.size s A n c G r k ∧ RdZ W W.heap.size s A n c d ∧ RdRss W W.heap.size N K G r k RR from fun W hb => ⟨hM.next hb, (h.next hB).next hb, (h'.next hB).next hb⟩)
 have HL := Lib.hid h'.len
 have m0 := hM.c0
 have m1 := hM.c1
 have m2 := hM.c2
 rw [HW1] at m0 m1 m2
 have HW1 := Lib.hid HW1
 clear h h' hM hB
 go_enter Tryz.func35, Tryz.ntmps35
 go_wp2_with fail
 rw [← HW1.out]
 clear HW1
 clear HW1
 refine (mcheck_any (HX.out _ (Below.refl _ _)).2.1 (HX.out _ (Below.refl _ _)).2.2 (by omega) hr).mono ?_
 rintro _ W2 ⟨v, rfl, hv, hb2⟩
 have HB2 := Lib.hid (show Below w.heap.size w W2 from HB.out.trans (hb2.mono HB.out.size))
 have HX2 := Lib.hid (show ∀ W, Below W2.heap.size W2 W → MC W w.heap.size s A n c G r k ∧ RdZ W W.heap.size s A n c d ∧ RdRss W W.heap.size N K G r k RR from fun W hb => HX.out W (hb2.trans (hb.mono hb2.size)))
 have q2 := (HX2.out _ (Below.refl _ _)).1.c2
 clear m0 m1 m2 hb2
 by_cases h0 : v = 0
 case neg =>
  have hvb : (v == 0) = false := by simp [h0]
  have HC := Lib.hid (show chk d RR ≠ 0 from by rw [← hv.out]; exact h0)
  clear q2
  go_wp2
  go_ret2
  exact ⟨none, 0, 0, [], v, rfl, OwQss.nil _ _, Lib.hid (.inr ⟨HC.out, rfl, hv.out⟩), HB2.out⟩
 have HC := Lib.hid (show chk d RR = 0 from by rw [← hv.out]; exact h0)
 have HD0 := Lib.hid (chk_zero HC.out).1
 subst h0
 clear hv HX
 go_wp2_with fail
 clear q2
 go_loopw [5, 21] (fun ov iv wr => ∃ (j c' : Nat) (A' : Option Addr), ov = .slice A' j c' ∧ iv = .int .i64 j ∧ j ≤ r ∧ OwQss wr W2.heap.size A' j c' (ent d (RR.take j)) ∧ Below W2.heap.size W2 wr) (fun _ iv _ => r - (intOf iv).toNat)
 case atStart => exact ⟨0, 0, none, rfl, rfl, Nat.zero_le _, OwQss.nil _ _, Below.refl _ _⟩
 case round =>
  obtain ⟨j, c', A', rfl, rfl, hj, ho, hB⟩ := hrel
  by_cases hjr : j = r
  ·have HO := Lib.hid (show OwQss wr w.heap.size A' j c' (ent d RR) by rw [← List.take_of_length_le (l := RR) (i := j) (by rw [HL.out, hjr]; exact Nat.le_refl _)]; exact ho.base HB2.out.size)
   have HBF := Lib.hid (HB2.out.trans (hB.mono HB2.out.size))
   subst hjr
   clear ho hB
   go_wp2
   go_ret2
   exact ⟨A', j, c', _, 0, rfl, HO.out, Lib.hid (.inl ⟨HC.out, rfl, rfl⟩), HBF.out⟩
  ·have hjl : j < r := by omega
   have hjli : (j : Int) < (r : Int) := by omega
   obtain ⟨wo, rfl⟩ : ∃ V, V = wr := ⟨_, rfl⟩
   clear hjr
   obtain ⟨ad, A1, n1, c1, R, rfl, hbk, hx, hr1, hn1, hp⟩ := rss_at (HX2.out wo hB).2.2 hjl
   have hmk := fun W : World => make_qroom n1 (by omega) W
   obtain ⟨W3, HW3⟩ : ∃ W, W = wo.alloc (.cells (madeCells #[.bool false, .slice none 0 0, .bool false, .slice none 0 0] (n1 * 4)) 47) := ⟨_, rfl⟩
   have hb3 : Below wo.heap.size wo W3 := by rw [HW3]; exact (Below.refl _ _).alloc (Nat.le_refl _) _
   have HO3 := Lib.hid (show OwQs W3 wo.heap.size (some ⟨wo.heap.size, 0, none⟩) 0 n1 [] by rw [HW3]; exact OwQs.room wo n1 (by unfold maxLen; omega))
   have HOT := Lib.hid ho
   have HB3 := Lib.hid (And.intro hB hb3)
   have HRR := Lib.hid (And.intro hr1 hr1.len)
   have HJL := Lib.hid (show j + 1 ≤ 1048576 by omega)
   have HW3 := Lib.hid HW3
   clear ho hB hb3 hr1
   go_wp2_with fail
   rw [← HW3.out]
   clear HW3 hx
   clear HW3
   clear hmk
   go_loopw [8, 30] (fun ov iv wr => ∃ (i c5 : Nat) (A5 : Option Addr), ov = .slice A5 i c5 ∧ iv = .int .i64 i ∧ i ≤ n1 ∧ OwQs wr wo.heap.size A5 i c5 ((R.take i).map fun x => Rat.divInt (toZ x) d) ∧ Below wo.heap.size wo wr ∧ W3.heap.size ≤ wr.heap.size) (fun _ iv _ => n1 - (intOf iv).toNat)
   case atStart => exact ⟨0, n1, _, rfl, rfl, Nat.zero_le _, HO3.out, HB3.out.2, Nat.le_refl _⟩
   case round =>
    obtain ⟨i, c5, A5, rfl, rfl, hi5, ho5, hB5, hS5⟩ := hrel
    by_cases hin : i = n1
    ·have HO5 := Lib.hid (show OwQp wr W2.heap.size A5 i c5 (R.map fun x => Rat.divInt (toZ x) d) by rw [← List.take_of_length_le (l := R) (i := i) (by rw [HRR.out.2, hin]; exact Nat.le_refl _)]; exact ho5.p.base HB3.out.1.size)
     have HB5 := Lib.hid hB5
     obtain ⟨E, hE, hEl, hEn⟩ := HOT.out.next hB5
     have HE := Lib.hid hE
     have HEN := Lib.hid (And.intro hEl hEn)
     subst hin
     clear ho5 hB5 hE hEl hEn hS5
     go_wp2_with (at_builtin; refine wpList_append_own _ rfl _ _ 68 rfl W2.heap.size 72 i1 (.slice none 0 0) 1 24 Tryz.underlying68 hjf hy0 hy1 hy2 rfl (by decide) _ _ _ rfl (HE.out.alloc _) ⟨wr.heap.size, 0, none⟩ 1 1 [.slice A5 i c5] rfl rfl (scell_new wr (.slice A5 i c5) 72) (by simp [Value.oneCell']) (by have := HJL.out; unfold maxLen; omega) (by have := HJL.out; omega) (by have h1 := HB5.out.size; have h2 := HB3.out.1.size; simp; omega) ?_; intro v' w1 hown' hgrow _)
     obtain ⟨A9, c9, rfl, ho9⟩ := qss_more (e := (A5, i, c5)) (L := R.map fun x => Rat.divInt (toZ x) d) HO5.out rfl (HE.out.alloc _) HEN.out.1 (HEN.out.2.next ((Below.refl _ _).alloc (Nat.le_refl _) (.cells #[.slice A5 i c5] 72))) hown' hgrow
     have hbx := HB3.out.1.trans (HB5.out.mono HB3.out.1.size)
     have HB9 := Lib.hid ((hbx.alloc hbx.size (.cells #[.slice A5 i c5] 72)).grown hgrow (by have := hbx.size; simp; omega) (own_block HE.out))
     have HO9 := Lib.hid (show OwQss w1 W2.heap.size A9 (j + 1) c9 (ent d (RR.take (j + 1))) by rw [← ent_take hp.out]; exact ho9)
     clear hown' hgrow HE HEN ho9 hbx
     go_wp2
     go_roundw
     case rel => exact ⟨j + 1, c9, A9, rfl, by go_num, by omega, HO9.out, HB9.out⟩
     case measure => simp [intOf]; omega
    ·have hil : i < n1 := by omega
     have hili : (i : Int) < (n1 : Int) := by omega
     clear hin
     obtain ⟨ad2, s6, M6, A6, n6, c6, rfl, hbk6, hz60, hz61, hr6, hn6, hp6⟩ := rs_at (HRR.out.1.next hB5) hil
     obtain ⟨W6, HW6⟩ : ∃ W, W = wr.alloc (.cells #[.bool s6, .slice A6 n6 c6] 25) := ⟨_, rfl⟩
     have hb6 : Below wr.heap.size wr W6 := by rw [HW6]; exact (Below.refl _ _).alloc (Nat.le_refl _) _
     have hb26 := HB3.out.1.trans ((hB5.trans (hb6.mono hB5.size)).mono HB3.out.1.size)
     obtain ⟨hM6, hd6, _⟩ := HX2.out W6 hb26
     have HZ6 := Lib.hid (And.intro (show RdZ W6 W6.heap.size s6 A6 n6 c6 (toZ (s6, M6)) from ⟨M6, hr6.next hb6, rfl⟩) hd6)
     have HO6 := Lib.hid (ho5.next hb6)
     have HB6 := Lib.hid (hB5.trans (hb6.mono hB5.size))
     have HS6 := Lib.hid (Nat.le_trans hS5 hb6.size)
     have a0 := hM6.c0
     have a1 := hM6.c1
     rw [HW6] at a0 a1
     have HW6 := Lib.hid HW6
     clear hb6 hb26 hM6 hd6 hr6 ho5 hB5 hS5
     go_wp2_with fail
     rw [← HW6.out]
     clear HW6 a0 a1 hz60 hz61
     clear HW6
     refine (qmake_any HZ6.out.1 HZ6.out.2 (by omega) hn HD0.out).mono ?_
     rintro _ W7 ⟨s7, A7, n7, c7, s8, A8, n8, c8, y, rfl, ho7, hy, hb7⟩
     obtain ⟨W8, HW8⟩ : ∃ W, W = W7.alloc (.cells #[.bool s7, .slice A7 n7 c7, .bool s8, .slice A8 n8 c8] 47) := ⟨_, rfl⟩
     have hb8 : Below W7.heap.size W7 W8 := by rw [HW8]; exact (Below.refl _ _).alloc (Nat.le_refl _) _
     have hB8 := HB6.out.trans ((hb7.trans (hb8.mono hb7.size)).mono HB6.out.size)
     obtain ⟨E, hE, hEl, hEn⟩ := (HO6.out.next hb7).next hb8
     have HO8 := Lib.hid ((ho7.base (b' := wo.heap.size) HB6.out.size).next hb8)
     rw [HW8] at hE hB8 hEn
     rw [HW8] at HO8
     have HE := Lib.hid hE
     have HEN := Lib.hid (And.intro hEl hEn)
     have HY := Lib.hid (show ((R.take i).map fun x => Rat.divInt (toZ x) d) ++ [y] = (R.take (i + 1)).map fun x => Rat.divInt (toZ x) d by rw [hy.out]; exact row_take hp6.out)
     have HB8 := Lib.hid hB8
     have HS8 := Lib.hid (show W3.heap.size ≤ W7.heap.size from Nat.le_trans HS6.out hb7.size)
     clear hE hEl hEn hb7 ho7 hb8 hB8 hy
     clear HW8
     go_wp2_with (at_builtin; refine wpList_append_own _ rfl _ _ 72 rfl wo.heap.size 47 i0 (.agg #[.bool false, .slice none 0 0, .bool false, .slice none 0 0]) 4 64 Tryz.underlying72 hi hz0 hz1 hz2 rfl (by decide) _ _ _ rfl (HE.out.alloc _) ⟨W7.heap.size + 1, 0, none⟩ 1 1 [.bool s7, .slice A7 n7 c7, .bool s8, .slice A8 n8 c8] rfl rfl (by simpa using qcell_new (W7.alloc (.cells #[.bool s7, .slice A7 n7 c7, .bool s8, .slice A8 n8 c8] 47)) (.bool s7) (.slice A7 n7 c7) (.bool s8) (.slice A8 n8 c8) 47) (by simp [Value.oneCell']) (by unfold maxLen; omega) (by omega) (by have := HB8.out.size; simp at this ⊢; omega) ?_; intro v' w1 hown' hgrow _)
     obtain ⟨A9, c9, rfl, ho9⟩ := qs_more (e := ((s7, A7, n7, c7), (s8, A8, n8, c8))) (x := y) HO8.out rfl (HE.out.alloc _) HEN.out.1 HEN.out.2 hown' hgrow
     have HB9 := Lib.hid ((HB8.out.alloc HB8.out.size (.cells #[.bool s7, .slice A7 n7 c7, .bool s8, .slice A8 n8 c8] 47)).grown hgrow (by have := HB8.out.size; simp at this ⊢; omega) (own_block HE.out))
     have HO9 := Lib.hid (show OwQs w1 wo.heap.size A9 (i + 1) c9 ((R.take (i + 1)).map fun x => Rat.divInt (toZ x) d) by rw [← HY.out]; exact ho9)
     have HS9 := Lib.hid (show W3.heap.size ≤ w1.heap.size by have h1 := hgrow.size; have h2 := HS8.out; simp at h1; omega)
     clear hown' hgrow HE HEN HO8 ho9
     go_wp2
     go_roundw
     case rel => exact ⟨i + 1, c9, A9, rfl, by go_num, by omega, HO9.out, HB9.out, HS9.out⟩
     case measure => simp [intOf]; omega
end Go.Proofs.YtjnklbfhelbjgaaGreat
