/- Raw rows of the call's own; reference 03: CopyAll, its answer of the call's own. -/
import Derived.Test.YtjnklbfhelbjgaaGreatQ13
import Derived.Test.YtjnklbfhelbjgaaGreatQ07
import Derived.Test.YtjnklbfhelbjgaaGreatQ12
import Derived.Test.YtjnklbfhelbjgaaGreatQ10
import Derived.Test.YtjnklbfhelbjgaaGreatQ00
import Derived.Test.YtjnklbfhelbjgaaGreatQ02
import Derived.Test.YtjnklbfhelbjgaaGreatQ03
import Derived.Test.YtjnklbfhelbjgaaGreatQ05
namespace Go.Proofs.YtjnklbfhelbjgaaGreat
open Go.RowKit Go.IntWalk
attribute [local go_sem ↓] Go.wp_at_zero Go.wp_at_succ
theorem EntW.to {w : World} {b : Nat} {E : List Ent} {F F' : Nat → Bool × List Nat} (h : EntW w b E F) (e : ∀ i, F i = F' i) : EntW w b E F' := by
 rw [show F' = F from funext fun i => (e i).symm]
 exact h
def KeepI (w w' : World) : Prop := KeepT w w' ∧ ∀ (i : Nat) (cs : Array Value) (f : Nat × Nat), w.heap[i]? = some (.cells cs 25 f) → w'.heap[i]? = some (.cells cs 25 f)
def OwRs (w : World) (b : Nat) (A : Option Addr) (n c : Nat) (R : RawRow) : Prop :=
 ∃ (g : Nat) (E : List Ent), A = some ⟨g, 0, none⟩ ∧ c = n ∧ b ≤ g ∧ n ≤ maxLen ∧ ZB w g E ∧ E.length = n ∧ R.length = n ∧ EntW w b E (fun t => R.getD t (false, []))
section
variable {w w' : World} {b b' : Nat} {A : Option Addr} {n c : Nat} {R : RawRow}
theorem OwRs.len (h : OwRs w b A n c R) : R.length = n := by
 obtain ⟨_, _, _, _, _, _, _, _, h, _⟩ := h
 exact h
theorem OwRs.next (h : OwRs w b A n c R) (hb : Below w.heap.size w w') : OwRs w' b A n c R := by
 obtain ⟨g, E, h1, h2, h3, h4, h5, h6, h7, h8⟩ := h
 exact ⟨g, E, h1, h2, h3, h4, h5.next hb, h6, h7, h8.next hb⟩
theorem OwRs.base (h : OwRs w b A n c R) (hb : b' ≤ b) : OwRs w b' A n c R := by
 obtain ⟨g, E, h1, h2, h3, h4, h5, h6, h7, h8⟩ := h
 exact ⟨g, E, h1, h2, Nat.le_trans hb h3, h4, h5, h6, h7, fun i e he => ⟨(h8 i e he).1, (h8 i e he).2.base hb⟩⟩
theorem OwRs.keep (h : OwRs w b A n c R) (hk : KeepI w w') : OwRs w' b A n c R := by
 obtain ⟨g, E, h1, h2, h3, h4, h5, h6, h7, h8⟩ := h
 exact ⟨g, E, h1, h2, h3, h4, hk.2 _ _ _ h5, h6, h7, fun i e he => ⟨(h8 i e he).1, (h8 i e he).2.keep hk.1⟩⟩
theorem OwRs.rd {N : Nat} (h : OwRs w b A n c R) (hN : ∀ r ∈ R, r.2.length ≤ N) : RdRs w w.heap.size N A n c R := by
 obtain ⟨g, E, rfl, rfl, h3, h4, h5, h6, h7, h8⟩ := h
 exact h5.rs h8 h6 h4 h7 fun j r hr => ⟨by rw [List.getD_eq_getElem?_getD, hr]; rfl, hN r (List.mem_of_getElem? hr)⟩
end
def RetRO (R : RawRow) (w : World) (e : Ending) (w' : World) : Prop :=
 ∃ (A : Option Addr) (n c : Nat), e = .returned (.slice A n c) ∧ OwRs w' w.heap.size A n c R ∧ Below w.heap.size w w'
set_option maxRecDepth 100000 in
set_option maxHeartbeats 4000000 in
theorem rCopyAll_own {N : Nat} {A : Option Addr} {n c : Nat} {R : List (Bool × List Nat)} {w : World} (h : RdRs w w.heap.size N A n c R) (hn : n ≤ 4398046511103) (hN : N ≤ 4398046511103) :
  Calls Tryz.prog 33 #[.slice A n c] w (RetRO R w) := by
 have HLEN := Lib.hid h.len
 have hmk := make_il n (by omega)
 have hB0 := (Below.refl w.heap.size w).alloc (Nat.le_refl _) (.cells (zcs (List.replicate n (false, none, 0, 0))).toArray 25)
 have hZ0 := ZB.made w n
 have hE0 := EntW.zeros (w.alloc (.cells (zcs (List.replicate n (false, none, 0, 0))).toArray 25)) w.heap.size n
 go_enter Tryz.func33, Tryz.ntmps33
 go_wp2_with fail
 obtain ⟨g, hg⟩ : ∃ g, g = w.heap.size := ⟨_, rfl⟩
 generalize w.alloc (.cells (zcs (List.replicate n (false, none, 0, 0))).toArray 25) = W1 at *
 rw [← hg] at hZ0 ⊢
 have HG := Lib.hid (Nat.le_of_eq hg.symm)
 clear hmk hg
 go_loopw [11] (fun iv wr => ∃ (i : Nat) (E : List Ent), iv = .int .i64 i ∧ i ≤ n ∧ ZB wr g E ∧ Hid (E.length = n) ∧ EntW wr w.heap.size E (fun t => if t < i then R.getD t (false, []) else (false, [])) ∧ Below w.heap.size w wr) (fun iv _ => n - (intOf iv).toNat)
 case atStart => exact ⟨0, _, rfl, Nat.zero_le _, hZ0, Lib.hid (by simp), fun i e he => by simpa using hE0 i e he, hB0⟩
 case round =>
  clear hZ0 hE0 hB0
  obtain ⟨i, E, rfl, hi, hZB, hEl, hE, hBi⟩ := hrel
  by_cases hik : i = n
  ·have HO := Lib.hid (show OwRs wr w.heap.size (some ⟨g, 0, none⟩) n n R from ⟨g, E, rfl, rfl, HG.out, by unfold maxLen; omega, hZB, hEl.out, HLEN.out, hE.to fun t => by
    by_cases e1 : t < i
    ·rw [if_pos e1]
    ·rw [if_neg e1, List.getD_eq_getElem?_getD, List.getElem?_eq_none (by rw [HLEN.out]; omega)]; rfl⟩)
   have hki := hik.symm
   subst hki
   clear hik
   go_wp2
   go_ret
   exact ⟨_, _, _, rfl, HO.out, hBi⟩
  ·have hil : i < n := by omega
   clear hik
   have hili : (i : Int) < (n : Nat) := by omega
   obtain ⟨ad, s3, M, A3, n3, c3, rfl, hbk, hz0, hz1, hrx, hn3, hx⟩ := rs_at h hil
   obtain ⟨hw0, hw1⟩ := zs_cells hBi hbk hz0 hz1
   obtain ⟨W2, HW2⟩ : ∃ W, W = wr.alloc (.cells #[.bool s3, .slice A3 n3 c3] 25) := ⟨_, rfl⟩
   have hb2 : Below wr.heap.size wr W2 := by rw [HW2]; exact (Below.refl _ _).alloc (Nat.le_refl _) _
   have HW2 := Lib.hid HW2
   have hB2 := hBi.trans (hb2.mono hBi.size)
   have hrx2 := hrx.next hB2
   go_wp2_with fail
   rw [← HW2.out]
   clear HW2 hw0 hw1 hz0 hz1
   clear HW2
   refine (rICopy_any (s := s3) hrx2 (by omega)).mono ?_
   rintro _ W4 ⟨s4, A4, n4, c4, M4, rfl, ho4, hm4, hb4⟩
   have hB4 := hB2.trans (hb4.mono hB2.size)
   have hZ4 := (hZB.next hb2).next hb4
   have hE4 := (hE.next hb2).next hb4
   obtain ⟨e, he⟩ : ∃ e, E[i]? = some e := ⟨E[i]'(by rw [hEl.out]; exact hil), List.getElem?_eq_getElem _⟩
   obtain ⟨k0, k1⟩ := hZ4.cells he
   have f0 := hZ4.frozen (i * 2)
   have f1 := hZ4.frozen (i * 2 + 1)
   have HZ5 := Lib.hid (hZ4.store i (s4, A4, n4, c4))
   have HE5 := Lib.hid (hE4.store (j := i) (e := (s4, A4, n4, c4)) (r := (s4, M4)) hZ4 ⟨rfl, ho4.base hB2.size⟩)
   have hB5 := (hB4.setCell (p := ⟨g, i * 2, none⟩) HG.out (.bool s4)).setCell (p := ⟨g, i * 2 + 1, none⟩) HG.out (.slice A4 n4 c4)
   have HF := Lib.hid (show (s4, M4) = R.getD i (false, []) by rw [hm4.out, List.getD_eq_getElem?_getD, hx.out]; rfl)
   clear hrx hrx2 hb2 hb4 hZB hE hBi he hB2
   go_wp2_with fail
   go_roundw
   case rel => exact ⟨i + 1, E.set i (s4, A4, n4, c4), by go_num, by omega, HZ5.out, Lib.hid (by rw [List.length_set]; exact hEl.out), HE5.out.congr fun t => (by
     by_cases e1 : t = i
     ·subst e1; rw [if_pos rfl, if_pos (Nat.lt_succ_self _), HF.out]
     ·rw [if_neg e1]
      by_cases e2 : t < i
      ·rw [if_pos e2, if_pos (by omega)]
      ·rw [if_neg e2, if_neg (by omega)]), hB5⟩
   case measure => simp [intOf]; omega
end Go.Proofs.YtjnklbfhelbjgaaGreat

/- Rows of raw rows of the call's own; a matrix's cells that are stored into. -/
namespace Go.Proofs.YtjnklbfhelbjgaaGreat
open Go.RowKit Go.IntWalk
def EntR (w : World) (b : Nat) (E : List (Option Addr × Nat × Nat)) (LL : List RawRow) : Prop := E.length = LL.length ∧ ∀ (j : Nat) (e : Option Addr × Nat × Nat) (L : RawRow), E[j]? = some e → LL[j]? = some L → OwRs w b e.1 e.2.1 e.2.2 L
def OwRss (w : World) (b : Nat) (A : Option Addr) (n c : Nat) (LL : List RawRow) : Prop :=
 ∃ E : List (Option Addr × Nat × Nat), w.ownsRow b 65 1 (.slice A n c) n (E.map psl) ∧ E.length = n ∧ EntR w b E LL
section
variable {w w' : World} {b b' : Nat} {A : Option Addr} {n c : Nat} {LL : List RawRow} {E : List (Option Addr × Nat × Nat)}
theorem EntR.next (h : EntR w b E LL) (hb : Below w.heap.size w w') : EntR w' b E LL := ⟨h.1, fun j e z he hz => (h.2 j e z he hz).next hb⟩
theorem EntR.base (h : EntR w b E LL) (hb : b' ≤ b) : EntR w b' E LL := ⟨h.1, fun j e z he hz => (h.2 j e z he hz).base hb⟩
theorem EntR.keep (h : EntR w b E LL) (hk : KeepI w w') : EntR w' b E LL := ⟨h.1, fun j e z he hz => (h.2 j e z he hz).keep hk⟩
theorem EntR.snoc (h : EntR w b E LL) {e : Option Addr × Nat × Nat} {L : RawRow} (he : OwRs w b e.1 e.2.1 e.2.2 L) : EntR w b (E ++ [e]) (LL ++ [L]) := by
 refine ⟨by rw [List.length_append, List.length_append, h.1]; rfl, fun j e' z' h1 h2 => ?_⟩
 rcases Nat.lt_or_ge j E.length with hj | hj
 ·rw [List.getElem?_append_left hj] at h1
  rw [List.getElem?_append_left (by rw [← h.1]; exact hj)] at h2
  exact h.2 j e' z' h1 h2
 ·rw [List.getElem?_append_right hj] at h1
  rw [List.getElem?_append_right (by rw [← h.1]; exact hj)] at h2
  rw [← h.1] at h2
  have hj0 : j - E.length = 0 := by
   rcases Nat.eq_zero_or_pos (j - E.length) with e0 | e0
   ·exact e0
   ·rw [List.getElem?_eq_none (by simp; omega)] at h1; cases h1
  rw [hj0] at h1 h2
  simp at h1 h2
  subst h1 h2
  exact he
theorem OwRss.len (h : OwRss w b A n c LL) : LL.length = n := by
 obtain ⟨E, _, h2, h3⟩ := h
 rw [← h3.1, h2]
theorem OwRss.nil (w : World) (b : Nat) : OwRss w b none 0 0 [] := ⟨[], World.ownsRow_nil _ _ _ _, rfl, rfl, fun j e z he _ => by simp at he⟩
theorem OwRss.next (h : OwRss w b A n c LL) (hb : Below w.heap.size w w') : OwRss w' b A n c LL := by
 obtain ⟨E, h1, h2, h3⟩ := h
 exact ⟨E, row_next h1 hb, h2, h3.next hb⟩
theorem OwRss.base (h : OwRss w b A n c LL) (hb : b' ≤ b) : OwRss w b' A n c LL := by
 obtain ⟨E, h1, h2, h3⟩ := h
 exact ⟨E, row_base h1 hb, h2, h3.base hb⟩
theorem OwRss.form (h : OwRss w b A n c LL) : (A = none ∧ n = 0 ∧ c = 0) ∨ ∃ g, A = some ⟨g, 0, none⟩ ∧ b ≤ g ∧ g < w.heap.size ∧ n ≤ c ∧ c ≤ maxLen := by
 obtain ⟨E, h, _, _⟩ := h
 rcases h.2 with ⟨h1, h2⟩ | ⟨g, cap, cur, h1, h2, h3, h4, h5, _⟩
 ·injection h1 with h1 h1' h1''
  exact .inl ⟨h1, h2, h1''⟩
 ·injection h1 with h1 h1' h1''
  subst h1''
  exact .inr ⟨g, h1, h2, (Array.getElem?_eq_some_iff.1 h3).1, h4, h5⟩
theorem keepI_grown {w1 : World} {xs : List Value} (hE : w.ownsRow b 65 1 (.slice A n c) n xs) (hg : w.grownBy w1 (Value.slice A n c).ownBlock) : KeepI w w1 := by
 have key : ∀ (i : Nat) (cs : Array Value) (t : TypeId) (f : Nat × Nat), t ≠ 65 → w.heap[i]? = some (.cells cs t f) → w1.heap[i]? = some (.cells cs t f) := by
  intro i cs t f ht hi
  rw [← hi]
  refine hg.block i (Array.getElem?_eq_some_iff.1 hi).1 ?_
  rcases hE.2 with ⟨h1, _⟩ | ⟨g, cap, cur, h1, h2, h3, _⟩
  ·rw [h1]
   intro e0
   cases e0
  ·rw [h1]
   intro e0
   cases e0
   rw [hi] at h3
   injection h3 with h3
   injection h3 with _ h3
   exact ht h3
 exact ⟨fun i cs f => key i cs _ f (by decide), fun i cs f => key i cs _ f (by decide)⟩
theorem rss_more {wb w1 : World} {v' : Value} {e : Option Addr × Nat × Nat} {L : RawRow} {t : TypeId} (he : OwRs w b e.1 e.2.1 e.2.2 L) (hwb : wb = w.alloc (.cells #[.slice e.1 e.2.1 e.2.2] t)) (hE : wb.ownsRow b 65 1 (.slice A n c) n (E.map psl)) (hEl : E.length = n) (hEn : EntR wb b E LL)
  (hown' : w1.ownsRow b 65 1 v' (n + 1) (E.map psl ++ [.slice e.1 e.2.1 e.2.2])) (hg : wb.grownBy w1 (Value.slice A n c).ownBlock) :
  ∃ (A' : Option Addr) (c' : Nat), v' = .slice A' (n + 1) c' ∧ OwRss w1 b A' (n + 1) c' (LL ++ [L]) := by
 obtain ⟨A', c', rfl⟩ := row_sl hown'
 have hba : Below w.heap.size w wb := by rw [hwb]; exact (Below.refl w.heap.size w).alloc (Nat.le_refl _) _
 have hk := keepI_grown hE hg
 refine ⟨A', c', rfl, E ++ [e], ?_, by rw [List.length_append, hEl]; rfl, ?_⟩
 ·rw [List.map_append]; exact hown'
 ·exact (hEn.snoc (he.next hba)).keep hk
theorem orl_at (h : OwRss w b A n c LL) {j : Nat} (hj : j < n) :
  ∃ (g : Nat) (A1 : Option Addr) (n1 c1 : Nat) (L : RawRow), A = some ⟨g, 0, none⟩ ∧ g < w.heap.size ∧ w.cell? ⟨g, j, none⟩ = some (.slice A1 n1 c1) ∧ OwRs w b A1 n1 c1 L ∧ Hid (LL[j]? = some L) := by
 have hl := h.len
 rcases h.form with ⟨_, h0, _⟩ | ⟨g, rfl, h1, h2, h3, h4⟩
 ·omega
 ·obtain ⟨E, hr, hE, hel⟩ := h
  have hjE : j < E.length := by omega
  have hjL : j < LL.length := by omega
  refine ⟨g, E[j].1, E[j].2.1, E[j].2.2, LL[j], rfl, h2, ?_, hel.2 j _ _ (List.getElem?_eq_getElem hjE) (List.getElem?_eq_getElem hjL), Lib.hid (List.getElem?_eq_getElem hjL)⟩
  have := hr.cellAt j (by omega)
  rw [this, List.getElem?_map, List.getElem?_eq_getElem hjE]
  rfl
end
theorem infoIs : (Tryz.prog.info? 65).map (fun i => (i.zero, i.size, i.bytes)) = some (some (.slice none 0 0), 1, 24) := by kernel_rfl
section
variable {w w' : World} {b n : Nat}
theorem grown_heap {w1 : World} {e t : TypeId} {k i : Nat} {v : Value} {xs : List Value} {cs : Array Value} {f : Nat × Nat} (hE : w.ownsRow b e k v n xs) (hg : w.grownBy w1 v.ownBlock) (hi : w.heap[i]? = some (.cells cs t f)) (ht : t ≠ e) : w1.heap[i]? = some (.cells cs t f) := by
 rw [← hi]
 refine hg.block i (Array.getElem?_eq_some_iff.1 hi).1 ?_
 rcases hE.2 with ⟨h1, _⟩ | ⟨g, cap, cur, h1, h2, h3, _⟩
 ·rw [h1]
  intro e0
  cases e0
 ·rw [h1]
  intro e0
  cases e0
  rw [hi] at h3
  injection h3 with h3
  injection h3 with _ h3
  exact ht h3
end
section
variable {w w' : World} {g b : Nat} {s : Bool} {A G : Option Addr} {n c r k : Nat} {RR : List RawRow}
theorem MC.grown {w1 : World} {m : Nat} {xs : List Value} {v : Value} {q : Nat} (h : MC w g s A n c G r k) (hE : w.ownsRow b 65 q v m xs) (hg : w.grownBy w1 v.ownBlock) : MC w1 g s A n c G r k := grown_heap hE hg h (by decide)
theorem MC.alloc (h : MC w g s A n c G r k) (o : Obj) : MC (w.alloc o) g s A n c G r k := h.next ((Below.refl w.heap.size w).alloc (Nat.le_refl _) o)
theorem MC.far (h : MC w g s A n c G r k) {p : Addr} (hp : g ≠ p.block) (u : Value) : MC (w.setCell p u) g s A n c G r k := (Below.heap_setCell w p u g hp).trans h
theorem MC.num (h : MC w g s A n c G r k) (G' : Option Addr) (r' k' : Nat) : MC (w.setCell ⟨g, 2, none⟩ (.slice G' r' k')) g s A n c G' r' k' := by
 unfold MC at *
 simp [World.setCell, Array.getElem?_modify, h]
def putM (w : World) (g : Nat) (s : Bool) (A : Option Addr) (n c : Nat) (G : Option Addr) (r k : Nat) : World := ((w.setCell ⟨g, 0, none⟩ (.bool s)).setCell ⟨g, 1, none⟩ (.slice A n c)).setCell ⟨g, 2, none⟩ (.slice G r k)
theorem MC.store (h : MC w g s A n c G r k) (s' : Bool) (A' : Option Addr) (n' c' : Nat) (G' : Option Addr) (r' k' : Nat) : MC (putM w g s' A' n' c' G' r' k') g s' A' n' c' G' r' k' := by
 unfold MC putM at *
 simp [World.setCell, Array.getElem?_modify, h]
theorem keepI_mc (h : MC w g s A n c G r k) (j : Nat) (u : Value) : KeepI w (w.setCell ⟨g, j, none⟩ u) := by
 have key : ∀ (i : Nat) (cs : Array Value) (t : TypeId) (f : Nat × Nat), t ≠ 28 → w.heap[i]? = some (.cells cs t f) → (w.setCell ⟨g, j, none⟩ u).heap[i]? = some (.cells cs t f) := fun i cs t f ht e => by
  have hne : i ≠ g := by
   rintro rfl
   unfold MC at h
   rw [h] at e
   injection e with e
   injection e with _ e
   exact ht e.symm
  rw [Below.heap_setCell _ (⟨g, j, none⟩ : Addr) _ i hne]
  exact e
 exact ⟨fun i cs f => key i cs _ f (by decide), fun i cs f => key i cs _ f (by decide)⟩
theorem keepI_put (h : MC w g s A n c G r k) (s' : Bool) (A' : Option Addr) (n' c' : Nat) (G' : Option Addr) (r' k' : Nat) : KeepI w (putM w g s' A' n' c' G' r' k') := by
 have key : ∀ (i : Nat) (cs : Array Value) (t : TypeId) (f : Nat × Nat), t ≠ 28 → w.heap[i]? = some (.cells cs t f) → (putM w g s' A' n' c' G' r' k').heap[i]? = some (.cells cs t f) := fun i cs t f ht e => by
  have hne : i ≠ g := by
   rintro rfl
   unfold MC at h
   rw [h] at e
   injection e with e
   injection e with _ e
   exact ht e.symm
  unfold putM
  rw [Below.heap_setCell _ (⟨g, 2, none⟩ : Addr) _ i hne, Below.heap_setCell _ (⟨g, 1, none⟩ : Addr) _ i hne, Below.heap_setCell _ (⟨g, 0, none⟩ : Addr) _ i hne]
  exact e
 exact ⟨fun i cs f => key i cs _ f (by decide), fun i cs f => key i cs _ f (by decide)⟩
theorem OwRss.num {D : Option Addr} {m q : Nat} (h : OwRss w b D m q RR) (hm : MC w g s A n c G r k) (hg : g < b) (u : Value) : OwRss (w.setCell ⟨g, 2, none⟩ u) b D m q RR := by
 obtain ⟨E, h1, h2, h3⟩ := h
 exact ⟨E, row_far h1 hg u, h2, h3.keep (keepI_mc hm 2 u)⟩
theorem OwRss.put {D : Option Addr} {m q : Nat} (h : OwRss w b D m q RR) (hm : MC w g s A n c G r k) (hg : g < b) (s' : Bool) (A' : Option Addr) (n' c' : Nat) (G' : Option Addr) (r' k' : Nat) : OwRss (putM w g s' A' n' c' G' r' k') b D m q RR := by
 obtain ⟨E, h1, h2, h3⟩ := h
 exact ⟨E, row_far (row_far (row_far h1 (p := ⟨g, 0, none⟩) hg _) (p := ⟨g, 1, none⟩) hg _) (p := ⟨g, 2, none⟩) hg _, h2, h3.keep (keepI_put hm s' A' n' c' G' r' k')⟩
theorem below_putM {B : Nat} (hb : Below B w w') (hg : B ≤ g) (s' : Bool) (A' : Option Addr) (n' c' : Nat) (G' : Option Addr) (r' k' : Nat) : Below B w (putM w' g s' A' n' c' G' r' k') :=
 ((hb.setCell (p := ⟨g, 0, none⟩) hg _).setCell (p := ⟨g, 1, none⟩) hg _).setCell (p := ⟨g, 2, none⟩) hg _
theorem OwRss.rd {D : Option Addr} {m q N K : Nat} (h : OwRss w b D m q RR) (hx : ∀ R ∈ RR, R.length ≤ K ∧ ∀ x ∈ R, x.2.length ≤ N) (hq : q ≤ maxLen) (hmq : m ≤ q) : RdRss w w.heap.size N K D m q RR := by
 refine ⟨h.len, hmq, hq, fun j R hR => ?_⟩
 have hj : j < m := by
  rcases Nat.lt_or_ge j m with h1 | h1
  ·exact h1
  ·rw [List.getElem?_eq_none (by rw [h.len]; exact h1)] at hR; cases hR
 obtain ⟨g, A1, n1, c1, R', rfl, h2, h3, h4, h5⟩ := orl_at h hj
 rw [h5.out] at hR
 injection hR with hR
 subst hR
 have hm := hx R' (List.mem_of_getElem? h5.out)
 exact ⟨_, A1, n1, c1, rfl, h2, by rw [add_base]; exact h3, h4.rd hm.2, by rw [← h4.len]; exact hm.1⟩
end
end Go.Proofs.YtjnklbfhelbjgaaGreat

/- Rows of integers of the call's own, by their values: n of what a block holds; rows of such rows. -/
namespace Go.Proofs.YtjnklbfhelbjgaaGreat
open Go.RowKit Go.IntWalk
theorem add_off (g off t : Nat) : (⟨g, off, none⟩ : Addr).add t = ⟨g, off + t, none⟩ := by
 unfold Addr.add
 split
 ·subst_vars; rfl
 ·rfl
def OwIp (w : World) (b : Nat) (A : Option Addr) (n c : Nat) (L : List Int) : Prop :=
 ∃ E : List Ent, E.length = n ∧ Ents w b E L ∧ n ≤ c ∧ c ≤ maxLen ∧ (n = 0 ∨ ∃ (g off : Nat) (cs : Array Value), A = some ⟨g, off, none⟩ ∧ b ≤ g ∧ w.heap[g]? = some (.cells cs 25 (0, 0)) ∧ ∀ (i : Nat) (v : Value), (zcs E)[i]? = some v → cs[off + i]? = some v)
section
variable {w w' : World} {b b' : Nat} {A : Option Addr} {n c : Nat} {L : List Int}
theorem Ents.keep {E : List Ent} (h : Ents w b E L) (hk : KeepT w w') : Ents w' b E L := ⟨h.1, fun j e z he hz => (h.2 j e z he hz).keep hk⟩
theorem OwIp.len (h : OwIp w b A n c L) : L.length = n := by
 obtain ⟨E, h1, h2, _⟩ := h
 rw [← h2.1, h1]
theorem OwIp.le (h : OwIp w b A n c L) : n ≤ c ∧ c ≤ maxLen := by
 obtain ⟨E, _, _, h3, h4, _⟩ := h
 exact ⟨h3, h4⟩
theorem OwIp.next (h : OwIp w b A n c L) (hb : Below w.heap.size w w') : OwIp w' b A n c L := by
 obtain ⟨E, h1, h2, h3, h4, h5⟩ := h
 refine ⟨E, h1, h2.next hb, h3, h4, h5.imp id ?_⟩
 rintro ⟨g, off, cs, k1, k2, k3, k4⟩
 exact ⟨g, off, cs, k1, k2, (hb.block g (Array.getElem?_eq_some_iff.1 k3).1).trans k3, k4⟩
theorem OwIp.base (h : OwIp w b A n c L) (hb : b' ≤ b) : OwIp w b' A n c L := by
 obtain ⟨E, h1, h2, h3, h4, h5⟩ := h
 refine ⟨E, h1, h2.base hb, h3, h4, h5.imp id ?_⟩
 rintro ⟨g, off, cs, k1, k2, k3, k4⟩
 exact ⟨g, off, cs, k1, Nat.le_trans hb k2, k3, k4⟩
theorem OwIp.keep (h : OwIp w b A n c L) (hk : KeepI w w') : OwIp w' b A n c L := by
 obtain ⟨E, h1, h2, h3, h4, h5⟩ := h
 refine ⟨E, h1, h2.keep hk.1, h3, h4, h5.imp id ?_⟩
 rintro ⟨g, off, cs, k1, k2, k3, k4⟩
 exact ⟨g, off, cs, k1, k2, hk.2 _ _ _ k3, k4⟩
theorem OwIp.nil (w : World) (b : Nat) (A : Option Addr) {c : Nat} (hc : c ≤ maxLen) : OwIp w b A 0 c [] := ⟨[], rfl, ⟨rfl, fun j e z he _ => by simp at he⟩, Nat.zero_le _, hc, .inl rfl⟩
theorem OwZs.ip (h : OwZs w b A n c L) : OwIp w b A n c L := by
 rcases h.form with ⟨rfl, rfl, rfl⟩ | ⟨g, rfl, h1, h2, h3, h4⟩
 ·have := h.len
  rw [List.eq_nil_of_length_eq_zero this]
  exact OwIp.nil w b none (Nat.zero_le _)
 ·obtain ⟨E, hr, hE, hel⟩ := h
  refine ⟨E, hE, hel, h3, h4, .inr ?_⟩
  rcases hr.2 with ⟨k1, _⟩ | ⟨g2, cap, cur, k1, k2, k3, k4, k5, k6, k7⟩
  ·cases k1
  ·injection k1 with k1 _ _
   injection k1 with k1
   injection k1 with k1 _ _
   subst k1
   refine ⟨g, 0, cur, rfl, k2, k3, fun i v hv => ?_⟩
   have hi : i < (zcs E).length := by
    rcases Nat.lt_or_ge i (zcs E).length with h5 | h5
    ·exact h5
    ·rw [List.getElem?_eq_none h5] at hv; cases hv
   have hi2 : i < n * 2 := by rw [zcs_len, hE] at hi; exact hi
   rw [← k7, List.getElem?_take_of_lt hi2] at hv
   simpa using hv
theorem zcs_take (E : List Ent) : ∀ (k i : Nat) (v : Value), (zcs (E.take k))[i]? = some v → (zcs E)[i]? = some v := by
 induction E with
 | nil => intro k i v h; simpa using h
 | cons e E ih =>
   intro k i v h
   cases k with
   | zero => simp [zcs] at h
   | succ k =>
     rw [List.take_succ_cons, zcs_cons] at h
     rw [zcs_cons]
     rcases Nat.lt_or_ge i (zc e).length with h1 | h1
     ·rw [List.getElem?_append_left h1] at h ⊢
      exact h
     ·rw [List.getElem?_append_right h1] at h ⊢
      exact ih k _ v h
theorem zcs_drop (E : List Ent) (k i : Nat) (hk : k ≤ E.length) : (zcs (E.drop k))[i]? = (zcs E)[k * 2 + i]? := by
 have e : zcs E = zcs (E.take k) ++ zcs (E.drop k) := by rw [← zcs_append, List.take_append_drop]
 have hl : (zcs (E.take k)).length = k * 2 := by rw [zcs_len, List.length_take, Nat.min_eq_left hk]
 rw [e, List.getElem?_append_right (by omega), hl]
 congr 1
 omega
theorem Ents.take {E : List Ent} (h : Ents w b E L) (k : Nat) : Ents w b (E.take k) (L.take k) := by
 refine ⟨by rw [List.length_take, List.length_take, h.1], fun j e z he hz => ?_⟩
 have hj : j < k := by
  rcases Nat.lt_or_ge j k with h1 | h1
  ·exact h1
  ·rw [List.getElem?_eq_none (by rw [List.length_take]; omega)] at he; cases he
 rw [List.getElem?_take_of_lt hj] at he hz
 exact h.2 j e z he hz
theorem Ents.drop {E : List Ent} (h : Ents w b E L) (k : Nat) : Ents w b (E.drop k) (L.drop k) := by
 refine ⟨by rw [List.length_drop, List.length_drop, h.1], fun j e z he hz => ?_⟩
 rw [List.getElem?_drop] at he hz
 exact h.2 _ e z he hz
theorem OwIp.take (h : OwIp w b A n c L) {k : Nat} (hk : k ≤ n) : OwIp w b A k k (L.take k) := by
 obtain ⟨E, h1, h2, h3, h4, h5⟩ := h
 refine ⟨E.take k, by rw [List.length_take]; omega, h2.take k, Nat.le_refl _, by omega, ?_⟩
 rcases h5 with h5 | ⟨g, off, cs, k1, k2, k3, k4⟩
 ·exact .inl (by omega)
 ·exact .inr ⟨g, off, cs, k1, k2, k3, fun i v hv => k4 i v (zcs_take E k i v hv)⟩
theorem OwIp.drop {ad : Addr} (h : OwIp w b (some ad) n c L) {k : Nat} (hk : k ≤ n) : OwIp w b (some (ad.add (k * 2))) (n - k) (c - k) (L.drop k) := by
 obtain ⟨E, h1, h2, h3, h4, h5⟩ := h
 refine ⟨E.drop k, by rw [List.length_drop]; omega, h2.drop k, by omega, by omega, ?_⟩
 rcases h5 with h5 | ⟨g, off, cs, k1, k2, k3, k4⟩
 ·exact .inl (by omega)
 ·injection k1 with k1
  subst k1
  refine .inr ⟨g, off + k * 2, cs, by rw [add_off], k2, k3, fun i v hv => ?_⟩
  rw [zcs_drop E k i (by omega)] at hv
  have := k4 _ v hv
  rwa [← Nat.add_assoc] at this
theorem OwIp.rs {N : Nat} (h : OwIp w b A n c L) (hN : ∀ z ∈ L, Zz.zl z ≤ N) : RdRs w w.heap.size N A n c (L.map ofZ) := by
 have hl := h.len
 have hle := h.le
 obtain ⟨E, h1, h2, h3, h4, h5⟩ := h
 refine ⟨by rw [List.length_map]; exact hl, hle.1, hle.2, fun j r hz => ?_⟩
 rw [List.getElem?_map] at hz
 obtain ⟨z, hzz, rfl⟩ := Option.map_eq_some_iff.1 hz
 have hj : j < L.length := by
  rcases Nat.lt_or_ge j L.length with h6 | h6
  ·exact h6
  ·rw [List.getElem?_eq_none h6] at hzz; cases hzz
 rcases h5 with h5 | ⟨g, off, cs, rfl, k2, k3, k4⟩
 ·omega
 ·have hjE : j < E.length := by omega
  have he := List.getElem?_eq_getElem hjE
  have hz' := h2.2 j _ z he hzz
  obtain ⟨c0, c1⟩ := zcs_at E j _ he
  refine ⟨_, _, _, _, rfl, (Array.getElem?_eq_some_iff.1 k3).1, ?_, ?_, hz'.own.rd, ?_⟩
  ·rw [add_off, cell_of_row w g _ _ _ _ k3, k4 _ _ c0]
   exact congrArg some (congrArg Value.bool hz'.sgn)
  ·rw [add_off]
   show w.cell? ⟨g, off + j * 2 + 1, none⟩ = _
   rw [cell_of_row w g _ _ _ _ k3]
   exact k4 _ _ c1
  ·rw [hz'.len]; exact hN z (List.mem_of_getElem? hzz)
end
def EntMs (w : World) (b : Nat) (E : List (Option Addr × Nat × Nat)) (LL : List (List Int)) : Prop := E.length = LL.length ∧ ∀ (j : Nat) (e : Option Addr × Nat × Nat) (L : List Int), E[j]? = some e → LL[j]? = some L → OwIp w b e.1 e.2.1 e.2.2 L
def OwMs (w : World) (b : Nat) (A : Option Addr) (n c : Nat) (LL : List (List Int)) : Prop :=
 ∃ E : List (Option Addr × Nat × Nat), w.ownsRow b 65 1 (.slice A n c) n (E.map psl) ∧ E.length = n ∧ EntMs w b E LL
section
variable {w w' : World} {b b' : Nat} {A : Option Addr} {n c : Nat} {LL : List (List Int)} {E : List (Option Addr × Nat × Nat)}
theorem EntMs.next (h : EntMs w b E LL) (hb : Below w.heap.size w w') : EntMs w' b E LL := ⟨h.1, fun j e z he hz => (h.2 j e z he hz).next hb⟩
theorem EntMs.base (h : EntMs w b E LL) (hb : b' ≤ b) : EntMs w b' E LL := ⟨h.1, fun j e z he hz => (h.2 j e z he hz).base hb⟩
theorem EntMs.keep (h : EntMs w b E LL) (hk : KeepI w w') : EntMs w' b E LL := ⟨h.1, fun j e z he hz => (h.2 j e z he hz).keep hk⟩
theorem EntMs.snoc (h : EntMs w b E LL) {e : Option Addr × Nat × Nat} {L : List Int} (he : OwIp w b e.1 e.2.1 e.2.2 L) : EntMs w b (E ++ [e]) (LL ++ [L]) := by
 refine ⟨by rw [List.length_append, List.length_append, h.1]; rfl, fun j e' z' h1 h2 => ?_⟩
 rcases Nat.lt_or_ge j E.length with hj | hj
 ·rw [List.getElem?_append_left hj] at h1
  rw [List.getElem?_append_left (by rw [← h.1]; exact hj)] at h2
  exact h.2 j e' z' h1 h2
 ·rw [List.getElem?_append_right hj] at h1
  rw [List.getElem?_append_right (by rw [← h.1]; exact hj)] at h2
  rw [← h.1] at h2
  have hj0 : j - E.length = 0 := by
   rcases Nat.eq_zero_or_pos (j - E.length) with e0 | e0
   ·exact e0
   ·rw [List.getElem?_eq_none (by simp; omega)] at h1; cases h1
  rw [hj0] at h1 h2
  simp at h1 h2
  subst h1 h2
  exact he
theorem OwMs.len (h : OwMs w b A n c LL) : LL.length = n := by
 obtain ⟨E, _, h2, h3⟩ := h
 rw [← h3.1, h2]
theorem OwMs.nil (w : World) (b : Nat) : OwMs w b none 0 0 [] := ⟨[], World.ownsRow_nil _ _ _ _, rfl, rfl, fun j e z he _ => by simp at he⟩
theorem OwMs.next (h : OwMs w b A n c LL) (hb : Below w.heap.size w w') : OwMs w' b A n c LL := by
 obtain ⟨E, h1, h2, h3⟩ := h
 exact ⟨E, row_next h1 hb, h2, h3.next hb⟩
theorem OwMs.base (h : OwMs w b A n c LL) (hb : b' ≤ b) : OwMs w b' A n c LL := by
 obtain ⟨E, h1, h2, h3⟩ := h
 exact ⟨E, row_base h1 hb, h2, h3.base hb⟩
theorem OwMs.form (h : OwMs w b A n c LL) : (A = none ∧ n = 0 ∧ c = 0) ∨ ∃ g, A = some ⟨g, 0, none⟩ ∧ b ≤ g ∧ g < w.heap.size ∧ n ≤ c ∧ c ≤ maxLen := by
 obtain ⟨E, h, _, _⟩ := h
 rcases h.2 with ⟨h1, h2⟩ | ⟨g, cap, cur, h1, h2, h3, h4, h5, _⟩
 ·injection h1 with h1 h1' h1''
  exact .inl ⟨h1, h2, h1''⟩
 ·injection h1 with h1 h1' h1''
  subst h1''
  exact .inr ⟨g, h1, h2, (Array.getElem?_eq_some_iff.1 h3).1, h4, h5⟩
theorem ms_more {wb w1 : World} {v' : Value} {e : Option Addr × Nat × Nat} {L : List Int} {t : TypeId} (he : OwIp w b e.1 e.2.1 e.2.2 L) (hwb : wb = w.alloc (.cells #[.slice e.1 e.2.1 e.2.2] t)) (hE : wb.ownsRow b 65 1 (.slice A n c) n (E.map psl)) (hEl : E.length = n) (hEn : EntMs wb b E LL)
  (hown' : w1.ownsRow b 65 1 v' (n + 1) (E.map psl ++ [.slice e.1 e.2.1 e.2.2])) (hg : wb.grownBy w1 (Value.slice A n c).ownBlock) :
  ∃ (A' : Option Addr) (c' : Nat), v' = .slice A' (n + 1) c' ∧ OwMs w1 b A' (n + 1) c' (LL ++ [L]) := by
 obtain ⟨A', c', rfl⟩ := row_sl hown'
 have hba : Below w.heap.size w wb := by rw [hwb]; exact (Below.refl w.heap.size w).alloc (Nat.le_refl _) _
 have hk := keepI_grown hE hg
 refine ⟨A', c', rfl, E ++ [e], ?_, by rw [List.length_append, hEl]; rfl, ?_⟩
 ·rw [List.map_append]; exact hown'
 ·exact (hEn.snoc (he.next hba)).keep hk
theorem oml_at (h : OwMs w b A n c LL) {j : Nat} (hj : j < n) :
  ∃ (g : Nat) (A1 : Option Addr) (n1 c1 : Nat) (L : List Int), A = some ⟨g, 0, none⟩ ∧ g < w.heap.size ∧ w.cell? ⟨g, j, none⟩ = some (.slice A1 n1 c1) ∧ OwIp w b A1 n1 c1 L ∧ Hid (LL[j]? = some L) := by
 have hl := h.len
 rcases h.form with ⟨_, h0, _⟩ | ⟨g, rfl, h1, h2, h3, h4⟩
 ·omega
 ·obtain ⟨E, hr, hE, hel⟩ := h
  have hjE : j < E.length := by omega
  have hjL : j < LL.length := by omega
  refine ⟨g, E[j].1, E[j].2.1, E[j].2.2, LL[j], rfl, h2, ?_, hel.2 j _ _ (List.getElem?_eq_getElem hjE) (List.getElem?_eq_getElem hjL), Lib.hid (List.getElem?_eq_getElem hjL)⟩
  have := hr.cellAt j (by omega)
  rw [this, List.getElem?_map, List.getElem?_eq_getElem hjE]
  rfl
end
section
variable {w w' : World} {b : Nat} {G : Option Addr} {r k N K : Nat} {LL : List (List Int)}
theorem OwMs.rd (h : OwMs w b G r k LL) (hN : ∀ L ∈ LL, L.length ≤ K ∧ ∀ z ∈ L, Zz.zl z ≤ N) : RdRss w w.heap.size N K G r k (LL.map (·.map ofZ)) := by
 have hl := h.len
 have hf : r ≤ k ∧ k ≤ maxLen := by
  rcases h.form with ⟨_, rfl, rfl⟩ | ⟨g, _, _, _, h3, h4⟩
  ·exact ⟨Nat.le_refl _, Nat.zero_le _⟩
  ·exact ⟨h3, h4⟩
 refine ⟨by rw [List.length_map]; exact hl, hf.1, hf.2, fun j R hR => ?_⟩
 rw [List.getElem?_map] at hR
 obtain ⟨L, hL, rfl⟩ := Option.map_eq_some_iff.1 hR
 have hj : j < LL.length := by
  rcases Nat.lt_or_ge j LL.length with h6 | h6
  ·exact h6
  ·rw [List.getElem?_eq_none h6] at hL; cases hL
 obtain ⟨g, A1, n1, c1, L', rfl, h2, h3, h4, h5⟩ := oml_at h (show j < r by omega)
 rw [h5.out] at hL
 injection hL with hL
 subst hL
 have hm := hN L' (List.mem_of_getElem? h5.out)
 exact ⟨_, A1, n1, c1, rfl, h2, by rw [add_base]; exact h3, h4.rs hm.2, by rw [← h4.len]; exact hm.1⟩
theorem OwMs.num {s : Bool} {A D : Option Addr} {n c g p q : Nat} (h : OwMs w b G r k LL) (hm : MC w g s A n c D p q) (hg : g < b) (u : Value) : OwMs (w.setCell ⟨g, 2, none⟩ u) b G r k LL := by
 obtain ⟨E, h1, h2, h3⟩ := h
 exact ⟨E, row_far h1 hg u, h2, h3.keep (keepI_mc hm 2 u)⟩
theorem OwMs.put {s : Bool} {A D : Option Addr} {n c g p q : Nat} (h : OwMs w b G r k LL) (hm : MC w g s A n c D p q) (hg : g < b) (s' : Bool) (A' : Option Addr) (n' c' : Nat) (G' : Option Addr) (r' k' : Nat) : OwMs (putM w g s' A' n' c' G' r' k') b G r k LL := by
 obtain ⟨E, h1, h2, h3⟩ := h
 exact ⟨E, row_far (row_far (row_far h1 (p := ⟨g, 0, none⟩) hg _) (p := ⟨g, 1, none⟩) hg _) (p := ⟨g, 2, none⟩) hg _, h2, h3.keep (keepI_put hm s' A' n' c' G' r' k')⟩
end
theorem toZ_ofZ (z : Int) : toZ (ofZ z) = z := by
 show Zz.sg (decide (z < 0)) (Dg.val (Dg.dg z.natAbs)) = z
 rw [Dg.val_dg, Zz.sg_abs]
def ent (d : Int) (RR : List RawRow) : List (List Rat) := RR.map fun R => R.map fun x => Rat.divInt (toZ x) d
def entZ (d : Int) (LL : List (List Int)) : List (List Rat) := LL.map fun L => L.map fun z => Rat.divInt z d
theorem ent_ofZ (d : Int) (LL : List (List Int)) : ent d (LL.map (·.map ofZ)) = entZ d LL := by
 unfold ent entZ
 rw [List.map_map]
 refine List.map_congr_left fun L _ => ?_
 show (L.map ofZ).map _ = _
 rw [List.map_map]
 refine List.map_congr_left fun z _ => ?_
 show Rat.divInt (toZ (ofZ z)) d = _
 rw [toZ_ofZ]
end Go.Proofs.YtjnklbfhelbjgaaGreat

/- How many bits: nat.Len, exactly. -/
namespace Go.Proofs.YtjnklbfhelbjgaaGreat
open Go.RowKit Go.IntWalk
def nlen (v : Nat) : Nat := if (Dg.dg v).length = 0 then 0 else 32 * ((Dg.dg v).length - 1) + Lib.bitLen (Dg.ld (Dg.dg v) ((Dg.dg v).length - 1))
theorem nlen_nil {v : Nat} (h : Dg.dg v = []) : nlen v = 0 := by unfold nlen; rw [h]; rfl
theorem nlen_top {v j x : Nat} (h : (Dg.dg v).length = j + 1) (hx : Dg.ld (Dg.dg v) j = x) : nlen v = 32 * j + Lib.bitLen x := by
 unfold nlen
 rw [if_neg (by omega), h]
 show 32 * (j + 1 - 1) + Lib.bitLen (Dg.ld (Dg.dg v) (j + 1 - 1)) = _
 rw [Nat.add_sub_cancel, hx]
set_option maxHeartbeats 400000 in
theorem nlen_any {A : Option Addr} {n c : Nat} {L : List Nat} {w : World} (h : RdU w w.heap.size A n c L) (hn : n ≤ 17592186044416) :
  Calls Tryz.prog 84 #[.slice A n c] w fun e w' => ∃ z : Nat, e = .returned (.int .i64 z) ∧ Hid (z = nlen (Dg.val L)) ∧ w = w' := by
 have hlen := Lib.hid h.len
 go_enter Tryz.func84, Tryz.ntmps84
 go_wp2_with fail
 refine (trim_any h (by omega)).mono ?_
 rintro _ _ ⟨k, rfl, hk, rfl⟩
 have hkl := hk.out.1
 have hkn : k ≤ n := by rw [hlen.out] at hkl; exact hkl
 rcases Nat.eq_zero_or_pos k with h0 | h0
 ·subst h0
  have HZ := Lib.hid (hk.out.2.symm.trans (List.take_zero))
  clear hkl
  go_wp2
  go_ret
  exact ⟨0, rfl, Lib.hid (nlen_nil HZ.out).symm, rfl⟩
 ·obtain ⟨j, rfl⟩ : ∃ j, k = j + 1 := ⟨k - 1, by omega⟩
  have hj : j < (L.take (j + 1)).length := by rw [List.length_take]; omega
  obtain ⟨hx, ad, rfl, hb, hc⟩ := (h.take hkn).at_ j (Dg.ld (L.take (j + 1)) j) (Dg.get_of_ld hj)
  have hpos : Dg.ld (L.take (j + 1)) j ≠ 0 := by
   have hne : L.take (j + 1) ≠ [] := fun e => by rw [e] at hj; simp at hj
   have hnm := Dg.dg_nm (Dg.val L)
   rw [← hk.out.2] at hnm
   have hh := hnm hne
   rw [List.getLast_eq_getElem] at hh
   rw [Dg.ld_lt hj]
   simpa [List.length_take, Nat.min_eq_left hkl] using hh
  have HNL := Lib.hid (show ∀ x, Dg.ld (L.take (j + 1)) j = x → nlen (Dg.val L) = 32 * j + Lib.bitLen x from fun x hx => nlen_top (by rw [← hk.out.2, List.length_take]; omega) (by rw [← hk.out.2]; exact hx))
  obtain ⟨x, hxe⟩ : ∃ x, Dg.ld (L.take (j + 1)) j = x := ⟨_, rfl⟩
  have HXE := Lib.hid (HNL.out x hxe)
  rw [hxe] at hx hc hpos
  clear hj hkl hxe HNL
  have HP := Lib.hid hpos
  clear hpos
  go_wp2_with fail
  refine (bits_Len32 _ _ (by omega) (by omega)).mono ?_
  rintro _ _ ⟨rfl, rfl⟩
  have hbl := Lib.hid (Lib.bitLen_half x HP.out (by omega))
  have hle : Lib.bitLen x ≤ 64 := Lib.bitLen_le x 64 (Nat.le_refl _) (by omega)
  go_wp2
  go_ret
  refine ⟨32 * j + Lib.bitLen x, ?_, Lib.hid HXE.out.symm, rfl⟩
  exact ret_i (by simp)
end Go.Proofs.YtjnklbfhelbjgaaGreat

/- How many bits: reference 01's Len, exactly. -/
namespace Go.Proofs.YtjnklbfhelbjgaaGreat
open Go.RowKit Go.IntWalk
set_option maxRecDepth 100000 in
set_option maxHeartbeats 2000000 in
theorem rnlen_any {A : Option Addr} {n c : Nat} {L : List Nat} {w : World} (h : RdU w w.heap.size A n c L) (hn : n ≤ 17592186044416) :
  Calls Tryz.prog 150 #[.slice A n c] w (RetK (nlen (Dg.val L) : Int) w) := by
 go_enter Tryz.func150, Tryz.ntmps150
 go_wp2_with fail
 refine (refNorm_any h hn).mono ?_
 rintro _ W2 ⟨A2, n2, c2, x, rfl, ho, hx, hb⟩
 obtain rfl : x = Dg.val L := hx.out
 have HB := Lib.hid hb
 have hlen : (Dg.dg (Dg.val L)).length = n2 := ho.len
 have HJB := Lib.hid (show n2 ≤ n from by rw [← hlen, ← h.len]; exact Dg.dg_len_lt.2 (Dg.val_lt h.wd))
 have hm1 := ho.rd.le
 have hm2 := ho.rd.mx
 unfold maxLen at hm2
 rcases Nat.eq_zero_or_pos n2 with h0 | h0
 ·subst h0
  have HZ := Lib.hid (List.eq_nil_of_length_eq_zero hlen)
  clear hb hlen ho hm1 hm2
  go_wp2
  go_ret
  exact ⟨0, rfl, Lib.hid (by rw [nlen_nil HZ.out]; rfl), HB.out⟩
 ·obtain ⟨j, rfl⟩ : ∃ j, n2 = j + 1 := ⟨n2 - 1, by omega⟩
  have hj : j < (Dg.dg (Dg.val L)).length := by omega
  obtain ⟨hx4, ad, rfl, hb4, hc4⟩ := ho.rd.at_ j (Dg.ld (Dg.dg (Dg.val L)) j) (Dg.get_of_ld hj)
  have HNL := Lib.hid (nlen_top hlen rfl)
  generalize Dg.ld (Dg.dg (Dg.val L)) j = y at *
  have HN := Lib.hid HNL.out
  have hjb : j ≤ 17592186044416 := by have := HJB.out; omega
  have hyl : Lib.bitLen y ≤ 64 := Lib.bitLen_le y 64 (Nat.le_refl _) (by omega)
  have HYL := Lib.hid hyl
  clear hb hlen ho hj hm1 hm2
  go_wp2_with fail
  go_loopw [3, 4] (fun nv xv wr => ∃ (m y : Nat), nv = .int .i64 (m : Int) ∧ xv = .int .u32 (y : Int) ∧ y < 4294967296 ∧ m ≤ 32 * j + 64 ∧ Hid (m + Lib.bitLen y = nlen (Dg.val L)) ∧ wr = W2) (fun _ xv _ => (intOf xv).toNat)
  case atStart => exact ⟨32 * j, y, by go_num, rfl, hx4, by omega, Lib.hid HN.out.symm, rfl⟩
  case round =>
   obtain ⟨m, y, rfl, rfl, hy, hm, hv, rfl⟩ := hrel
   by_cases h0 : y = 0
   ·subst h0
    have HV := Lib.hid (show m = nlen (Dg.val L) from by rw [← hv.out]; rfl)
    clear hv
    go_wp2
    go_ret
    exact ⟨_, rfl, Lib.hid (by rw [HV.out]), HB.out⟩
   ·have hyp : (0 : Int) < (y : Int) := by omega
    have hbl := Lib.bitLen_half y h0 (by omega)
    have hle : Lib.bitLen y ≤ 64 := Lib.bitLen_le y 64 (Nat.le_refl _) (by omega)
    have HV := Lib.hid (show (m + 1) + Lib.bitLen (y / 2) = nlen (Dg.val L) from by rw [← hv.out]; omega)
    have HJ := Lib.hid (show m + 1 ≤ 32 * j + 64 from by
     have h1 := HV.out
     have h2 := HN.out
     have h3 := HYL.out
     omega)
    clear h0 hbl hle
    go_wp2
    go_roundw
    case rel => exact ⟨m + 1, y / 2, by go_num, by go_num, by omega, HJ.out, HV, by first | rfl | trivial⟩
    case measure => simp [intOf]; omega
end Go.Proofs.YtjnklbfhelbjgaaGreat

/- qpoly.norms at int. -/
namespace Go.Proofs.YtjnklbfhelbjgaaGreat
open Go.RowKit Go.IntWalk
attribute [local go_sem ↓] Go.wp_at_zero Go.wp_at_succ
def RetKE (Φ : Int → Int → Prop) (w : World) (e : Ending) (w' : World) : Prop :=
 ∃ (v : Int) (kk : Int), e = .returned (.tuple #[.int .i64 v, .int .i64 kk]) ∧ Hid (Φ v kk) ∧ Below w.heap.size w w'
end Go.Proofs.YtjnklbfhelbjgaaGreat

/- rat.made at int, of normal fractions; rat.Cmp. -/
namespace Go.Proofs.YtjnklbfhelbjgaaGreat
open Go.RowKit Go.IntWalk
attribute [local go_sem ↓] Go.wp_at_zero Go.wp_at_succ
set_option maxRecDepth 100000 in
set_option maxHeartbeats 8000000 in
theorem made_int {f N : Nat} {A : Option Addr} {n c : Nat} {L : List (Int × Int)} {w : World} {Φ : Int → Int → Prop} (h : RdQs w w.heap.size N A n c L) (hn : n ≤ 1048576) (hN : N ≤ 1000000000000) (heg : ∀ args w, (callFunc f args).run Tryz.prog w = .ok (.enter f args) w) (hall : ∀ p ∈ L, p.2 ≠ 0)
  (hdo : ∀ (W : World) (A' : Option Addr) (c' : Nat), Below w.heap.size w W → OwQs W w.heap.size A' n c' (L.map qval) → Calls Tryz.prog f #[.slice A' n c'] W (RetKE Φ W)) :
  Calls Tryz.prog 188 #[.func (.func f) #[] #[], .slice A n c] w (RetKE Φ w) := by
 have HD := Lib.hid hdo
 have HAL := Lib.hid hall
 have HLEN := Lib.hid h.len
 have hmk := fun W : World => make_qroom n (by omega) W
 obtain ⟨i0, hi, hz0, hz1, hz2⟩ := info_parts infoQ
 obtain ⟨W1, HW1⟩ : ∃ W, W = w.alloc (.cells (madeCells #[.bool false, .slice none 0 0, .bool false, .slice none 0 0] (n * 4)) 47) := ⟨_, rfl⟩
 have hb1 : Below w.heap.size w W1 := by rw [HW1]; exact (Below.refl _ _).alloc (Nat.le_refl _) _
 have hO1 : OwQs W1 w.heap.size (some ⟨w.heap.size, 0, none⟩) 0 n [] := by rw [HW1]; exact OwQs.room w n (by unfold maxLen; omega)
 have HW1 := Lib.hid HW1
 clear hdo hall
 go_enter Tryz.func188, Tryz.ntmps188
 go_wp2_with fail
 rw [← HW1.out]
 clear HW1
 clear HW1
 go_loopw [7, 17] (fun ov iv wr => ∃ (j c' : Nat) (A' : Option Addr) (M : List Rat), ov = .slice A' j c' ∧ iv = .int .i64 j ∧ j ≤ n ∧ OwQs wr w.heap.size A' j c' M ∧ Hid (M = (L.take j).map qval) ∧ Below w.heap.size w wr) (fun _ iv _ => n - (intOf iv).toNat)
 case atStart => exact ⟨0, n, _, [], rfl, rfl, Nat.zero_le _, hO1, Lib.hid rfl, hb1⟩
 case round =>
  clear hO1 hb1
  obtain ⟨j, c', A', M, rfl, rfl, hj, ho, hM, hB⟩ := hrel
  by_cases hjn : j = n
  ·subst hjn
   have HO := Lib.hid (show OwQs wr w.heap.size A' j c' (L.map qval) by rw [← List.take_of_length_le (l := L) (by rw [HLEN.out]; exact Nat.le_refl _), ← hM.out]; exact ho)
   have HBW := Lib.hid hB
   clear ho hB hM
   go_wp2_with fail
   refine (HD.out wr A' c' HBW.out HO.out).mono ?_
   rintro _ W5 ⟨v, kk, rfl, hy, hb5⟩
   go_wp2
   exact bodyPost_ret (by simp [results, Tryz.results188, go_sem]) rfl ⟨v, kk, rfl, hy, HBW.out.trans (hb5.mono HBW.out.size)⟩
  ·have hjl : j < n := by omega
   clear hjn
   have hjli : (j : Int) < (n : Int) := by omega
   obtain ⟨ad, s1, A1, n1, c1, s2, A2, n2, c2, z1, d1, rfl, hbk, hx0, hx1, hx2, hx3, hr1, hr2, hn1, hn2, hp⟩ := qs_at h hjl
   obtain ⟨hy0, hy1, hy2, hy3⟩ := qs_cells hB hbk hx0 hx1 hx2 hx3
   obtain ⟨W2, HW2⟩ : ∃ W, W = wr.alloc (.cells #[.bool s1, .slice A1 n1 c1, .bool s2, .slice A2 n2 c2] 47) := ⟨_, rfl⟩
   have hb2 : Below wr.heap.size wr W2 := by rw [HW2]; exact (Below.refl _ _).alloc (Nat.le_refl _) _
   have hB2 := hB.trans (hb2.mono hB.size)
   have HO := Lib.hid (ho.next hb2)
   have HRD := Lib.hid (And.intro (hr1.next hB2) (hr2.next hB2))
   have HB2 := Lib.hid hB2
   have HNN := Lib.hid (And.intro (Nat.le_trans hn1 hN) (Nat.le_trans hn2 hN))
   have HD1 := Lib.hid (show d1 ≠ 0 from HAL.out _ (List.mem_of_getElem? hp.out))
   have HW2 := Lib.hid HW2
   clear ho hB hb2 hB2 hr1 hr2 hx0 hx1 hx2 hx3
   go_wp2_with fail
   rw [← HW2.out]
   clear HW2 hy0 hy1 hy2 hy3
   clear HW2
   refine (qnorm_any HRD.out.1 HRD.out.2 HNN.out.1 HNN.out.2 HD1.out).mono ?_
   rintro _ W3 ⟨s3, A3, n3, c3, s4, A4, n4, c4, y, rfl, ho3, hy, hb3⟩
   have hB3 := HB2.out.trans (hb3.mono HB2.out.size)
   obtain ⟨W4, HW4⟩ : ∃ W, W = W3.alloc (.cells #[.bool s3, .slice A3 n3 c3, .bool s4, .slice A4 n4 c4] 47) := ⟨_, rfl⟩
   have hb4 : Below W3.heap.size W3 W4 := by rw [HW4]; exact (Below.refl _ _).alloc (Nat.le_refl _) _
   have hB4 := hB3.trans (hb4.mono hB3.size)
   obtain ⟨E, hE, hEl, hEn⟩ := (HO.out.next hb3).next hb4
   have HO4 := Lib.hid ((ho3.base HB2.out.size).next hb4)
   rw [HW4] at hE hB4 hEn
   rw [HW4] at HO4
   have HE := Lib.hid hE
   have HEN := Lib.hid (And.intro hEl hEn)
   have HM2 := Lib.hid (show M ++ [y] = (L.take (j + 1)).map qval by rw [hM.out, hy.out]; exact mapq_snoc hp.out)
   have HB4 := Lib.hid hB4
   clear hE hEl hEn hb3 ho3 hb4 hB3 hB4 hy HO hM
   clear HW4
   go_wp2_with (at_builtin; refine wpList_append_own _ rfl _ _ 72 rfl w.heap.size 47 i0 (.agg #[.bool false, .slice none 0 0, .bool false, .slice none 0 0]) 4 64 Tryz.underlying72 hi hz0 hz1 hz2 rfl (by decide) _ _ _ rfl (HE.out.alloc _) ⟨W3.heap.size + 1, 0, none⟩ 1 1 [.bool s3, .slice A3 n3 c3, .bool s4, .slice A4 n4 c4] rfl rfl (by simpa using qcell_new (W3.alloc (.cells #[.bool s3, .slice A3 n3 c3, .bool s4, .slice A4 n4 c4] 47)) (.bool s3) (.slice A3 n3 c3) (.bool s4) (.slice A4 n4 c4) 47) (by simp [Value.oneCell']) (by unfold maxLen; omega) (by omega) (by have := HB4.out.size; simp at this ⊢; omega) ?_; intro v' w1 hown' hgrow _)
   have hmore := qs_more (e := ((s3, A3, n3, c3), (s4, A4, n4, c4))) (x := y) HO4.out rfl (HE.out.alloc _) HEN.out.1 HEN.out.2 hown' hgrow
   have HB5 := Lib.hid ((HB4.out.alloc HB4.out.size (.cells #[.bool s3, .slice A3 n3 c3, .bool s4, .slice A4 n4 c4] 47)).grown hgrow (by have := HB4.out.size; simp at this ⊢; omega) (own_block HE.out))
   obtain ⟨A5, c5, rfl, ho5⟩ := hmore
   clear hown' hgrow HE HEN HO4
   go_wp2
   go_roundw
   case rel => exact ⟨j + 1, c5, A5, M ++ [y], rfl, by go_num, by omega, ho5, HM2, HB5.out⟩
   case measure => simp [intOf]; omega
end Go.Proofs.YtjnklbfhelbjgaaGreat

/- rat.Height, from within. -/
namespace Go.Proofs.YtjnklbfhelbjgaaGreat
open Go.RowKit Go.IntWalk
attribute [local go_sem ↓] Go.wp_at_zero Go.wp_at_succ
def qbits (x : Rat) : Nat := max (nlen x.num.natAbs) (nlen x.den)
def ht (L : List Rat) : Nat := L.foldl (fun h x => max h (qbits x)) 0
theorem ht_snoc (L : List Rat) (x : Rat) : ht (L ++ [x]) = max (ht L) (qbits x) := by unfold ht; rw [List.foldl_append]; rfl
theorem max3_if (v z1 z2 : Nat) : (if (if v < z1 then (z1 : Int) else (v : Int)) < (z2 : Int) then (z2 : Int) else if v < z1 then (z1 : Int) else (v : Int)) = ((max (max v z1) z2 : Nat) : Int) := by
 rcases Nat.lt_or_ge v z1 with h1 | h1
 ·simp only [if_pos h1]
  rcases Nat.lt_or_ge z1 z2 with h2 | h2
  ·rw [if_pos (by omega)]; omega
  ·rw [if_neg (by omega)]; omega
 ·simp only [if_neg (Nat.not_lt.2 h1)]
  rcases Nat.lt_or_ge v z2 with h2 | h2
  ·rw [if_pos (by omega)]; omega
  ·rw [if_neg (by omega)]; omega
set_option maxRecDepth 100000 in
set_option maxHeartbeats 4000000 in
theorem qheightIn_any {N b : Nat} {A : Option Addr} {n c : Nat} {L : List Rat} {w : World} (h : OwQs w b A n c L) (hx : ∀ x ∈ L, Qs N x) (hN : N ≤ 1000000000000) (hn : n ≤ 1048576) :
  Calls Tryz.prog 189 #[.slice A n c] w (RetKE (fun v kk => v = (ht L : Int) ∧ kk = 0) w) := by
 have H := Lib.hid (show ∀ W, Below w.heap.size w W → OwQs W b A n c L from fun W hb => h.next hb)
 have HL := Lib.hid h.len
 have HX := Lib.hid hx
 clear h hx
 go_enter Tryz.func189, Tryz.ntmps189
 go_wp2_with fail
 go_loopw [4, 9] (fun nv iv wr => ∃ (j v : Nat), nv = .int .i64 (v : Int) ∧ iv = .int .i64 (j : Int) ∧ j ≤ n ∧ Hid (v = ht (L.take j)) ∧ Below w.heap.size w wr) (fun _ iv _ => n - (intOf iv).toNat)
 case atStart => exact ⟨0, 0, rfl, rfl, Nat.zero_le _, Lib.hid rfl, Below.refl _ _⟩
 case round =>
  obtain ⟨j, v, rfl, rfl, hj, hv, hB⟩ := hrel
  by_cases hjn : j = n
  ·have HV := Lib.hid (show v = ht L from by rw [hv.out, hjn, List.take_of_length_le (by rw [HL.out]; exact Nat.le_refl _)])
   subst hjn
   have HF := Lib.hid hB
   clear hB hv
   go_wp2
   go_ret2
   exact ⟨_, 0, rfl, Lib.hid ⟨by rw [HV.out], rfl⟩, HF.out⟩
  ·have hjl : j < n := by omega
   have hjli : (j : Int) < (n : Int) := by omega
   clear hjn
   obtain ⟨ad, s1, A1, n1, c1, s2, A2, n2, c2, x, rfl, hbk, hx0, hx1, hx2, hx3, ho, hp⟩ := oq_at (H.out wr hB) hjl
   obtain ⟨W5, HW5⟩ : ∃ W, W = wr.alloc (.cells #[.bool s1, .slice A1 n1 c1, .bool s2, .slice A2 n2 c2] 47) := ⟨_, rfl⟩
   have hb5 : Below wr.heap.size wr W5 := by rw [HW5]; exact (Below.refl _ _).alloc (Nat.le_refl _) _
   have hQ5 : QC W5 wr.heap.size s1 A1 n1 c1 s2 A2 n2 c2 := by rw [HW5]; exact QC.new wr s1 A1 n1 c1 s2 A2 n2 c2
   have HXS := Lib.hid (HX.out x (List.mem_of_getElem? hp.out))
   have HO5 := Lib.hid (show RdU W5.drew W5.drew.heap.size A1 n1 c1 (Dg.dg x.num.natAbs) ∧ RdU W5.drew W5.drew.heap.size A2 n2 c2 (Dg.dg x.den) from ⟨((ho.next hb5).num.own.next (Below.refl W5.heap.size W5).drew).rd, ((ho.next hb5).den.own.next (Below.refl W5.heap.size W5).drew).rd⟩)
   have HNN := Lib.hid (show n1 ≤ N ∧ n2 ≤ N from ⟨by rw [ho.num.len]; exact HXS.out.1, by rw [ho.den.len]; exact HXS.out.2⟩)
   have HQ5 := Lib.hid hQ5
   have HF := Lib.hid (hB.trans ((hb5.drew).mono hB.size))
   have HV := Lib.hid (show max (max v (nlen x.num.natAbs)) (nlen x.den) = ht (L.take (j + 1)) from by
    rw [List.take_add_one, hp.out, show (some x).toList = [x] from rfl, ht_snoc, hv.out, qbits, Nat.max_assoc])
   have HW5 := Lib.hid HW5
   clear hb5 hQ5 ho hB hv hp
   go_upto_region 5 with fail
   rw [← HW5.out]
   clear HW5 hx0 hx1 hx2 hx3
   clear HW5
   have q1 := HQ5.out.c1
   have q3 := HQ5.out.c3
   go_region_held3 (fun w' => w'.cell? ⟨wr.heap.size, 1, none⟩ = some (.slice A1 n1 c1) ∧ w'.cell? ⟨wr.heap.size, 3, none⟩ = some (.slice A2 n2 c2))
    (exact ⟨q1, q3⟩)
    (first
     | (have hz := HZ1.out; clear hz; go_at_call 84; refine (nlen_any HO5.out.2 (by have := HNN.out; omega)).mono ?_; rintro _ _ ⟨z2, rfl, hz2, rfl⟩; have HZ2 := Lib.hid (show z2 = nlen x.den by rw [hz2.out, Dg.val_dg]))
     | (go_at_call 84; refine (nlen_any HO5.out.1 (by have := HNN.out; omega)).mono ?_; rintro _ _ ⟨z1, rfl, hz1, rfl⟩; have HZ1 := Lib.hid (show z1 = nlen x.num.natAbs by rw [hz1.out, Dg.val_dg])))
   all_goals
    have HVV := Lib.hid (show max (max v z1) z2 = ht (L.take (j + 1)) from by rw [← HV.out, HZ1.out, HZ2.out])
    rw [max3_if v z1 z2]
    clear q1 q3 hz1 hz2 HZ1 HZ2
    go_wp2
    go_roundw
    case rel => exact ⟨j + 1, max (max v z1) z2, rfl, by go_num, by omega, HVV, HF.out⟩
    case measure => simp [intOf]; omega
set_option maxRecDepth 100000 in
set_option maxHeartbeats 2000000 in
theorem qheight_any {N : Nat} {A : Option Addr} {n c : Nat} {L : List (Int × Int)} {w : World} (h : RdQs w w.heap.size N A n c L) (hd : ∀ p ∈ L, p.2 ≠ 0) (hn : n ≤ 1048576) (hN : N ≤ 1000000000000) (h1N : 1 ≤ N) :
  Calls Tryz.prog 135 #[.slice A n c] w (RetKE (fun v kk => v = (ht (L.map qval) : Int) ∧ kk = 0) w) := by
 have heg := enters_of Tryz.func189 (by kernel_rfl) rfl
 have HS := Lib.hid (show ∀ x ∈ L.map qval, Qs N x from fun x hx => by
  obtain ⟨i, _, rfl⟩ := Pq.mem_co hx
  exact h.sz hd h1N i)
 go_enter Tryz.func135, Tryz.ntmps135
 go_wp2_with fail
 refine (made_int (N := N) (Φ := fun v kk => v = (ht (L.map qval) : Int) ∧ kk = 0) h hn hN heg hd (fun W A' c' hb ho => qheightIn_any (N := N) ho HS.out hN hn)).mono ?_
 rintro _ W2 ⟨v, kk, rfl, hv, hb2⟩
 go_wp2
 go_ret2
 exact ⟨v, kk, rfl, hv, hb2⟩
end Go.Proofs.YtjnklbfhelbjgaaGreat

/- Heights, faults and sizes of matrices (plain). -/
namespace Go.Proofs.YtjnklbfhelbjgaaGreat
open Go.RowKit Go.IntWalk
theorem ht_fold (L : List Rat) : ∀ h : Nat, L.foldl (fun h x => max h (qbits x)) h = max h (ht L) := by
 induction L with
 | nil => intro h; simp [ht]
 | cons x L ih =>
   intro h
   have e : ht (x :: L) = max (max 0 (qbits x)) (ht L) := by
    unfold ht
    rw [List.foldl_cons, ih]
    rfl
   rw [List.foldl_cons, ih, e]
   omega
theorem ht_append (a b : List Rat) : ht (a ++ b) = max (ht a) (ht b) := by
 show (a ++ b).foldl _ 0 = _
 rw [List.foldl_append, ht_fold]
 rfl
theorem ht_mem {L : List Rat} {x : Rat} (h : x ∈ L) : qbits x ≤ ht L := by
 obtain ⟨a, b, rfl⟩ := List.append_of_mem h
 rw [ht_append, show x :: b = [x] ++ b from rfl, ht_append]
 have : ht [x] = max 0 (qbits x) := rfl
 omega
theorem nlen_len (v : Nat) : (Dg.dg v).length ≤ nlen v + 1 := by
 unfold nlen
 split
 ·omega
 ·omega
theorem qbits_qs {x : Rat} {k : Nat} (h : qbits x ≤ k) : Qs (k + 1) x := by
 unfold qbits at h
 have h1 := nlen_len x.num.natAbs
 have h2 := nlen_len x.den
 refine ⟨?_, ?_⟩
 ·show (Dg.dg x.num.natAbs).length ≤ k + 1
  omega
 ·show (Dg.dg (x.den : Int).natAbs).length ≤ k + 1
  rw [Int.natAbs_natCast]
  omega
def fitv (d : Int) (RR : List RawRow) : Int := if chk d RR ≠ 0 then chk d RR else if RR.length ≠ colsOf RR ∨ RR.length = 0 then 3 else if 24 < RR.length ∨ 4096 < ht (ent d RR).flatten then 4 else 0
structure Fits (d : Int) (RR : List RawRow) : Prop where
 den : d ≠ 0
 pos : 0 < RR.length
 le : RR.length ≤ 24
 sq : ∀ R ∈ RR, R.length = RR.length
 sz : ∀ L ∈ ent d RR, ∀ x ∈ L, Qs 4097 x
theorem chk_zero {d : Int} {RR : List RawRow} (h : chk d RR = 0) : d ≠ 0 ∧ Evn RR := by
 unfold chk at h
 by_cases h0 : d = 0
 ·rw [if_pos h0] at h; omega
 ·rw [if_neg h0] at h
  by_cases h1 : Evn RR
  ·exact ⟨h0, h1⟩
  ·rw [if_neg h1] at h; omega
theorem chk_ok {d : Int} {RR : List RawRow} (h : d ≠ 0) (h' : Evn RR) : chk d RR = 0 := by
 unfold chk
 rw [if_neg h, if_pos h']
theorem fits_of {d : Int} {RR : List RawRow} (h : fitv d RR = 0) : Fits d RR := by
 unfold fitv at h
 by_cases h1 : chk d RR ≠ 0
 ·rw [if_pos h1] at h; exact absurd h h1
 rw [if_neg h1] at h
 by_cases h2 : RR.length ≠ colsOf RR ∨ RR.length = 0
 ·rw [if_pos h2] at h; omega
 rw [if_neg h2] at h
 by_cases h3 : 24 < RR.length ∨ 4096 < ht (ent d RR).flatten
 ·rw [if_pos h3] at h; omega
 have hc := chk_zero (Decidable.not_not.1 h1)
 refine ⟨hc.1, by omega, by omega, fun R hR => ?_, fun L hL x hx => ?_⟩
 ·rw [hc.2 R hR]; omega
 ·refine qbits_qs (k := 4096) ?_
  have := ht_mem (L := (ent d RR).flatten) (List.mem_flatten.2 ⟨L, hL, hx⟩)
  omega
theorem fitv_chk {d : Int} {RR : List RawRow} (h : chk d RR ≠ 0) : fitv d RR = chk d RR := if_pos h
theorem fitv_sq {d : Int} {RR : List RawRow} (h : chk d RR = 0) (h2 : RR.length ≠ colsOf RR ∨ RR.length = 0) : fitv d RR = 3 := by
 unfold fitv
 rw [if_neg (by omega), if_pos h2]
theorem fitv_big {d : Int} {RR : List RawRow} (h : chk d RR = 0) (h2 : ¬(RR.length ≠ colsOf RR ∨ RR.length = 0)) (h3 : 24 < RR.length ∨ 4096 < ht (ent d RR).flatten) : fitv d RR = 4 := by
 unfold fitv
 rw [if_neg (by omega), if_neg h2, if_pos h3]
theorem fitv_ok {d : Int} {RR : List RawRow} (h : chk d RR = 0) (h2 : ¬(RR.length ≠ colsOf RR ∨ RR.length = 0)) (h3 : ¬(24 < RR.length ∨ 4096 < ht (ent d RR).flatten)) : fitv d RR = 0 := by
 unfold fitv
 rw [if_neg (by omega), if_neg h2, if_neg h3]
theorem ent_len (d : Int) (RR : List RawRow) : (ent d RR).length = RR.length := by simp [ent]
theorem ent_row {d : Int} {RR : List RawRow} {i : Nat} {R : RawRow} (h : RR[i]? = some R) : (ent d RR)[i]? = some (R.map fun x => Rat.divInt (toZ x) d) := by
 unfold ent
 rw [List.getElem?_map, h]
 rfl
theorem ent_sz {w : World} {B N K : Nat} {A : Option Addr} {n c : Nat} {RR : List RawRow} {d : Int} (h : RdRss w B N K A n c RR) (hd : d ≠ 0) (hN : Zz.zl d ≤ N) : ∀ L ∈ ent d RR, L.length ≤ K ∧ ∀ x ∈ L, Qs N x := by
 intro L hL
 obtain ⟨R, hR, rfl⟩ := List.mem_map.1 hL
 obtain ⟨j, hj⟩ := List.getElem?_of_mem hR
 obtain ⟨ad, A1, n1, c1, _, _, _, h4, h5⟩ := h.at_ j R hj
 refine ⟨by rw [List.length_map, h4.len]; exact h5, fun x hx => ?_⟩
 obtain ⟨z, hz, rfl⟩ := List.mem_map.1 hx
 obtain ⟨i, hi⟩ := List.getElem?_of_mem hz
 obtain ⟨_, _, _, _, _, _, _, _, k1, k2⟩ := h4.at_ i z hi
 refine Qs.divInt hd ?_ hN
 have hl : z.2.length ≤ N := by rw [k1.len]; exact k2
 refine Nat.le_trans ?_ hl
 have hw := k1.wd
 unfold Zz.zl toZ
 exact Dg.dg_len_lt.2 (by
  have e : (Zz.sg z.1 (Dg.val z.2)).natAbs = Dg.val z.2 := by unfold Zz.sg; cases z.1 <;> simp
  rw [e]
  exact Dg.val_lt hw)
end Go.Proofs.YtjnklbfhelbjgaaGreat
