/- Rows of words in memory: what is read, what was made. -/
import Derived.Test.YtipbpdiahemmpaaGreatRz
import Derived.Test.YtipbpdiahemmpaaGreatDg
import Derived.Below
import Derived.Laws.OwnMore
import Derived.Laws.Rows
import Derived.Laws.MakeOwn
import Derived.Deep.AppendLies
import Derived.Deep.Draws
namespace Go.Proofs.YtipbpdiahemmpaaGreat
open Go.RowKit Go.IntWalk

/-- The cells of words. -/
def uc (L : List Nat) : List Value := L.map fun x : Nat => Value.int .u32 x
theorem uc_len (L : List Nat) : (uc L).length = L.length := by simp [uc]
theorem uc_at {L : List Nat} {j u : Nat} (h : L[j]? = some u) : (uc L)[j]? = some (.int .u32 u) := by simp [uc, h]
theorem uc_append (L M : List Nat) : uc (L ++ M) = uc L ++ uc M := by simp [uc]
theorem uc_take (L : List Nat) (k : Nat) : uc (L.take k) = (uc L).take k := by simp [uc]
theorem uc_set (L : List Nat) (k u : Nat) : uc (L.set k u) = (uc L).set k (.int .u32 u) := by simp [uc, List.map_set]
theorem add_blk (a : Addr) (n : Nat) : (a.add n).block = a.block := by unfold Addr.add; split <;> rfl
theorem add_add' (a : Addr) (i j : Nat) : (a.add i).add j = a.add (i + j) := by
  unfold Addr.add
  by_cases hi : i = 0 <;> by_cases hj : j = 0 <;> simp [hi, hj, Nat.add_assoc]
theorem some_lt {L : List Nat} {j u : Nat} (h : L[j]? = some u) : j < L.length := by
  rcases Nat.lt_or_ge j L.length with h1 | h1
  · exact h1
  · rw [List.getElem?_eq_none h1] at h; cases h

/-- The slice of address A, n long, reads as the words L; it lies below block B. -/
structure RdU (w : World) (B : Nat) (A : Option Addr) (n c : Nat) (L : List Nat) : Prop where
  len : L.length = n
  le : n ≤ c
  mx : c ≤ maxLen
  at_ : ∀ (j u : Nat), L[j]? = some u → u < 4294967296 ∧ ∃ ad, A = some ad ∧ ad.block < B ∧ w.cell? (ad.add j) = some (.int .u32 u)
theorem RdU.below {w w' : World} {B : Nat} {A : Option Addr} {n c : Nat} {L : List Nat} (h : RdU w B A n c L) (hb : Below B w w') : RdU w' B A n c L :=
  ⟨h.len, h.le, h.mx, fun j u hu => by
    obtain ⟨h1, ad, e, hB, hc⟩ := h.at_ j u hu
    exact ⟨h1, ad, e, hB, (hb.cell (p := ad.add j) (by rw [add_blk]; exact hB)).trans hc⟩⟩
theorem RdU.more {w : World} {B B' : Nat} {A : Option Addr} {n c : Nat} {L : List Nat} (h : RdU w B A n c L) (hB : B ≤ B') : RdU w B' A n c L :=
  ⟨h.len, h.le, h.mx, fun j u hu => by
    obtain ⟨h1, ad, e, hb, hc⟩ := h.at_ j u hu
    exact ⟨h1, ad, e, by omega, hc⟩⟩
theorem RdU.next {w w' : World} {A : Option Addr} {n c : Nat} {L : List Nat} (h : RdU w w.heap.size A n c L) (hb : Below w.heap.size w w') : RdU w' w'.heap.size A n c L := (h.below hb).more hb.size
theorem RdU.nil (w : World) (B c : Nat) (A : Option Addr) (hc : c ≤ maxLen) : RdU w B A 0 c [] := ⟨rfl, Nat.zero_le _, hc, fun j u h => by simp at h⟩
theorem RdU.wd {w : World} {B : Nat} {A : Option Addr} {n c : Nat} {L : List Nat} (h : RdU w B A n c L) : Dg.Wd L := fun x hx => by
  obtain ⟨j, hj⟩ := List.getElem?_of_mem hx
  exact (h.at_ j x hj).1
theorem RdU.take {w : World} {B : Nat} {A : Option Addr} {n c : Nat} {L : List Nat} (h : RdU w B A n c L) {k : Nat} (hk : k ≤ n) : RdU w B A k c (L.take k) :=
  ⟨by rw [List.length_take, h.len]; omega, Nat.le_trans hk h.le, h.mx, fun j u hu => by
    have hj := some_lt hu
    simp only [List.length_take] at hj
    rw [List.getElem?_take_of_lt (by omega)] at hu
    exact h.at_ j u hu⟩
theorem RdU.drop {w : World} {B : Nat} {A : Option Addr} {n c : Nat} {L : List Nat} (h : RdU w B A n c L) {k : Nat} (hk : k ≤ n) :
    RdU w B (if c = k then A else A.map (·.add (k * 1))) (n - k) (c - k) (L.drop k) :=
  ⟨by rw [List.length_drop, h.len], by have := h.le; omega, by have := h.mx; omega, fun j u hu => by
    have hj := some_lt hu
    simp only [List.length_drop, h.len] at hj
    rw [List.getElem?_drop] at hu
    obtain ⟨h1, ad, rfl, hb, hc⟩ := h.at_ (k + j) u hu
    have := h.le
    rw [if_neg (by omega)]
    exact ⟨h1, ad.add (k * 1), rfl, by rw [add_blk]; exact hb, by rw [add_add', Nat.mul_one]; exact hc⟩⟩

/-- As a copy reads it. -/
theorem RdU.src {w : World} {B : Nat} {A : Option Addr} {n c : Nat} {L : List Nat} (h : RdU w B A n c L) (p : Addr) :
    0 < (uc L).length → some p = some p ∧ ∃ ad, A = some ad ∧ ∀ (j : Nat) v, (uc L)[j]? = some v → w.cell? (ad.add j) = some v := by
  intro h0
  rw [uc_len] at h0
  obtain ⟨_, ad, e, _, _⟩ := h.at_ 0 (Dg.ld L 0) (Dg.get_of_ld h0)
  refine ⟨rfl, ad, e, fun j v hv => ?_⟩
  have hj : j < L.length := by
    rw [← uc_len]
    rcases Nat.lt_or_ge j (uc L).length with h1 | h1
    · exact h1
    · rw [List.getElem?_eq_none h1] at hv; cases hv
  obtain ⟨_, ad', e', _, hc⟩ := h.at_ j _ (Dg.get_of_ld hj)
  rw [e] at e'
  injection e' with e'
  subst e'
  rw [uc_at (Dg.get_of_ld hj)] at hv
  injection hv with hv
  rw [← hv]
  exact hc

/-- A row of words in memory of its own, at or beyond block b. -/
structure OwU (w : World) (b : Nat) (A : Option Addr) (n c : Nat) (L : List Nat) : Prop where
  own : w.ownsRow b 35 1 (.slice A n c) n (uc L)
  wd : Dg.Wd L
theorem OwU.len {w : World} {b : Nat} {A : Option Addr} {n c : Nat} {L : List Nat} (h : OwU w b A n c L) : L.length = n := by
  have := h.own.1
  rw [uc_len] at this
  omega
theorem OwU.form {w : World} {b : Nat} {A : Option Addr} {n c : Nat} {L : List Nat} (h : OwU w b A n c L) :
    (A = none ∧ n = 0 ∧ c = 0 ∧ L = []) ∨ ∃ g, A = some ⟨g, 0, none⟩ ∧ b ≤ g ∧ g < w.heap.size ∧ n ≤ c ∧ c ≤ maxLen := by
  rcases h.own.2 with ⟨h1, h2⟩ | ⟨g, cap, cur, h1, h2, h3, h4, h5, _⟩
  · injection h1 with h1 h1' h1''
    exact .inl ⟨h1, h2, h1'', List.eq_nil_of_length_eq_zero (by rw [h.len, h2])⟩
  · injection h1 with h1 h1' h1''
    subst h1''
    exact .inr ⟨g, h1, h2, (Array.getElem?_eq_some_iff.1 h3).1, h4, h5⟩
theorem OwU.rd {w : World} {b : Nat} {A : Option Addr} {n c : Nat} {L : List Nat} (h : OwU w b A n c L) : RdU w w.heap.size A n c L := by
  rcases h.form with ⟨rfl, rfl, rfl, rfl⟩ | ⟨g, rfl, h1, h2, h3, h4⟩
  · exact RdU.nil w _ 0 none (Nat.zero_le _)
  · refine ⟨h.len, h3, h4, fun j u hu => ⟨h.wd.of_get hu, _, rfl, h2, ?_⟩⟩
    have hj := some_lt hu
    rw [h.len] at hj
    have e : (⟨g, 0, none⟩ : Addr).add j = ⟨g, j, none⟩ := by unfold Addr.add; by_cases h : j = 0 <;> simp [h]
    rw [e, h.own.cellAt j (by omega)]
    exact uc_at hu
theorem OwU.kept {w w' : World} {b B : Nat} {A : Option Addr} {n c : Nat} {L : List Nat} (h : OwU w b A n c L) (hb : Below B w w') (hB : ∀ g, A = some ⟨g, 0, none⟩ → g < B) : OwU w' b A n c L := by
  refine ⟨⟨h.own.1, ?_⟩, h.wd⟩
  rcases h.own.2 with h0 | ⟨g, cap, cur, h1, h2, h3, h4⟩
  · exact .inl h0
  · have hA : A = some ⟨g, 0, none⟩ := by injection h1
    exact .inr ⟨g, cap, cur, h1, h2, (hb.block g (hB g hA)).trans h3, h4⟩
theorem OwU.next {w w' : World} {b : Nat} {A : Option Addr} {n c : Nat} {L : List Nat} (h : OwU w b A n c L) (hb : Below w.heap.size w w') : OwU w' b A n c L :=
  h.kept hb fun g e => by
    rcases h.form with ⟨h1, _⟩ | ⟨g', h1, _, h2, _⟩
    · rw [h1] at e; cases e
    · rw [h1] at e; injection e with e; injection e with e _; omega
theorem OwU.base {w : World} {b b' : Nat} {A : Option Addr} {n c : Nat} {L : List Nat} (h : OwU w b A n c L) (hb : b' ≤ b) : OwU w b' A n c L := by
  refine ⟨⟨h.own.1, ?_⟩, h.wd⟩
  rcases h.own.2 with h0 | ⟨g, cap, cur, h1, h2, h3⟩
  · exact .inl h0
  · exact .inr ⟨g, cap, cur, h1, by omega, h3⟩
theorem OwU.nil (w : World) (b : Nat) : OwU w b none 0 0 [] := ⟨World.ownsRow_nil _ _ _ _, Dg.Wd.nil⟩

/-- The whole block g holds the words L. -/
def UB (w : World) (g : Nat) (L : List Nat) : Prop := w.heap[g]? = some (.cells (uc L).toArray 35 (0, 0))
theorem UB.raw {w : World} {g : Nat} {L : List Nat} (h : UB w g L) : w.heap[g]? = some (.cells (uc L).toArray 35 (0, 0)) := h
theorem UB.lt {w : World} {g : Nat} {L : List Nat} (h : UB w g L) : g < w.heap.size := (Array.getElem?_eq_some_iff.1 h).1
theorem UB.cell {w : World} {g : Nat} {L : List Nat} (h : UB w g L) {j u : Nat} (hu : L[j]? = some u) : w.cell? ⟨g, j, none⟩ = some (.int .u32 u) := by
  rw [cell_of_row w g j _ _ _ h]
  simp [uc, hu]
theorem UB.frozen {w : World} {g : Nat} {L : List Nat} (h : UB w g L) (j : Nat) : w.frozen? ⟨g, j, none⟩ = false := frozen_of_row w g j _ _ h
theorem UB.set {w : World} {g : Nat} {L : List Nat} (h : UB w g L) (k u : Nat) : UB (w.setCell ⟨g, k, none⟩ (.int .u32 u)) g (L.set k u) := by
  unfold UB at h ⊢
  rw [uc_set]
  simp [World.setCell, Array.getElem?_modify, h]
theorem UB.alloc {w : World} {g : Nat} {L : List Nat} (h : UB w g L) (o : Obj) : UB (w.alloc o) g L := (Below.heap_alloc w o g h.lt).trans h
theorem UB.far {w : World} {g : Nat} {L : List Nat} (h : UB w g L) {p : Addr} (hp : g ≠ p.block) (u : Value) : UB (w.setCell p u) g L := (Below.heap_setCell w p u g hp).trans h
theorem UB.below {w w' : World} {g B : Nat} {L : List Nat} (h : UB w g L) (hb : Below B w w') (hg : g < B) : UB w' g L := (hb.block g hg).trans h
theorem UB.drewN {w : World} {g : Nat} {L : List Nat} (h : UB w g L) (n : Nat) : UB (w.drewN n) g L := h
theorem UB.new (w : World) (L : List Nat) : UB (w.alloc (.cells (uc L).toArray 35)) w.heap.size L := heap_alloc_new w _
theorem UB.own {w : World} {g b : Nat} {L : List Nat} (h : UB w g L) (hw : Dg.Wd L) (hb : b ≤ g) {k : Nat} (hk : k ≤ L.length) (hm : L.length ≤ maxLen) : OwU w b (some ⟨g, 0, none⟩) k L.length (L.take k) := by
  refine ⟨⟨?_, .inr ⟨g, L.length, _, rfl, hb, h, hk, hm, ?_, ?_⟩⟩, hw.take k⟩
  · rw [uc_len, List.length_take]; omega
  · simp [uc]
  · simp [uc]
theorem UB.rd {w : World} {g B : Nat} {L : List Nat} (h : UB w g L) (hw : Dg.Wd L) (hB : g < B) {k : Nat} (hk : k ≤ L.length) (hm : L.length ≤ maxLen) : RdU w B (some ⟨g, 0, none⟩) k L.length (L.take k) := by
  refine ⟨by rw [List.length_take]; omega, hk, hm, fun j u hu => ?_⟩
  have hj := some_lt hu
  simp only [List.length_take] at hj
  rw [List.getElem?_take_of_lt (by omega)] at hu
  have e : (⟨g, 0, none⟩ : Addr).add j = ⟨g, j, none⟩ := by unfold Addr.add; by_cases h : j = 0 <;> simp [h]
  exact ⟨hw.of_get hu, _, rfl, hB, by rw [e]; exact h.cell hu⟩

/-- A list comes back in memory of its own. -/
def RetO (P : List Nat → Prop) (w : World) (e : Ending) (w' : World) : Prop :=
  ∃ (A : Option Addr) (n c : Nat) (L : List Nat), e = .returned (.slice A n c) ∧ OwU w' w.heap.size A n c L ∧ Hid (P L) ∧ Below w.heap.size w w'
end Go.Proofs.YtipbpdiahemmpaaGreat
