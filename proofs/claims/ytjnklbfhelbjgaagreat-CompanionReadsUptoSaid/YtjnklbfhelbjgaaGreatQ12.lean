/- Tables of fractions: entries, direct sums, companion matrices, the blocks that a matrix is read in. Nothing of the program. -/
import Derived.Test.YtjnklbfhelbjgaaGreatQ09
import Derived.Test.YtjnklbfhelbjgaaGreatQ10
import Derived.Test.YtjnklbfhelbjgaaGreatQ11
namespace Mx
def sub (LL : List (List Rat)) (i k : Nat) : Rat := Pq.co (LL.getD i []) k
def tab (r c : Nat) (f : Nat → Nat → Rat) : List (List Rat) := (List.range r).map fun i => (List.range c).map (f i)
theorem tab_len (r c : Nat) (f : Nat → Nat → Rat) : (tab r c f).length = r := by simp [tab]
theorem tab_row {r c : Nat} {f : Nat → Nat → Rat} {i : Nat} (h : i < r) : (tab r c f)[i]? = some ((List.range c).map (f i)) := by simp [tab, h]
theorem tab_mem {r c : Nat} {f : Nat → Nat → Rat} : ∀ R ∈ tab r c f, R.length = c := by
 intro R hR
 obtain ⟨i, _, rfl⟩ := List.mem_map.1 hR
 simp
theorem co_range (f : Nat → Rat) {n i : Nat} (h : i < n) : Pq.co ((List.range n).map f) i = f i := by
 refine Pq.co_get ?_
 simp [h]
theorem sub_tab {r c : Nat} {f : Nat → Nat → Rat} {i k : Nat} (h : i < r) (hk : k < c) : sub (tab r c f) i k = f i k := by
 unfold sub
 rw [List.getD_eq_getElem?_getD, tab_row h]
 exact co_range _ hk
theorem tab_congr {r c : Nat} {f g : Nat → Nat → Rat} (h : ∀ i, i < r → ∀ k, k < c → f i k = g i k) : tab r c f = tab r c g := by
 unfold tab
 refine List.map_congr_left fun i hi => List.map_congr_left fun k hk => ?_
 exact h i (List.mem_range.1 hi) k (List.mem_range.1 hk)
theorem tab_inj {r c : Nat} {f g : Nat → Nat → Rat} (h : tab r c f = tab r c g) {i k : Nat} (hi : i < r) (hk : k < c) : f i k = g i k := by
 rw [← sub_tab (f := f) hi hk, h, sub_tab hi hk]
theorem row_ext {R : List Rat} {c : Nat} {f : Nat → Rat} (h : R.length = c) (hf : ∀ k, k < c → Pq.co R k = f k) : R = (List.range c).map f := by
 refine List.ext_getElem? fun k => ?_
 rcases Nat.lt_or_ge k c with hk | hk
 ·rw [Pq.get_co (by omega), hf k hk]
  simp [hk]
 ·rw [List.getElem?_eq_none (by omega), List.getElem?_eq_none (by simp; omega)]
theorem eq_tab {LL : List (List Rat)} {r c : Nat} {f : Nat → Nat → Rat} (hr : LL.length = r) (hc : ∀ R ∈ LL, R.length = c) (hf : ∀ i, i < r → ∀ k, k < c → sub LL i k = f i k) : LL = tab r c f := by
 refine List.ext_getElem? fun i => ?_
 rcases Nat.lt_or_ge i r with hi | hi
 ·have hil : i < LL.length := by omega
  rw [tab_row hi, List.getElem?_eq_getElem hil]
  congr 1
  refine row_ext (hc _ (List.getElem_mem hil)) fun k hk => ?_
  have := hf i hi k hk
  unfold sub at this
  rw [List.getD_eq_getElem?_getD, List.getElem?_eq_getElem hil] at this
  exact this
 ·rw [List.getElem?_eq_none (by omega), List.getElem?_eq_none (by rw [tab_len]; omega)]
def cmp (p : List Rat) (i k : Nat) : Rat := if k + 1 = p.length - 1 then -(Pq.co p i) else if i = k + 1 then 1 else 0
def dsz (L : List (List Rat)) : Nat := (L.map fun p => p.length - 1).sum
def ds : List (List Rat) → Nat → Nat → Rat
 | [], _, _ => 0
 | p :: t, i, k => if i < p.length - 1 then (if k < p.length - 1 then cmp p i k else 0) else if k < p.length - 1 then 0 else ds t (i - (p.length - 1)) (k - (p.length - 1))
theorem dsz_append (a b : List (List Rat)) : dsz (a ++ b) = dsz a + dsz b := by simp [dsz]
theorem dsz_cons (p : List Rat) (b : List (List Rat)) : dsz (p :: b) = (p.length - 1) + dsz b := by simp [dsz]
theorem dsz_take {L : List (List Rat)} {j : Nat} {p : List Rat} (h : L[j]? = some p) : dsz (L.take (j + 1)) = dsz (L.take j) + (p.length - 1) := by
 rw [List.take_add_one, h, dsz_append]
 simp [dsz]
theorem dsz_le {L : List (List Rat)} {j : Nat} : dsz (L.take j) ≤ dsz L := by
 have h := dsz_append (L.take j) (L.drop j)
 rw [List.take_append_drop] at h
 omega
theorem ds_at : ∀ (L : List (List Rat)) (j : Nat) (p : List Rat) (a k : Nat), L[j]? = some p → a < p.length - 1 → ds L (dsz (L.take j) + a) k = if dsz (L.take j) ≤ k ∧ k < dsz (L.take j) + (p.length - 1) then cmp p a (k - dsz (L.take j)) else 0
 | [], j, p, a, k, h, _ => by simp at h
 | q :: t, 0, p, a, k, h, ha => by
   simp at h
   subst h
   simp [ds, dsz, ha]
 | q :: t, j + 1, p, a, k, h, ha => by
   have ih := ds_at t j p a (k - (q.length - 1)) (by simpa using h) ha
   rw [List.take_succ_cons, dsz_cons]
   generalize hz : dsz (t.take j) = z at *
   have h1 : ¬ (q.length - 1 + z + a < q.length - 1) := by omega
   have h2 : q.length - 1 + z + a - (q.length - 1) = z + a := by omega
   rw [ds, if_neg h1, h2, ih]
   rcases Nat.lt_or_ge k (q.length - 1) with h3 | h3
   ·rw [if_pos h3, if_neg (by omega)]
   ·rw [if_neg (by omega)]
    rcases Nat.lt_or_ge k (q.length - 1 + z) with h4 | h4
    ·rw [if_neg (by omega), if_neg (by omega)]
    ·rcases Nat.lt_or_ge k (q.length - 1 + z + (p.length - 1)) with h5 | h5
     ·rw [if_pos (by omega), if_pos (by omega)]
      congr 1
      omega
     ·rw [if_neg (by omega), if_neg (by omega)]
structure IsEnd (E : Nat → Nat → Rat) (n a t : Nat) : Prop where
 le : a ≤ t
 lt : t < n
 on : ∀ s, a ≤ s → s < t → s + 1 < n ∧ E (s + 1) s ≠ 0
 fin : ¬(t + 1 < n ∧ E (t + 1) t ≠ 0)
def pol (E : Nat → Nat → Rat) (a t : Nat) : List Rat := (List.range (t + 1 - a)).map (fun i => -(E (a + i) t)) ++ [1]
inductive IsRd (E : Nat → Nat → Rat) (n : Nat) : Nat → List (List Rat) → Prop
 | nil : IsRd E n 0 []
 | snoc {a t : Nat} {LL : List (List Rat)} : IsRd E n a LL → IsEnd E n a t → IsRd E n (t + 1) (LL ++ [pol E a t])
section
variable {E : Nat → Nat → Rat} {n a b t : Nat} {LL MM : List (List Rat)}
theorem IsRd.cut (h : IsRd E n a LL) (h0 : a ≠ 0) : ¬(a < n ∧ E a (a - 1) ≠ 0) := by
 cases h with
 | nil => exact absurd rfl h0
 | snoc _ he => exact he.fin
theorem IsRd.uniq (h : IsRd E n a LL) : ∀ {MM : List (List Rat)}, IsRd E n a MM → LL = MM := by
 induction h with
 | nil =>
   intro MM h'
   generalize hz : (0 : Nat) = z at h'
   cases h' with
   | nil => rfl
   | snoc _ _ => cases hz
 | snoc hr he ih =>
   rename_i a t LL
   intro MM h'
   generalize hz : t + 1 = z at h'
   cases h' with
   | nil => cases hz
   | snoc hr' he' =>
     rename_i a' t' LL'
     have ht : t' = t := by omega
     subst ht
     have ha : a' = a := by
      rcases Nat.lt_trichotomy a' a with h1 | h1 | h1
      ·exact absurd (by have := he'.on (a - 1) (by omega) (by have := he.le; omega); rwa [show a - 1 + 1 = a by omega] at this) (hr.cut (by omega))
      ·exact h1
      ·exact absurd (by have := he.on (a' - 1) (by omega) (by have := he'.le; omega); rwa [show a' - 1 + 1 = a' by omega] at this) (hr'.cut (by omega))
     subst ha
     rw [ih hr']
theorem IsRd.count (h : IsRd E n a LL) : LL.length ≤ a := by
 induction h with
 | nil => exact Nat.le_refl _
 | snoc hr he ih =>
   have := he.le
   rw [List.length_append, List.length_singleton]
   omega
theorem pol_len (E : Nat → Nat → Rat) (a t : Nat) : (pol E a t).length = t + 1 - a + 1 := by simp [pol]
theorem pol_top (E : Nat → Nat → Rat) (a t : Nat) : Pq.Nz (pol E a t) := fun h => by
 unfold pol
 rw [List.getLast_append_of_ne_nil (by simp) (by simp)]
 simp
theorem IsRd.dsz (h : IsRd E n a LL) : dsz LL = a := by
 induction h with
 | nil => rfl
 | snoc hr he ih =>
   rw [dsz_append, ih]
   have := he.le
   simp [Mx.dsz, pol_len]
   omega
theorem IsRd.mem (h : IsRd E n a LL) : ∀ p ∈ LL, ∃ a t, IsEnd E n a t ∧ p = pol E a t := by
 induction h with
 | nil => simp
 | snoc hr he ih =>
   intro p hp
   rcases List.mem_append.1 hp with h1 | h1
   ·exact ih p h1
   ·simp at h1
    exact ⟨_, _, he, h1⟩
end
end Mx

/- Tables of fractions whose rows are known whole: they are written over. -/
namespace Go.Proofs.YtjnklbfhelbjgaaGreat
open Go.RowKit Go.IntWalk
structure MQ (w : World) (b B : Nat) (A : Option Addr) (k c N : Nat) (G : List Nat) (EE : Nat → List (Ent × Ent)) (F : Nat → Nat → Rat) : Prop where
 own : w.ownsRow B 72 1 (.slice A k c) k (G.map fun g => Value.slice (some ⟨g, 0, none⟩) N N)
 len : G.length = k
 nod : G.Nodup
 row : ∀ (i g : Nat), G[i]? = some g → B ≤ g ∧ QB w g (EE i) ∧ (EE i).length = N ∧ EntJ w b (EE i) (F i) N
section
variable {w w' : World} {b b' B g : Nat} {A : Option Addr} {k c N : Nat} {G : List Nat} {EE : Nat → List (Ent × Ent)} {F : Nat → Nat → Rat}
theorem MQ.nil (w : World) (b B N : Nat) (EE : Nat → List (Ent × Ent)) (F : Nat → Nat → Rat) : MQ w b B none 0 0 N [] EE F :=
 ⟨World.ownsRow_nil _ _ _ _, rfl, List.nodup_nil, fun i g h => by simp at h⟩
theorem MQ.next (h : MQ w b B A k c N G EE F) (hb : Below w.heap.size w w') : MQ w' b B A k c N G EE F :=
 ⟨row_next h.own hb, h.len, h.nod, fun i g hg => by
  obtain ⟨h1, h2, h3, h4⟩ := h.row i g hg
  exact ⟨h1, h2.next hb, h3, h4.next hb⟩⟩
theorem EntJ.base {E : List (Ent × Ent)} {f : Nat → Rat} {m : Nat} (h : EntJ w b E f m) (hb : b' ≤ b) : EntJ w b' E f m := fun i e he hi => (h i e he hi).base hb
theorem EntJ.to {E : List (Ent × Ent)} {f f' : Nat → Rat} {m : Nat} (h : EntJ w b E f m) (e : ∀ i, i < m → f i = f' i) : EntJ w b E f' m := fun i x hx hi => by
 rw [← e i hi]
 exact h i x hx hi
theorem MQ.base (h : MQ w b B A k c N G EE F) (hb : b' ≤ b) : MQ w b' B A k c N G EE F :=
 ⟨h.own, h.len, h.nod, fun i g hg => by
  obtain ⟨h1, h2, h3, h4⟩ := h.row i g hg
  exact ⟨h1, h2, h3, h4.base hb⟩⟩
theorem MQ.to {F' : Nat → Nat → Rat} (h : MQ w b B A k c N G EE F) (e : ∀ i, i < k → ∀ j, j < N → F i j = F' i j) : MQ w b B A k c N G EE F' :=
 ⟨h.own, h.len, h.nod, fun i g hg => by
  obtain ⟨h1, h2, h3, h4⟩ := h.row i g hg
  have hi : i < k := by
   rw [← h.len]
   rcases Nat.lt_or_ge i G.length with h5 | h5
   ·exact h5
   ·rw [List.getElem?_eq_none h5] at hg; cases hg
  exact ⟨h1, h2, h3, h4.to (e i hi)⟩⟩
theorem MQ.form (h : MQ w b B A k c N G EE F) : (A = none ∧ k = 0 ∧ c = 0) ∨ ∃ g, A = some ⟨g, 0, none⟩ ∧ B ≤ g ∧ g < w.heap.size ∧ k ≤ c ∧ c ≤ maxLen := by
 rcases h.own.2 with ⟨h1, h2⟩ | ⟨g, cap, cur, h1, h2, h3, h4, h5, _⟩
 ·injection h1 with h1 h1' h1''
  exact .inl ⟨h1, h2, h1''⟩
 ·injection h1 with h1 h1' h1''
  subst h1''
  exact .inr ⟨g, h1, h2, (Array.getElem?_eq_some_iff.1 h3).1, h4, h5⟩
theorem QB.grown {E : List (Ent × Ent)} (h : QB w g E) {e : TypeId} {k : Nat} {v : Value} {n : Nat} {xs : List Value} (hr : w.ownsRow b e k v n xs) (he : e ≠ 47) (hg : w.grownBy w' v.ownBlock) : QB w' g E := by
 have hne : some g ≠ v.ownBlock := by
  intro h0
  rcases hr.2 with ⟨h1, _⟩ | ⟨g', cap, cur, h1, _, h3, _⟩
  ·rw [h1] at h0; cases h0
  ·rw [h1] at h0
   injection h0 with h0
   subst h0
   unfold QB at h
   rw [h3] at h
   injection h with h
   injection h with _ h _
   exact he h
 exact (hg.block g h.lt hne).trans h
theorem MQ.snoc {g : Nat} {E : List (Ent × Ent)} {f : Nat → Rat} {v : Value} {w1 : World} (h : MQ w b B A k c N G EE F) (hz : QB w g E) (hB : B ≤ g) (hE : E.length = N) (hf : EntJ w b E f N) (hnew : ∀ x ∈ G, x < g)
  (hown : w1.ownsRow B 72 1 v (k + 1) ((G.map fun g => Value.slice (some ⟨g, 0, none⟩) N N) ++ [.slice (some ⟨g, 0, none⟩) N N])) (hg : w.grownBy w1 (Value.slice A k c).ownBlock) :
  ∃ (A' : Option Addr) (c' : Nat), v = .slice A' (k + 1) c' ∧ MQ w1 b B A' (k + 1) c' N (G ++ [g]) (fun i => if i = k then E else EE i) (fun i => if i = k then f else F i) := by
 obtain ⟨A', c', rfl⟩ := row_sl hown
 have hk : KeepT w w1 := KeepT.grown h.own (by decide) hg
 refine ⟨A', c', rfl, by rw [List.map_append]; exact hown, by rw [List.length_append, h.len]; rfl, ?_, fun i x hx => ?_⟩
 ·rw [List.nodup_append]
  refine ⟨h.nod, by simp, fun x hx y hy => ?_⟩
  simp at hy
  subst hy
  have := hnew x hx
  omega
 ·rcases Nat.lt_or_ge i G.length with hi | hi
  ·rw [List.getElem?_append_left hi] at hx
   obtain ⟨h1, h2, h3, h4⟩ := h.row i x hx
   have hik : i ≠ k := by have := h.len; omega
   simp only [if_neg hik]
   exact ⟨h1, h2.grown h.own (by decide) hg, h3, h4.keep hk⟩
  ·rw [List.getElem?_append_right hi] at hx
   have hi0 : i = k := by
    have := h.len
    rcases Nat.eq_zero_or_pos (i - G.length) with e | e
    ·omega
    ·rw [List.getElem?_eq_none (by simp; omega)] at hx; cases hx
   subst hi0
   rw [h.len, Nat.sub_self] at hx
   simp at hx
   subst hx
   simp only [if_true]
   exact ⟨hB, hz.grown h.own (by decide) hg, hE, hf.keep hk⟩
theorem QB.farQ {E E' : List (Ent × Ent)} {g' j : Nat} (h : QB w g E) (_ : QB w g' E') (hne : g ≠ g') (e : Ent × Ent) : QB (setQ w g' j e) g E := by
 unfold QB setQ at *
 rw [Below.heap_setCell _ (⟨g', j * 4 + 3, none⟩ : Addr) _ g hne, Below.heap_setCell _ (⟨g', j * 4 + 2, none⟩ : Addr) _ g hne, Below.heap_setCell _ (⟨g', j * 4 + 1, none⟩ : Addr) _ g hne, Below.heap_setCell _ (⟨g', j * 4, none⟩ : Addr) _ g hne]
 exact h
def upd (F : Nat → Nat → Rat) (i k : Nat) (x : Rat) (a j : Nat) : Rat := if a = i ∧ j = k then x else F a j
theorem row_setQ {e : TypeId} {q : Nat} {v : Value} {n : Nat} {xs : List Value} {E : List (Ent × Ent)} (h : w.ownsRow B e q v n xs) (he : e ≠ 47) (hz : QB w g E) (j : Nat) (x : Ent × Ent) : (setQ w g j x).ownsRow B e q v n xs := by
 refine ⟨h.1, ?_⟩
 rcases h.2 with h0 | ⟨g', cap, cur, h1, h2, h3, h4⟩
 ·exact .inl h0
 ·have hne : g' ≠ g := by
   rintro rfl
   unfold QB at hz
   rw [h3] at hz
   injection hz with hz
   injection hz with _ hz _
   exact he hz
  refine .inr ⟨g', cap, cur, h1, h2, ?_, h4⟩
  unfold setQ
  rw [Below.heap_setCell _ (⟨g, j * 4 + 3, none⟩ : Addr) _ g' hne, Below.heap_setCell _ (⟨g, j * 4 + 2, none⟩ : Addr) _ g' hne, Below.heap_setCell _ (⟨g, j * 4 + 1, none⟩ : Addr) _ g' hne, Below.heap_setCell _ (⟨g, j * 4, none⟩ : Addr) _ g' hne]
  exact h3
theorem MQ.set (h : MQ w b B A k c N G EE F) {i j g : Nat} (hi : G[i]? = some g) (hj : j < N) {e : Ent × Ent} {x : Rat} (he : OwQ w b e.1.1 e.1.2.1 e.1.2.2.1 e.1.2.2.2 e.2.1 e.2.2.1 e.2.2.2.1 e.2.2.2.2 x) :
  MQ (setQ w g j e) b B A k c N G (fun a => if a = i then (EE a).set j e else EE a) (upd F i j x) := by
 obtain ⟨q1, q2, q3, q4⟩ := h.row i g hi
 have hk := q2.keep j e
 refine ⟨row_setQ h.own (by decide) q2 j e, h.len, h.nod, fun a g' hg' => ?_⟩
 obtain ⟨h1, h2, h3, h4⟩ := h.row a g' hg'
 by_cases hai : a = i
 ·subst hai
  rw [hi] at hg'
  injection hg' with hg'
  subst hg'
  simp only [if_true]
  refine ⟨h1, h2.store j e, by rw [List.length_set]; exact h3, fun t e' he' ht => ?_⟩
  unfold upd
  by_cases htj : t = j
  ·subst htj
   rw [List.getElem?_set_self (by omega)] at he'
   injection he' with he'
   subst he'
   simp only [true_and, if_true]
   exact he.keep hk
  ·rw [List.getElem?_set_ne (Ne.symm htj)] at he'
   rw [if_neg (by omega)]
   exact (h4 t e' he' ht).keep hk
 ·simp only [if_neg hai]
  have hne : g' ≠ g := by
   rintro rfl
   have ha : a < G.length := by
    rcases Nat.lt_or_ge a G.length with h5 | h5
    ·exact h5
    ·rw [List.getElem?_eq_none h5] at hg'; cases hg'
   have h5 := (List.getElem?_inj ha h.nod).1 (hg'.trans hi.symm)
   exact hai h5
  refine ⟨h1, h2.farQ q2 hne e, h3, fun t e' he' ht => ?_⟩
  unfold upd
  rw [if_neg (by omega)]
  exact (h4 t e' he' ht).keep hk
theorem MQ.at_ (h : MQ w b B A k c N G EE F) {i : Nat} (hi : i < k) :
  ∃ (a g : Nat), A = some ⟨a, 0, none⟩ ∧ a < w.heap.size ∧ B ≤ a ∧ G[i]? = some g ∧ w.cell? ⟨a, i, none⟩ = some (.slice (some ⟨g, 0, none⟩) N N) ∧ B ≤ g ∧ QB w g (EE i) ∧ (EE i).length = N ∧ EntJ w b (EE i) (F i) N := by
 rcases h.form with ⟨_, h0, _⟩ | ⟨a, rfl, h1, h2, h3, h4⟩
 ·omega
 ·have hiG : i < G.length := by rw [h.len]; exact hi
  have hg := List.getElem?_eq_getElem hiG
  obtain ⟨q1, q2, q3, q4⟩ := h.row i _ hg
  refine ⟨a, G[i], rfl, h2, h1, hg, ?_, q1, q2, q3, q4⟩
  have := h.own.cellAt i (by omega)
  rw [this, List.getElem?_map, hg]
  rfl
theorem MQ.rows (h : MQ w b B A k c N G EE F) (hB : b ≤ B) (hN : N ≤ maxLen) : OwQss w b A k c (Mx.tab k N F) := by
 refine ⟨G.map fun g => (some ⟨g, 0, none⟩, N, N), ?_, by rw [List.length_map, h.len], by rw [List.length_map, h.len, Mx.tab_len], fun j e L he hL => ?_⟩
 ·rw [List.map_map]
  exact row_base h.own hB
 ·rw [List.getElem?_map] at he
  obtain ⟨g, hg, rfl⟩ := Option.map_eq_some_iff.1 he
  have hj : j < k := by
   rw [← h.len]
   rcases Nat.lt_or_ge j G.length with h5 | h5
   ·exact h5
   ·rw [List.getElem?_eq_none h5] at hg; cases hg
  rw [Mx.tab_row hj] at hL
  injection hL with hL
  subst hL
  obtain ⟨q1, q2, q3, q4⟩ := h.row j g hg
  exact q2.own q4 (Nat.le_trans hB q1) q3 hN
end
end Go.Proofs.YtjnklbfhelbjgaaGreat

/- Values of polynomials over the fractions. Nothing of the program. -/
namespace Pq
end Pq

/- rat's operations at fractions; qpoly: times a number, by the lead. -/
namespace Go.Proofs.YtjnklbfhelbjgaaGreat
open Go.RowKit Go.IntWalk
attribute [local go_sem ↓] Go.wp_at_zero Go.wp_at_succ
theorem RetQE.q {ok : Prop} {x : Rat} {w w' : World} {e : Ending} (h : RetQE ok x w e w') (hk : ok) : RetQ x w e w' := by
 obtain ⟨s5, A5, n5, c5, y5, s6, A6, n6, c6, y6, kk, rfl, ho5, ho6, hy, hb3⟩ := h
 rcases hy.out with ⟨_, rfl, rfl, rfl⟩ | ⟨h, _⟩
 ·exact ⟨s5, A5, n5, c5, s6, A6, n6, c6, x, rfl, ⟨ho5, ho6⟩, Lib.hid rfl, hb3⟩
 ·exact absurd hk h
section
variable {N : Nat} {s1 s2 s3 s4 : Bool} {A1 A2 A3 A4 : Option Addr} {n1 c1 n2 c2 n3 c3 n4 c4 : Nat} {x y : Rat} {w : World}
theorem qmulq_any (h1 : RdZ w w.heap.size s1 A1 n1 c1 x.num) (h2 : RdZ w w.heap.size s2 A2 n2 c2 (x.den : Int)) (h3 : RdZ w w.heap.size s3 A3 n3 c3 y.num) (h4 : RdZ w w.heap.size s4 A4 n4 c4 (y.den : Int)) (hn : n1 ≤ N ∧ n2 ≤ N ∧ n3 ≤ N ∧ n4 ≤ N) (hN : N ≤ 200000000000) :
  Calls Tryz.prog 115 #[.agg #[.bool s1, .slice A1 n1 c1, .bool s2, .slice A2 n2 c2], .agg #[.bool s3, .slice A3 n3 c3, .bool s4, .slice A4 n4 c4]] w (RetQ (x * y) w) :=
 (qmul_any h1 h2 h3 h4 hn hN).mono fun e w' h => by
  have := h.q ⟨qden_ne x, qden_ne y⟩
  rwa [Rat.num_divInt_den, Rat.num_divInt_den] at this
theorem qsubq_any (h1 : RdZ w w.heap.size s1 A1 n1 c1 x.num) (h2 : RdZ w w.heap.size s2 A2 n2 c2 (x.den : Int)) (h3 : RdZ w w.heap.size s3 A3 n3 c3 y.num) (h4 : RdZ w w.heap.size s4 A4 n4 c4 (y.den : Int)) (hn : n1 ≤ N ∧ n2 ≤ N ∧ n3 ≤ N ∧ n4 ≤ N) (hN : N ≤ 200000000000) :
  Calls Tryz.prog 225 #[.agg #[.bool s1, .slice A1 n1 c1, .bool s2, .slice A2 n2 c2], .agg #[.bool s3, .slice A3 n3 c3, .bool s4, .slice A4 n4 c4]] w (RetQ (x - y) w) :=
 (qsub_any h1 h2 h3 h4 hn hN).mono fun e w' h => by
  have := h.q ⟨qden_ne x, qden_ne y⟩
  rwa [Rat.num_divInt_den, Rat.num_divInt_den] at this
theorem qquoq_any (h1 : RdZ w w.heap.size s1 A1 n1 c1 x.num) (h2 : RdZ w w.heap.size s2 A2 n2 c2 (x.den : Int)) (h3 : RdZ w w.heap.size s3 A3 n3 c3 y.num) (h4 : RdZ w w.heap.size s4 A4 n4 c4 (y.den : Int)) (hn : n1 ≤ N ∧ n2 ≤ N ∧ n3 ≤ N ∧ n4 ≤ N) (hN : N ≤ 200000000000) (h0 : y ≠ 0) :
  Calls Tryz.prog 224 #[.agg #[.bool s1, .slice A1 n1 c1, .bool s2, .slice A2 n2 c2], .agg #[.bool s3, .slice A3 n3 c3, .bool s4, .slice A4 n4 c4]] w (RetQ (x / y) w) :=
 (qquo_any h1 h2 h3 h4 hn hN (fun e => h0 (Rat.num_eq_zero.1 e))).mono fun e w' h => by
  have := h.q ⟨qden_ne x, qden_ne y⟩
  rwa [Rat.num_divInt_den, Rat.num_divInt_den] at this
end
theorem qp_at {w : World} {B N : Nat} {A : Option Addr} {n c : Nat} {L : List Rat} (h : RdQs w B N A n c (L.map pr)) {j : Nat} (hj : j < n) :
  ∃ (ad : Addr) (s : Bool) (A1 : Option Addr) (n1 c1 : Nat) (s' : Bool) (A1' : Option Addr) (n1' c1' : Nat) (x : Rat), A = some ad ∧ ad.block < B ∧ w.cell? (ad.add (j * 4)) = some (.bool s) ∧ w.cell? ⟨(ad.add (j * 4)).block, (ad.add (j * 4)).off + 1, none⟩ = some (.slice A1 n1 c1) ∧ w.cell? ⟨(ad.add (j * 4)).block, (ad.add (j * 4)).off + 2, none⟩ = some (.bool s') ∧ w.cell? ⟨(ad.add (j * 4)).block, (ad.add (j * 4)).off + 3, none⟩ = some (.slice A1' n1' c1') ∧ RdZ w B s A1 n1 c1 x.num ∧ RdZ w B s' A1' n1' c1' (x.den : Int) ∧ n1 ≤ N ∧ n1' ≤ N ∧ Hid (L[j]? = some x) := by
 obtain ⟨ad, s1, A1, n1, c1, s2, A2, n2, c2, z1, d1, rfl, hbk, hx0, hx1, hx2, hx3, hr1, hr2, hn1, hn2, hp⟩ := qs_at h hj
 have e := hp.out
 rw [List.getElem?_map] at e
 obtain ⟨x, hx, e⟩ := Option.map_eq_some_iff.1 e
 unfold pr at e
 injection e with e1 e2
 subst e1 e2
 exact ⟨ad, s1, A1, n1, c1, s2, A2, n2, c2, x, rfl, hbk, hx0, hx1, hx2, hx3, hr1, hr2, hn1, hn2, Lib.hid hx⟩
theorem RdQs.szp {w : World} {B N : Nat} {A : Option Addr} {n c : Nat} {L : List Rat} (h : RdQs w B N A n c (L.map pr)) (hN : 1 ≤ N) : SzQ N L := by
 have := h.sz (fun p hp => by
  obtain ⟨x, _, rfl⟩ := List.mem_map.1 hp
  exact pr_ne x) hN
 rwa [List.map_map, show (qval ∘ pr) = id from funext qval_pr, List.map_id] at this
theorem RdQs.lenp {w : World} {B N : Nat} {A : Option Addr} {n c : Nat} {L : List Rat} (h : RdQs w B N A n c (L.map pr)) : L.length = n := by rw [← h.len, List.length_map]
end Go.Proofs.YtjnklbfhelbjgaaGreat

/- qpoly: the derivative; an integer polynomial by a number; by the lead. -/
namespace Go.Proofs.YtjnklbfhelbjgaaGreat
open Go.RowKit Go.IntWalk
attribute [local go_sem ↓] Go.wp_at_zero Go.wp_at_succ
theorem qcF1 {V W : World} (hb : Below (V.drew.alloc (.cells #[.bool false, .slice none 0 0, .bool false, .slice none 0 0] 47)).heap.size (V.drew.alloc (.cells #[.bool false, .slice none 0 0, .bool false, .slice none 0 0] 47)) W) : QC W V.heap.size false none 0 0 false none 0 0 := (QC.new V.drew false none 0 0 false none 0 0).next hb
theorem below_put4 {B g : Nat} {w w' : World} (hb : Below B w w') (hg : B ≤ g) (x y z u : Value) : Below B w ((((w'.setCell ⟨g, 0, none⟩ x).setCell ⟨g, 1, none⟩ y).setCell ⟨g, 2, none⟩ z).setCell ⟨g, 3, none⟩ u) :=
 (((hb.setCell (p := ⟨g, 0, none⟩) hg _).setCell (p := ⟨g, 1, none⟩) hg _).setCell (p := ⟨g, 2, none⟩) hg _).setCell (p := ⟨g, 3, none⟩) hg _
end Go.Proofs.YtjnklbfhelbjgaaGreat

/- qpoly.norms: a function of polynomials in normal form. -/
namespace Go.Proofs.YtjnklbfhelbjgaaGreat
open Go.RowKit Go.IntWalk
attribute [local go_sem ↓] Go.wp_at_zero Go.wp_at_succ
theorem pcell_new (w : World) (x : Value) (t : TypeId) : ∀ j a, [x][j]? = some a → (w.alloc (.cells #[x] t)).cell? ((⟨w.heap.size, 0, none⟩ : Addr).add j) = some a := by
 intro j a hj
 match j, hj with
 | 0, hj => simp at hj; subst hj; simp [Addr.add]
 | (j + 1), hj => simp at hj
abbrev nq (L : List (Int × Int)) : List Rat := Pq.nrm (L.map qval)
theorem mapn_snoc {L : List (List (Int × Int))} {j : Nat} {p : List (Int × Int)} (h : L[j]? = some p) : (L.take j).map nq ++ [nq p] = (L.take (j + 1)).map nq := by
 rw [List.take_add_one, h]
 simp
end Go.Proofs.YtjnklbfhelbjgaaGreat

/- qpoly: Add, Sub, Derive, Monic as exported. -/
namespace Go.Proofs.YtjnklbfhelbjgaaGreat
open Go.RowKit Go.IntWalk
attribute [local go_sem ↓] Go.wp_at_zero Go.wp_at_succ
abbrev okD (L : List (Int × Int)) : Prop := ∀ p ∈ L, p.2 ≠ 0
theorem co_nq (L : List (Int × Int)) (i : Nat) : Pq.co (nq L) i = Pq.co (L.map qval) i := Pq.co_nrm _ i
theorem nq_len (L : List (Int × Int)) : (nq L).length ≤ L.length := Nat.le_trans (Pq.nrm_len _) (Nat.le_of_eq (List.length_map ..))
theorem nq_qs {w : World} {B N : Nat} {A : Option Addr} {n c : Nat} {L : List (Int × Int)} (h : RdQs w B N A n c L) (hd : okD L) (hN : 1 ≤ N) : ∀ x ∈ nq L, Qs N x := fun x hx => by
 obtain ⟨i, _, rfl⟩ := Pq.mem_co hx
 rw [co_nq]
 exact h.sz hd hN i
end Go.Proofs.YtjnklbfhelbjgaaGreat

/- qpoly.Scale as exported; a coefficient of a list of the call's own. -/
namespace Go.Proofs.YtjnklbfhelbjgaaGreat
open Go.RowKit Go.IntWalk
attribute [local go_sem ↓] Go.wp_at_zero Go.wp_at_succ
theorem qs_one {w : World} {N : Nat} {s s' : Bool} {A A' : Option Addr} {n c n' c' : Nat} {z d : Int} (h : RdZ w w.heap.size s A n c z) (h' : RdZ w w.heap.size s' A' n' c' d) (hn : n ≤ N) (hn' : n' ≤ N) {w1 : World} (hw : w1 = w.alloc (.cells #[.bool s, .slice A n c, .bool s', .slice A' n' c'] 47)) :
  RdQs w1 w1.heap.size N (some ⟨w.heap.size, 0, none⟩) 1 1 [(z, d)] := by
 have hb : Below w.heap.size w w1 := by rw [hw]; exact (Below.refl _ _).alloc (Nat.le_refl _) _
 have hq : QC w1 w.heap.size s A n c s' A' n' c' := by rw [hw]; exact QC.new w s A n c s' A' n' c'
 refine ⟨rfl, Nat.le_refl _, by unfold maxLen; omega, fun j p hp => ?_⟩
 match j, hp with
 | 0, hp =>
   simp at hp
   subst hp
   exact ⟨_, s, A, n, c, s', A', n', c', rfl, hq.lt, hq.c0, hq.c1, hq.c2, hq.c3, h.next hb, h'.next hb, hn, hn'⟩
 | j + 1, hp => simp at hp
end Go.Proofs.YtjnklbfhelbjgaaGreat

/- rat.made of a function that hands out its argument's own words; rat.Neg. -/
namespace Go.Proofs.YtjnklbfhelbjgaaGreat
open Go.RowKit Go.IntWalk
attribute [local go_sem ↓] Go.wp_at_zero Go.wp_at_succ
def RetZD2B (b : Nat) (z d k : Int) (w : World) (e : Ending) (w' : World) : Prop :=
 ∃ (s : Bool) (A : Option Addr) (n c : Nat) (y : Int) (s' : Bool) (A' : Option Addr) (n' c' : Nat) (y' : Int) (kk : Int), e = .returned (.tuple #[.agg #[.bool s, .slice A n c, .bool s', .slice A' n' c'], .int .i64 kk]) ∧ OwZ w' b s A n c y ∧ OwZ w' b s' A' n' c' y' ∧ Hid (y = z ∧ y' = d ∧ kk = k) ∧ Below w.heap.size w w'
set_option maxRecDepth 100000 in
set_option maxHeartbeats 8000000 in
theorem made_base {f N : Nat} {A : Option Addr} {n c : Nat} {L : List (Int × Int)} {w : World} {z d k : Int} (h : RdQs w w.heap.size N A n c L) (hn : n ≤ 1048576) (hN : N ≤ 1000000000000) (heg : ∀ args w, (callFunc f args).run Tryz.prog w = .ok (.enter f args) w)
  (hdo : (∀ p ∈ L, p.2 ≠ 0) → ∀ (W : World) (A' : Option Addr) (c' : Nat) (b : Nat), Below w.heap.size w W → w.heap.size ≤ b → b ≤ W.heap.size → OwQs W b A' n c' (L.map qval) → Calls Tryz.prog f #[.slice A' n c'] W (RetZD2B w.heap.size z d k W)) :
  Calls Tryz.prog 85 #[.func (.func f) #[] #[], .slice A n c] w fun e w' => ((∀ p ∈ L, p.2 ≠ 0) ∧ RetZD2 z d k w e w') ∨ ((∃ p ∈ L, p.2 = 0) ∧ RetQ0 6 w e w') := by
 have HD := Lib.hid hdo
 have HLEN := Lib.hid h.len
 have hmk := fun W : World => make_qroom n (by omega) W
 obtain ⟨i0, hi, hz0, hz1, hz2⟩ := info_parts infoQ
 have hX0 := QC.new w false none 0 0 false none 0 0
 have hb0 : Below w.heap.size w (w.alloc (.cells #[.bool false, .slice none 0 0, .bool false, .slice none 0 0] 47)) := (Below.refl _ _).alloc (Nat.le_refl _) _
 obtain ⟨W0, HW0⟩ : ∃ W, W = (w.alloc (.cells #[.bool false, .slice none 0 0, .bool false, .slice none 0 0] 47)).alloc (.cells #[.bool false, .slice none 0 0, .bool false, .slice none 0 0] 47) := ⟨_, rfl⟩
 obtain ⟨hR0, hZ0, hB0⟩ := q_box1 w false none 0 0 false none 0 0 W0 HW0
 have hs0 : W0.heap.size = w.heap.size + 1 + 1 := by rw [HW0]; simp
 obtain ⟨W1, HW1⟩ : ∃ W, W = W0.alloc (.cells (madeCells #[.bool false, .slice none 0 0, .bool false, .slice none 0 0] (n * 4)) 47) := ⟨_, rfl⟩
 have hb1 : Below W0.heap.size W0 W1 := by rw [HW1]; exact (Below.refl _ _).alloc (Nat.le_refl _) _
 have hO1 : OwQs W1 W0.heap.size (some ⟨W0.heap.size, 0, none⟩) 0 n [] := by rw [HW1]; exact OwQs.room W0 n (by unfold maxLen; omega)
 have HRZ := Lib.hid (show ∀ W : World, Below W0.heap.size W0 W → QC W w.heap.size false none 0 0 false none 0 0 ∧ QC W (w.heap.size + 1) false none 0 0 false none 0 0 from fun W hb => ⟨hR0.next hb, hZ0.next hb⟩)
 have HB0 := Lib.hid hB0
 have HS0 := Lib.hid hs0
 rw [hs0] at hO1
 rw [HW0] at HW1
 have HW1 := Lib.hid HW1
 clear hdo hX0 hb0 hR0 hZ0 hB0 hs0 HW0
 go_enter Tryz.func85, Tryz.ntmps85
 go_wp2_with fail
 rw [← HW1.out]
 clear HW1
 clear HW1
 have HLT := Lib.hid (show w.heap.size + 1 < W0.heap.size by rw [HS0.out]; exact Nat.lt_succ_self _)
 rw [← HS0.out] at hO1
 go_loopw [7, 17] (fun ov iv wr => ∃ (j c' : Nat) (A' : Option Addr) (M : List Rat), ov = .slice A' j c' ∧ iv = .int .i64 j ∧ j ≤ n ∧ OwQs wr W0.heap.size A' j c' M ∧ Hid (M = (L.take j).map qval) ∧ Hid (∀ (i : Nat) (p : Int × Int), i < j → L[i]? = some p → p.2 ≠ 0) ∧ Below W0.heap.size W0 wr) (fun _ iv _ => n - (intOf iv).toNat)
 case atStart => exact ⟨0, n, _, [], by rw [HS0.out], rfl, Nat.zero_le _, hO1, Lib.hid rfl, Lib.hid fun i p hi => absurd hi (Nat.not_lt_zero _), hb1⟩
 case round =>
  clear hO1 hb1
  obtain ⟨j, c', A', M, rfl, rfl, hj, ho, hM, hne, hB⟩ := hrel
  by_cases hjn : j = n
  ·subst hjn
   have HALL := Lib.hid (show ∀ p ∈ L, p.2 ≠ 0 from fun p hp => by
    obtain ⟨i, hi, e⟩ := List.mem_iff_getElem.1 hp
    exact hne.out i p (by rw [← HLEN.out]; exact hi) (by rw [List.getElem?_eq_getElem hi, e]))
   have HBW := Lib.hid (HB0.out.trans (hB.mono HB0.out.size))
   have HO := Lib.hid (show OwQs wr W0.heap.size A' j c' (L.map qval) by rw [← List.take_of_length_le (l := L) (by rw [HLEN.out]; exact Nat.le_refl _), ← hM.out]; exact ho)
   have HR := Lib.hid (HRZ.out _ hB).1
   have HLW := Lib.hid hB.size
   clear ho hB hM hne
   go_wp2_with fail
   refine (HD.out HALL.out wr A' c' _ HBW.out HB0.out.size HLW.out HO.out).mono ?_
   rintro _ W5 ⟨s5, A5, n5, c5, y5, s6, A6, n6, c6, y6, kk, rfl, ho5, ho6, hy, hb5⟩
   have hR5 := HR.out.next hb5
   have r0 := hR5.c0
   have r1 := hR5.c1
   have r2 := hR5.c2
   have r3 := hR5.c3
   have f0 := hR5.fz 0
   have f1 := hR5.fz 1
   have f2 := hR5.fz 2
   have f3 := hR5.fz 3
   have HR9 := Lib.hid (hR5.store s5 A5 n5 c5 s6 A6 n6 c6)
   have HO9 := Lib.hid (And.intro (ho5.keep (keep_putQ hR5 s5 A5 n5 c5 s6 A6 n6 c6)) (ho6.keep (keep_putQ hR5 s5 A5 n5 c5 s6 A6 n6 c6)))
   have HB9 := Lib.hid (below_putQ (HBW.out.trans (hb5.mono HBW.out.size)) (Nat.le_refl w.heap.size) s5 A5 n5 c5 s6 A6 n6 c6)
   unfold putQ at HR9 HB9 HO9
   clear ho5 ho6 hb5 hR5
   go_wp2_with fail
   generalize (((W5.setCell ⟨w.heap.size, 0, none⟩ (.bool s5)).setCell ⟨w.heap.size, 1, none⟩ (.slice A5 n5 c5)).setCell ⟨w.heap.size, 2, none⟩ (.bool s6)).setCell ⟨w.heap.size, 3, none⟩ (.slice A6 n6 c6) = W9 at *
   have z0 := HR9.out.c0
   have z1 := HR9.out.c1
   have z2 := HR9.out.c2
   have z3 := HR9.out.c3
   exact bodyPost_ret (by simp [results, Tryz.results85, go_sem, z0, z1, z2, z3]) rfl (.inl ⟨HALL.out, _, _, _, _, _, _, _, _, _, _, _, rfl, HO9.out.1, HO9.out.2, hy, HB9.out⟩)
  ·have hjl : j < n := by omega
   clear hjn
   have hjli : (j : Int) < (n : Int) := by omega
   have hBW := HB0.out.trans (hB.mono HB0.out.size)
   obtain ⟨ad, s1, A1, n1, c1, s2, A2, n2, c2, z1, d1, rfl, hbk, hx0, hx1, hx2, hx3, hr1, hr2, hn1, hn2, hp⟩ := qs_at h hjl
   obtain ⟨hy0, hy1, hy2, hy3⟩ := qs_cells hBW hbk hx0 hx1 hx2 hx3
   obtain ⟨W2, HW2⟩ : ∃ W, W = wr.alloc (.cells #[.bool s1, .slice A1 n1 c1, .bool s2, .slice A2 n2 c2] 47) := ⟨_, rfl⟩
   have hb2 : Below wr.heap.size wr W2 := by rw [HW2]; exact (Below.refl _ _).alloc (Nat.le_refl _) _
   have hB2 := hB.trans (hb2.mono hB.size)
   have hBW2 := hBW.trans (hb2.mono hBW.size)
   have HO := Lib.hid (ho.next hb2)
   have HRD := Lib.hid (And.intro (hr1.next hBW2) (hr2.next hBW2))
   have HB2 := Lib.hid hB2
   have HBW2 := Lib.hid hBW2
   have HNN := Lib.hid (And.intro (Nat.le_trans hn1 hN) (Nat.le_trans hn2 hN))
   have HW2 := Lib.hid HW2
   clear ho hB hb2 hB2 hBW hBW2 hr1 hr2 hx0 hx1 hx2 hx3
   go_wp2_with fail
   rw [← HW2.out]
   clear HW2 hy0 hy1 hy2 hy3
   clear HW2
   by_cases hd0 : d1 = 0
   ·subst hd0
    have HEX := Lib.hid (show ∃ p ∈ L, p.2 = 0 from ⟨(z1, 0), List.mem_of_getElem? hp.out, rfl⟩)
    refine (qnorm_zero HRD.out.2 HNN.out.2).mono ?_
    rintro _ W3 ⟨rfl, hb3⟩
    obtain ⟨W4, HW4⟩ : ∃ W, W = W3.alloc (.cells #[.bool false, .slice none 0 0, .bool false, .slice none 0 0] 47) := ⟨_, rfl⟩
    have hb4 : Below W3.heap.size W3 W4 := by rw [HW4]; exact (Below.refl _ _).alloc (Nat.le_refl _) _
    have hb24 := hb3.trans (hb4.mono hb3.size)
    have hRZ := HRZ.out _ (HB2.out.trans (hb24.mono HB2.out.size))
    have hR := hRZ.1
    have r0 := hR.c0
    have r1 := hR.c1
    have r2 := hR.c2
    have r3 := hR.c3
    have f0 := hR.fz 0
    have f1 := hR.fz 1
    have f2 := hR.fz 2
    have f3 := hR.fz 3
    have g0 := hRZ.2.c0
    have g1 := hRZ.2.c1
    have g2 := hRZ.2.c2
    have g3 := hRZ.2.c3
    rw [HW4] at r0 r1 r2 r3 f0 f1 f2 f3 g0 g1 g2 g3
    have HR9 := Lib.hid (hR.store false none 0 0 false none 0 0)
    have HB9 := Lib.hid (below_putQ (HBW2.out.trans (hb24.mono HBW2.out.size)) (Nat.le_refl w.heap.size) false none 0 0 false none 0 0)
    unfold putQ at HR9 HB9
    have HW4 := Lib.hid HW4
    clear hb3 hb4 hb24 hR hRZ
    go_wp2_with fail
    rw [← HW4.out]
    clear HW4 r0 r1 r2 r3 f0 f1 f2 f3 g0 g1 g2 g3
    clear HW4
    generalize (((W4.setCell ⟨w.heap.size, 0, none⟩ (.bool false)).setCell ⟨w.heap.size, 1, none⟩ (.slice none 0 0)).setCell ⟨w.heap.size, 2, none⟩ (.bool false)).setCell ⟨w.heap.size, 3, none⟩ (.slice none 0 0) = W9 at *
    have z0 := HR9.out.c0
    have z1 := HR9.out.c1
    have z2 := HR9.out.c2
    have z3 := HR9.out.c3
    exact bodyPost_ret (by simp [results, Tryz.results85, go_sem, z0, z1, z2, z3]) rfl (.inr ⟨HEX.out, rfl, HB9.out⟩)
   ·have HD1 := Lib.hid hd0
    clear hd0
    refine (qnorm_any HRD.out.1 HRD.out.2 HNN.out.1 HNN.out.2 HD1.out).mono ?_
    rintro _ W3 ⟨s3, A3, n3, c3, s4, A4, n4, c4, y, rfl, ho3, hy, hb3⟩
    have hB3 := HB2.out.trans (hb3.mono HB2.out.size)
    obtain ⟨W4, HW4⟩ : ∃ W, W = W3.alloc (.cells #[.bool s3, .slice A3 n3 c3, .bool s4, .slice A4 n4 c4] 47) := ⟨_, rfl⟩
    have hb4 : Below W3.heap.size W3 W4 := by rw [HW4]; exact (Below.refl _ _).alloc (Nat.le_refl _) _
    have hB4 := hB3.trans (hb4.mono hB3.size)
    obtain ⟨E, hE, hEl, hEn⟩ := (HO.out.next hb3).next hb4
    have HO4 := Lib.hid ((ho3.base HB2.out.size).next hb4)
    rw [HW4] at hE hB4 hEn
    rw [HW4] at HO4
    have HE := Lib.hid hE
    have HEN := Lib.hid (And.intro hEl hEn)
    have HM2 := Lib.hid (show M ++ [y] = (L.take (j + 1)).map qval by rw [hM.out, hy.out]; exact mapq_snoc hp.out)
    have HNE2 := Lib.hid (show ∀ (i : Nat) (p : Int × Int), i < j + 1 → L[i]? = some p → p.2 ≠ 0 from fun i p hi hq => by
     rcases Nat.lt_or_ge i j with h1 | h1
     ·exact hne.out i p h1 hq
     ·rw [show i = j by omega, hp.out] at hq
      injection hq with hq
      rw [← hq]
      exact HD1.out)
    have HB4 := Lib.hid hB4
    clear hE hEl hEn hb3 ho3 hb4 hB3 hB4 hy HO hne hM
    clear HW4
    go_wp2_with (at_builtin; refine wpList_append_own _ rfl _ _ 72 rfl W0.heap.size 47 i0 (.agg #[.bool false, .slice none 0 0, .bool false, .slice none 0 0]) 4 64 Tryz.underlying72 hi hz0 hz1 hz2 rfl (by decide) _ _ _ rfl (HE.out.alloc _) ⟨W3.heap.size + 1, 0, none⟩ 1 1 [.bool s3, .slice A3 n3 c3, .bool s4, .slice A4 n4 c4] rfl rfl (by simpa using qcell_new (W3.alloc (.cells #[.bool s3, .slice A3 n3 c3, .bool s4, .slice A4 n4 c4] 47)) (.bool s3) (.slice A3 n3 c3) (.bool s4) (.slice A4 n4 c4) 47) (by simp [Value.oneCell']) (by unfold maxLen; omega) (by omega) (by have := HB4.out.size; simp at this ⊢; omega) ?_; intro v' w1 hown' hgrow _)
    have hmore := qs_more (e := ((s3, A3, n3, c3), (s4, A4, n4, c4))) (x := y) HO4.out rfl (HE.out.alloc _) HEN.out.1 HEN.out.2 hown' hgrow
    have HB5 := Lib.hid ((HB4.out.alloc HB4.out.size (.cells #[.bool s3, .slice A3 n3 c3, .bool s4, .slice A4 n4 c4] 47)).grown hgrow (by have := HB4.out.size; simp at this ⊢; omega) (own_block HE.out))
    obtain ⟨A5, c5, rfl, ho5⟩ := hmore
    clear hown' hgrow HE HEN HO4
    go_wp2
    go_roundw
    case rel => exact ⟨j + 1, c5, A5, M ++ [y], rfl, by go_num, by omega, ho5, HM2, HNE2, HB5.out⟩
    case measure => simp [intOf]; omega
theorem oq_one {w : World} {b : Nat} {A : Option Addr} {c : Nat} {x : Rat} (h : OwQs w b A 1 c [x]) :
  ∃ (g : Nat) (s1 : Bool) (A1 : Option Addr) (n1 c1 : Nat) (s2 : Bool) (A2 : Option Addr) (n2 c2 : Nat), A = some ⟨g, 0, none⟩ ∧ g < w.heap.size ∧
   (w.cell? ⟨g, 0, none⟩ = some (.bool s1) ∧ w.cell? ⟨g, 1, none⟩ = some (.slice A1 n1 c1) ∧ w.cell? ⟨g, 2, none⟩ = some (.bool s2) ∧ w.cell? ⟨g, 3, none⟩ = some (.slice A2 n2 c2)) ∧ OwQ w b s1 A1 n1 c1 s2 A2 n2 c2 x := by
 rcases h.form with ⟨_, h0, _⟩ | ⟨g, rfl, h1, h2, h3, h4⟩
 ·omega
 ·obtain ⟨ad, s1, A1, n1, c1, s2, A2, n2, c2, x', e1, k1, a0, a1, a2, a3, hx, hx'⟩ := oq_at h (show 0 < 1 by omega)
  injection e1 with e1
  subst e1
  obtain rfl : x = x' := by simpa using hx'.out
  rw [add_base] at a0 a1 a2 a3
  exact ⟨g, s1, A1, n1, c1, s2, A2, n2, c2, rfl, h2, ⟨a0, a1, a2, a3⟩, hx⟩
set_option maxRecDepth 100000 in
set_option maxHeartbeats 4000000 in
theorem qnegIn_any {N b : Nat} {A : Option Addr} {c : Nat} {x : Rat} {w : World} (h : OwQs w b A 1 c [x]) (hb : b ≤ w.heap.size) (hx : Zz.zl x.num ≤ N ∧ Zz.zl x.den ≤ N) (hN : N ≤ 1000000000000) :
  Calls Tryz.prog 86 #[.slice A 1 c] w (RetZD2B b (-x).num (-x).den 0 w) := by
 obtain ⟨g, s1, A1, n1, c1, s2, A2, n2, c2, rfl, hg, ⟨a0, a1, a2, a3⟩, ox⟩ := oq_one h
 obtain ⟨W1, HW1⟩ : ∃ W, W = w.alloc (.cells #[.bool false, .slice none 0 0, .bool false, .slice none 0 0] 47) := ⟨_, rfl⟩
 have hR : QC W1 w.heap.size false none 0 0 false none 0 0 := by rw [HW1]; exact QC.new w false none 0 0 false none 0 0
 have hB : Below w.heap.size w W1 := by rw [HW1]; exact (Below.refl _ _).alloc (Nat.le_refl _) _
 have HCE := Lib.hid (show ∀ W : World, Below W1.heap.size W1 W → (W.cell? ⟨g, 0, none⟩ = some (.bool s1) ∧ W.cell? ⟨g, 1, none⟩ = some (.slice A1 n1 c1) ∧ W.cell? ⟨g, 2, none⟩ = some (.bool s2) ∧ W.cell? ⟨g, 3, none⟩ = some (.slice A2 n2 c2)) from fun W hb => by
  have hb' := hB.trans (hb.mono hB.size)
  exact ⟨(hb'.cell hg).trans a0, (hb'.cell hg).trans a1, (hb'.cell hg).trans a2, (hb'.cell hg).trans a3⟩)
 have HCP := Lib.hid (show ∀ (W : World) (t : Bool) (D : Option Addr) (k m : Nat) (t' : Bool) (D' : Option Addr) (k' m' : Nat), Below W1.heap.size W1 W → ((putQ W w.heap.size t D k m t' D' k' m').cell? ⟨g, 0, none⟩ = some (.bool s1) ∧ (putQ W w.heap.size t D k m t' D' k' m').cell? ⟨g, 1, none⟩ = some (.slice A1 n1 c1) ∧ (putQ W w.heap.size t D k m t' D' k' m').cell? ⟨g, 2, none⟩ = some (.bool s2) ∧ (putQ W w.heap.size t D k m t' D' k' m').cell? ⟨g, 3, none⟩ = some (.slice A2 n2 c2)) from fun W t D k m t' D' k' m' hb => by
  have hP := below_putQ (Below.refl w.heap.size W) (Nat.le_refl w.heap.size) t D k m t' D' k' m'
  obtain ⟨e0, e1, e2, e3⟩ := HCE.out W hb
  exact ⟨(hP.cell hg).trans e0, (hP.cell hg).trans e1, (hP.cell hg).trans e2, (hP.cell hg).trans e3⟩)
 unfold putQ at HCP
 have HX := Lib.hid (show ∀ W : World, Below W1.heap.size W1 W → RdZ W W.heap.size s1 A1 n1 c1 x.num ∧ OwZ W b s2 A2 n2 c2 x.den from fun W hb => by
  have hb' := hB.trans (hb.mono hB.size)
  exact ⟨(ox.num.next hb').rd, ox.den.next hb'⟩)
 have HNN := Lib.hid (show n1 ≤ N from by rw [ox.num.len]; exact hx.1)
 have HB := Lib.hid hB
 have HBW := Lib.hid (Nat.le_trans hb hB.size)
 have HRR := Lib.hid (show ∀ W : World, Below W1.heap.size W1 W → QC W w.heap.size false none 0 0 false none 0 0 from fun W hb => hR.next hb)
 have HD := Lib.hid (Below.refl W1.heap.size W1).drew
 have HGN := Lib.hid (show g ≠ w.heap.size by omega)
 have HW1 := Lib.hid HW1
 clear a0 a1 a2 a3 ox hR hB h hx
 obtain ⟨a0, a1, a2, a3⟩ := HCE.out W1 (Below.refl _ _)
 go_enter Tryz.func86, Tryz.ntmps86
 go_upto_region 1 with fail
 rw [← HW1.out]
 clear HW1
 clear HW1
 go_region_held3 (fun w' => w'.cell? ⟨g, 0, none⟩ = some (.bool s1) ∧ w'.cell? ⟨g, 1, none⟩ = some (.slice A1 n1 c1) ∧ w'.cell? ⟨g, 2, none⟩ = some (.bool s2) ∧ w'.cell? ⟨g, 3, none⟩ = some (.slice A2 n2 c2))
  (first | exact HCE.out _ HB2.out | exact HCE.out _ HD.out | exact HCP.out _ _ _ _ _ _ _ _ _ HB2.out)
  (first
   | (go_at_call 87; refine (neg_any (HX.out _ HD.out).1 (by have := HNN.out; omega)).mono ?_; rintro _ W2 ⟨s7, A7, n7, c7, y2, rfl, ho2, hy2, hb2⟩; have HB2 := Lib.hid (HD.out.trans hb2); have hR4 := HRR.out _ HB2.out; have r0 := hR4.c0; have r1 := hR4.c1; have r2 := hR4.c2; have r3 := hR4.c3; have f0 := hR4.fz 0; have f1 := hR4.fz 1; have f2 := hR4.fz 2; have f3 := hR4.fz 3))
 all_goals
  have hR4' := HRR.out _ HB2.out
  have HR9 := Lib.hid (hR4'.store s7 A7 n7 c7 s2 A2 n2 c2)
  have HO9 := Lib.hid (And.intro ((ho2.base (b' := b) (Nat.le_trans HBW.out HD.out.size)).keep (keep_putQ hR4' s7 A7 n7 c7 s2 A2 n2 c2)) ((HX.out _ HB2.out).2.keep (keep_putQ hR4' s7 A7 n7 c7 s2 A2 n2 c2)))
  have HB9 := Lib.hid (below_putQ (HB.out.trans (HB2.out.mono HB.out.size)) (Nat.le_refl w.heap.size) s7 A7 n7 c7 s2 A2 n2 c2)
  have HV := Lib.hid (show y2 = (-x).num by rw [hy2.out]; rfl)
  unfold putQ at HR9 HO9 HB9
  clear a0 a1 a2 a3 r0 r1 r2 r3 f0 f1 f2 f3 hR4 hR4' ho2 hb2 hy2
  generalize (((W2.setCell ⟨w.heap.size, 0, none⟩ (.bool s7)).setCell ⟨w.heap.size, 1, none⟩ (.slice A7 n7 c7)).setCell ⟨w.heap.size, 2, none⟩ (.bool s2)).setCell ⟨w.heap.size, 3, none⟩ (.slice A2 n2 c2) = W9 at *
  have z0 := HR9.out.c0
  have z1 := HR9.out.c1
  have z2 := HR9.out.c2
  have z3 := HR9.out.c3
  go_wp2
  exact bodyPost_ret (by simp [results, Tryz.results86, go_sem, z0, z1, z2, z3]; rfl) rfl ⟨_, _, _, _, _, _, _, _, _, _, _, rfl, HO9.out.1, HO9.out.2, Lib.hid (by rw [HV.out]; exact ⟨rfl, rfl, rfl⟩), HB9.out⟩
end Go.Proofs.YtjnklbfhelbjgaaGreat
