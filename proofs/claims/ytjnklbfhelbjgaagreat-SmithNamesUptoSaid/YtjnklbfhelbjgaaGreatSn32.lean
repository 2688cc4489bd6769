/- Rows of raw rows of the call's own; a matrix's cells that are stored into. -/
import Derived.Test.YtjnklbfhelbjgaaGreatSn31
import Derived.Test.YtjnklbfhelbjgaaGreatSn16
import Derived.Test.YtjnklbfhelbjgaaGreatSn26
import Derived.Test.YtjnklbfhelbjgaaGreatSn01
import Derived.Test.YtjnklbfhelbjgaaGreatSn05
import Derived.Test.YtjnklbfhelbjgaaGreatSn23
namespace Go.Proofs.YtjnklbfhelbjgaaGreat
open Go.RowKit Go.IntWalk
section
variable {w w' : World} {b b' : Nat} {A : Option Addr} {n c : Nat} {LL : List RawRow} {E : List (Option Addr × Nat × Nat)}
theorem keepI_grown {w1 : World} {xs : List Value} (hE : w.ownsRow b 65 1 (.slice A n c) n xs) (hg : w.grownBy w1 (Value.slice A n c).ownBlock) : KeepI w w1 := by
 have key : ∀ (i : Nat) (cs : Array Value) (t : TypeId) (f : Nat × Nat), t ≠ 65 → w.heap[i]? = some (.cells cs t f) → w1.heap[i]? = some (.cells cs t f) := by
  intro i cs t f ht hi
  rw [← hi]
  refine hg.block i (Array.getElem?_eq_some_iff.1 hi).1 ?_
  rcases hE.2 with ⟨h1, _⟩ | ⟨g, cap, cur, h1, h2, h3, _⟩
  ·rw [h1]
   intro e0
   cases e0
  ·rw [h1]
   intro e0
   cases e0
   rw [hi] at h3
   injection h3 with h3
   injection h3 with _ h3
   exact ht h3
 exact ⟨fun i cs f => key i cs _ f (by decide), fun i cs f => key i cs _ f (by decide)⟩
end
theorem infoIs : (Tryz.prog.info? 65).map (fun i => (i.zero, i.size, i.bytes)) = some (some (.slice none 0 0), 1, 24) := by kernel_rfl
section
variable {w w' : World} {b n : Nat}
theorem grown_heap {w1 : World} {e t : TypeId} {k i : Nat} {v : Value} {xs : List Value} {cs : Array Value} {f : Nat × Nat} (hE : w.ownsRow b e k v n xs) (hg : w.grownBy w1 v.ownBlock) (hi : w.heap[i]? = some (.cells cs t f)) (ht : t ≠ e) : w1.heap[i]? = some (.cells cs t f) := by
 rw [← hi]
 refine hg.block i (Array.getElem?_eq_some_iff.1 hi).1 ?_
 rcases hE.2 with ⟨h1, _⟩ | ⟨g, cap, cur, h1, h2, h3, _⟩
 ·rw [h1]
  intro e0
  cases e0
 ·rw [h1]
  intro e0
  cases e0
  rw [hi] at h3
  injection h3 with h3
  injection h3 with _ h3
  exact ht h3
end
section
variable {w w' : World} {g b : Nat} {s : Bool} {A G : Option Addr} {n c r k : Nat} {RR : List RawRow}
theorem MC.grown {w1 : World} {m : Nat} {xs : List Value} {v : Value} {q : Nat} (h : MC w g s A n c G r k) (hE : w.ownsRow b 65 q v m xs) (hg : w.grownBy w1 v.ownBlock) : MC w1 g s A n c G r k := grown_heap hE hg h (by decide)
theorem MC.alloc (h : MC w g s A n c G r k) (o : Obj) : MC (w.alloc o) g s A n c G r k := h.next ((Below.refl w.heap.size w).alloc (Nat.le_refl _) o)
theorem MC.far (h : MC w g s A n c G r k) {p : Addr} (hp : g ≠ p.block) (u : Value) : MC (w.setCell p u) g s A n c G r k := (Below.heap_setCell w p u g hp).trans h
theorem MC.num (h : MC w g s A n c G r k) (G' : Option Addr) (r' k' : Nat) : MC (w.setCell ⟨g, 2, none⟩ (.slice G' r' k')) g s A n c G' r' k' := by
 unfold MC at *
 simp [World.setCell, Array.getElem?_modify, h]
def putM (w : World) (g : Nat) (s : Bool) (A : Option Addr) (n c : Nat) (G : Option Addr) (r k : Nat) : World := ((w.setCell ⟨g, 0, none⟩ (.bool s)).setCell ⟨g, 1, none⟩ (.slice A n c)).setCell ⟨g, 2, none⟩ (.slice G r k)
theorem MC.store (h : MC w g s A n c G r k) (s' : Bool) (A' : Option Addr) (n' c' : Nat) (G' : Option Addr) (r' k' : Nat) : MC (putM w g s' A' n' c' G' r' k') g s' A' n' c' G' r' k' := by
 unfold MC putM at *
 simp [World.setCell, Array.getElem?_modify, h]
theorem keepI_mc (h : MC w g s A n c G r k) (j : Nat) (u : Value) : KeepI w (w.setCell ⟨g, j, none⟩ u) := by
 have key : ∀ (i : Nat) (cs : Array Value) (t : TypeId) (f : Nat × Nat), t ≠ 28 → w.heap[i]? = some (.cells cs t f) → (w.setCell ⟨g, j, none⟩ u).heap[i]? = some (.cells cs t f) := fun i cs t f ht e => by
  have hne : i ≠ g := by
   rintro rfl
   unfold MC at h
   rw [h] at e
   injection e with e
   injection e with _ e
   exact ht e.symm
  rw [Below.heap_setCell _ (⟨g, j, none⟩ : Addr) _ i hne]
  exact e
 exact ⟨fun i cs f => key i cs _ f (by decide), fun i cs f => key i cs _ f (by decide)⟩
theorem keepI_put (h : MC w g s A n c G r k) (s' : Bool) (A' : Option Addr) (n' c' : Nat) (G' : Option Addr) (r' k' : Nat) : KeepI w (putM w g s' A' n' c' G' r' k') := by
 have key : ∀ (i : Nat) (cs : Array Value) (t : TypeId) (f : Nat × Nat), t ≠ 28 → w.heap[i]? = some (.cells cs t f) → (putM w g s' A' n' c' G' r' k').heap[i]? = some (.cells cs t f) := fun i cs t f ht e => by
  have hne : i ≠ g := by
   rintro rfl
   unfold MC at h
   rw [h] at e
   injection e with e
   injection e with _ e
   exact ht e.symm
  unfold putM
  rw [Below.heap_setCell _ (⟨g, 2, none⟩ : Addr) _ i hne, Below.heap_setCell _ (⟨g, 1, none⟩ : Addr) _ i hne, Below.heap_setCell _ (⟨g, 0, none⟩ : Addr) _ i hne]
  exact e
 exact ⟨fun i cs f => key i cs _ f (by decide), fun i cs f => key i cs _ f (by decide)⟩
theorem below_putM {B : Nat} (hb : Below B w w') (hg : B ≤ g) (s' : Bool) (A' : Option Addr) (n' c' : Nat) (G' : Option Addr) (r' k' : Nat) : Below B w (putM w' g s' A' n' c' G' r' k') :=
 ((hb.setCell (p := ⟨g, 0, none⟩) hg _).setCell (p := ⟨g, 1, none⟩) hg _).setCell (p := ⟨g, 2, none⟩) hg _
end
end Go.Proofs.YtjnklbfhelbjgaaGreat

/- Rows of integers of the call's own, by their values: n of what a block holds; rows of such rows. -/
namespace Go.Proofs.YtjnklbfhelbjgaaGreat
open Go.RowKit Go.IntWalk
theorem add_off (g off t : Nat) : (⟨g, off, none⟩ : Addr).add t = ⟨g, off + t, none⟩ := by
 unfold Addr.add
 split
 ·subst_vars; rfl
 ·rfl
def OwIp (w : World) (b : Nat) (A : Option Addr) (n c : Nat) (L : List Int) : Prop :=
 ∃ E : List Ent, E.length = n ∧ Ents w b E L ∧ n ≤ c ∧ c ≤ maxLen ∧ (n = 0 ∨ ∃ (g off : Nat) (cs : Array Value), A = some ⟨g, off, none⟩ ∧ b ≤ g ∧ w.heap[g]? = some (.cells cs 25 (0, 0)) ∧ ∀ (i : Nat) (v : Value), (zcs E)[i]? = some v → cs[off + i]? = some v)
section
variable {w w' : World} {b b' : Nat} {A : Option Addr} {n c : Nat} {L : List Int}
theorem Ents.keep {E : List Ent} (h : Ents w b E L) (hk : KeepT w w') : Ents w' b E L := ⟨h.1, fun j e z he hz => (h.2 j e z he hz).keep hk⟩
theorem OwIp.len (h : OwIp w b A n c L) : L.length = n := by
 obtain ⟨E, h1, h2, _⟩ := h
 rw [← h2.1, h1]
theorem OwIp.le (h : OwIp w b A n c L) : n ≤ c ∧ c ≤ maxLen := by
 obtain ⟨E, _, _, h3, h4, _⟩ := h
 exact ⟨h3, h4⟩
theorem OwIp.next (h : OwIp w b A n c L) (hb : Below w.heap.size w w') : OwIp w' b A n c L := by
 obtain ⟨E, h1, h2, h3, h4, h5⟩ := h
 refine ⟨E, h1, h2.next hb, h3, h4, h5.imp id ?_⟩
 rintro ⟨g, off, cs, k1, k2, k3, k4⟩
 exact ⟨g, off, cs, k1, k2, (hb.block g (Array.getElem?_eq_some_iff.1 k3).1).trans k3, k4⟩
theorem OwIp.base (h : OwIp w b A n c L) (hb : b' ≤ b) : OwIp w b' A n c L := by
 obtain ⟨E, h1, h2, h3, h4, h5⟩ := h
 refine ⟨E, h1, h2.base hb, h3, h4, h5.imp id ?_⟩
 rintro ⟨g, off, cs, k1, k2, k3, k4⟩
 exact ⟨g, off, cs, k1, Nat.le_trans hb k2, k3, k4⟩
theorem OwIp.keep (h : OwIp w b A n c L) (hk : KeepI w w') : OwIp w' b A n c L := by
 obtain ⟨E, h1, h2, h3, h4, h5⟩ := h
 refine ⟨E, h1, h2.keep hk.1, h3, h4, h5.imp id ?_⟩
 rintro ⟨g, off, cs, k1, k2, k3, k4⟩
 exact ⟨g, off, cs, k1, k2, hk.2 _ _ _ k3, k4⟩
theorem OwIp.nil (w : World) (b : Nat) (A : Option Addr) {c : Nat} (hc : c ≤ maxLen) : OwIp w b A 0 c [] := ⟨[], rfl, ⟨rfl, fun j e z he _ => by simp at he⟩, Nat.zero_le _, hc, .inl rfl⟩
theorem OwZs.ip (h : OwZs w b A n c L) : OwIp w b A n c L := by
 rcases h.form with ⟨rfl, rfl, rfl⟩ | ⟨g, rfl, h1, h2, h3, h4⟩
 ·have := h.len
  rw [List.eq_nil_of_length_eq_zero this]
  exact OwIp.nil w b none (Nat.zero_le _)
 ·obtain ⟨E, hr, hE, hel⟩ := h
  refine ⟨E, hE, hel, h3, h4, .inr ?_⟩
  rcases hr.2 with ⟨k1, _⟩ | ⟨g2, cap, cur, k1, k2, k3, k4, k5, k6, k7⟩
  ·cases k1
  ·injection k1 with k1 _ _
   injection k1 with k1
   injection k1 with k1 _ _
   subst k1
   refine ⟨g, 0, cur, rfl, k2, k3, fun i v hv => ?_⟩
   have hi : i < (zcs E).length := by
    rcases Nat.lt_or_ge i (zcs E).length with h5 | h5
    ·exact h5
    ·rw [List.getElem?_eq_none h5] at hv; cases hv
   have hi2 : i < n * 2 := by rw [zcs_len, hE] at hi; exact hi
   rw [← k7, List.getElem?_take_of_lt hi2] at hv
   simpa using hv
theorem OwIp.rs {N : Nat} (h : OwIp w b A n c L) (hN : ∀ z ∈ L, Zz.zl z ≤ N) : RdRs w w.heap.size N A n c (L.map ofZ) := by
 have hl := h.len
 have hle := h.le
 obtain ⟨E, h1, h2, h3, h4, h5⟩ := h
 refine ⟨by rw [List.length_map]; exact hl, hle.1, hle.2, fun j r hz => ?_⟩
 rw [List.getElem?_map] at hz
 obtain ⟨z, hzz, rfl⟩ := Option.map_eq_some_iff.1 hz
 have hj : j < L.length := by
  rcases Nat.lt_or_ge j L.length with h6 | h6
  ·exact h6
  ·rw [List.getElem?_eq_none h6] at hzz; cases hzz
 rcases h5 with h5 | ⟨g, off, cs, rfl, k2, k3, k4⟩
 ·omega
 ·have hjE : j < E.length := by omega
  have he := List.getElem?_eq_getElem hjE
  have hz' := h2.2 j _ z he hzz
  obtain ⟨c0, c1⟩ := zcs_at E j _ he
  refine ⟨_, _, _, _, rfl, (Array.getElem?_eq_some_iff.1 k3).1, ?_, ?_, hz'.own.rd, ?_⟩
  ·rw [add_off, cell_of_row w g _ _ _ _ k3, k4 _ _ c0]
   exact congrArg some (congrArg Value.bool hz'.sgn)
  ·rw [add_off]
   show w.cell? ⟨g, off + j * 2 + 1, none⟩ = _
   rw [cell_of_row w g _ _ _ _ k3]
   exact k4 _ _ c1
  ·rw [hz'.len]; exact hN z (List.mem_of_getElem? hzz)
end
def EntMs (w : World) (b : Nat) (E : List (Option Addr × Nat × Nat)) (LL : List (List Int)) : Prop := E.length = LL.length ∧ ∀ (j : Nat) (e : Option Addr × Nat × Nat) (L : List Int), E[j]? = some e → LL[j]? = some L → OwIp w b e.1 e.2.1 e.2.2 L
def OwMs (w : World) (b : Nat) (A : Option Addr) (n c : Nat) (LL : List (List Int)) : Prop :=
 ∃ E : List (Option Addr × Nat × Nat), w.ownsRow b 65 1 (.slice A n c) n (E.map psl) ∧ E.length = n ∧ EntMs w b E LL
section
variable {w w' : World} {b b' : Nat} {A : Option Addr} {n c : Nat} {LL : List (List Int)} {E : List (Option Addr × Nat × Nat)}
theorem EntMs.next (h : EntMs w b E LL) (hb : Below w.heap.size w w') : EntMs w' b E LL := ⟨h.1, fun j e z he hz => (h.2 j e z he hz).next hb⟩
theorem EntMs.base (h : EntMs w b E LL) (hb : b' ≤ b) : EntMs w b' E LL := ⟨h.1, fun j e z he hz => (h.2 j e z he hz).base hb⟩
theorem EntMs.keep (h : EntMs w b E LL) (hk : KeepI w w') : EntMs w' b E LL := ⟨h.1, fun j e z he hz => (h.2 j e z he hz).keep hk⟩
theorem EntMs.snoc (h : EntMs w b E LL) {e : Option Addr × Nat × Nat} {L : List Int} (he : OwIp w b e.1 e.2.1 e.2.2 L) : EntMs w b (E ++ [e]) (LL ++ [L]) := by
 refine ⟨by rw [List.length_append, List.length_append, h.1]; rfl, fun j e' z' h1 h2 => ?_⟩
 rcases Nat.lt_or_ge j E.length with hj | hj
 ·rw [List.getElem?_append_left hj] at h1
  rw [List.getElem?_append_left (by rw [← h.1]; exact hj)] at h2
  exact h.2 j e' z' h1 h2
 ·rw [List.getElem?_append_right hj] at h1
  rw [List.getElem?_append_right (by rw [← h.1]; exact hj)] at h2
  rw [← h.1] at h2
  have hj0 : j - E.length = 0 := by
   rcases Nat.eq_zero_or_pos (j - E.length) with e0 | e0
   ·exact e0
   ·rw [List.getElem?_eq_none (by simp; omega)] at h1; cases h1
  rw [hj0] at h1 h2
  simp at h1 h2
  subst h1 h2
  exact he
theorem OwMs.len (h : OwMs w b A n c LL) : LL.length = n := by
 obtain ⟨E, _, h2, h3⟩ := h
 rw [← h3.1, h2]
theorem OwMs.nil (w : World) (b : Nat) : OwMs w b none 0 0 [] := ⟨[], World.ownsRow_nil _ _ _ _, rfl, rfl, fun j e z he _ => by simp at he⟩
theorem OwMs.next (h : OwMs w b A n c LL) (hb : Below w.heap.size w w') : OwMs w' b A n c LL := by
 obtain ⟨E, h1, h2, h3⟩ := h
 exact ⟨E, row_next h1 hb, h2, h3.next hb⟩
theorem OwMs.base (h : OwMs w b A n c LL) (hb : b' ≤ b) : OwMs w b' A n c LL := by
 obtain ⟨E, h1, h2, h3⟩ := h
 exact ⟨E, row_base h1 hb, h2, h3.base hb⟩
theorem OwMs.form (h : OwMs w b A n c LL) : (A = none ∧ n = 0 ∧ c = 0) ∨ ∃ g, A = some ⟨g, 0, none⟩ ∧ b ≤ g ∧ g < w.heap.size ∧ n ≤ c ∧ c ≤ maxLen := by
 obtain ⟨E, h, _, _⟩ := h
 rcases h.2 with ⟨h1, h2⟩ | ⟨g, cap, cur, h1, h2, h3, h4, h5, _⟩
 ·injection h1 with h1 h1' h1''
  exact .inl ⟨h1, h2, h1''⟩
 ·injection h1 with h1 h1' h1''
  subst h1''
  exact .inr ⟨g, h1, h2, (Array.getElem?_eq_some_iff.1 h3).1, h4, h5⟩
theorem ms_more {wb w1 : World} {v' : Value} {e : Option Addr × Nat × Nat} {L : List Int} {t : TypeId} (he : OwIp w b e.1 e.2.1 e.2.2 L) (hwb : wb = w.alloc (.cells #[.slice e.1 e.2.1 e.2.2] t)) (hE : wb.ownsRow b 65 1 (.slice A n c) n (E.map psl)) (hEl : E.length = n) (hEn : EntMs wb b E LL)
  (hown' : w1.ownsRow b 65 1 v' (n + 1) (E.map psl ++ [.slice e.1 e.2.1 e.2.2])) (hg : wb.grownBy w1 (Value.slice A n c).ownBlock) :
  ∃ (A' : Option Addr) (c' : Nat), v' = .slice A' (n + 1) c' ∧ OwMs w1 b A' (n + 1) c' (LL ++ [L]) := by
 obtain ⟨A', c', rfl⟩ := row_sl hown'
 have hba : Below w.heap.size w wb := by rw [hwb]; exact (Below.refl w.heap.size w).alloc (Nat.le_refl _) _
 have hk := keepI_grown hE hg
 refine ⟨A', c', rfl, E ++ [e], ?_, by rw [List.length_append, hEl]; rfl, ?_⟩
 ·rw [List.map_append]; exact hown'
 ·exact (hEn.snoc (he.next hba)).keep hk
theorem oml_at (h : OwMs w b A n c LL) {j : Nat} (hj : j < n) :
  ∃ (g : Nat) (A1 : Option Addr) (n1 c1 : Nat) (L : List Int), A = some ⟨g, 0, none⟩ ∧ g < w.heap.size ∧ w.cell? ⟨g, j, none⟩ = some (.slice A1 n1 c1) ∧ OwIp w b A1 n1 c1 L ∧ Hid (LL[j]? = some L) := by
 have hl := h.len
 rcases h.form with ⟨_, h0, _⟩ | ⟨g, rfl, h1, h2, h3, h4⟩
 ·omega
 ·obtain ⟨E, hr, hE, hel⟩ := h
  have hjE : j < E.length := by omega
  have hjL : j < LL.length := by omega
  refine ⟨g, E[j].1, E[j].2.1, E[j].2.2, LL[j], rfl, h2, ?_, hel.2 j _ _ (List.getElem?_eq_getElem hjE) (List.getElem?_eq_getElem hjL), Lib.hid (List.getElem?_eq_getElem hjL)⟩
  have := hr.cellAt j (by omega)
  rw [this, List.getElem?_map, List.getElem?_eq_getElem hjE]
  rfl
end
section
variable {w w' : World} {b : Nat} {G : Option Addr} {r k N K : Nat} {LL : List (List Int)}
theorem OwMs.rd (h : OwMs w b G r k LL) (hN : ∀ L ∈ LL, L.length ≤ K ∧ ∀ z ∈ L, Zz.zl z ≤ N) : RdRss w w.heap.size N K G r k (LL.map (·.map ofZ)) := by
 have hl := h.len
 have hf : r ≤ k ∧ k ≤ maxLen := by
  rcases h.form with ⟨_, rfl, rfl⟩ | ⟨g, _, _, _, h3, h4⟩
  ·exact ⟨Nat.le_refl _, Nat.zero_le _⟩
  ·exact ⟨h3, h4⟩
 refine ⟨by rw [List.length_map]; exact hl, hf.1, hf.2, fun j R hR => ?_⟩
 rw [List.getElem?_map] at hR
 obtain ⟨L, hL, rfl⟩ := Option.map_eq_some_iff.1 hR
 have hj : j < LL.length := by
  rcases Nat.lt_or_ge j LL.length with h6 | h6
  ·exact h6
  ·rw [List.getElem?_eq_none h6] at hL; cases hL
 obtain ⟨g, A1, n1, c1, L', rfl, h2, h3, h4, h5⟩ := oml_at h (show j < r by omega)
 rw [h5.out] at hL
 injection hL with hL
 subst hL
 have hm := hN L' (List.mem_of_getElem? h5.out)
 exact ⟨_, A1, n1, c1, rfl, h2, by rw [add_base]; exact h3, h4.rs hm.2, by rw [← h4.len]; exact hm.1⟩
theorem OwMs.num {s : Bool} {A D : Option Addr} {n c g p q : Nat} (h : OwMs w b G r k LL) (hm : MC w g s A n c D p q) (hg : g < b) (u : Value) : OwMs (w.setCell ⟨g, 2, none⟩ u) b G r k LL := by
 obtain ⟨E, h1, h2, h3⟩ := h
 exact ⟨E, row_far h1 hg u, h2, h3.keep (keepI_mc hm 2 u)⟩
theorem OwMs.put {s : Bool} {A D : Option Addr} {n c g p q : Nat} (h : OwMs w b G r k LL) (hm : MC w g s A n c D p q) (hg : g < b) (s' : Bool) (A' : Option Addr) (n' c' : Nat) (G' : Option Addr) (r' k' : Nat) : OwMs (putM w g s' A' n' c' G' r' k') b G r k LL := by
 obtain ⟨E, h1, h2, h3⟩ := h
 exact ⟨E, row_far (row_far (row_far h1 (p := ⟨g, 0, none⟩) hg _) (p := ⟨g, 1, none⟩) hg _) (p := ⟨g, 2, none⟩) hg _, h2, h3.keep (keepI_put hm s' A' n' c' G' r' k')⟩
end
theorem toZ_ofZ (z : Int) : toZ (ofZ z) = z := by
 show Zz.sg (decide (z < 0)) (Dg.val (Dg.dg z.natAbs)) = z
 rw [Dg.val_dg, Zz.sg_abs]
def ent (d : Int) (RR : List RawRow) : List (List Rat) := RR.map fun R => R.map fun x => Rat.divInt (toZ x) d
def entZ (d : Int) (LL : List (List Int)) : List (List Rat) := LL.map fun L => L.map fun z => Rat.divInt z d
theorem ent_ofZ (d : Int) (LL : List (List Int)) : ent d (LL.map (·.map ofZ)) = entZ d LL := by
 unfold ent entZ
 rw [List.map_map]
 refine List.map_congr_left fun L _ => ?_
 show (L.map ofZ).map _ = _
 rw [List.map_map]
 refine List.map_congr_left fun z _ => ?_
 show Rat.divInt (toZ (ofZ z)) d = _
 rw [toZ_ofZ]
end Go.Proofs.YtjnklbfhelbjgaaGreat

/- How many bits: nat.Len, exactly. -/
namespace Go.Proofs.YtjnklbfhelbjgaaGreat
open Go.RowKit Go.IntWalk
def nlen (v : Nat) : Nat := if (Dg.dg v).length = 0 then 0 else 32 * ((Dg.dg v).length - 1) + Lib.bitLen (Dg.ld (Dg.dg v) ((Dg.dg v).length - 1))
theorem nlen_nil {v : Nat} (h : Dg.dg v = []) : nlen v = 0 := by unfold nlen; rw [h]; rfl
theorem nlen_top {v j x : Nat} (h : (Dg.dg v).length = j + 1) (hx : Dg.ld (Dg.dg v) j = x) : nlen v = 32 * j + Lib.bitLen x := by
 unfold nlen
 rw [if_neg (by omega), h]
 show 32 * (j + 1 - 1) + Lib.bitLen (Dg.ld (Dg.dg v) (j + 1 - 1)) = _
 rw [Nat.add_sub_cancel, hx]
set_option maxHeartbeats 400000 in
theorem nlen_any {A : Option Addr} {n c : Nat} {L : List Nat} {w : World} (h : RdU w w.heap.size A n c L) (hn : n ≤ 17592186044416) :
  Calls Tryz.prog 84 #[.slice A n c] w fun e w' => ∃ z : Nat, e = .returned (.int .i64 z) ∧ Hid (z = nlen (Dg.val L)) ∧ w = w' := by
 have hlen := Lib.hid h.len
 go_enter Tryz.func84, Tryz.ntmps84
 go_wp2_with fail
 refine (trim_any h (by omega)).mono ?_
 rintro _ _ ⟨k, rfl, hk, rfl⟩
 have hkl := hk.out.1
 have hkn : k ≤ n := by rw [hlen.out] at hkl; exact hkl
 rcases Nat.eq_zero_or_pos k with h0 | h0
 ·subst h0
  have HZ := Lib.hid (hk.out.2.symm.trans (List.take_zero))
  clear hkl
  go_wp2
  go_ret
  exact ⟨0, rfl, Lib.hid (nlen_nil HZ.out).symm, rfl⟩
 ·obtain ⟨j, rfl⟩ : ∃ j, k = j + 1 := ⟨k - 1, by omega⟩
  have hj : j < (L.take (j + 1)).length := by rw [List.length_take]; omega
  obtain ⟨hx, ad, rfl, hb, hc⟩ := (h.take hkn).at_ j (Dg.ld (L.take (j + 1)) j) (Dg.get_of_ld hj)
  have hpos : Dg.ld (L.take (j + 1)) j ≠ 0 := by
   have hne : L.take (j + 1) ≠ [] := fun e => by rw [e] at hj; simp at hj
   have hnm := Dg.dg_nm (Dg.val L)
   rw [← hk.out.2] at hnm
   have hh := hnm hne
   rw [List.getLast_eq_getElem] at hh
   rw [Dg.ld_lt hj]
   simpa [List.length_take, Nat.min_eq_left hkl] using hh
  have HNL := Lib.hid (show ∀ x, Dg.ld (L.take (j + 1)) j = x → nlen (Dg.val L) = 32 * j + Lib.bitLen x from fun x hx => nlen_top (by rw [← hk.out.2, List.length_take]; omega) (by rw [← hk.out.2]; exact hx))
  obtain ⟨x, hxe⟩ : ∃ x, Dg.ld (L.take (j + 1)) j = x := ⟨_, rfl⟩
  have HXE := Lib.hid (HNL.out x hxe)
  rw [hxe] at hx hc hpos
  clear hj hkl hxe HNL
  have HP := Lib.hid hpos
  clear hpos
  go_wp2_with fail
  refine (bits_Len32 _ _ (by omega) (by omega)).mono ?_
  rintro _ _ ⟨rfl, rfl⟩
  have hbl := Lib.hid (Lib.bitLen_half x HP.out (by omega))
  have hle : Lib.bitLen x ≤ 64 := Lib.bitLen_le x 64 (Nat.le_refl _) (by omega)
  go_wp2
  go_ret
  refine ⟨32 * j + Lib.bitLen x, ?_, Lib.hid HXE.out.symm, rfl⟩
  exact ret_i (by simp)
end Go.Proofs.YtjnklbfhelbjgaaGreat

/- How many bits: reference 01's Len, exactly. -/
namespace Go.Proofs.YtjnklbfhelbjgaaGreat
open Go.RowKit Go.IntWalk
end Go.Proofs.YtjnklbfhelbjgaaGreat

/- rat.Height, from within. -/
namespace Go.Proofs.YtjnklbfhelbjgaaGreat
open Go.RowKit Go.IntWalk
attribute [local go_sem ↓] Go.wp_at_zero Go.wp_at_succ
def qbits (x : Rat) : Nat := max (nlen x.num.natAbs) (nlen x.den)
def ht (L : List Rat) : Nat := L.foldl (fun h x => max h (qbits x)) 0
theorem ht_snoc (L : List Rat) (x : Rat) : ht (L ++ [x]) = max (ht L) (qbits x) := by unfold ht; rw [List.foldl_append]; rfl
theorem max3_if (v z1 z2 : Nat) : (if (if v < z1 then (z1 : Int) else (v : Int)) < (z2 : Int) then (z2 : Int) else if v < z1 then (z1 : Int) else (v : Int)) = ((max (max v z1) z2 : Nat) : Int) := by
 rcases Nat.lt_or_ge v z1 with h1 | h1
 ·simp only [if_pos h1]
  rcases Nat.lt_or_ge z1 z2 with h2 | h2
  ·rw [if_pos (by omega)]; omega
  ·rw [if_neg (by omega)]; omega
 ·simp only [if_neg (Nat.not_lt.2 h1)]
  rcases Nat.lt_or_ge v z2 with h2 | h2
  ·rw [if_pos (by omega)]; omega
  ·rw [if_neg (by omega)]; omega
set_option maxRecDepth 100000 in
set_option maxHeartbeats 4000000 in
theorem qheightIn_any {N b : Nat} {A : Option Addr} {n c : Nat} {L : List Rat} {w : World} (h : OwQs w b A n c L) (hx : ∀ x ∈ L, Qs N x) (hN : N ≤ 1000000000000) (hn : n ≤ 1048576) :
  Calls Tryz.prog 189 #[.slice A n c] w (RetKE (fun v kk => v = (ht L : Int) ∧ kk = 0) w) := by
 have H := Lib.hid (show ∀ W, Below w.heap.size w W → OwQs W b A n c L from fun W hb => h.next hb)
 have HL := Lib.hid h.len
 have HX := Lib.hid hx
 clear h hx
 go_enter Tryz.func189, Tryz.ntmps189
 go_wp2_with fail
 go_loopw [4, 9] (fun nv iv wr => ∃ (j v : Nat), nv = .int .i64 (v : Int) ∧ iv = .int .i64 (j : Int) ∧ j ≤ n ∧ Hid (v = ht (L.take j)) ∧ Below w.heap.size w wr) (fun _ iv _ => n - (intOf iv).toNat)
 case atStart => exact ⟨0, 0, rfl, rfl, Nat.zero_le _, Lib.hid rfl, Below.refl _ _⟩
 case round =>
  obtain ⟨j, v, rfl, rfl, hj, hv, hB⟩ := hrel
  by_cases hjn : j = n
  ·have HV := Lib.hid (show v = ht L from by rw [hv.out, hjn, List.take_of_length_le (by rw [HL.out]; exact Nat.le_refl _)])
   subst hjn
   have HF := Lib.hid hB
   clear hB hv
   go_wp2
   go_ret2
   exact ⟨_, 0, rfl, Lib.hid ⟨by rw [HV.out], rfl⟩, HF.out⟩
  ·have hjl : j < n := by omega
   have hjli : (j : Int) < (n : Int) := by omega
   clear hjn
   obtain ⟨ad, s1, A1, n1, c1, s2, A2, n2, c2, x, rfl, hbk, hx0, hx1, hx2, hx3, ho, hp⟩ := oq_at (H.out wr hB) hjl
   obtain ⟨W5, HW5⟩ : ∃ W, W = wr.alloc (.cells #[.bool s1, .slice A1 n1 c1, .bool s2, .slice A2 n2 c2] 47) := ⟨_, rfl⟩
   have hb5 : Below wr.heap.size wr W5 := by rw [HW5]; exact (Below.refl _ _).alloc (Nat.le_refl _) _
   have hQ5 : QC W5 wr.heap.size s1 A1 n1 c1 s2 A2 n2 c2 := by rw [HW5]; exact QC.new wr s1 A1 n1 c1 s2 A2 n2 c2
   have HXS := Lib.hid (HX.out x (List.mem_of_getElem? hp.out))
   have HO5 := Lib.hid (show RdU W5.drew W5.drew.heap.size A1 n1 c1 (Dg.dg x.num.natAbs) ∧ RdU W5.drew W5.drew.heap.size A2 n2 c2 (Dg.dg x.den) from ⟨((ho.next hb5).num.own.next (Below.refl W5.heap.size W5).drew).rd, ((ho.next hb5).den.own.next (Below.refl W5.heap.size W5).drew).rd⟩)
   have HNN := Lib.hid (show n1 ≤ N ∧ n2 ≤ N from ⟨by rw [ho.num.len]; exact HXS.out.1, by rw [ho.den.len]; exact HXS.out.2⟩)
   have HQ5 := Lib.hid hQ5
   have HF := Lib.hid (hB.trans ((hb5.drew).mono hB.size))
   have HV := Lib.hid (show max (max v (nlen x.num.natAbs)) (nlen x.den) = ht (L.take (j + 1)) from by
    rw [List.take_add_one, hp.out, show (some x).toList = [x] from rfl, ht_snoc, hv.out, qbits, Nat.max_assoc])
   have HW5 := Lib.hid HW5
   clear hb5 hQ5 ho hB hv hp
   go_upto_region 5 with fail
   rw [← HW5.out]
   clear HW5 hx0 hx1 hx2 hx3
   clear HW5
   have q1 := HQ5.out.c1
   have q3 := HQ5.out.c3
   go_region_held3 (fun w' => w'.cell? ⟨wr.heap.size, 1, none⟩ = some (.slice A1 n1 c1) ∧ w'.cell? ⟨wr.heap.size, 3, none⟩ = some (.slice A2 n2 c2))
    (exact ⟨q1, q3⟩)
    (first
     | (have hz := HZ1.out; clear hz; go_at_call 84; refine (nlen_any HO5.out.2 (by have := HNN.out; omega)).mono ?_; rintro _ _ ⟨z2, rfl, hz2, rfl⟩; have HZ2 := Lib.hid (show z2 = nlen x.den by rw [hz2.out, Dg.val_dg]))
     | (go_at_call 84; refine (nlen_any HO5.out.1 (by have := HNN.out; omega)).mono ?_; rintro _ _ ⟨z1, rfl, hz1, rfl⟩; have HZ1 := Lib.hid (show z1 = nlen x.num.natAbs by rw [hz1.out, Dg.val_dg])))
   all_goals
    have HVV := Lib.hid (show max (max v z1) z2 = ht (L.take (j + 1)) from by rw [← HV.out, HZ1.out, HZ2.out])
    rw [max3_if v z1 z2]
    clear q1 q3 hz1 hz2 HZ1 HZ2
    go_wp2
    go_roundw
    case rel => exact ⟨j + 1, max (max v z1) z2, rfl, by go_num, by omega, HVV, HF.out⟩
    case measure => simp [intOf]; omega
set_option maxRecDepth 100000 in
set_option maxHeartbeats 2000000 in
theorem qheight_any {N : Nat} {A : Option Addr} {n c : Nat} {L : List (Int × Int)} {w : World} (h : RdQs w w.heap.size N A n c L) (hd : ∀ p ∈ L, p.2 ≠ 0) (hn : n ≤ 1048576) (hN : N ≤ 1000000000000) (h1N : 1 ≤ N) :
  Calls Tryz.prog 135 #[.slice A n c] w (RetKE (fun v kk => v = (ht (L.map qval) : Int) ∧ kk = 0) w) := by
 have heg := enters_of Tryz.func189 (by kernel_rfl) rfl
 have HS := Lib.hid (show ∀ x ∈ L.map qval, Qs N x from fun x hx => by
  obtain ⟨i, _, rfl⟩ := Pq.mem_co hx
  exact h.sz hd h1N i)
 go_enter Tryz.func135, Tryz.ntmps135
 go_wp2_with fail
 refine (made_int (N := N) (Φ := fun v kk => v = (ht (L.map qval) : Int) ∧ kk = 0) h hn hN heg hd (fun W A' c' hb ho => qheightIn_any (N := N) ho HS.out hN hn)).mono ?_
 rintro _ W2 ⟨v, kk, rfl, hv, hb2⟩
 go_wp2
 go_ret2
 exact ⟨v, kk, rfl, hv, hb2⟩
end Go.Proofs.YtjnklbfhelbjgaaGreat

/- Heights, faults and sizes of matrices (plain). -/
namespace Go.Proofs.YtjnklbfhelbjgaaGreat
open Go.RowKit Go.IntWalk
theorem chk_zero {d : Int} {RR : List RawRow} (h : chk d RR = 0) : d ≠ 0 ∧ Evn RR := by
 unfold chk at h
 by_cases h0 : d = 0
 ·rw [if_pos h0] at h; omega
 ·rw [if_neg h0] at h
  by_cases h1 : Evn RR
  ·exact ⟨h0, h1⟩
  ·rw [if_neg h1] at h; omega
theorem ent_len (d : Int) (RR : List RawRow) : (ent d RR).length = RR.length := by simp [ent]
theorem ent_sz {w : World} {B N K : Nat} {A : Option Addr} {n c : Nat} {RR : List RawRow} {d : Int} (h : RdRss w B N K A n c RR) (hd : d ≠ 0) (hN : Zz.zl d ≤ N) : ∀ L ∈ ent d RR, L.length ≤ K ∧ ∀ x ∈ L, Qs N x := by
 intro L hL
 obtain ⟨R, hR, rfl⟩ := List.mem_map.1 hL
 obtain ⟨j, hj⟩ := List.getElem?_of_mem hR
 obtain ⟨ad, A1, n1, c1, _, _, _, h4, h5⟩ := h.at_ j R hj
 refine ⟨by rw [List.length_map, h4.len]; exact h5, fun x hx => ?_⟩
 obtain ⟨z, hz, rfl⟩ := List.mem_map.1 hx
 obtain ⟨i, hi⟩ := List.getElem?_of_mem hz
 obtain ⟨_, _, _, _, _, _, _, _, k1, k2⟩ := h4.at_ i z hi
 refine Qs.divInt hd ?_ hN
 have hl : z.2.length ≤ N := by rw [k1.len]; exact k2
 refine Nat.le_trans ?_ hl
 have hw := k1.wd
 unfold Zz.zl toZ
 exact Dg.dg_len_lt.2 (by
  have e : (Zz.sg z.1 (Dg.val z.2)).natAbs = Dg.val z.2 := by unfold Zz.sg; cases z.1 <;> simp
  rw [e]
  exact Dg.val_lt hw)
end Go.Proofs.YtjnklbfhelbjgaaGreat
