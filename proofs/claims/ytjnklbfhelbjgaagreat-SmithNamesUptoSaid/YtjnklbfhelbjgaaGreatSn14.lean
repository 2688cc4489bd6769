/- Lists of polynomials: those that came in, those of the call's own. -/
import Derived.Test.YtjnklbfhelbjgaaGreatSn13
import Derived.Handy
import Derived.WalkSpells
import Derived.BigRegion
import Derived.Deep.RegionHeld3
import Derived.Deep.DrawnRows
namespace Go.Proofs.YtjnklbfhelbjgaaGreat
open Go.RowKit Go.IntWalk
structure RdPs (w : World) (B N K : Nat) (A : Option Addr) (n c : Nat) (LL : List (List (Int × Int))) : Prop where
 len : LL.length = n
 le : n ≤ c
 mx : c ≤ maxLen
 at_ : ∀ (j : Nat) (L : List (Int × Int)), LL[j]? = some L → ∃ (ad : Addr) (A1 : Option Addr) (n1 c1 : Nat), A = some ad ∧ ad.block < B ∧ w.cell? (ad.add j) = some (.slice A1 n1 c1) ∧ RdQs w B N A1 n1 c1 L ∧ n1 ≤ K
section
variable {w w' : World} {B B' N K : Nat} {A : Option Addr} {n c : Nat} {LL : List (List (Int × Int))}
theorem RdPs.below (h : RdPs w B N K A n c LL) (hb : Below B w w') : RdPs w' B N K A n c LL :=
 ⟨h.len, h.le, h.mx, fun j L hp => by
  obtain ⟨ad, A1, n1, c1, h1, h2, h3, h4, h5⟩ := h.at_ j L hp
  exact ⟨ad, A1, n1, c1, h1, h2, (hb.cell (p := ad.add j) (by rw [add_blk]; exact h2)).trans h3, h4.below hb, h5⟩⟩
theorem RdPs.more (h : RdPs w B N K A n c LL) (hB : B ≤ B') : RdPs w B' N K A n c LL :=
 ⟨h.len, h.le, h.mx, fun j L hp => by
  obtain ⟨ad, A1, n1, c1, h1, h2, h3, h4, h5⟩ := h.at_ j L hp
  exact ⟨ad, A1, n1, c1, h1, Nat.lt_of_lt_of_le h2 hB, h3, h4.more hB, h5⟩⟩
theorem RdPs.next (h : RdPs w w.heap.size N K A n c LL) (hb : Below w.heap.size w w') : RdPs w' w'.heap.size N K A n c LL := (h.below hb).more hb.size
theorem ps_at (h : RdPs w B N K A n c LL) {j : Nat} (hj : j < n) :
  ∃ (ad : Addr) (A1 : Option Addr) (n1 c1 : Nat) (L : List (Int × Int)), A = some ad ∧ ad.block < B ∧ w.cell? (ad.add j) = some (.slice A1 n1 c1) ∧ RdQs w B N A1 n1 c1 L ∧ n1 ≤ K ∧ Hid (LL[j]? = some L) := by
 have hl : j < LL.length := by rw [h.len]; exact hj
 obtain ⟨ad, A1, n1, c1, h1, h2, h3, h4, h5⟩ := h.at_ j LL[j] (List.getElem?_eq_getElem hl)
 exact ⟨ad, A1, n1, c1, _, h1, h2, h3, h4, h5, Lib.hid (List.getElem?_eq_getElem hl)⟩
theorem ps_two {A1 A2 : Option Addr} {n1 c1 n2 c2 : Nat} {L L' : List (Int × Int)} (h : RdQs w w.heap.size N A1 n1 c1 L) (h' : RdQs w w.heap.size N A2 n2 c2 L') (hn : n1 ≤ K) (hn' : n2 ≤ K) {w1 : World} (hw : w1 = w.alloc (.cells #[.slice A1 n1 c1, .slice A2 n2 c2] 73)) :
  RdPs w1 w1.heap.size N K (some ⟨w.heap.size, 0, none⟩) 2 2 [L, L'] := by
 have hb : Below w.heap.size w w1 := by rw [hw]; exact (Below.refl _ _).alloc (Nat.le_refl _) _
 have hr : w1.heap[w.heap.size]? = some (.cells #[.slice A1 n1 c1, .slice A2 n2 c2] 73 (0, 0)) := by rw [hw]; exact heap_alloc_new w _
 have hlt : w.heap.size < w1.heap.size := (Array.getElem?_eq_some_iff.1 hr).1
 refine ⟨rfl, Nat.le_refl _, by unfold maxLen; omega, fun j y hy => ?_⟩
 match j, hy with
 | 0, hy =>
   simp at hy
   subst hy
   exact ⟨_, A1, n1, c1, rfl, hlt, by rw [add_base, cell_of_row w1 _ _ _ _ _ hr]; rfl, h.next hb, hn⟩
 | 1, hy =>
   simp at hy
   subst hy
   exact ⟨_, A2, n2, c2, rfl, hlt, by rw [add_base, cell_of_row w1 _ _ _ _ _ hr]; rfl, h'.next hb, hn'⟩
 | j + 2, hy => simp at hy
end
def psl (e : Option Addr × Nat × Nat) : Value := .slice e.1 e.2.1 e.2.2
def EntP (w : World) (b : Nat) (E : List (Option Addr × Nat × Nat)) (LL : List (List Rat)) : Prop := E.length = LL.length ∧ ∀ (j : Nat) (e : Option Addr × Nat × Nat) (L : List Rat), E[j]? = some e → LL[j]? = some L → OwQp w b e.1 e.2.1 e.2.2 L
def OwPs (w : World) (b : Nat) (A : Option Addr) (n c : Nat) (LL : List (List Rat)) : Prop :=
 ∃ E : List (Option Addr × Nat × Nat), w.ownsRow b 73 1 (.slice A n c) n (E.map psl) ∧ E.length = n ∧ EntP w b E LL
section
variable {w w' : World} {b b' : Nat} {A : Option Addr} {n c : Nat} {LL : List (List Rat)} {E : List (Option Addr × Nat × Nat)}
theorem EntP.next (h : EntP w b E LL) (hb : Below w.heap.size w w') : EntP w' b E LL := ⟨h.1, fun j e z he hz => (h.2 j e z he hz).next hb⟩
theorem EntP.base (h : EntP w b E LL) (hb : b' ≤ b) : EntP w b' E LL := ⟨h.1, fun j e z he hz => (h.2 j e z he hz).base hb⟩
theorem EntP.keep (h : EntP w b E LL) (hk : KeepQ w w') : EntP w' b E LL := ⟨h.1, fun j e z he hz => (h.2 j e z he hz).keep hk⟩
theorem EntP.snoc (h : EntP w b E LL) {e : Option Addr × Nat × Nat} {L : List Rat} (he : OwQp w b e.1 e.2.1 e.2.2 L) : EntP w b (E ++ [e]) (LL ++ [L]) := by
 refine ⟨by rw [List.length_append, List.length_append, h.1]; rfl, fun j e' z' h1 h2 => ?_⟩
 rcases Nat.lt_or_ge j E.length with hj | hj
 ·rw [List.getElem?_append_left hj] at h1
  rw [List.getElem?_append_left (by rw [← h.1]; exact hj)] at h2
  exact h.2 j e' z' h1 h2
 ·rw [List.getElem?_append_right hj] at h1
  rw [List.getElem?_append_right (by rw [← h.1]; exact hj)] at h2
  rw [← h.1] at h2
  have hj0 : j - E.length = 0 := by
   rcases Nat.eq_zero_or_pos (j - E.length) with e0 | e0
   ·exact e0
   ·rw [List.getElem?_eq_none (by simp; omega)] at h1; cases h1
  rw [hj0] at h1 h2
  simp at h1 h2
  subst h1 h2
  exact he
theorem OwPs.len (h : OwPs w b A n c LL) : LL.length = n := by
 obtain ⟨E, _, h2, h3⟩ := h
 rw [← h3.1, h2]
theorem OwPs.nil (w : World) (b : Nat) : OwPs w b none 0 0 [] := ⟨[], World.ownsRow_nil _ _ _ _, rfl, rfl, fun j e z he _ => by simp at he⟩
theorem OwPs.next (h : OwPs w b A n c LL) (hb : Below w.heap.size w w') : OwPs w' b A n c LL := by
 obtain ⟨E, h1, h2, h3⟩ := h
 exact ⟨E, row_next h1 hb, h2, h3.next hb⟩
theorem OwPs.base (h : OwPs w b A n c LL) (hb : b' ≤ b) : OwPs w b' A n c LL := by
 obtain ⟨E, h1, h2, h3⟩ := h
 exact ⟨E, row_base h1 hb, h2, h3.base hb⟩
theorem OwPs.form (h : OwPs w b A n c LL) : (A = none ∧ n = 0 ∧ c = 0) ∨ ∃ g, A = some ⟨g, 0, none⟩ ∧ b ≤ g ∧ g < w.heap.size ∧ n ≤ c ∧ c ≤ maxLen := by
 obtain ⟨E, h, _, _⟩ := h
 rcases h.2 with ⟨h1, h2⟩ | ⟨g, cap, cur, h1, h2, h3, h4, h5, _⟩
 ·injection h1 with h1 h1' h1''
  exact .inl ⟨h1, h2, h1''⟩
 ·injection h1 with h1 h1' h1''
  subst h1''
  exact .inr ⟨g, h1, h2, (Array.getElem?_eq_some_iff.1 h3).1, h4, h5⟩
theorem keepQ_grown {w1 : World} {xs : List Value} (hE : w.ownsRow b 73 1 (.slice A n c) n xs) (hg : w.grownBy w1 (Value.slice A n c).ownBlock) : KeepQ w w1 := by
 have key : ∀ (i : Nat) (cs : Array Value) (t : TypeId) (f : Nat × Nat), t ≠ 73 → w.heap[i]? = some (.cells cs t f) → w1.heap[i]? = some (.cells cs t f) := by
  intro i cs t f ht hi
  rw [← hi]
  refine hg.block i (Array.getElem?_eq_some_iff.1 hi).1 ?_
  rcases hE.2 with ⟨h1, _⟩ | ⟨g, cap, cur, h1, h2, h3, _⟩
  ·rw [h1]
   intro e0
   cases e0
  ·rw [h1]
   intro e0
   cases e0
   rw [hi] at h3
   injection h3 with h3
   injection h3 with _ h3
   exact ht h3
 exact ⟨fun i cs f => key i cs _ f (by decide), fun i cs f => key i cs _ f (by decide)⟩
theorem ps_more {wb w1 : World} {v' : Value} {e : Option Addr × Nat × Nat} {L : List Rat} {t : TypeId} (he : OwQp w b e.1 e.2.1 e.2.2 L) (hwb : wb = w.alloc (.cells #[.slice e.1 e.2.1 e.2.2] t)) (hE : wb.ownsRow b 73 1 (.slice A n c) n (E.map psl)) (hEl : E.length = n) (hEn : EntP wb b E LL)
  (hown' : w1.ownsRow b 73 1 v' (n + 1) (E.map psl ++ [.slice e.1 e.2.1 e.2.2])) (hg : wb.grownBy w1 (Value.slice A n c).ownBlock) :
  ∃ (A' : Option Addr) (c' : Nat), v' = .slice A' (n + 1) c' ∧ OwPs w1 b A' (n + 1) c' (LL ++ [L]) := by
 obtain ⟨A', c', rfl⟩ := row_sl hown'
 have hba : Below w.heap.size w wb := by rw [hwb]; exact (Below.refl w.heap.size w).alloc (Nat.le_refl _) _
 have hk := keepQ_grown hE hg
 refine ⟨A', c', rfl, E ++ [e], ?_, by rw [List.length_append, hEl]; rfl, ?_⟩
 ·rw [List.map_append]; exact hown'
 ·exact (hEn.snoc (he.next hba)).keep hk
theorem opl_at (h : OwPs w b A n c LL) {j : Nat} (hj : j < n) :
  ∃ (g : Nat) (A1 : Option Addr) (n1 c1 : Nat) (L : List Rat), A = some ⟨g, 0, none⟩ ∧ g < w.heap.size ∧ w.cell? ⟨g, j, none⟩ = some (.slice A1 n1 c1) ∧ OwQp w b A1 n1 c1 L ∧ Hid (LL[j]? = some L) := by
 have hl := h.len
 rcases h.form with ⟨_, h0, _⟩ | ⟨g, rfl, h1, h2, h3, h4⟩
 ·omega
 ·obtain ⟨E, hr, hE, hel⟩ := h
  have hjE : j < E.length := by omega
  have hjL : j < LL.length := by omega
  refine ⟨g, E[j].1, E[j].2.1, E[j].2.2, LL[j], rfl, h2, ?_, hel.2 j _ _ (List.getElem?_eq_getElem hjE) (List.getElem?_eq_getElem hjL), Lib.hid (List.getElem?_eq_getElem hjL)⟩
  have := hr.cellAt j (by omega)
  rw [this, List.getElem?_map, List.getElem?_eq_getElem hjE]
  rfl
end
theorem infoPoly : (Tryz.prog.info? 73).map (fun i => (i.zero, i.size, i.bytes)) = some (some (.slice none 0 0), 1, 24) := by kernel_rfl
end Go.Proofs.YtjnklbfhelbjgaaGreat

/- Tables of two rows of two polynomials that are written over. -/
namespace Go.Proofs.YtjnklbfhelbjgaaGreat
open Go.RowKit Go.IntWalk
abbrev Pe := Option Addr × Nat × Nat
def PX (w : World) (g : Nat) (T : TypeId) (xs : List Value) : Prop := ∃ cs : Array Value, w.heap[g]? = some (.cells cs T (0, 0)) ∧ ∀ (i : Nat) (v : Value), xs[i]? = some v → cs[i]? = some v
def KeepS (w w' : World) : Prop := ∀ (i : Nat) (cs : Array Value) (T : TypeId) (f : Nat × Nat), T ≠ 73 → T ≠ 30 → w.heap[i]? = some (.cells cs T f) → w'.heap[i]? = some (.cells cs T f)
section
variable {w w' w2 : World} {g g' : Nat} {T T' : TypeId} {xs ys : List Value}
theorem PX.lt (h : PX w g T xs) : g < w.heap.size := by
 obtain ⟨cs, h1, _⟩ := h
 exact (Array.getElem?_eq_some_iff.1 h1).1
theorem PX.cell (h : PX w g T xs) {i : Nat} {v : Value} (hv : xs[i]? = some v) : w.cell? ⟨g, i, none⟩ = some v := by
 obtain ⟨cs, h1, h2⟩ := h
 rw [cell_of_row w g _ _ _ _ h1]
 exact h2 i v hv
theorem PX.frozen (h : PX w g T xs) (j : Nat) : w.frozen? ⟨g, j, none⟩ = false := by
 obtain ⟨cs, h1, _⟩ := h
 exact frozen_of_row w g j _ _ h1
theorem PX.next (h : PX w g T xs) (hb : Below w.heap.size w w') : PX w' g T xs := by
 have hl := h.lt
 obtain ⟨cs, h1, h2⟩ := h
 exact ⟨cs, (hb.block g hl).trans h1, h2⟩
theorem PX.store (h : PX w g T xs) (i : Nat) (v : Value) : PX (w.setCell ⟨g, i, none⟩ v) g T (xs.set i v) := by
 obtain ⟨cs, h1, h2⟩ := h
 refine ⟨cs.setIfInBounds i v, by simp [World.setCell, Array.getElem?_modify, h1], fun j u hu => ?_⟩
 rw [Array.getElem?_setIfInBounds]
 by_cases e : i = j
 ·subst e
  rw [if_pos rfl]
  have hl : i < xs.length := by
   rcases Nat.lt_or_ge i xs.length with h3 | h3
   ·exact h3
   ·rw [List.getElem?_eq_none (by simpa using h3)] at hu; cases hu
  rw [List.getElem?_set_self hl] at hu
  have h4 := h2 i _ (List.getElem?_eq_getElem hl)
  rw [if_pos (Array.getElem?_eq_some_iff.1 h4).1]
  exact hu
 ·rw [if_neg e]
  rw [List.getElem?_set_ne e] at hu
  exact h2 j u hu
theorem PX.far (h : PX w g T xs) {p : Addr} (hp : g ≠ p.block) (u : Value) : PX (w.setCell p u) g T xs := by
 obtain ⟨cs, h1, h2⟩ := h
 exact ⟨cs, by rw [Below.heap_setCell _ p u g hp]; exact h1, h2⟩
theorem PX.ne (h : PX w g T xs) (h' : PX w g' T' ys) (hT : T ≠ T') : g ≠ g' := by
 obtain ⟨cs, h1, _⟩ := h
 obtain ⟨cs', h1', _⟩ := h'
 rintro rfl
 rw [h1] at h1'
 injection h1' with h1'
 injection h1' with _ h1' _
 exact hT h1'
theorem PX.keep (h : PX w g T xs) (hk : KeepS w w') (h1 : T ≠ 73) (h2 : T ≠ 30) : PX w' g T xs := by
 obtain ⟨cs, h3, h4⟩ := h
 exact ⟨cs, hk _ _ _ _ h1 h2 h3, h4⟩
theorem PX.new (w : World) (T : TypeId) (xs : List Value) : PX (w.alloc (.cells xs.toArray T)) w.heap.size T xs := ⟨xs.toArray, heap_alloc_new w _, fun i v hv => by simpa using hv⟩
theorem KeepS.trans (h : KeepS w w') (h' : KeepS w' w2) : KeepS w w2 := fun i cs T f h1 h2 h3 => h' i cs T f h1 h2 (h i cs T f h1 h2 h3)
theorem KeepS.below (h : Below w.heap.size w w') : KeepS w w' := fun i _ _ _ _ _ h3 => (h.block i (Array.getElem?_eq_some_iff.1 h3).1).trans h3
theorem KeepS.q (h : KeepS w w') : KeepQ w w' := ⟨fun i cs f => h i cs _ f (by decide) (by decide), fun i cs f => h i cs _ f (by decide) (by decide)⟩
theorem PX.keepS (h : PX w g T xs) (hT : T = 73 ∨ T = 30) (j : Nat) (u : Value) : KeepS w (w.setCell ⟨g, j, none⟩ u) := fun i cs T' f h1 h2 h3 => by
 obtain ⟨cs', h4, _⟩ := h
 have hne : i ≠ g := by
  rintro rfl
  rw [h3] at h4
  injection h4 with h4
  injection h4 with _ h4 _
  rcases hT with e | e
  ·exact h1 (h4.trans e)
  ·exact h2 (h4.trans e)
 rw [Below.heap_setCell _ (⟨g, j, none⟩ : Addr) u i hne]
 exact h3
end
structure M2 where
 a : List Rat
 b : List Rat
 c : List Rat
 d : List Rat
deriving DecidableEq
structure T2 (w : World) (b t gr cr g0 c0 g1 c1 : Nat) (x y z u : Pe) (M : M2) : Prop where
 hd : PX w t 102 [.slice (some ⟨gr, 0, none⟩) 2 cr, .int .i64 2]
 rw : PX w gr 30 [.slice (some ⟨g0, 0, none⟩) 2 c0, .slice (some ⟨g1, 0, none⟩) 2 c1]
 r0 : PX w g0 73 [psl x, psl y]
 r1 : PX w g1 73 [psl z, psl u]
 ne : g0 ≠ g1
 bt : b ≤ t
 br : b ≤ gr
 b0 : b ≤ g0
 b1 : b ≤ g1
 lr : 2 ≤ cr ∧ cr ≤ maxLen
 l0 : 2 ≤ c0 ∧ c0 ≤ maxLen
 l1 : 2 ≤ c1 ∧ c1 ≤ maxLen
 ea : OwQp w b x.1 x.2.1 x.2.2 M.a
 eb : OwQp w b y.1 y.2.1 y.2.2 M.b
 ec : OwQp w b z.1 z.2.1 z.2.2 M.c
 ed : OwQp w b u.1 u.2.1 u.2.2 M.d
def Tb (w : World) (b t : Nat) (M : M2) : Prop := ∃ gr cr g0 c0 g1 c1 x y z u, T2 w b t gr cr g0 c0 g1 c1 x y z u M
section
variable {w w' : World} {b t gr cr g0 c0 g1 c1 : Nat} {x y z u e : Pe} {M : M2} {L : List Rat}
theorem T2.next (h : T2 w b t gr cr g0 c0 g1 c1 x y z u M) (hb : Below w.heap.size w w') : T2 w' b t gr cr g0 c0 g1 c1 x y z u M :=
 ⟨h.hd.next hb, h.rw.next hb, h.r0.next hb, h.r1.next hb, h.ne, h.bt, h.br, h.b0, h.b1, h.lr, h.l0, h.l1, h.ea.next hb, h.eb.next hb, h.ec.next hb, h.ed.next hb⟩
theorem Tb.next (h : Tb w b t M) (hb : Below w.heap.size w w') : Tb w' b t M := by
 obtain ⟨gr, cr, g0, c0, g1, c1, x, y, z, u, h⟩ := h
 exact ⟨gr, cr, g0, c0, g1, c1, x, y, z, u, h.next hb⟩
theorem T2.ht (h : T2 w b t gr cr g0 c0 g1 c1 x y z u M) : t ≠ gr := h.hd.ne h.rw (by decide)
theorem T2.ht0 (h : T2 w b t gr cr g0 c0 g1 c1 x y z u M) : t ≠ g0 := h.hd.ne h.r0 (by decide)
theorem T2.ht1 (h : T2 w b t gr cr g0 c0 g1 c1 x y z u M) : t ≠ g1 := h.hd.ne h.r1 (by decide)
theorem T2.hr0 (h : T2 w b t gr cr g0 c0 g1 c1 x y z u M) : gr ≠ g0 := h.rw.ne h.r0 (by decide)
theorem T2.hr1 (h : T2 w b t gr cr g0 c0 g1 c1 x y z u M) : gr ≠ g1 := h.rw.ne h.r1 (by decide)
theorem T2.put0 (h : T2 w b t gr cr g0 c0 g1 c1 x y z u M) (he : OwQp w b e.1 e.2.1 e.2.2 L) : T2 (w.setCell ⟨g0, 0, none⟩ (psl e)) b t gr cr g0 c0 g1 c1 e y z u ⟨L, M.b, M.c, M.d⟩ := by
 have hk := (h.r0.keepS (.inl rfl) 0 (psl e)).q
 exact ⟨h.hd.far h.ht0 _, h.rw.far h.hr0 _, h.r0.store 0 _, h.r1.far h.ne.symm _, h.ne, h.bt, h.br, h.b0, h.b1, h.lr, h.l0, h.l1, he.keep hk, h.eb.keep hk, h.ec.keep hk, h.ed.keep hk⟩
theorem T2.put1 (h : T2 w b t gr cr g0 c0 g1 c1 x y z u M) (he : OwQp w b e.1 e.2.1 e.2.2 L) : T2 (w.setCell ⟨g0, 1, none⟩ (psl e)) b t gr cr g0 c0 g1 c1 x e z u ⟨M.a, L, M.c, M.d⟩ := by
 have hk := (h.r0.keepS (.inl rfl) 1 (psl e)).q
 exact ⟨h.hd.far h.ht0 _, h.rw.far h.hr0 _, h.r0.store 1 _, h.r1.far h.ne.symm _, h.ne, h.bt, h.br, h.b0, h.b1, h.lr, h.l0, h.l1, h.ea.keep hk, he.keep hk, h.ec.keep hk, h.ed.keep hk⟩
theorem T2.put2 (h : T2 w b t gr cr g0 c0 g1 c1 x y z u M) (he : OwQp w b e.1 e.2.1 e.2.2 L) : T2 (w.setCell ⟨g1, 0, none⟩ (psl e)) b t gr cr g0 c0 g1 c1 x y e u ⟨M.a, M.b, L, M.d⟩ := by
 have hk := (h.r1.keepS (.inl rfl) 0 (psl e)).q
 exact ⟨h.hd.far h.ht1 _, h.rw.far h.hr1 _, h.r0.far h.ne _, h.r1.store 0 _, h.ne, h.bt, h.br, h.b0, h.b1, h.lr, h.l0, h.l1, h.ea.keep hk, h.eb.keep hk, he.keep hk, h.ed.keep hk⟩
theorem T2.put3 (h : T2 w b t gr cr g0 c0 g1 c1 x y z u M) (he : OwQp w b e.1 e.2.1 e.2.2 L) : T2 (w.setCell ⟨g1, 1, none⟩ (psl e)) b t gr cr g0 c0 g1 c1 x y z e ⟨M.a, M.b, M.c, L⟩ := by
 have hk := (h.r1.keepS (.inl rfl) 1 (psl e)).q
 exact ⟨h.hd.far h.ht1 _, h.rw.far h.hr1 _, h.r0.far h.ne _, h.r1.store 1 _, h.ne, h.bt, h.br, h.b0, h.b1, h.lr, h.l0, h.l1, h.ea.keep hk, h.eb.keep hk, h.ec.keep hk, he.keep hk⟩
theorem T2.same0 (h : T2 w b t gr cr g0 c0 g1 c1 x y z u M) : T2 (w.setCell ⟨gr, 0, none⟩ (.slice (some ⟨g0, 0, none⟩) 2 c0)) b t gr cr g0 c0 g1 c1 x y z u M := by
 have hk := (h.rw.keepS (.inr rfl) 0 (.slice (some ⟨g0, 0, none⟩) 2 c0)).q
 exact ⟨h.hd.far h.ht _, h.rw.store 0 _, h.r0.far h.hr0.symm _, h.r1.far h.hr1.symm _, h.ne, h.bt, h.br, h.b0, h.b1, h.lr, h.l0, h.l1, h.ea.keep hk, h.eb.keep hk, h.ec.keep hk, h.ed.keep hk⟩
theorem T2.same1 (h : T2 w b t gr cr g0 c0 g1 c1 x y z u M) : T2 (w.setCell ⟨gr, 1, none⟩ (.slice (some ⟨g1, 0, none⟩) 2 c1)) b t gr cr g0 c0 g1 c1 x y z u M := by
 have hk := (h.rw.keepS (.inr rfl) 1 (.slice (some ⟨g1, 0, none⟩) 2 c1)).q
 exact ⟨h.hd.far h.ht _, h.rw.store 1 _, h.r0.far h.hr0.symm _, h.r1.far h.hr1.symm _, h.ne, h.bt, h.br, h.b0, h.b1, h.lr, h.l0, h.l1, h.ea.keep hk, h.eb.keep hk, h.ec.keep hk, h.ed.keep hk⟩
theorem T2.swap (h : T2 w b t gr cr g0 c0 g1 c1 x y z u M) : T2 ((w.setCell ⟨gr, 0, none⟩ (.slice (some ⟨g1, 0, none⟩) 2 c1)).setCell ⟨gr, 1, none⟩ (.slice (some ⟨g0, 0, none⟩) 2 c0)) b t gr cr g1 c1 g0 c0 z u x y ⟨M.c, M.d, M.a, M.b⟩ := by
 have hs := h.rw.store 0 (.slice (some ⟨g1, 0, none⟩) 2 c1)
 have hk := ((h.rw.keepS (.inr rfl) 0 (.slice (some ⟨g1, 0, none⟩) 2 c1)).trans (hs.keepS (.inr rfl) 1 (.slice (some ⟨g0, 0, none⟩) 2 c0))).q
 exact ⟨(h.hd.far h.ht _).far h.ht _, hs.store 1 _, (h.r1.far h.hr1.symm _).far h.hr1.symm _, (h.r0.far h.hr0.symm _).far h.hr0.symm _, h.ne.symm, h.bt, h.br, h.b1, h.b0, h.lr, h.l1, h.l0, h.ec.keep hk, h.ed.keep hk, h.ea.keep hk, h.eb.keep hk⟩
theorem T2.cells (h : T2 w b t gr cr g0 c0 g1 c1 x y z u M) : w.cell? ⟨t, 0, none⟩ = some (.slice (some ⟨gr, 0, none⟩) 2 cr) ∧ w.cell? ⟨t, 1, none⟩ = some (.int .i64 2) ∧ w.cell? ⟨gr, 0, none⟩ = some (.slice (some ⟨g0, 0, none⟩) 2 c0) ∧ w.cell? ⟨gr, 1, none⟩ = some (.slice (some ⟨g1, 0, none⟩) 2 c1) ∧ w.cell? ⟨g0, 0, none⟩ = some (psl x) ∧ w.cell? ⟨g0, 1, none⟩ = some (psl y) ∧ w.cell? ⟨g1, 0, none⟩ = some (psl z) ∧ w.cell? ⟨g1, 1, none⟩ = some (psl u) :=
 ⟨h.hd.cell rfl, h.hd.cell rfl, h.rw.cell rfl, h.rw.cell rfl, h.r0.cell rfl, h.r0.cell rfl, h.r1.cell rfl, h.r1.cell rfl⟩
end
def M2.swap (M : M2) (i j : Int) : M2 := if i = j then M else ⟨M.c, M.d, M.a, M.b⟩
def M2.flip (M : M2) : M2 := ⟨M.a, M.c, M.b, M.d⟩
end Go.Proofs.YtjnklbfhelbjgaaGreat

/- smith: two rows of a table change their places. -/
namespace Go.Proofs.YtjnklbfhelbjgaaGreat
open Go.RowKit Go.IntWalk
attribute [local go_sem ↓] Go.wp_at_zero Go.wp_at_succ
def RetT (b t : Nat) (M : M2) (w : World) (e : Ending) (w' : World) : Prop := e = .returned (.tuple #[]) ∧ Tb w' b t M ∧ Below b w w' ∧ KeepS w w'
set_option maxRecDepth 100000 in
set_option maxHeartbeats 4000000 in
theorem swap_to {b t : Nat} {i j : Int} {M : M2} {w : World} (h : Tb w b t M) (hb : b ≤ w.heap.size) (hij : (i = 0 ∧ j = 0) ∨ (i = 1 ∧ j = 1)) :
  Calls Tryz.prog 278 #[.agg #[.int .i64 i, .int .i64 j], .pointer (some ⟨t, 0, none⟩)] w (RetT b t (M.swap i j) w) := by
 obtain ⟨gr, cr, g0, c0, g1, c1, x, y, z, u, h⟩ := h
 obtain ⟨W1, HW1⟩ : ∃ W, W = w.alloc (.cells #[.int .i64 i, .int .i64 j] 221) := ⟨_, rfl⟩
 have hb1 : Below w.heap.size w W1 := by rw [HW1]; exact (Below.refl _ _).alloc (Nat.le_refl _) _
 have hX : PX W1 w.heap.size 221 [.int .i64 i, .int .i64 j] := by rw [HW1]; exact PX.new w _ [.int .i64 i, .int .i64 j]
 have e0 := hX.cell (i := 0) rfl
 have e1 := hX.cell (i := 1) rfl
 have h1 := h.next hb1
 obtain ⟨k0, k1, k2, k3, _⟩ := h1.cells
 have f0 := h1.rw.frozen 0
 have f1 := h1.rw.frozen 1
 have HB1 := Lib.hid hb1
 have HH := Lib.hid h1
 have HW1 := Lib.hid HW1
 have HBB := Lib.hid hb
 obtain ⟨gb, hgb⟩ : ∃ g, g = w.heap.size := ⟨_, rfl⟩
 rw [← hgb] at e0 e1
 have HNE := Lib.hid (show gr ≠ gb by rw [hgb]; exact (HH.out.rw.ne hX (by decide)))
 have HX0 := Lib.hid (show PX W1 gb 221 [.int .i64 i, .int .i64 j] by rw [hgb]; exact hX)
 clear h1 hb1 hX h hb
 have hn1 : ¬ t = gr := HH.out.ht
 have hn2 : ¬ gb = gr := HNE.out.symm
 clear HNE
 have HBB2 := Lib.hid (HB1.out.mono HBB.out)
 have HKS := Lib.hid (KeepS.below HB1.out)
 rcases hij with ⟨rfl, rfl⟩ | ⟨rfl, rfl⟩
 ·have HS1 := Lib.hid (show (W1.setCell ⟨gr, 0, none⟩ (.slice (some ⟨g0, 0, none⟩) 2 c0)).drew.cell? ⟨t, 0, none⟩ = some (.slice (some ⟨gr, 0, none⟩) 2 cr) ∧ (W1.setCell ⟨gr, 0, none⟩ (.slice (some ⟨g0, 0, none⟩) 2 c0)).drew.cell? ⟨gb, 0, none⟩ = some (.int .i64 0) ∧ (W1.setCell ⟨gr, 0, none⟩ (.slice (some ⟨g0, 0, none⟩) 2 c0)).drew.cell? ⟨gb, 1, none⟩ = some (.int .i64 0) ∧ (W1.setCell ⟨gr, 0, none⟩ (.slice (some ⟨g0, 0, none⟩) 2 c0)).drew.cell? ⟨gr, 0, none⟩ = some (.slice (some ⟨g0, 0, none⟩) 2 c0) from ⟨(HH.out.same0.next (Below.refl _ _).drew).hd.cell rfl, ((HX0.out.far hn2 _).next (Below.refl _ _).drew).cell rfl, ((HX0.out.far hn2 _).next (Below.refl _ _).drew).cell rfl, (HH.out.same0.next (Below.refl _ _).drew).rw.cell rfl⟩)
  have HS2 := Lib.hid (show ((W1.setCell ⟨gr, 0, none⟩ (.slice (some ⟨g0, 0, none⟩) 2 c0)).setCell ⟨gr, 0, none⟩ (.slice (some ⟨g0, 0, none⟩) 2 c0)).drew.cell? ⟨t, 0, none⟩ = some (.slice (some ⟨gr, 0, none⟩) 2 cr) ∧ ((W1.setCell ⟨gr, 0, none⟩ (.slice (some ⟨g0, 0, none⟩) 2 c0)).setCell ⟨gr, 0, none⟩ (.slice (some ⟨g0, 0, none⟩) 2 c0)).drew.cell? ⟨gb, 0, none⟩ = some (.int .i64 0) ∧ ((W1.setCell ⟨gr, 0, none⟩ (.slice (some ⟨g0, 0, none⟩) 2 c0)).setCell ⟨gr, 0, none⟩ (.slice (some ⟨g0, 0, none⟩) 2 c0)).drew.cell? ⟨gb, 1, none⟩ = some (.int .i64 0) ∧ ((W1.setCell ⟨gr, 0, none⟩ (.slice (some ⟨g0, 0, none⟩) 2 c0)).setCell ⟨gr, 0, none⟩ (.slice (some ⟨g0, 0, none⟩) 2 c0)).drew.cell? ⟨gr, 0, none⟩ = some (.slice (some ⟨g0, 0, none⟩) 2 c0) from ⟨(HH.out.same0.same0.next (Below.refl _ _).drew).hd.cell rfl, (((HX0.out.far hn2 _).far hn2 _).next (Below.refl _ _).drew).cell rfl, (((HX0.out.far hn2 _).far hn2 _).next (Below.refl _ _).drew).cell rfl, (HH.out.same0.same0.next (Below.refl _ _).drew).rw.cell rfl⟩)
  go_enter Tryz.func278, Tryz.ntmps278
  go_wp2_with fail
  rw [← HW1.out, ← hgb]
  clear HW1 hgb
  clear HW1
  go_region_held3 (fun W => W.cell? ⟨t, 0, none⟩ = some (.slice (some ⟨gr, 0, none⟩) 2 cr) ∧ W.cell? ⟨gb, 0, none⟩ = some (.int .i64 0) ∧ W.cell? ⟨gb, 1, none⟩ = some (.int .i64 0) ∧ W.cell? ⟨gr, 0, none⟩ = some (.slice (some ⟨g0, 0, none⟩) 2 c0))
   (first | exact ⟨k0, e0, e1, k2⟩ | exact HS1.out | exact HS2.out)
   (fail)
  all_goals
   go_wp2
   go_returns
   exact ⟨rfl, ⟨_, _, _, _, _, _, _, _, _, _, HH.out.same0.same0.next (Below.refl _ _).drew⟩, ((HBB2.out.setCell (p := ⟨gr, 0, none⟩) HH.out.br (.slice (some ⟨g0, 0, none⟩) 2 c0)).setCell (p := ⟨gr, 0, none⟩) HH.out.br (.slice (some ⟨g0, 0, none⟩) 2 c0)).drew, (HKS.out.trans ((HH.out.rw.keepS (.inr rfl) 0 (.slice (some ⟨g0, 0, none⟩) 2 c0)).trans ((HH.out.rw.store 0 (.slice (some ⟨g0, 0, none⟩) 2 c0)).keepS (.inr rfl) 0 (.slice (some ⟨g0, 0, none⟩) 2 c0)))).trans (.below (Below.refl _ _).drew)⟩
 ·have HS1 := Lib.hid (show (W1.setCell ⟨gr, 1, none⟩ (.slice (some ⟨g1, 0, none⟩) 2 c1)).drew.cell? ⟨t, 0, none⟩ = some (.slice (some ⟨gr, 0, none⟩) 2 cr) ∧ (W1.setCell ⟨gr, 1, none⟩ (.slice (some ⟨g1, 0, none⟩) 2 c1)).drew.cell? ⟨gb, 0, none⟩ = some (.int .i64 1) ∧ (W1.setCell ⟨gr, 1, none⟩ (.slice (some ⟨g1, 0, none⟩) 2 c1)).drew.cell? ⟨gb, 1, none⟩ = some (.int .i64 1) ∧ (W1.setCell ⟨gr, 1, none⟩ (.slice (some ⟨g1, 0, none⟩) 2 c1)).drew.cell? ⟨gr, 1, none⟩ = some (.slice (some ⟨g1, 0, none⟩) 2 c1) from ⟨(HH.out.same1.next (Below.refl _ _).drew).hd.cell rfl, ((HX0.out.far hn2 _).next (Below.refl _ _).drew).cell rfl, ((HX0.out.far hn2 _).next (Below.refl _ _).drew).cell rfl, (HH.out.same1.next (Below.refl _ _).drew).rw.cell rfl⟩)
  have HS2 := Lib.hid (show ((W1.setCell ⟨gr, 1, none⟩ (.slice (some ⟨g1, 0, none⟩) 2 c1)).setCell ⟨gr, 1, none⟩ (.slice (some ⟨g1, 0, none⟩) 2 c1)).drew.cell? ⟨t, 0, none⟩ = some (.slice (some ⟨gr, 0, none⟩) 2 cr) ∧ ((W1.setCell ⟨gr, 1, none⟩ (.slice (some ⟨g1, 0, none⟩) 2 c1)).setCell ⟨gr, 1, none⟩ (.slice (some ⟨g1, 0, none⟩) 2 c1)).drew.cell? ⟨gb, 0, none⟩ = some (.int .i64 1) ∧ ((W1.setCell ⟨gr, 1, none⟩ (.slice (some ⟨g1, 0, none⟩) 2 c1)).setCell ⟨gr, 1, none⟩ (.slice (some ⟨g1, 0, none⟩) 2 c1)).drew.cell? ⟨gb, 1, none⟩ = some (.int .i64 1) ∧ ((W1.setCell ⟨gr, 1, none⟩ (.slice (some ⟨g1, 0, none⟩) 2 c1)).setCell ⟨gr, 1, none⟩ (.slice (some ⟨g1, 0, none⟩) 2 c1)).drew.cell? ⟨gr, 1, none⟩ = some (.slice (some ⟨g1, 0, none⟩) 2 c1) from ⟨(HH.out.same1.same1.next (Below.refl _ _).drew).hd.cell rfl, (((HX0.out.far hn2 _).far hn2 _).next (Below.refl _ _).drew).cell rfl, (((HX0.out.far hn2 _).far hn2 _).next (Below.refl _ _).drew).cell rfl, (HH.out.same1.same1.next (Below.refl _ _).drew).rw.cell rfl⟩)
  go_enter Tryz.func278, Tryz.ntmps278
  go_wp2_with fail
  rw [← HW1.out, ← hgb]
  clear HW1 hgb
  clear HW1
  go_region_held3 (fun W => W.cell? ⟨t, 0, none⟩ = some (.slice (some ⟨gr, 0, none⟩) 2 cr) ∧ W.cell? ⟨gb, 0, none⟩ = some (.int .i64 1) ∧ W.cell? ⟨gb, 1, none⟩ = some (.int .i64 1) ∧ W.cell? ⟨gr, 1, none⟩ = some (.slice (some ⟨g1, 0, none⟩) 2 c1))
   (first | exact ⟨k0, e0, e1, k3⟩ | exact HS1.out | exact HS2.out)
   (fail)
  all_goals
   go_wp2
   go_returns
   exact ⟨rfl, ⟨_, _, _, _, _, _, _, _, _, _, HH.out.same1.same1.next (Below.refl _ _).drew⟩, ((HBB2.out.setCell (p := ⟨gr, 1, none⟩) HH.out.br (.slice (some ⟨g1, 0, none⟩) 2 c1)).setCell (p := ⟨gr, 1, none⟩) HH.out.br (.slice (some ⟨g1, 0, none⟩) 2 c1)).drew, (HKS.out.trans ((HH.out.rw.keepS (.inr rfl) 1 (.slice (some ⟨g1, 0, none⟩) 2 c1)).trans ((HH.out.rw.store 1 (.slice (some ⟨g1, 0, none⟩) 2 c1)).keepS (.inr rfl) 1 (.slice (some ⟨g1, 0, none⟩) 2 c1)))).trans (.below (Below.refl _ _).drew)⟩
end Go.Proofs.YtjnklbfhelbjgaaGreat
