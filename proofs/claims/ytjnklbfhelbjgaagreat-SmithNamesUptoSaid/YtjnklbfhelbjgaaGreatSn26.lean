/- Rows of fractions of the call's own. -/
import Derived.Test.YtjnklbfhelbjgaaGreatSn14
import Derived.Test.YtjnklbfhelbjgaaGreatSn13
import Derived.Test.YtjnklbfhelbjgaaGreatSn19
import Derived.Handy
import Derived.WalkSpells
import Derived.Deep.RegionHeld3
import Derived.Deep.DrawnRows
namespace Go.Proofs.YtjnklbfhelbjgaaGreat
open Go.RowKit Go.IntWalk
def EntQr (w : World) (b : Nat) (E : List (Option Addr × Nat × Nat)) (LL : List (List Rat)) : Prop := E.length = LL.length ∧ ∀ (j : Nat) (e : Option Addr × Nat × Nat) (L : List Rat), E[j]? = some e → LL[j]? = some L → OwQp w b e.1 e.2.1 e.2.2 L
def OwQss (w : World) (b : Nat) (A : Option Addr) (n c : Nat) (LL : List (List Rat)) : Prop :=
 ∃ E : List (Option Addr × Nat × Nat), w.ownsRow b 72 1 (.slice A n c) n (E.map psl) ∧ E.length = n ∧ EntQr w b E LL
section
variable {w w' : World} {b b' : Nat} {A : Option Addr} {n c : Nat} {LL : List (List Rat)} {E : List (Option Addr × Nat × Nat)}
theorem EntQr.next (h : EntQr w b E LL) (hb : Below w.heap.size w w') : EntQr w' b E LL := ⟨h.1, fun j e z he hz => (h.2 j e z he hz).next hb⟩
theorem EntQr.base (h : EntQr w b E LL) (hb : b' ≤ b) : EntQr w b' E LL := ⟨h.1, fun j e z he hz => (h.2 j e z he hz).base hb⟩
theorem EntQr.keep (h : EntQr w b E LL) (hk : KeepQ w w') : EntQr w' b E LL := ⟨h.1, fun j e z he hz => (h.2 j e z he hz).keep hk⟩
theorem EntQr.snoc (h : EntQr w b E LL) {e : Option Addr × Nat × Nat} {L : List Rat} (he : OwQp w b e.1 e.2.1 e.2.2 L) : EntQr w b (E ++ [e]) (LL ++ [L]) := by
 refine ⟨by rw [List.length_append, List.length_append, h.1]; rfl, fun j e' z' h1 h2 => ?_⟩
 rcases Nat.lt_or_ge j E.length with hj | hj
 ·rw [List.getElem?_append_left hj] at h1
  rw [List.getElem?_append_left (by rw [← h.1]; exact hj)] at h2
  exact h.2 j e' z' h1 h2
 ·rw [List.getElem?_append_right hj] at h1
  rw [List.getElem?_append_right (by rw [← h.1]; exact hj)] at h2
  rw [← h.1] at h2
  have hj0 : j - E.length = 0 := by
   rcases Nat.eq_zero_or_pos (j - E.length) with e0 | e0
   ·exact e0
   ·rw [List.getElem?_eq_none (by simp; omega)] at h1; cases h1
  rw [hj0] at h1 h2
  simp at h1 h2
  subst h1 h2
  exact he
theorem OwQss.len (h : OwQss w b A n c LL) : LL.length = n := by
 obtain ⟨E, _, h2, h3⟩ := h
 rw [← h3.1, h2]
theorem OwQss.nil (w : World) (b : Nat) : OwQss w b none 0 0 [] := ⟨[], World.ownsRow_nil _ _ _ _, rfl, rfl, fun j e z he _ => by simp at he⟩
theorem OwQss.next (h : OwQss w b A n c LL) (hb : Below w.heap.size w w') : OwQss w' b A n c LL := by
 obtain ⟨E, h1, h2, h3⟩ := h
 exact ⟨E, row_next h1 hb, h2, h3.next hb⟩
theorem OwQss.base (h : OwQss w b A n c LL) (hb : b' ≤ b) : OwQss w b' A n c LL := by
 obtain ⟨E, h1, h2, h3⟩ := h
 exact ⟨E, row_base h1 hb, h2, h3.base hb⟩
theorem OwQss.form (h : OwQss w b A n c LL) : (A = none ∧ n = 0 ∧ c = 0) ∨ ∃ g, A = some ⟨g, 0, none⟩ ∧ b ≤ g ∧ g < w.heap.size ∧ n ≤ c ∧ c ≤ maxLen := by
 obtain ⟨E, h, _, _⟩ := h
 rcases h.2 with ⟨h1, h2⟩ | ⟨g, cap, cur, h1, h2, h3, h4, h5, _⟩
 ·injection h1 with h1 h1' h1''
  exact .inl ⟨h1, h2, h1''⟩
 ·injection h1 with h1 h1' h1''
  subst h1''
  exact .inr ⟨g, h1, h2, (Array.getElem?_eq_some_iff.1 h3).1, h4, h5⟩
theorem keepQ_grown2 {w1 : World} {xs : List Value} (hE : w.ownsRow b 72 1 (.slice A n c) n xs) (hg : w.grownBy w1 (Value.slice A n c).ownBlock) : KeepQ w w1 := by
 have key : ∀ (i : Nat) (cs : Array Value) (t : TypeId) (f : Nat × Nat), t ≠ 72 → w.heap[i]? = some (.cells cs t f) → w1.heap[i]? = some (.cells cs t f) := by
  intro i cs t f ht hi
  rw [← hi]
  refine hg.block i (Array.getElem?_eq_some_iff.1 hi).1 ?_
  rcases hE.2 with ⟨h1, _⟩ | ⟨g, cap, cur, h1, h2, h3, _⟩
  ·rw [h1]
   intro e0
   cases e0
  ·rw [h1]
   intro e0
   cases e0
   rw [hi] at h3
   injection h3 with h3
   injection h3 with _ h3
   exact ht h3
 exact ⟨fun i cs f => key i cs _ f (by decide), fun i cs f => key i cs _ f (by decide)⟩
theorem qss_more {wb w1 : World} {v' : Value} {e : Option Addr × Nat × Nat} {L : List Rat} {t : TypeId} (he : OwQp w b e.1 e.2.1 e.2.2 L) (hwb : wb = w.alloc (.cells #[.slice e.1 e.2.1 e.2.2] t)) (hE : wb.ownsRow b 72 1 (.slice A n c) n (E.map psl)) (hEl : E.length = n) (hEn : EntQr wb b E LL)
  (hown' : w1.ownsRow b 72 1 v' (n + 1) (E.map psl ++ [.slice e.1 e.2.1 e.2.2])) (hg : wb.grownBy w1 (Value.slice A n c).ownBlock) :
  ∃ (A' : Option Addr) (c' : Nat), v' = .slice A' (n + 1) c' ∧ OwQss w1 b A' (n + 1) c' (LL ++ [L]) := by
 obtain ⟨A', c', rfl⟩ := row_sl hown'
 have hba : Below w.heap.size w wb := by rw [hwb]; exact (Below.refl w.heap.size w).alloc (Nat.le_refl _) _
 have hk := keepQ_grown2 hE hg
 refine ⟨A', c', rfl, E ++ [e], ?_, by rw [List.length_append, hEl]; rfl, ?_⟩
 ·rw [List.map_append]; exact hown'
 ·exact (hEn.snoc (he.next hba)).keep hk
theorem oql_at (h : OwQss w b A n c LL) {j : Nat} (hj : j < n) :
  ∃ (g : Nat) (A1 : Option Addr) (n1 c1 : Nat) (L : List Rat), A = some ⟨g, 0, none⟩ ∧ g < w.heap.size ∧ w.cell? ⟨g, j, none⟩ = some (.slice A1 n1 c1) ∧ OwQp w b A1 n1 c1 L ∧ Hid (LL[j]? = some L) := by
 have hl := h.len
 rcases h.form with ⟨_, h0, _⟩ | ⟨g, rfl, h1, h2, h3, h4⟩
 ·omega
 ·obtain ⟨E, hr, hE, hel⟩ := h
  have hjE : j < E.length := by omega
  have hjL : j < LL.length := by omega
  refine ⟨g, E[j].1, E[j].2.1, E[j].2.2, LL[j], rfl, h2, ?_, hel.2 j _ _ (List.getElem?_eq_getElem hjE) (List.getElem?_eq_getElem hjL), Lib.hid (List.getElem?_eq_getElem hjL)⟩
  have := hr.cellAt j (by omega)
  rw [this, List.getElem?_map, List.getElem?_eq_getElem hjE]
  rfl
end
theorem infoQr : (Tryz.prog.info? 72).map (fun i => (i.zero, i.size, i.bytes)) = some (some (.slice none 0 0), 1, 24) := by kernel_rfl
end Go.Proofs.YtjnklbfhelbjgaaGreat

/- Tables of fractions: entries, direct sums, companion matrices, the blocks that a matrix is read in. Nothing of the program. -/
namespace Mx
section
variable {E : Nat → Nat → Rat} {n a b t : Nat} {LL MM : List (List Rat)}
end
end Mx

/- Tables of fractions whose rows are known whole: they are written over. -/
namespace Go.Proofs.YtjnklbfhelbjgaaGreat
open Go.RowKit Go.IntWalk
section
variable {w w' : World} {b b' B g : Nat} {A : Option Addr} {k c N : Nat} {G : List Nat} {EE : Nat → List (Ent × Ent)} {F : Nat → Nat → Rat}
end
end Go.Proofs.YtjnklbfhelbjgaaGreat

/- Tables that are being made: a row more. -/
namespace Go.Proofs.YtjnklbfhelbjgaaGreat
open Go.RowKit Go.IntWalk
section
variable {w w' wr w1 : World} {b g go n c : Nat} {T T' : TypeId} {xs ys : List Value} {v r z : Value} {A : Option Addr} {o : Obj}
theorem PX.keepQ (h : PX w g T xs) (h1 : T ≠ 171) (h2 : T ≠ 47) (j : Nat) (u : Value) : KeepQ w (w.setCell ⟨g, j, none⟩ u) := by
 obtain ⟨cs, h3, _⟩ := h
 have key : ∀ (i : Nat) (cs' : Array Value) (T' : TypeId) (f : Nat × Nat), T' ≠ T → w.heap[i]? = some (.cells cs' T' f) → (w.setCell ⟨g, j, none⟩ u).heap[i]? = some (.cells cs' T' f) := by
  intro i cs' T' f ht hi
  have hne : i ≠ g := by
   rintro rfl
   rw [hi] at h3
   injection h3 with h3
   injection h3 with _ h3 _
   exact ht h3
  rw [Below.heap_setCell _ (⟨g, j, none⟩ : Addr) u i hne]
  exact hi
 exact ⟨fun i cs f => key i cs _ f h1.symm, fun i cs f => key i cs _ f h2.symm⟩
theorem own_type (hE : w.ownsRow b T 1 v n xs) (hg : w.grownBy w1 v.ownBlock) {i : Nat} {cs : Array Value} {f : Nat × Nat} (hT : T' ≠ T) (hi : w.heap[i]? = some (.cells cs T' f)) : w1.heap[i]? = some (.cells cs T' f) := by
 rw [← hi]
 refine hg.block i (Array.getElem?_eq_some_iff.1 hi).1 ?_
 rcases hE.2 with ⟨h1, _⟩ | ⟨g, cap, cur, h1, h2, h3, _⟩
 ·rw [h1]
  intro e0
  cases e0
 ·rw [h1]
  intro e0
  cases e0
  rw [hi] at h3
  injection h3 with h3
  injection h3 with _ h3
  exact hT h3
theorem PX.grown (h : PX w g T' ys) (hE : w.ownsRow b T 1 v n xs) (hT : T' ≠ T) (hg : w.grownBy w1 v.ownBlock) : PX w1 g T' ys := by
 obtain ⟨cs, h1, h2⟩ := h
 exact ⟨cs, own_type hE hg hT h1, h2⟩
theorem own_set (hE : w.ownsRow b T 1 v n xs) (hz : PX w go T' ys) (hT : T' ≠ T) (j : Nat) (u : Value) : (w.setCell ⟨go, j, none⟩ u).ownsRow b T 1 v n xs := by
 refine ⟨hE.1, ?_⟩
 rcases hE.2 with h0 | ⟨g', cap, cur, h1, h2, h3, h4⟩
 ·exact .inl h0
 ·have hne : g' ≠ go := by
   rintro rfl
   obtain ⟨cs, h5, _⟩ := hz
   rw [h3] at h5
   injection h5 with h5
   injection h5 with _ h5 _
   exact hT h5.symm
  refine .inr ⟨g', cap, cur, h1, h2, ?_, h4⟩
  rw [Below.heap_setCell _ (⟨go, j, none⟩ : Addr) u g' hne]
  exact h3
theorem own_px (hE : w.ownsRow b T 1 (.slice A n c) n xs) (h0 : 0 < n) : ∃ g, A = some ⟨g, 0, none⟩ ∧ b ≤ g ∧ PX w g T xs ∧ n ≤ c ∧ c ≤ maxLen := by
 rcases hE.2 with ⟨k1, k2⟩ | ⟨g, cap, cur, k1, k2, k3, k4, k5, k6, k7⟩
 ·omega
 ·injection k1 with k1 k1' k1''
  subst k1''
  refine ⟨g, k1, k2, ⟨cur, k3, fun i u hu => ?_⟩, k4, k5⟩
  have hi : i < n * 1 := by
   rcases Nat.lt_or_ge i (n * 1) with h5 | h5
   ·exact h5
   ·rw [← k7, List.getElem?_take_eq_none h5] at hu; cases hu
  rw [← k7, List.getElem?_take_of_lt hi] at hu
  simpa using hu
theorem tpush {v' : Value} (hT : PX wr go 102 [.slice A n c, z]) (hE : wr.ownsRow b 30 1 (.slice A n c) n xs) (hown' : w1.ownsRow b 30 1 v' (n + 1) (xs ++ [r])) (hg : (wr.alloc o).grownBy w1 (Value.slice A n c).ownBlock) :
  ∃ (A' : Option Addr) (c' : Nat), v' = .slice A' (n + 1) c' ∧ w1.cell? ⟨go, 0, none⟩ = some (.slice A n c) ∧ w1.frozen? ⟨go, 0, none⟩ = false ∧ PX (w1.setCell ⟨go, 0, none⟩ v') go 102 [v', z] ∧ (w1.setCell ⟨go, 0, none⟩ v').ownsRow b 30 1 v' (n + 1) (xs ++ [r]) ∧ (∀ (g : Nat) (T : TypeId) (ys : List Value), T ≠ 30 → T ≠ 102 → PX wr g T ys → PX (w1.setCell ⟨go, 0, none⟩ v') g T ys) ∧ KeepQ wr (w1.setCell ⟨go, 0, none⟩ v') := by
 obtain ⟨A', c', rfl⟩ := row_sl hown'
 have hba : Below wr.heap.size wr (wr.alloc o) := (Below.refl _ _).alloc (Nat.le_refl _) _
 have hE2 := row_next hE hba
 have hT1 := (hT.next hba).grown hE2 (by decide) hg
 refine ⟨A', c', rfl, hT1.cell rfl, hT1.frozen 0, hT1.store 0 _, own_set hown' hT1 (by decide) 0 _, fun g T ys h1 h2 h3 => ?_, ?_⟩
 ·have h4 := (h3.next hba).grown hE2 h1 hg
  exact h4.far (h4.ne hT1 h2) _
 ·have hk := hT1.keepQ (by decide) (by decide) 0 (Value.slice A' (n + 1) c')
  have hk0 : KeepQ wr w1 := ⟨fun i cs f hi => own_type hE2 hg (by decide) ((hba.block i (Array.getElem?_eq_some_iff.1 hi).1).trans hi), fun i cs f hi => own_type hE2 hg (by decide) ((hba.block i (Array.getElem?_eq_some_iff.1 hi).1).trans hi)⟩
  exact ⟨fun i cs f hi => hk.1 i cs f (hk0.1 i cs f hi), fun i cs f hi => hk.2 i cs f (hk0.2 i cs f hi)⟩
end
structure U1 (w : World) (b B t : Nat) (A : Option Addr) (c g0 c0 : Nat) (x y : Pe) (P Q : List Rat) : Prop where
 hd : PX w t 102 [.slice A 1 c, .int .i64 2]
 own : w.ownsRow B 30 1 (.slice A 1 c) 1 [.slice (some ⟨g0, 0, none⟩) 2 c0]
 r0 : PX w g0 73 [psl x, psl y]
 bt : B ≤ t
 b0 : B ≤ g0
 l0 : 2 ≤ c0 ∧ c0 ≤ maxLen
 ea : OwQp w b x.1 x.2.1 x.2.2 P
 eb : OwQp w b y.1 y.2.1 y.2.2 Q
section
variable {w w' wr w1 : World} {b B t c g0 c0 : Nat} {x y : Pe} {P Q : List Rat} {v' : Value} {A : Option Addr} {o : Obj}
theorem U1.next (h : U1 w b B t A c g0 c0 x y P Q) (hb : Below w.heap.size w w') : U1 w' b B t A c g0 c0 x y P Q :=
 ⟨h.hd.next hb, row_next h.own hb, h.r0.next hb, h.bt, h.b0, h.l0, h.ea.next hb, h.eb.next hb⟩
theorem U1.put {g : Nat} {xs : List Value} (h : U1 w b B t A c g0 c0 x y P Q) (hp : PX w g 73 xs) (hne : g0 ≠ g) (j : Nat) (u : Value) : U1 (w.setCell ⟨g, j, none⟩ u) b B t A c g0 c0 x y P Q := by
 have hk := (hp.keepS (.inl rfl) j u).q
 exact ⟨h.hd.far (h.hd.ne hp (by decide)) _, own_set h.own hp (by decide) j u, h.r0.far hne _, h.bt, h.b0, h.l0, h.ea.keep hk, h.eb.keep hk⟩
theorem U1.first (hT : PX wr t 102 [.slice none 0 0, .int .i64 2]) (hbt : B ≤ t) (h0 : PX wr g0 73 [psl x, psl y]) (hb0 : B ≤ g0) (hl : 2 ≤ c0 ∧ c0 ≤ maxLen) (ha : OwQp wr b x.1 x.2.1 x.2.2 P) (hb : OwQp wr b y.1 y.2.1 y.2.2 Q)
  (hown' : w1.ownsRow B 30 1 v' (0 + 1) ([] ++ [.slice (some ⟨g0, 0, none⟩) 2 c0])) (hg : (wr.alloc o).grownBy w1 (Value.slice none 0 0).ownBlock) :
  ∃ (A' : Option Addr) (c' : Nat), v' = .slice A' 1 c' ∧ w1.cell? ⟨t, 0, none⟩ = some (.slice none 0 0) ∧ w1.frozen? ⟨t, 0, none⟩ = false ∧ U1 (w1.setCell ⟨t, 0, none⟩ v') b B t A' c' g0 c0 x y P Q := by
 obtain ⟨A', c', rfl, e1, e2, h1, h2, h3, h4⟩ := tpush hT (World.ownsRow_nil _ _ _ _) hown' hg
 exact ⟨A', c', rfl, e1, e2, ⟨h1, h2, h3 _ _ _ (by decide) (by decide) h0, hbt, hb0, hl, ha.keep h4, hb.keep h4⟩⟩
theorem U1.second {g1 c1 : Nat} {z u : Pe} {R S : List Rat} (h : U1 wr b B t A c g0 c0 x y P Q) (h0 : PX wr g1 73 [psl z, psl u]) (hne : g0 ≠ g1) (hb1 : B ≤ g1) (hbB : b ≤ B) (hl : 2 ≤ c1 ∧ c1 ≤ maxLen) (ha : OwQp wr b z.1 z.2.1 z.2.2 R) (hb : OwQp wr b u.1 u.2.1 u.2.2 S)
  (hown' : w1.ownsRow B 30 1 v' (1 + 1) ([.slice (some ⟨g0, 0, none⟩) 2 c0] ++ [.slice (some ⟨g1, 0, none⟩) 2 c1])) (hg : (wr.alloc o).grownBy w1 (Value.slice A 1 c).ownBlock) :
  ∃ (A' : Option Addr) (c' : Nat), v' = .slice A' 2 c' ∧ w1.cell? ⟨t, 0, none⟩ = some (.slice A 1 c) ∧ w1.frozen? ⟨t, 0, none⟩ = false ∧ Tb (w1.setCell ⟨t, 0, none⟩ v') b t ⟨P, Q, R, S⟩ := by
 obtain ⟨A', c', rfl, e1, e2, h1, h2, h3, h4⟩ := tpush h.hd h.own hown' hg
 obtain ⟨gr, rfl, k1, k2, k3, k4⟩ := own_px h2 (by decide)
 exact ⟨_, c', rfl, e1, e2, gr, c', g0, c0, g1, c1, x, y, z, u, h1, k2, h3 _ _ _ (by decide) (by decide) h.r0, h3 _ _ _ (by decide) (by decide) h0, hne, Nat.le_trans hbB h.bt, Nat.le_trans hbB k1, Nat.le_trans hbB h.b0, Nat.le_trans hbB hb1, ⟨k3, k4⟩, h.l0, hl, h.ea.keep h4, h.eb.keep h4, ha.keep h4, hb.keep h4⟩
end
theorem tcell_new (w : World) (x : Value) (t : TypeId) : ∀ j u, [x][j]? = some u → (w.alloc (.cells #[x] t)).cell? ((⟨w.heap.size, 0, none⟩ : Addr).add j) = some u := by
 intro j u hj
 match j, hj with
 | 0, hj => simp at hj; subst hj; simp [Addr.add]
 | (j + 1), hj => simp at hj
theorem infoRow : (Tryz.prog.info? 30).map (fun i => (i.zero, i.size, i.bytes)) = some (some (.slice none 0 0), 1, 24) := by kernel_rfl
end Go.Proofs.YtjnklbfhelbjgaaGreat

/- smith: rows for columns. -/
namespace Go.Proofs.YtjnklbfhelbjgaaGreat
open Go.RowKit Go.IntWalk
attribute [local go_sem ↓] Go.wp_at_zero Go.wp_at_succ
theorem make_p2 (w : World) : (Instr.makeSlice 30 (.int .i64 2) (.int .i64 2)).run Tryz.prog w = .ok (.slice (some ⟨w.heap.size, 0, none⟩) 2 2) (w.alloc (.cells #[.slice none 0 0, .slice none 0 0] 73)) := by
 have h := run_make_row' 30 73 (.slice none 0 0) 24 Tryz.underlying30 infoPoly rfl .i64 .i64 2 (by omega) (by omega) w
 have e : madeCells #[Value.slice none 0 0] 2 = #[.slice none 0 0, .slice none 0 0] := by
  unfold madeCells
  apply Array.ext
  ·simp
  ·intro i h1 h2
   have h3 : i = 0 ∨ i = 1 := by simp at h2; omega
   rcases h3 with rfl | rfl
   ·simp
   ·simp
 rw [e] at h
 exact h
def RetTb (b : Nat) (M : M2) (w : World) (e : Ending) (w' : World) : Prop := ∃ t', e = .returned (.pointer (some ⟨t', 0, none⟩)) ∧ Tb w' b t' M ∧ Below w.heap.size w w'
set_option maxRecDepth 100000 in
set_option maxHeartbeats 8000000 in
theorem flip_any {b t : Nat} {M : M2} {w : World} (h : Tb w b t M) (hb : b ≤ w.heap.size) : Calls Tryz.prog 230 #[.pointer (some ⟨t, 0, none⟩)] w (RetTb b M.flip w) := by
 obtain ⟨gr, cr, g0, c0, g1, c1, ⟨xa, xn, xc⟩, ⟨ya, yn, yc⟩, ⟨za, zn, zc⟩, ⟨ua, un, uc⟩, h⟩ := h
 obtain ⟨i1, hjf, hy0, hy1, hy2⟩ := info_parts infoRow
 have hmk := make_p2
 have HBB := Lib.hid hb
 have HT := Lib.hid (show ∀ V, Below w.heap.size w V → T2 V b t gr cr g0 c0 g1 c1 (xa, xn, xc) (ya, yn, yc) (za, zn, zc) (ua, un, uc) M from fun V hb => h.next hb)
 have HX := Lib.hid (show ∀ V, Below w.heap.size w V → V.cell? ⟨t, 0, none⟩ = some (.slice (some ⟨gr, 0, none⟩) 2 cr) ∧ V.cell? ⟨t, 1, none⟩ = some (.int .i64 2) ∧ V.cell? ⟨gr, 0, none⟩ = some (.slice (some ⟨g0, 0, none⟩) 2 c0) ∧ V.cell? ⟨gr, 1, none⟩ = some (.slice (some ⟨g1, 0, none⟩) 2 c1) ∧ V.cell? ⟨g0, 0, none⟩ = some (.slice xa xn xc) ∧ V.cell? ⟨g0, 1, none⟩ = some (.slice ya yn yc) ∧ V.cell? ⟨g1, 0, none⟩ = some (.slice za zn zc) ∧ V.cell? ⟨g1, 1, none⟩ = some (.slice ua un uc) from fun V hb => (h.next hb).cells)
 obtain ⟨k0, _⟩ := HX.out w (Below.refl _ _)
 obtain ⟨W1, HW1⟩ : ∃ W, W = w.alloc (.cells #[.slice none 0 0, .int .i64 2] 102) := ⟨_, rfl⟩
 have hb1 : Below w.heap.size w W1 := by rw [HW1]; exact (Below.refl _ _).alloc (Nat.le_refl _) _
 have k1' : (w.alloc (.cells #[.slice none 0 0, .int .i64 2] 102)).cell? ⟨t, 1, none⟩ = some (.int .i64 2) := by rw [← HW1]; exact (HX.out _ hb1).2.1
 obtain ⟨go, hgo⟩ : ∃ g, g = w.heap.size := ⟨_, rfl⟩
 have HN1 := Lib.hid (show PX W1 go 102 [.slice none 0 0, .int .i64 2] by rw [HW1, hgo]; exact PX.new w _ [.slice none 0 0, .int .i64 2])
 have HGT := Lib.hid (show b ≤ go by rw [hgo]; exact hb)
 have HGW := Lib.hid (show w.heap.size ≤ go by rw [hgo]; exact Nat.le_refl _)
 have HB1 := Lib.hid hb1
 have HW1 := Lib.hid HW1
 clear h hb hb1
 go_enter Tryz.func230, Tryz.ntmps230
 go_wp2_with fail
 rw [← HW1.out, ← hgo]
 clear HW1 hgo
 clear HW1 k0 k1'
 refine wp_loop_rounds 3 ?_
 rw [rounds_succ]
 obtain ⟨k0, k1, k2, k3, k4, k5, k6, k7⟩ := HX.out _ HB1.out
 obtain ⟨W2, HW2⟩ : ∃ W, W = W1.alloc (.cells #[.slice none 0 0, .slice none 0 0] 73) := ⟨_, rfl⟩
 have hb2 : Below W1.heap.size W1 W2 := by rw [HW2]; exact (Below.refl _ _).alloc (Nat.le_refl _) _
 have HBW2 := Lib.hid (HB1.out.trans (hb2.mono HB1.out.size))
 have k0' : (W1.alloc (.cells #[.slice none 0 0, .slice none 0 0] 73)).cell? ⟨t, 0, none⟩ = some (.slice (some ⟨gr, 0, none⟩) 2 cr) := by rw [← HW2]; exact (HX.out _ HBW2.out).1
 obtain ⟨gn0, hgn0⟩ : ∃ g, g = W1.heap.size := ⟨_, rfl⟩
 have HPW2 := Lib.hid (show PX W2 gn0 73 [.slice none 0 0, .slice none 0 0] by rw [HW2, hgn0]; exact PX.new W1 _ [.slice none 0 0, .slice none 0 0])
 have HGgn0 := Lib.hid (show w.heap.size ≤ gn0 by rw [hgn0]; exact HB1.out.size)
 have HNW2 := Lib.hid (HN1.out.next hb2)
 have HW2 := Lib.hid HW2
 clear hb2
 go_wp2_with fail
 rw [← HW2.out, ← hgn0]
 clear HW2 hgn0
 clear HW2 k0 k1 k2 k3 k4 k5 k6 k7 k0'
 obtain ⟨k0, k1, k2, k3, k4, k5, k6, k7⟩ := HX.out _ HBW2.out
 have q0 := HPW2.out.cell (i := 0) rfl
 have q1 := HPW2.out.cell (i := 1) rfl
 have f0 := HPW2.out.frozen 0
 have f1 := HPW2.out.frozen 1
 obtain ⟨W3, HW3⟩ : ∃ W, W = W2.setCell ⟨gn0, 0, none⟩ (.slice xa xn xc) := ⟨_, rfl⟩
 have HBW3 := Lib.hid (show Below w.heap.size w W3 by rw [HW3]; exact HBW2.out.setCell (p := ⟨gn0, 0, none⟩) HGgn0.out _)
 have HPW3 := Lib.hid (show PX W3 gn0 73 [.slice xa xn xc, .slice none 0 0] by rw [HW3]; exact HPW2.out.store 0 _)
 have HKQW3 := Lib.hid (show KeepQ W2 W3 by rw [HW3]; exact (HPW2.out.keepS (.inl rfl) 0 _).q)
 have HNW3 := Lib.hid (show PX W3 go 102 [.slice none 0 0, .int .i64 2] by rw [HW3]; exact HNW2.out.far (HNW2.out.ne HPW2.out (by decide)) _)
 have HW3 := Lib.hid HW3
 refine wp_loop_rounds 3 ?_
 rw [rounds_succ]
 go_wp2_with fail
 rw [← HW3.out]
 clear HW3
 clear HW3 k0 k1 k2 k3 k4 k5 k6 k7 q0 q1 f0 f1
 obtain ⟨k0, k1, k2, k3, k4, k5, k6, k7⟩ := HX.out _ HBW3.out
 have q0 := HPW3.out.cell (i := 0) rfl
 have q1 := HPW3.out.cell (i := 1) rfl
 have f0 := HPW3.out.frozen 0
 have f1 := HPW3.out.frozen 1
 obtain ⟨W4, HW4⟩ : ∃ W, W = W3.setCell ⟨gn0, 1, none⟩ (.slice za zn zc) := ⟨_, rfl⟩
 have HBW4 := Lib.hid (show Below w.heap.size w W4 by rw [HW4]; exact HBW3.out.setCell (p := ⟨gn0, 1, none⟩) HGgn0.out _)
 have HPW4 := Lib.hid (show PX W4 gn0 73 [.slice xa xn xc, .slice za zn zc] ∧ w.heap.size ≤ gn0 from ⟨by rw [HW4]; exact HPW3.out.store 1 _, HGgn0.out⟩)
 have HNW4 := Lib.hid (show PX W4 go 102 [.slice none 0 0, .int .i64 2] by rw [HW4]; exact HNW3.out.far (HNW3.out.ne HPW3.out (by decide)) _)
 have HW4 := Lib.hid HW4
 rw [rounds_succ]
 go_wp2_with fail
 rw [← HW4.out]
 clear HW4
 clear HW4 k0 k1 k2 k3 k4 k5 k6 k7 q0 q1 f0 f1
 rw [rounds_succ]
 have m0 := HNW4.out.cell (i := 0) rfl
 have m0' : (W4.alloc (.cells #[.slice (some ⟨gn0, 0, none⟩) 2 2] 30)).cell? ⟨go, 0, none⟩ = some (.slice none 0 0) := by
  have hb0 : Below W4.heap.size W4 (W4.alloc (.cells #[.slice (some ⟨gn0, 0, none⟩) 2 2] 30)) := (Below.refl _ _).alloc (Nat.le_refl _) _
  exact (HNW4.out.next hb0).cell (i := 0) rfl
 go_wp2_with (at_builtin; go_loud (refine wpList_append_own _ rfl _ _ 45 rfl w.heap.size 30 i1 (.slice none 0 0) 1 24 Tryz.underlying45 hjf hy0 hy1 hy2 rfl (by decide) _ _ _ rfl (World.ownsRow_nil _ _ _ _) ⟨W4.heap.size, 0, none⟩ 1 1 [.slice (some ⟨gn0, 0, none⟩) 2 2] rfl rfl (tcell_new W4 (.slice (some ⟨gn0, 0, none⟩) 2 2) 30) (by simp [Value.oneCell']) (by decide) (by decide) (by have h1 := HBW4.out.size; have h2 := HBB.out; simp; omega) ?_); intro v' w8 hown' hgrow _; obtain ⟨A_w8, c_w8, rfl, e1_w8, e2_w8, hU_w8⟩ := U1.first (x := (xa, xn, xc)) (y := (za, zn, zc)) HNW4.out HGW.out HPW4.out.1 HPW4.out.2 ⟨Nat.le_refl _, by decide⟩ ((HT.out _ HBW4.out).ea) ((HT.out _ HBW4.out).ec) hown' hgrow)
 obtain ⟨W5, HW5⟩ : ∃ W, W = w8.setCell ⟨go, 0, none⟩ (.slice A_w8 1 c_w8) := ⟨_, rfl⟩
 have HBW5 := Lib.hid (show Below w.heap.size w W5 by
  rw [HW5]
  exact (((HBW4.out.alloc HBW4.out.size (.cells #[.slice (some ⟨gn0, 0, none⟩) 2 2] 30)).grown hgrow (by have h1 := HBW4.out.size; simp; omega) (own_block (World.ownsRow_nil w w.heap.size 30 1))).setCell (p := ⟨go, 0, none⟩) HGW.out _))
 rw [← HW5] at hU_w8
 have HU1 := Lib.hid hU_w8
 rw [← HW5]
 clear hU_w8 hown' hgrow e1_w8 e2_w8 m0 m0' HW5
 rw [rounds_succ]
 obtain ⟨k0, k1, k2, k3, k4, k5, k6, k7⟩ := HX.out _ HBW5.out
 obtain ⟨W12, HW12⟩ : ∃ W, W = W5.alloc (.cells #[.slice none 0 0, .slice none 0 0] 73) := ⟨_, rfl⟩
 have hb2 : Below W5.heap.size W5 W12 := by rw [HW12]; exact (Below.refl _ _).alloc (Nat.le_refl _) _
 have HBW12 := Lib.hid (HBW5.out.trans (hb2.mono HBW5.out.size))
 have k0' : (W5.alloc (.cells #[.slice none 0 0, .slice none 0 0] 73)).cell? ⟨t, 0, none⟩ = some (.slice (some ⟨gr, 0, none⟩) 2 cr) := by rw [← HW12]; exact (HX.out _ HBW12.out).1
 obtain ⟨gn1, hgn1⟩ : ∃ g, g = W5.heap.size := ⟨_, rfl⟩
 have HPW12 := Lib.hid (show PX W12 gn1 73 [.slice none 0 0, .slice none 0 0] by rw [HW12, hgn1]; exact PX.new W5 _ [.slice none 0 0, .slice none 0 0])
 have HGgn1 := Lib.hid (show w.heap.size ≤ gn1 by rw [hgn1]; exact HBW5.out.size)
 have HNW12 := Lib.hid (HU1.out.next hb2)
 have HNE := Lib.hid (show gn0 ≠ gn1 by have h1 := HU1.out.r0.lt; rw [hgn1]; omega)
 have HW12 := Lib.hid HW12
 clear hb2
 go_wp2_with fail
 rw [← HW12.out, ← hgn1]
 clear HW12 hgn1
 clear HW12 k0 k1 k2 k3 k4 k5 k6 k7 k0'
 obtain ⟨k0, k1, k2, k3, k4, k5, k6, k7⟩ := HX.out _ HBW12.out
 have q0 := HPW12.out.cell (i := 0) rfl
 have q1 := HPW12.out.cell (i := 1) rfl
 have f0 := HPW12.out.frozen 0
 have f1 := HPW12.out.frozen 1
 obtain ⟨W13, HW13⟩ : ∃ W, W = W12.setCell ⟨gn1, 0, none⟩ (.slice ya yn yc) := ⟨_, rfl⟩
 have HBW13 := Lib.hid (show Below w.heap.size w W13 by rw [HW13]; exact HBW12.out.setCell (p := ⟨gn1, 0, none⟩) HGgn1.out _)
 have HPW13 := Lib.hid (show PX W13 gn1 73 [.slice ya yn yc, .slice none 0 0] by rw [HW13]; exact HPW12.out.store 0 _)
 have HKQW13 := Lib.hid (show KeepQ W12 W13 by rw [HW13]; exact (HPW12.out.keepS (.inl rfl) 0 _).q)
 have HNW13 := Lib.hid (show U1 W13 b w.heap.size go A_w8 c_w8 gn0 2 (xa, xn, xc) (za, zn, zc) M.a M.c by rw [HW13]; exact HNW12.out.put HPW12.out HNE.out 0 _)
 have HW13 := Lib.hid HW13
 refine wp_loop_rounds 3 ?_
 rw [rounds_succ]
 go_wp2_with fail
 rw [← HW13.out]
 clear HW13
 clear HW13 k0 k1 k2 k3 k4 k5 k6 k7 q0 q1 f0 f1
 obtain ⟨k0, k1, k2, k3, k4, k5, k6, k7⟩ := HX.out _ HBW13.out
 have q0 := HPW13.out.cell (i := 0) rfl
 have q1 := HPW13.out.cell (i := 1) rfl
 have f0 := HPW13.out.frozen 0
 have f1 := HPW13.out.frozen 1
 obtain ⟨W14, HW14⟩ : ∃ W, W = W13.setCell ⟨gn1, 1, none⟩ (.slice ua un uc) := ⟨_, rfl⟩
 have HBW14 := Lib.hid (show Below w.heap.size w W14 by rw [HW14]; exact HBW13.out.setCell (p := ⟨gn1, 1, none⟩) HGgn1.out _)
 have HPW14 := Lib.hid (show PX W14 gn1 73 [.slice ya yn yc, .slice ua un uc] ∧ w.heap.size ≤ gn1 from ⟨by rw [HW14]; exact HPW13.out.store 1 _, HGgn1.out⟩)
 have HNW14 := Lib.hid (show U1 W14 b w.heap.size go A_w8 c_w8 gn0 2 (xa, xn, xc) (za, zn, zc) M.a M.c by rw [HW14]; exact HNW13.out.put HPW13.out HNE.out 1 _)
 have HW14 := Lib.hid HW14
 rw [rounds_succ]
 go_wp2_with fail
 rw [← HW14.out]
 clear HW14
 clear HW14 k0 k1 k2 k3 k4 k5 k6 k7 q0 q1 f0 f1
 rw [rounds_succ]
 have m0 := HNW14.out.hd.cell (i := 0) rfl
 have m0' : (W14.alloc (.cells #[.slice (some ⟨gn1, 0, none⟩) 2 2] 30)).cell? ⟨go, 0, none⟩ = some (.slice A_w8 1 c_w8) := by
  have hb0 : Below W14.heap.size W14 (W14.alloc (.cells #[.slice (some ⟨gn1, 0, none⟩) 2 2] 30)) := (Below.refl _ _).alloc (Nat.le_refl _) _
  exact (HNW14.out.hd.next hb0).cell (i := 0) rfl
 go_wp2_with (at_builtin; go_loud (refine wpList_append_own _ rfl _ _ 45 rfl w.heap.size 30 i1 (.slice none 0 0) 1 24 Tryz.underlying45 hjf hy0 hy1 hy2 rfl (by decide) _ _ _ rfl (HNW14.out.own.alloc _) ⟨W14.heap.size, 0, none⟩ 1 1 [.slice (some ⟨gn1, 0, none⟩) 2 2] rfl rfl (tcell_new W14 (.slice (some ⟨gn1, 0, none⟩) 2 2) 30) (by simp [Value.oneCell']) (by decide) (by decide) (by have h1 := HBW14.out.size; have h2 := HBB.out; simp; omega) ?_); intro v' w9 hown' hgrow _; obtain ⟨A_w9, c_w9, rfl, e1_w9, e2_w9, hU_w9⟩ := HNW14.out.second (z := (ya, yn, yc)) (u := (ua, un, uc)) HPW14.out.1 HNE.out HPW14.out.2 HBB.out ⟨Nat.le_refl _, by decide⟩ ((HT.out _ HBW14.out).eb) ((HT.out _ HBW14.out).ed) hown' hgrow)
 obtain ⟨W15, HW15⟩ : ∃ W, W = w9.setCell ⟨go, 0, none⟩ (.slice A_w9 2 c_w9) := ⟨_, rfl⟩
 have HBW15 := Lib.hid (show Below w.heap.size w W15 by
  rw [HW15]
  exact (((HBW14.out.alloc HBW14.out.size (.cells #[.slice (some ⟨gn1, 0, none⟩) 2 2] 30)).grown hgrow (by have h1 := HBW14.out.size; simp; omega) (own_block (HNW14.out.own))).setCell (p := ⟨go, 0, none⟩) HGW.out _))
 rw [← HW15] at hU_w9
 have HU2 := Lib.hid hU_w9
 rw [← HW15]
 clear hU_w9 hown' hgrow e1_w9 e2_w9 m0 m0' HW15
 rw [rounds_succ]
 go_wp2
 go_ret
 exact ⟨_, rfl, HU2.out, HBW15.out⟩
end Go.Proofs.YtjnklbfhelbjgaaGreat

/- smith: a matrix on its way; a step of rows. -/
namespace Go.Proofs.YtjnklbfhelbjgaaGreat
open Go.RowKit Go.IntWalk
attribute [local go_sem ↓] Go.wp_at_zero Go.wp_at_succ
def Wk (w : World) (b gw : Nat) (M : M2) : Prop := ∃ t, PX w gw 191 [.pointer (some ⟨t, 0, none⟩), .pointer none, .pointer none] ∧ b ≤ gw ∧ Tb w b t M
def RetWk (b gw : Nat) (M : M2) (w : World) (e : Ending) (w' : World) : Prop := e = .returned (.tuple #[]) ∧ Wk w' b gw M ∧ Below b w w'
section
variable {w w' : World} {b gw t : Nat} {M : M2}
theorem Wk.next (h : Wk w b gw M) (hb : Below w.heap.size w w') : Wk w' b gw M := by
 obtain ⟨t, h1, h2, h3⟩ := h
 exact ⟨t, h1.next hb, h2, h3.next hb⟩
theorem Tb.other {T : TypeId} {ys : List Value} (h : Tb w b t M) (hz : PX w gw T ys) (h1 : T ≠ 102 ∧ T ≠ 30 ∧ T ≠ 73 ∧ T ≠ 171 ∧ T ≠ 47) (j : Nat) (u : Value) : Tb (w.setCell ⟨gw, j, none⟩ u) b t M := by
 obtain ⟨gr, cr, g0, c0, g1, c1, x, y, z, v, h⟩ := h
 have hk := hz.keepQ h1.2.2.2.1 h1.2.2.2.2 j u
 exact ⟨gr, cr, g0, c0, g1, c1, x, y, z, v, h.hd.far (h.hd.ne hz h1.1.symm) _, h.rw.far (h.rw.ne hz h1.2.1.symm) _, h.r0.far (h.r0.ne hz h1.2.2.1.symm) _, h.r1.far (h.r1.ne hz h1.2.2.1.symm) _, h.ne, h.bt, h.br, h.b0, h.b1, h.lr, h.l0, h.l1, h.ea.keep hk, h.eb.keep hk, h.ec.keep hk, h.ed.keep hk⟩
theorem Tb.keepT (h : Tb w b t M) : ∃ A c, w.cell? ⟨t, 0, none⟩ = some (.slice A 2 c) ∧ w.cell? ⟨t, 1, none⟩ = some (.int .i64 2) := by
 obtain ⟨gr, cr, g0, c0, g1, c1, x, y, z, v, h⟩ := h
 exact ⟨_, _, h.hd.cell rfl, h.hd.cell rfl⟩
end
set_option maxRecDepth 100000 in
set_option maxHeartbeats 4000000 in
theorem row_swap {b gw : Nat} {i j : Int} {M : M2} {w : World} (h : Wk w b gw M) (hb : b ≤ w.heap.size) (hij : (i = 0 ∧ j = 0) ∨ (i = 1 ∧ j = 1)) :
  Calls Tryz.prog 203 #[.pointer (some ⟨gw, 0, none⟩), .iface 221 (.agg #[.int .i64 i, .int .i64 j])] w (RetWk b gw ((M).swap i j) w) := by
 have HH := Lib.hid (show _ from hij)
 obtain ⟨t, h1, h2, h3⟩ := h
 have HX := Lib.hid h1
 have HT := Lib.hid h3
 have HG := Lib.hid h2
 have HBB := Lib.hid hb
 have k0 := h1.cell (i := 0) rfl
 have HC := Lib.hid k0
 have HBD := Lib.hid (Below.refl w.heap.size w).drew
 have hna : ∀ W : World, Sem.run Tryz.prog (nilAhead 381 221 (.agg #[.int .i64 i, .int .i64 j]) "simile/smith.to") W = .ok (some false) W := fun W => by kernel_rfl
 clear h1 h2 h3 hb
 clear hij
 go_enter Tryz.func203, Tryz.ntmps203
 go_wp2_with fail
 go_region_held3 (fun W => W.cell? ⟨gw, 0, none⟩ = some (.pointer (some ⟨t, 0, none⟩)))
  (first | exact HC.out | exact ((HX.out.next HBD.out).cell (i := 0) rfl) | exact (HX2.out.cell (i := 0) rfl))
  (first
   | (go_at_call 278; refine (swap_to (HT.out.next HBD.out) (Nat.le_trans HBB.out HBD.out.size) HH.out).mono ?_; rintro _ W2 ⟨rfl, ht2, hb2, hk2⟩; have HX2 := Lib.hid ((HX.out.next HBD.out).keep hk2 (by decide) (by decide)); have HT2 := Lib.hid ht2; have HB2 := Lib.hid ((HBD.out.mono HBB.out).trans hb2); clear ht2 hb2 hk2))
 all_goals
  have k1 := HX2.out.cell (i := 1) rfl
  go_wp2
  go_returns
  exact ⟨rfl, ⟨_, HX2.out, HG.out, HT2.out⟩, HB2.out⟩
set_option maxRecDepth 100000 in
set_option maxHeartbeats 4000000 in
theorem column_swap {b gw : Nat} {i j : Int} {M : M2} {w : World} (h : Wk w b gw M) (hb : b ≤ w.heap.size) (hij : (i = 0 ∧ j = 0) ∨ (i = 1 ∧ j = 1)) :
  Calls Tryz.prog 204 #[.pointer (some ⟨gw, 0, none⟩), .iface 221 (.agg #[.int .i64 i, .int .i64 j])] w (RetWk b gw (((M.flip).swap i j).flip) w) := by
 have HH := Lib.hid (show _ from hij)
 obtain ⟨t, h1, h2, h3⟩ := h
 have HX := Lib.hid h1
 have HT := Lib.hid h3
 have HG := Lib.hid h2
 have HBB := Lib.hid hb
 have k0 := h1.cell (i := 0) rfl
 obtain ⟨At, ct, k1, k2⟩ := h3.keepT
 clear h1 h2 h3 hb
 clear hij
 go_enter Tryz.func204, Tryz.ntmps204
 go_wp2_with fail
 refine (flip_any HT.out HBB.out).mono ?_
 rintro _ W1 ⟨t1, rfl, ht1, hb1⟩
 have HT1 := Lib.hid ht1
 have HB1 := Lib.hid hb1
 have HX1 := Lib.hid (HX.out.next hb1)
 clear ht1 hb1 k0 k1 k2
 go_wp2_with fail
 refine (swap_to (HT1.out) (Nat.le_trans HBB.out HB1.out.size) HH.out).mono ?_
 rintro _ W2 ⟨rfl, ht2, hb2, hk2⟩
 have HX2 := Lib.hid (HX1.out.keep hk2 (by decide) (by decide))
 have HT2 := Lib.hid ht2
 have HB2 := Lib.hid ((HB1.out.mono HBB.out).trans hb2)
 clear ht2 hb2 hk2
 go_wp2_with fail
 refine (flip_any HT2.out (Nat.le_trans HBB.out HB2.out.size)).mono ?_
 rintro _ W3 ⟨t3, rfl, ht3, hb3⟩
 have hx3 := HX2.out.next hb3
 have k0 := hx3.cell (i := 0) rfl
 have f0 := hx3.frozen 0
 have HT4 := Lib.hid (ht3.other hx3 (by decide) 0 (.pointer (some ⟨t3, 0, none⟩)))
 have HX4 := Lib.hid (hx3.store 0 (.pointer (some ⟨t3, 0, none⟩)))
 have HB4 := Lib.hid ((HB2.out.trans (hb3.mono (Nat.le_trans HBB.out HB2.out.size))).setCell (p := ⟨gw, 0, none⟩) HG.out (.pointer (some ⟨t3, 0, none⟩)))
 have k2 := HX4.out.cell (i := 2) rfl
 clear ht3 hb3 hx3
 go_wp2
 go_returns
 exact ⟨rfl, ⟨_, HX4.out, HG.out, HT4.out⟩, HB4.out⟩
end Go.Proofs.YtjnklbfhelbjgaaGreat
