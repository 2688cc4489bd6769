/- Divisors: the program's. -/
import Derived.Test.YtjnhfakdpnnboaaDoorZa
import Derived.Test.YtjnhfakdpnnboaaDoorW11
import Derived.Test.YtjnhfakdpnnboaaDoorNt11
import Derived.Maps.AppendAt
namespace Go.Proofs.YtjnhfakdpnnboaaDoor
open Go.RowKit Go.IntWalk

theorem infoZ : (Tryd.prog.info? 25).map (fun i => (i.zero, i.size, i.bytes)) = some (some (.int .u32 0), 1, 4) := by kernel_rfl
/-- The words C in block g, a row of this function's own. -/
def LU (w : World) (b g c : Nat) (C : List Nat) : Prop := w.ownsRow b 25 1 (.slice (some ⟨g, 0, none⟩) C.length c) C.length (uc C)
theorem LU.lt {w : World} {b g c : Nat} {C : List Nat} (h : LU w b g c C) : g < w.heap.size := by
  rcases h.2 with ⟨h1, _⟩ | ⟨g', cap, cur, h1, h2, h3, _⟩
  · cases h1
  · injection h1 with h1; injection h1 with h1; injection h1 with h1
    subst h1
    exact (Array.getElem?_eq_some_iff.1 h3).1
theorem LU.le {w : World} {b g c : Nat} {C : List Nat} (h : LU w b g c C) : b ≤ g ∧ C.length ≤ c ∧ c ≤ maxLen := by
  rcases h.2 with ⟨h1, _⟩ | ⟨g', cap, cur, h1, h2, h3, h4, h5, _⟩
  · cases h1
  · injection h1 with h1 _ h1'; injection h1 with h1; injection h1 with h1
    subst h1; subst h1'
    exact ⟨h2, h4, h5⟩
theorem LU.cell {w : World} {b g c : Nat} {C : List Nat} (h : LU w b g c C) {j u : Nat} (hu : C[j]? = some u) : w.cell? ⟨g, j, none⟩ = some (.int .u32 u) := by
  have hj := some_lt hu
  exact (h.cellAt j (by omega)).trans (uc_at hu)
theorem LU.ox {w w' : World} {b g q c : Nat} {C : List Nat} (h : LU w b g c C) (hO : Ox q w w') (hne : g ≠ q) : LU w' b g c C := by
  have hl := h.lt
  refine ⟨h.1, ?_⟩
  rcases h.2 with ⟨h1, _⟩ | ⟨g', cap, cur, h1, h2, h3, h4⟩
  · cases h1
  · have e : g = g' := by injection h1 with h1; injection h1 with h1; injection h1 with h1
    subst e
    exact .inr ⟨g, cap, cur, h1, h2, (hO.far g hne hl).trans h3, h4⟩
theorem LU.below {w w' : World} {b B g c : Nat} {C : List Nat} (h : LU w b g c C) (hb : Below B w w') (hB : g < B) : LU w' b g c C := by
  refine ⟨h.1, ?_⟩
  rcases h.2 with ⟨h1, _⟩ | ⟨g', cap, cur, h1, h2, h3, h4⟩
  · cases h1
  · have e : g = g' := by injection h1 with h1; injection h1 with h1; injection h1 with h1
    subst e
    exact .inr ⟨g, cap, cur, h1, h2, (hb.block g hB).trans h3, h4⟩
/-- The row as the sort takes it. -/
theorem LU.sb {w : World} {b g c : Nat} {C : List Nat} (h : LU w b g c C) : ∃ rest, SB w g C.toArray rest := by
  rcases h.2 with ⟨h1, _⟩ | ⟨g', cap, cur, h1, h2, h3, h4, h5, h6, h7⟩
  · cases h1
  · have e : g = g' := by injection h1 with h1; injection h1 with h1; injection h1 with h1
    subst e
    refine ⟨cur.toList.drop (C.length * 1), ?_⟩
    unfold SB
    rw [h3, List.toList_toArray, ← h7, List.take_append_drop]
/-- Since world W0, where the row lay in block g0: all but the row is as it was. -/
structure Kp (W0 : World) (g0 : Nat) (w : World) (g : Nat) : Prop where
  ox : Ox g0 W0 w
  at_ : g = g0 ∨ W0.heap.size ≤ g
theorem Kp.start (w : World) (g : Nat) : Kp w g w g := ⟨Ox.refl _ _, .inl rfl⟩
theorem Kp.next {W0 w w' : World} {g0 g g' : Nat} (h : Kp W0 g0 w g) (hO : Ox g w w') (hg : g' = g ∨ w.heap.size ≤ g') : Kp W0 g0 w' g' := by
  refine ⟨⟨hO.os.trans h.ox.os, hO.tape.trans h.ox.tape, hO.output.trans h.ox.output, Nat.le_trans h.ox.size hO.size, fun b hb hl => ?_⟩, ?_⟩
  · refine (hO.far b ?_ (Nat.lt_of_lt_of_le hl h.ox.size)).trans (h.ox.far b hb hl)
    rcases h.at_ with e | e
    · rw [e]; exact hb
    · omega
  · have := h.ox.size
    rcases hg with rfl | hg
    · exact h.at_
    · exact .inr (by omega)
theorem Kp.cell {W0 w : World} {g0 g : Nat} (h : Kp W0 g0 w g) {a : Addr} (ha : a.block < W0.heap.size) (hne : a.block ≠ g0) : w.cell? a = W0.cell? a :=
  World.cell?_of_block (h.ox.far a.block hne ha)
theorem Ox.of_below {w w' : World} (g : Nat) (h : Below w.heap.size w w') : Ox g w w' := ⟨h.os, h.tape, h.output, h.size, fun b _ hl => h.block b hl⟩
theorem Kp.below {W0 w : World} {g0 g B : Nat} (h : Kp W0 g0 w g) (hB : B ≤ g0) (hs : B ≤ W0.heap.size) : Below B W0 w := h.ox.below hB hs
/-- One word more. -/
theorem LU.more {W w1 : World} {b g c x : Nat} {C : List Nat} {v' : Value} {o : Obj} (hown' : w1.ownsRow b 25 1 v' (C.length + 1) (uc C ++ [Value.int .u32 x]))
    (hg : (W.alloc o).grownBy w1 (Value.ownBlock (.slice (some ⟨g, 0, none⟩) C.length c))) (hat : v'.ownBlock = Value.ownBlock (.slice (some ⟨g, 0, none⟩) C.length c) ∨ v'.ownBlock = some (W.alloc o).heap.size) :
    ∃ g' c', v' = .slice (some ⟨g', 0, none⟩) (C ++ [x]).length c' ∧ LU w1 b g' c' (C ++ [x]) ∧ Ox g W w1 ∧ (g' = g ∨ W.heap.size ≤ g') := by
  obtain ⟨g', c', rfl⟩ := ownsRow_succ hown'
  refine ⟨g', c', by rw [List.length_append]; rfl, ?_, ⟨hg.os, hg.tape, hg.output, by have := hg.size; simp at this; omega, fun k hk hl => ?_⟩, ?_⟩
  · unfold LU
    rw [uc_append, List.length_append]
    exact hown'
  · refine (hg.block k (by simp; omega) (fun e => hk ?_)).trans (Below.heap_alloc W o k hl)
    cases e; rfl
  · rcases hat with e | e
    · left; injection e
    · right
      have : g' = (W.alloc o).heap.size := by injection e
      simp at this
      omega
/-- A copy comes back. -/
def RetCw (L : List Nat) (w : World) (e : Ending) (w' : World) : Prop := ∃ g c, e = .returned (.slice (some ⟨g, 0, none⟩) L.length c) ∧ LU w' w.heap.size g c L ∧ Below w.heap.size w w'
set_option maxRecDepth 100000 in
set_option maxHeartbeats 1000000 in
theorem clone_any {g b c : Nat} {L : List Nat} {w : World} (h : LU w b g c L) (h0 : 0 < L.length) (hn : L.length ≤ 1099511627776) :
    Calls Tryd.prog 65 #[.slice (some ⟨g, 0, none⟩) L.length c] w (RetCw L w) := by
  obtain ⟨i0, hi, hz0, hz1, hz2⟩ := info_parts infoZ
  have heq := fun (W : World) => Lib.run_eql_slice_nil (P := Tryd.prog) W 49 25 (some ⟨g, 0, none⟩) L.length c 0 0 Tryd.underlying49
  have hB0 : Below w.heap.size w (w.alloc (.cells #[] 25)) := (Below.refl _ _).alloc (Nat.le_refl _) _
  have hR := h.below hB0 h.lt
  have HSRC : Hid (∀ (j : Nat) v, (uc L)[j]? = some v → (w.alloc (.cells #[] 25)).cell? ((⟨g, 0, none⟩ : Addr).add j) = some v) := Lib.hid (by
    intro j v hv
    have hj : j < L.length := by
      have := (List.getElem?_eq_some_iff.1 hv).1
      rwa [uc_len] at this
    obtain ⟨u, hu⟩ : ∃ u, L[j]? = some u := ⟨_, List.getElem?_eq_getElem hj⟩
    rw [uc_at hu] at hv
    have e : (⟨g, 0, none⟩ : Addr).add j = ⟨g, j, none⟩ := by unfold Addr.add; by_cases h : j = 0 <;> simp [h]
    rw [e, hR.cell hu, hv])
  have HUCL := Lib.hid (show (uc L).length = L.length * 1 by rw [uc_len, Nat.mul_one])
  have HONE := Lib.hid (show ∀ v ∈ uc L, v.oneCell' = true by
    intro v hv
    obtain ⟨x, _, rfl⟩ := List.mem_map.1 hv
    rfl)
  have hown : (w.alloc (.cells #[] 25)).ownsRow w.heap.size 25 1 (.slice (some ⟨w.heap.size, 0, none⟩) 0 0) 0 [] :=
    ⟨rfl, .inr ⟨w.heap.size, 0, #[], rfl, Nat.le_refl _, heap_alloc_new w _, Nat.le_refl _, Nat.zero_le _, rfl, rfl⟩⟩
  clear hR h
  go_enter Tryd.func65, Tryd.ntmps65
  go_wp2_with (at_builtin; refine wpList_append_own _ rfl _ _ 49 rfl w.heap.size 25 i0 (.int .u32 0) 1 4 Tryd.underlying49 hi hz0 hz1 hz2 rfl (by decide) _ _ _ rfl hown ⟨g, 0, none⟩ L.length c (uc L) rfl HUCL.out HSRC.out HONE.out (by unfold maxLen; omega) (by omega) (by simp) ?_; intro v' w1 hown' hgrow _)
  have hB1 := hB0.grown hgrow (by simp) (fun k e => by cases e; exact Nat.le_refl _)
  rw [Nat.zero_add, List.nil_append] at hown'
  obtain ⟨g', c', rfl⟩ : ∃ g' c', v' = .slice (some ⟨g', 0, none⟩) L.length c' := by
    rcases hown'.2 with ⟨_, h1⟩ | ⟨g', cap, cur, rfl, _⟩
    · omega
    · exact ⟨g', cap, rfl⟩
  go_ret
  exact ⟨g', c', rfl, hown', hB1⟩
end Go.Proofs.YtjnhfakdpnnboaaDoor
