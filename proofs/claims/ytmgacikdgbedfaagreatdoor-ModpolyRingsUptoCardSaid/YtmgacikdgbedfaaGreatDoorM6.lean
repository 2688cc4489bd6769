/- A copy of a list that may be written. -/
import Derived.Test.YtmgacikdgbedfaaGreatDoorM4
import Derived.Test.YtmgacikdgbedfaaGreatDoorM5
namespace Go.Proofs.YtmgacikdgbedfaaGreatDoor
open Go.RowKit Go.IntWalk

/-- Block g begins with the words L. -/
def UP (w : World) (g : Nat) (L : List Nat) : Prop := ∃ cur, w.heap[g]? = some (.cells cur 24 (0, 0)) ∧ L.length ≤ cur.size ∧ cur.toList.take L.length = uc L
theorem UP.lt {w : World} {g : Nat} {L : List Nat} (h : UP w g L) : g < w.heap.size := h.elim fun _ h => (Array.getElem?_eq_some_iff.1 h.1).1
theorem UP.cell {w : World} {g : Nat} {L : List Nat} (h : UP w g L) {j u : Nat} (hu : L[j]? = some u) : w.cell? ⟨g, j, none⟩ = some (.int .u32 u) := by
  obtain ⟨cur, h1, h2, h3⟩ := h
  rw [cell_of_row w g j _ _ _ h1]
  have h5 := uc_at hu
  rw [← h3, List.getElem?_take_of_lt (some_lt hu)] at h5
  rw [← Array.getElem?_toList]
  exact h5
theorem UP.frozen {w : World} {g : Nat} {L : List Nat} (h : UP w g L) (j : Nat) : w.frozen? ⟨g, j, none⟩ = false := h.elim fun _ h => frozen_of_row w g j _ _ h.1
theorem UP.set {w : World} {g : Nat} {L : List Nat} (h : UP w g L) (k u : Nat) : UP (w.setCell ⟨g, k, none⟩ (.int .u32 u)) g (L.set k u) := by
  obtain ⟨cur, h1, h2, h3⟩ := h
  refine ⟨cur.setIfInBounds k (.int .u32 u), ?_, by simpa using h2, ?_⟩
  · simp [World.setCell, Array.getElem?_modify, h1]
  · rw [uc_set, ← h3, List.length_set, Array.toList_setIfInBounds, List.take_set]
theorem UP.far {w : World} {g : Nat} {L : List Nat} (h : UP w g L) {p : Addr} (hp : g ≠ p.block) (u : Value) : UP (w.setCell p u) g L := by
  obtain ⟨cur, h1, h2⟩ := h
  exact ⟨cur, (Below.heap_setCell w p u g hp).trans h1, h2⟩
theorem UP.below {w w' : World} {g B : Nat} {L : List Nat} (h : UP w g L) (hb : Below B w w') (hg : g < B) : UP w' g L := by
  obtain ⟨cur, h1, h2⟩ := h
  exact ⟨cur, (hb.block g hg).trans h1, h2⟩
theorem UP.drewN {w : World} {g : Nat} {L : List Nat} (h : UP w g L) (n : Nat) : UP (w.drewN n) g L := h
theorem UP.po {w : World} {g b : Nat} {L : List Nat} (h : UP w g L) (hw : Dg.Wd L) (hb : b ≤ g) {k c : Nat} (hk : k ≤ L.length) (hkc : k ≤ c) (hm : c ≤ maxLen) : Po w b (some ⟨g, 0, none⟩) k c (L.take k) := by
  obtain ⟨cur, h1, h2, h3⟩ := h
  refine ⟨by rw [List.length_take]; omega, hkc, hm, hw.take k, .inr ⟨g, cur, rfl, hb, h1, by omega, ?_⟩⟩
  rw [uc_take, ← h3, List.take_take, Nat.min_eq_left hk]
theorem uc_one (L : List Nat) : ∀ v ∈ uc L, v.oneCell' = true := by
  intro v hv
  obtain ⟨x, _, rfl⟩ := List.mem_map.1 hv
  rfl
theorem RdU.nil_of {w : World} {B n c : Nat} {L : List Nat} (h : RdU w B none n c L) : n = 0 := by
  apply Classical.byContradiction
  intro hn
  obtain ⟨_, ad, e, _⟩ := h.at_ 0 (Dg.ld L 0) (Dg.get_of_ld (by rw [h.len]; omega))
  cases e
theorem row_up {w : World} {b : Nat} {v : Value} {n : Nat} {L : List Nat} (h : w.ownsRow b 24 1 v n (uc L)) (hn : L.length = n) (h0 : 0 < n) : ∃ g c, v = .slice (some ⟨g, 0, none⟩) n c ∧ b ≤ g ∧ UP w g L ∧ n ≤ c ∧ c ≤ maxLen := by
  rcases h.2 with ⟨_, h1⟩ | ⟨g, cap, cur, rfl, h2, h3, h4, h5, h6, h7⟩
  · omega
  · exact ⟨g, cap, rfl, h2, ⟨cur, h3, by omega, by rw [hn]; simpa using h7⟩, h4, h5⟩

/-- A copy comes back. -/
def RetCl (n : Nat) (L : List Nat) (w : World) (e : Ending) (w' : World) : Prop :=
  ∃ (A : Option Addr) (c : Nat), e = .returned (.slice A n c) ∧ Hid (n = 0 ∨ ∃ g, A = some ⟨g, 0, none⟩ ∧ w.heap.size ≤ g ∧ UP w' g L) ∧ n ≤ c ∧ c ≤ maxLen ∧ Below w.heap.size w w'
set_option maxRecDepth 100000 in
set_option maxHeartbeats 1000000 in
theorem mclone_any {A : Option Addr} {n c : Nat} {L : List Nat} {w : World} (h : RdU w w.heap.size A n c L) (hn : n ≤ 8796093022208) :
    Calls Tryz.prog 95 #[.slice A n c] w (RetCl n L w) := by
  have HLEN := Lib.hid h.len
  obtain ⟨i0, hi, hz0, hz1, hz2⟩ := info_parts infoW
  have heq := fun (W : World) => Lib.run_eql_slice_nil (P := Tryz.prog) W 22 24 A n c 0 0 Tryz.underlying22
  rcases A with _ | ad
  · have hn0 := h.nil_of
    subst hn0
    have hc := h.mx
    go_enter Tryz.func95, Tryz.ntmps95
    go_wp2
    go_ret
    exact ⟨none, 0, rfl, Lib.hid (.inl rfl), Nat.le_refl _, Nat.zero_le 9223372036854775807, Below.refl w.heap.size w⟩
  · have hB0 := below1 w (.cells #[] 24)
    have hR := h.below hB0
    have hsrc : ∀ (j : Nat) v, (uc L)[j]? = some v → (w.alloc (.cells #[] 24)).cell? (ad.add j) = some v := by
      intro j v hv
      have hlt : 0 < (uc L).length := by
        rcases Nat.lt_or_ge j (uc L).length with h1 | h1
        · omega
        · rw [List.getElem?_eq_none h1] at hv; cases hv
      obtain ⟨_, ad', e, hc⟩ := hR.src ad hlt
      injection e with e
      subst e
      exact hc j v hv
    have HSRC := Lib.hid hsrc
    have HUCL := Lib.hid (show (uc L).length = n * 1 by rw [uc_len, HLEN.out, Nat.mul_one])
    have hown : (w.alloc (.cells #[] 24)).ownsRow w.heap.size 24 1 (.slice (some ⟨w.heap.size, 0, none⟩) 0 0) 0 [] :=
      ⟨rfl, .inr ⟨w.heap.size, 0, #[], rfl, Nat.le_refl _, heap_alloc_new w _, Nat.le_refl _, Nat.zero_le _, rfl, rfl⟩⟩
    clear hsrc
    go_enter Tryz.func95, Tryz.ntmps95
    go_wp2_with (at_builtin; refine wpList_append_own _ rfl _ _ 22 rfl w.heap.size 24 i0 (.int .u32 0) 1 4 Tryz.underlying22 hi hz0 hz1 hz2 rfl (by decide) _ _ _ rfl hown ad n c (uc L) rfl HUCL.out HSRC.out (uc_one L) (by unfold maxLen; omega) (by omega) (by simp) ?_; intro v' w1 hown' hgrow _)
    have hB1 := hB0.grown hgrow (by simp) (fun k e => by cases e; exact Nat.le_refl _)
    rw [Nat.zero_add, List.nil_append] at hown'
    rcases Nat.eq_zero_or_pos n with h0 | h0
    · subst h0
      obtain ⟨A', c', rfl, hc'⟩ : ∃ A' c', v' = .slice A' 0 c' ∧ c' ≤ maxLen := by
        rcases hown'.2 with ⟨rfl, _⟩ | ⟨g, cap, cur, rfl, _, _, _, h5, _⟩
        · exact ⟨none, 0, rfl, Nat.zero_le _⟩
        · exact ⟨_, cap, rfl, h5⟩
      go_ret
      exact ⟨A', c', rfl, Lib.hid (.inl rfl), Nat.zero_le _, hc', hB1⟩
    · obtain ⟨g, c', rfl, hbg, hup, hc1, hc2⟩ := row_up hown' HLEN.out h0
      go_ret
      exact ⟨_, c', rfl, Lib.hid (.inr ⟨g, rfl, hbg, hup⟩), hc1, hc2, hB1⟩
end Go.Proofs.YtmgacikdgbedfaaGreatDoor
