/- qpoly.Squarefree at the document's example. -/
import Derived.Test.YtipbpdiahemmpaaGreatQ35
import Derived.Test.YtipbpdiahemmpaaGreatQ33
import Derived.Test.YtipbpdiahemmpaaGreatQ30
namespace Go.Proofs.YtipbpdiahemmpaaGreat
open Go.RowKit Go.IntWalk
attribute [local go_sem ↓] Go.wp_at_zero Go.wp_at_succ

/-- The five cells of a number with a list of powers. -/
def FC (w : World) (g : Nat) (s : Bool) (A : Option Addr) (n c : Nat) (s' : Bool) (A' : Option Addr) (n' c' : Nat) (Al : Option Addr) (nl cl : Nat) : Prop := w.heap[g]? = some (.cells #[.bool s, .slice A n c, .bool s', .slice A' n' c', .slice Al nl cl] 175 (0, 0))
section
variable {w w' : World} {g b : Nat} {s s' : Bool} {A A' Al : Option Addr} {n c n' c' nl cl : Nat}
theorem FC.lt (h : FC w g s A n c s' A' n' c' Al nl cl) : g < w.heap.size := (Array.getElem?_eq_some_iff.1 h).1
theorem FC.c0 (h : FC w g s A n c s' A' n' c' Al nl cl) : w.cell? ⟨g, 0, none⟩ = some (.bool s) := by rw [cell_of_row w g 0 _ _ _ h]; rfl
theorem FC.c1 (h : FC w g s A n c s' A' n' c' Al nl cl) : w.cell? ⟨g, 1, none⟩ = some (.slice A n c) := by rw [cell_of_row w g 1 _ _ _ h]; rfl
theorem FC.c2 (h : FC w g s A n c s' A' n' c' Al nl cl) : w.cell? ⟨g, 2, none⟩ = some (.bool s') := by rw [cell_of_row w g 2 _ _ _ h]; rfl
theorem FC.c3 (h : FC w g s A n c s' A' n' c' Al nl cl) : w.cell? ⟨g, 3, none⟩ = some (.slice A' n' c') := by rw [cell_of_row w g 3 _ _ _ h]; rfl
theorem FC.c4 (h : FC w g s A n c s' A' n' c' Al nl cl) : w.cell? ⟨g, 4, none⟩ = some (.slice Al nl cl) := by rw [cell_of_row w g 4 _ _ _ h]; rfl
theorem FC.fz (h : FC w g s A n c s' A' n' c' Al nl cl) (j : Nat) : w.frozen? ⟨g, j, none⟩ = false := frozen_of_row w g j _ _ h
theorem FC.next (h : FC w g s A n c s' A' n' c' Al nl cl) (hb : Below w.heap.size w w') : FC w' g s A n c s' A' n' c' Al nl cl := (hb.block g h.lt).trans h
theorem FC.new (w : World) (s : Bool) (A : Option Addr) (n c : Nat) (s' : Bool) (A' : Option Addr) (n' c' : Nat) (Al : Option Addr) (nl cl : Nat) : FC (w.alloc (.cells #[.bool s, .slice A n c, .bool s', .slice A' n' c', .slice Al nl cl] 175)) w.heap.size s A n c s' A' n' c' Al nl cl := heap_alloc_new w _
theorem FC.far (h : FC w g s A n c s' A' n' c' Al nl cl) {p : Addr} (hp : g ≠ p.block) (u : Value) : FC (w.setCell p u) g s A n c s' A' n' c' Al nl cl := (Below.heap_setCell w p u g hp).trans h
theorem FC.list (h : FC w g s A n c s' A' n' c' Al nl cl) (D : Option Addr) (k m : Nat) : FC (w.setCell ⟨g, 4, none⟩ (.slice D k m)) g s A n c s' A' n' c' D k m := by
  unfold FC at *
  simp [World.setCell, Array.getElem?_modify, h]
/-- All five cells are stored. -/
def putF (w : World) (g : Nat) (t : Bool) (D : Option Addr) (k m : Nat) (t' : Bool) (D' : Option Addr) (k' m' : Nat) (Dl : Option Addr) (kl ml : Nat) : World := ((((w.setCell ⟨g, 0, none⟩ (.bool t)).setCell ⟨g, 1, none⟩ (.slice D k m)).setCell ⟨g, 2, none⟩ (.bool t')).setCell ⟨g, 3, none⟩ (.slice D' k' m')).setCell ⟨g, 4, none⟩ (.slice Dl kl ml)
theorem FC.store (h : FC w g s A n c s' A' n' c' Al nl cl) (t : Bool) (D : Option Addr) (k m : Nat) (t' : Bool) (D' : Option Addr) (k' m' : Nat) (Dl : Option Addr) (kl ml : Nat) : FC (putF w g t D k m t' D' k' m' Dl kl ml) g t D k m t' D' k' m' Dl kl ml := by
  unfold FC putF at *
  simp [World.setCell, Array.getElem?_modify, h]
theorem putF_at {t : Bool} {D : Option Addr} {k m : Nat} {t' : Bool} {D' : Option Addr} {k' m' : Nat} {Dl : Option Addr} {kl ml : Nat} {i : Nat} (hne : i ≠ g) : (putF w g t D k m t' D' k' m' Dl kl ml).heap[i]? = w.heap[i]? := by
  unfold putF
  rw [Below.heap_setCell _ (⟨g, 4, none⟩ : Addr) _ i hne, Below.heap_setCell _ (⟨g, 3, none⟩ : Addr) _ i hne, Below.heap_setCell _ (⟨g, 2, none⟩ : Addr) _ i hne, Below.heap_setCell _ (⟨g, 1, none⟩ : Addr) _ i hne, Below.heap_setCell _ (⟨g, 0, none⟩ : Addr) _ i hne]
theorem FC.keep (h : FC w g s A n c s' A' n' c' Al nl cl) (t : Bool) (D : Option Addr) (k m : Nat) (t' : Bool) (D' : Option Addr) (k' m' : Nat) (Dl : Option Addr) (kl ml : Nat) : KeepT w (putF w g t D k m t' D' k' m' Dl kl ml) := fun i cs f e => by
  rw [putF_at (i := i)]
  · exact e
  · rintro rfl
    unfold FC at h
    rw [h] at e
    simp at e
theorem below_putF {B : Nat} (hb : Below B w w') (hg : B ≤ g) (t : Bool) (D : Option Addr) (k m : Nat) (t' : Bool) (D' : Option Addr) (k' m' : Nat) (Dl : Option Addr) (kl ml : Nat) : Below B w (putF w' g t D k m t' D' k' m' Dl kl ml) :=
  ((((hb.setCell (p := ⟨g, 0, none⟩) hg _).setCell (p := ⟨g, 1, none⟩) hg _).setCell (p := ⟨g, 2, none⟩) hg _).setCell (p := ⟨g, 3, none⟩) hg _).setCell (p := ⟨g, 4, none⟩) hg _
/-- An append to a row of another type. -/
theorem heap_grown {w1 : World} {e t : TypeId} {k i : Nat} {v : Value} {xs : List Value} {cs : Array Value} {f : Nat × Nat} (hE : w.ownsRow b e k v n xs) (hg : w.grownBy w1 v.ownBlock) (hi : w.heap[i]? = some (.cells cs t f)) (ht : t ≠ e) : w1.heap[i]? = some (.cells cs t f) := by
  rw [← hi]
  refine hg.block i (Array.getElem?_eq_some_iff.1 hi).1 ?_
  rcases hE.2 with ⟨h1, _⟩ | ⟨g, cap, cur, h1, h2, h3, _⟩
  · rw [h1]
    intro e0
    cases e0
  · rw [h1]
    intro e0
    cases e0
    rw [hi] at h3
    injection h3 with h3
    injection h3 with _ h3
    exact ht h3
theorem keepQ_row {w1 : World} {e : TypeId} {k : Nat} {v : Value} {xs : List Value} (hE : w.ownsRow b e k v n xs) (h1 : 35 ≠ e) (h2 : 56 ≠ e) (hg : w.grownBy w1 v.ownBlock) : KeepQ w w1 := ⟨fun _ _ _ h => heap_grown hE hg h h1, fun _ _ _ h => heap_grown hE hg h h2⟩
theorem FC.grown {w1 : World} {xs : List Value} {v : Value} {k m : Nat} (h : FC w g s A n c s' A' n' c' Al nl cl) (hE : w.ownsRow b 119 k v m xs) (hg : w.grownBy w1 v.ownBlock) : FC w1 g s A n c s' A' n' c' Al nl cl := heap_grown hE hg h (by decide)
theorem wcell_new (w : World) (x y : Value) (t : TypeId) : ∀ j a, [x, y][j]? = some a → (w.alloc (.cells #[x, y] t)).cell? ((⟨w.heap.size, 0, none⟩ : Addr).add j) = some a := by
  intro j a hj
  match j, hj with
  | 0, hj => simp at hj; subst hj; simp [Addr.add]
  | 1, hj => simp at hj; subst hj; simp [Addr.add]
  | (j + 2), hj => simp at hj
/-- A row that is not empty. -/
theorem row_form {e : TypeId} {k : Nat} {xs : List Value} (h : w.ownsRow b e k (.slice A n c) n xs) (h0 : 0 < n) : ∃ g, A = some ⟨g, 0, none⟩ ∧ b ≤ g ∧ g < w.heap.size ∧ n ≤ c ∧ c ≤ maxLen ∧ ∃ cur, w.heap[g]? = some (.cells cur e (0, 0)) := by
  rcases h.2 with ⟨h1, h2⟩ | ⟨g, cap, cur, h1, h2, h3, h4, h5, _⟩
  · omega
  · injection h1 with h1 h1' h1''
    subst h1''
    exact ⟨g, h1, h2, (Array.getElem?_eq_some_iff.1 h3).1, h4, h5, cur, h3⟩
/-- A store into a block of another type. -/
theorem keepQ_set {p : Addr} {cs : Array Value} {t : TypeId} {f : Nat × Nat} (h : w.heap[p.block]? = some (.cells cs t f)) (h1 : t ≠ 35) (h2 : t ≠ 56) (v : Value) : KeepQ w (w.setCell p v) := by
  refine ⟨KeepT.set h h1 v, fun i c f' e => ?_⟩
  have hne : i ≠ p.block := by
    rintro rfl
    rw [h] at e
    simp at e
    exact h2 e.2.1
  exact (Below.heap_setCell w p v i hne).trans e
theorem FC.keepQ (h : FC w g s A n c s' A' n' c' Al nl cl) (j : Nat) (v : Value) : KeepQ w (w.setCell ⟨g, j, none⟩ v) := keepQ_set (p := ⟨g, j, none⟩) h (by decide) (by decide) v
theorem row_set {e : TypeId} {k m : Nat} {v : Value} {xs : List Value} (h : w.ownsRow b e k v m xs) {p : Addr} {cs : Array Value} {t : TypeId} {f : Nat × Nat} (hp : w.heap[p.block]? = some (.cells cs t f)) (ht : t ≠ e) (u : Value) : (w.setCell p u).ownsRow b e k v m xs := by
  refine ⟨h.1, ?_⟩
  rcases h.2 with h0 | ⟨g, cap, cur, h1, h2, h3, h4⟩
  · exact .inl h0
  · refine .inr ⟨g, cap, cur, h1, h2, (Below.heap_setCell w p u g ?_).trans h3, h4⟩
    rintro rfl
    rw [hp] at h3
    injection h3 with h3
    injection h3 with _ h3
    exact ht h3
end
theorem infoPw : (Tryz.prog.info? 119).map (fun i => (i.zero, i.size, i.bytes)) = some (some (.agg #[.slice none 0 0, .int .i64 0]), 2, 32) := by kernel_rfl
/-- The list of powers so far: the counts stand in the second cells. -/
def Pws (vs : List Value) (j : Nat) : Prop := vs.length = j * 2 ∧ ∀ i, i < j → vs[i * 2 + 1]? = some (.int .i64 ((i + 1 : Nat) : Int))
theorem Pws.snoc {vs : List Value} {j : Nat} (h : Pws vs j) (v : Value) : Pws (vs ++ [v, .int .i64 ((j + 1 : Nat) : Int)]) (j + 1) := by
  refine ⟨by rw [List.length_append, h.1]; simp; omega, fun i hi => ?_⟩
  rcases Nat.lt_or_ge i j with h1 | h1
  · rw [List.getElem?_append_left (by rw [h.1]; omega)]
    exact h.2 i h1
  · obtain rfl : i = j := by omega
    rw [List.getElem?_append_right (by rw [h.1]; omega), h.1, show i * 2 + 1 - i * 2 = 1 by omega]
    rfl
/-- What Squarefree leaves at the example. -/
def RetSf (b : Nat) (w : World) (e : Ending) (w' : World) : Prop :=
  ∃ (s : Bool) (A : Option Addr) (n c : Nat) (s' : Bool) (A' : Option Addr) (n' c' g c2 : Nat), e = .returned (.tuple #[.agg #[.bool s, .slice A n c, .bool s', .slice A' n' c', .slice (some ⟨g, 0, none⟩) 2 c2], .int .i64 0]) ∧ OwQ w' b s A n c s' A' n' c' 2 ∧ Hid (g < w'.heap.size ∧ 2 ≤ c2 ∧ w'.cell? ⟨g, 3, none⟩ = some (.int .i64 2)) ∧ Below w.heap.size w w'

theorem isp_check {f : Nat → Rat} {M : List Int} (K : Nat) (hM : Pz.Nz M) (hl : M.length ≤ K) (h0 : ∀ i, K ≤ i → f i = 0) (h : ∀ i, i < K → Pq.co (qz M) i = f i) : Pq.IsP f (qz M) :=
  ⟨nz_qz hM, fun i => by
    rcases Nat.lt_or_ge i K with hi | hi
    · exact h i hi
    · rw [h0 i hi, Pq.co_ge (by rw [qz_len]; omega)]⟩
set_option maxRecDepth 100000 in
set_option maxHeartbeats 2000000 in
theorem sqIn_run {b c : Nat} {A : Option Addr} {w : World} (h : OwPs w b A 1 c [qz [0, 0, -2, 2]]) :
    Calls Tryz.prog 207 #[.slice A 1 c] w (RetSf b w) := by
  obtain ⟨i0, hi0, hz0, hz1, hz2⟩ := info_parts infoPw
  obtain ⟨ga, A1, n1, c1, L, rfl, hbk, hx, ho, hL⟩ := opl_at h (show 0 < 1 by decide)
  obtain rfl : qz [0, 0, -2, 2] = L := by have := hL.out; simpa using this
  obtain rfl : n1 = 4 := by rw [← ho.len]; rfl
  have HL := Lib.hid (opl_at h (show 0 < 1 by decide))
  have HO := Lib.hid ho
  clear h ho
  go_enter Tryz.func207, Tryz.ntmps207
  have hb1 : Below w.heap.size w (w.alloc (.cells #[.bool false, .slice none 0 0, .bool false, .slice none 0 0, .slice none 0 0] 175)) := (Below.refl _ _).alloc (Nat.le_refl _) _
  have hFR := FC.new w false none 0 0 false none 0 0 none 0 0
  have hx1 := (hb1.cell (p := ⟨ga, 0, none⟩) hbk).trans hx
  have hn4 : (4 : Int) - 1 = 3 := by decide
  have hw4 : IntKind.i64.wrap 3 = 3 := by decide
  have hsm : Sm [0, 0, -2, 2] := by decide
  obtain ⟨E0, _, _, _, _, hor0⟩ := HO.out
  obtain ⟨g0, cs0, rfl, _, _, _⟩ := hor0.resolve_left (by omega)
  obtain ⟨ad, s1, A2, n2, c2, s2, A3, n3, c3, x, e0, hbk2, hx2, hx3, hx4, hx5, hr, hp⟩ := op_at (HO.out.next hb1) (show 3 < 4 by decide)
  injection e0 with e0
  subst e0
  have HX2 := Lib.hid (show x = 2 by have := hp.out; simpa [qz] using this.symm)
  have hq1 := Lib.hid (And.intro hb1 (And.intro hFR hr))
  have hg0 : g0 < (w.alloc (.cells #[.bool false, .slice none 0 0, .bool false, .slice none 0 0, .slice none 0 0] 175)).heap.size := hbk2
  obtain ⟨z0, z1, z2, z3⟩ : (w.alloc (.cells #[.bool false, .slice none 0 0, .bool false, .slice none 0 0, .slice none 0 0] 175)).cell? ⟨g0, 12, none⟩ = some (.bool s1) ∧ (w.alloc (.cells #[.bool false, .slice none 0 0, .bool false, .slice none 0 0, .slice none 0 0] 175)).cell? ⟨g0, 13, none⟩ = some (.slice A2 n2 c2) ∧ (w.alloc (.cells #[.bool false, .slice none 0 0, .bool false, .slice none 0 0, .slice none 0 0] 175)).cell? ⟨g0, 14, none⟩ = some (.bool s2) ∧ (w.alloc (.cells #[.bool false, .slice none 0 0, .bool false, .slice none 0 0, .slice none 0 0] 175)).cell? ⟨g0, 15, none⟩ = some (.slice A3 n3 c3) := ⟨hx2, hx3, hx4, hx5⟩
  have HHX := Lib.hid hx
  have HHB := Lib.hid hbk
  clear hx2 hx3 hx4 hx5 hor0 hp hr hbk2 hb1 hFR
  go_upto_region 3 with fail
  generalize w.alloc (.cells #[.bool false, .slice none 0 0, .bool false, .slice none 0 0, .slice none 0 0] 175) = W1 at *
  have hb2 : Below W1.heap.size W1 (W1.alloc (.cells #[.bool false, .slice none 0 0, .bool false, .slice none 0 0, .slice none 0 0] 175)) := (Below.refl _ _).alloc (Nat.le_refl _) _
  have hx2 := (hb2.cell (p := ⟨ga, 0, none⟩) (Nat.lt_of_lt_of_le hbk hq1.out.1.size)).trans hx1
  have y0 := (hb2.cell (p := ⟨g0, 12, none⟩) hg0).trans z0
  have y1 := (hb2.cell (p := ⟨g0, 13, none⟩) hg0).trans z1
  have y2 := (hb2.cell (p := ⟨g0, 14, none⟩) hg0).trans z2
  have y3 := (hb2.cell (p := ⟨g0, 15, none⟩) hg0).trans z3
  have HB2 := Lib.hid (show ∀ o, Below W1.heap.size W1 (W1.alloc o).drew from fun o => ((Below.refl _ _).alloc (Nat.le_refl _) _).drew)
  clear hb2 hsm HL
  go_cut [4] from 19 to 29 (fun pv V => ∃ (g4 : Nat), pv = .pointer (some ⟨g4, 0, none⟩) ∧ FC V g4 s1 A2 n2 c2 s2 A3 n3 c3 none 0 0 ∧ Hid (W1.heap.size ≤ g4) ∧ Below W1.heap.size W1 V)
  case first =>
    go_region_law (fail)
    all_goals
      go_wp2
      go_meet
      exact ⟨_, rfl, (FC.new W1 s1 A2 n2 c2 s2 A3 n3 c3 none 0 0).next (Below.refl _ _).drew, Lib.hid (Nat.le_refl _), HB2.out _⟩
  case rest =>
    obtain ⟨g4, rfl, hF4, hg4, hb4⟩ := hcut
    clear y0 y1 y2 y3 z0 z1 z2 z3 hx2 HB2
    have hB4 := hq1.out.1.trans (hb4.mono hq1.out.1.size)
    have hFR := hq1.out.2.1.next hb4
    have hr := hq1.out.2.2.next hb4
    have hoL := HO.out.next hB4
    have hx4 := (hB4.cell (p := ⟨ga, 0, none⟩) hbk).trans hx
    have hrL := hoL.rd (N := 1) (show Sm [0, 0, -2, 2] by decide).qs
    have HQ := Lib.hid (And.intro hF4 (And.intro hFR hr))
    have HG4 := Lib.hid (show w.heap.size < g4 ∧ g4 < wc.heap.size from ⟨Nat.lt_of_lt_of_le hq1.out.2.1.lt hg4.out, hF4.lt⟩)
    have HB4 := Lib.hid hB4
    clear hx hx1 hF4 hFR hr hb4 hoL hB4 HO HHX HHB hq1
    go_wp2_with fail
    refine (qmonic_any hrL (nz_qz (nz_check (by decide))) (by decide) (by decide) (Nat.le_refl _)).mono ?_
    rintro _ W5 ⟨A5, n5, c5, M5, rfl, ho5, hM5, hb5⟩
    have HM5 := Lib.hid (show M5 = qz [0, 0, -1, 1] from hM5.out.unique (isp_check 4 (nz_check (by decide)) (by decide) (fun i hi => by rw [Pq.co_ge (by exact hi), Rat.zero_mul]) (by decide +kernel)))
    obtain rfl := HM5.out
    obtain rfl : n5 = 4 := by rw [← ho5.len]; rfl
    have HR5 := Lib.hid (show ∀ W, Below W5.heap.size W5 W → RdQs W W.heap.size 1 A5 4 c5 ((qz [0, 0, -1, 1]).map pr) from fun W hb => (ho5.next hb).rd (N := 1) (show Sm [0, 0, -1, 1] by decide).qs)
    have HB5 := Lib.hid (And.intro (HB4.out.trans (hb5.mono HB4.out.size)) (And.intro hb5 ho5))
    clear hrL hx4 hM5 HM5 hb5 ho5
    go_wp2_with fail
    refine (qderive_any (HR5.out _ (Below.refl _ _)) (by decide) (by decide) (Nat.le_refl _)).mono ?_
    rintro _ W6 ⟨A6, n6, c6, M6, rfl, ho6, hM6, hb6⟩
    have HM6 := Lib.hid (show M6 = qz [0, -2, 3] from hM6.out.unique (isp_check 4 (nz_check (by decide)) (by decide) (fun i hi => by rw [Pq.co_ge (by rw [show (qz [0, 0, -1, 1]).length = 4 from rfl]; omega), Rat.zero_mul]) (by decide +kernel)))
    obtain rfl := HM6.out
    have hr6 := ho6.rd (N := 1) (show Sm [0, -2, 3] by decide).qs
    have HB6 := Lib.hid hb6
    clear hM6 HM6 hb6 ho6
    go_wp2_with fail
    refine (qgcd_run (HR5.out _ HB6.out) hr6 gok3).mono ?_
    rintro _ W7 ⟨A7, n7, c7, M7, rfl, ho7, hM7, hb7⟩
    obtain rfl := hM7.out
    have HB7 := Lib.hid (HB6.out.trans (hb7.mono HB6.out.size))
    have hr7 := ho7.rd (N := 1) (show Sm [0, 1] by decide).qs
    have HO7 := Lib.hid (ho7.base (b' := w.heap.size) (Nat.le_trans HB5.out.1.size HB6.out.size))
    clear hM7 hb7 ho7 hr6
    go_wp2_with fail
    refine (qdiv_ok (HB5.out.2.2.next HB7.out) hr7 dok1 (Nat.le_trans HB5.out.2.1.size HB7.out.size)).mono ?_
    rintro _ W8 ⟨A8, n8, c8, Q8, A9, n9, c9, R9, rfl, ho8, ho9, hQR, hb8⟩
    obtain ⟨rfl, rfl⟩ := hQR.out
    have HB8 := Lib.hid (HB7.out.trans (hb8.mono HB7.out.size))
    have HB0 := Lib.hid (HB5.out.1.trans (HB8.out.mono HB5.out.1.size))
    have HF8 := Lib.hid (show FC W8 g4 s1 A2 n2 c2 s2 A3 n3 c3 none 0 0 ∧ FC W8 w.heap.size false none 0 0 false none 0 0 none 0 0 ∧ OwQ W8 b s1 A2 n2 c2 s2 A3 n3 c3 x from by
      have h := HB5.out.2.1.trans (HB8.out.mono HB5.out.2.1.size)
      exact ⟨HQ.out.1.next h, HQ.out.2.1.next h, HQ.out.2.2.next h⟩)
    have HO8 := Lib.hid (And.intro (HO7.out.next hb8) (ho8.base (b' := w.heap.size) HB4.out.size))
    clear hr7 hQR hb8 ho8 ho9 HQ
    go_wp2_with fail
    go_loopw [6, 7, 9] (fun gv wv kv wr => ∃ (i : Nat) (Ag : Option Addr) (ng cg : Nat) (Aw : Option Addr) (nw cw : Nat) (Al : Option Addr) (cl : Nat) (vs : List Value), gv = .slice Ag ng cg ∧ wv = .slice Aw nw cw ∧ kv = .int .i64 ((i + 1 : Nat) : Int) ∧ i ≤ 2 ∧ OwQp wr w.heap.size Ag ng cg (qz (gT i)) ∧ OwQp wr w.heap.size Aw nw cw (qz (wT i)) ∧ FC wr g4 s1 A2 n2 c2 s2 A3 n3 c3 Al i cl ∧ FC wr w.heap.size false none 0 0 false none 0 0 none 0 0 ∧ OwQ wr b s1 A2 n2 c2 s2 A3 n3 c3 x ∧ wr.ownsRow w.heap.size 119 2 (.slice Al i cl) i vs ∧ Hid (Pws vs i) ∧ Below w.heap.size w wr) (fun _ _ kv _ => 3 - (intOf kv).toNat)
    case atStart => exact ⟨0, _, _, _, _, _, _, none, 0, [], rfl, rfl, rfl, by decide, HO8.out.1, HO8.out.2, HF8.out.1, HF8.out.2.1, HF8.out.2.2, World.ownsRow_nil _ _ _ _, Lib.hid ⟨rfl, fun i hi => absurd hi (Nat.not_lt_zero i)⟩, HB0.out⟩
    case round =>
      obtain ⟨i, Ag, ng, cg, Aw, nw, cw, Al, cl, vs, rfl, rfl, rfl, hi, hog, how, hF, hFR, hr, hrow, hvs, hB⟩ := hrel
      by_cases hi2 : i = 2
      · subst hi2
        obtain rfl : nw = 1 := by rw [← how.len]; rfl
        have k0 := hF.c0
        have k1 := hF.c1
        have k2 := hF.c2
        have k3 := hF.c3
        have k4 := hF.c4
        have r0 := hFR.c0
        have r1 := hFR.c1
        have r2 := hFR.c2
        have r3 := hFR.c3
        have r4 := hFR.c4
        have f0 := hFR.fz 0
        have f1 := hFR.fz 1
        have f2 := hFR.fz 2
        have f3 := hFR.fz 3
        have f4 := hFR.fz 4
        have HS := Lib.hid (hFR.store s1 A2 n2 c2 s2 A3 n3 c3 Al 2 cl)
        have HK := Lib.hid (hr.keep (hFR.keep s1 A2 n2 c2 s2 A3 n3 c3 Al 2 cl))
        have HBF := Lib.hid (below_putF hB (Nat.le_refl _) s1 A2 n2 c2 s2 A3 n3 c3 Al 2 cl)
        obtain ⟨gl, rfl, hgl1, hgl2, hcl1, hcl2, cur, hcur⟩ := row_form hrow (by decide)
        have hce := hrow.cellAt 3 (by decide)
        have HCE := Lib.hid (show gl < (putF wr w.heap.size s1 A2 n2 c2 s2 A3 n3 c3 (some ⟨gl, 0, none⟩) 2 cl).heap.size ∧ 2 ≤ cl ∧ (putF wr w.heap.size s1 A2 n2 c2 s2 A3 n3 c3 (some ⟨gl, 0, none⟩) 2 cl).cell? ⟨gl, 3, none⟩ = some (.int .i64 2) from by
          have hne : gl ≠ w.heap.size := by
            rintro rfl
            unfold FC at hFR
            rw [hFR] at hcur
            simp at hcur
          have h1 : (putF wr w.heap.size s1 A2 n2 c2 s2 A3 n3 c3 (some ⟨gl, 0, none⟩) 2 cl).heap[gl]? = some (.cells cur 119 (0, 0)) := (putF_at hne).trans hcur
          refine ⟨(Array.getElem?_eq_some_iff.1 h1).1, hcl1, ?_⟩
          rw [cell_of_row _ gl 3 _ _ _ h1, ← cell_of_row wr gl 3 _ _ _ hcur, hce]
          exact hvs.out.2 1 (by decide))
        obtain rfl := HX2.out
        have z0 := HS.out.c0
        have z1 := HS.out.c1
        have z2 := HS.out.c2
        have z3 := HS.out.c3
        have z4 := HS.out.c4
        unfold putF at HS HK HBF HCE z0 z1 z2 z3 z4
        clear hrow hce hcur hF hFR hr hog how hB
        go_wp2_with fail
        exact bodyPost_ret (by simp [results, Tryz.results207, go_sem, z0, z1, z2, z3, z4]) rfl ⟨s1, A2, n2, c2, s2, A3, n3, c3, gl, cl, rfl, HK.out, HCE, HBF.out⟩
      · obtain ⟨k, hk⟩ : ∃ k, k = i + 1 := ⟨_, rfl⟩
        have HR := Lib.hid (rounds (show i < 2 by omega))
        have HI := Lib.hid (show i < 2 by omega)
        have hkb : k ≤ 2 := by omega
        have hnw : (1 : Int) < (nw : Int) := by rw [← how.len, qz_len]; have := HR.out.2.2.2.1; omega
        have HG := Lib.hid hog
        have hrw := how.rd (N := 1) HR.out.2.2.2.2.2.2.1.qs
        have hrg := hog.rd (N := 1) HR.out.2.2.2.2.2.2.2.1.qs
        have HW := Lib.hid how
        rw [← hk]
        have HK := Lib.hid hk
        have HF := Lib.hid (show ∀ W, Below wr.heap.size wr W → FC W g4 s1 A2 n2 c2 s2 A3 n3 c3 Al i cl ∧ FC W w.heap.size false none 0 0 false none 0 0 none 0 0 ∧ OwQ W b s1 A2 n2 c2 s2 A3 n3 c3 x ∧ W.ownsRow w.heap.size 119 2 (.slice Al i cl) i vs from fun W hb => ⟨hF.next hb, hFR.next hb, hr.next hb, row_next hrow hb⟩)
        have HB := Lib.hid hB
        have HN4 := Lib.hid hF.lt
        clear hog how hF hFR hr hrow hB hi hi2 hk
        go_wp2_with fail
        refine (qgcd_run hrw hrg HR.out.1).mono ?_
        rintro _ W9 ⟨A9, n9, c9, M9, rfl, ho9, hM9, hb9⟩
        obtain rfl := hM9.out
        have HB9 := Lib.hid hb9
        have HO9 := Lib.hid (show ∀ W, Below W9.heap.size W9 W → RdQs W W.heap.size 1 A9 n9 c9 ((qz (wT (i + 1))).map pr) ∧ OwQp W w.heap.size A9 n9 c9 (qz (wT (i + 1))) from fun W hb => ⟨(ho9.next hb).rd (N := 1) HR.out.2.2.2.2.2.2.2.2.qs, (ho9.next hb).base HB.out.size⟩)
        clear hM9 hb9 ho9 hrw hrg
        go_wp2_with fail
        refine (qdiv_ok (HW.out.next HB9.out) (HO9.out _ (Below.refl _ _)).1 HR.out.2.1 (Nat.le_trans HB.out.size HB9.out.size)).mono ?_
        rintro _ W10 ⟨A10, n10, c10, Q10, A11, n11, c11, R11, rfl, ho10, ho11, hQR, hb10⟩
        obtain ⟨rfl, rfl⟩ := hQR.out
        obtain rfl : n10 = 2 := by rw [← ho10.len, qz_len]; exact HR.out.2.2.2.2.1
        have HB10 := Lib.hid (And.intro hb10 (HB9.out.trans (hb10.mono HB9.out.size)))
        obtain ⟨hF, hFR, hr, hrow⟩ := HF.out _ HB10.out.2
        have k4 := hF.c4
        have HRW := Lib.hid hrow
        have HFS := Lib.hid (And.intro hF (And.intro hFR hr))
        have HSZ := Lib.hid (Nat.le_trans HB.out.size HB10.out.2.size)
        have HOG := Lib.hid ((HG.out.next HB10.out.2))
        have hil : i ≤ 2 := by have := HI.out; omega
        have HBA := Lib.hid (show (FC W10 g4 s1 A2 n2 c2 s2 A3 n3 c3 Al i cl → FC (W10.alloc (.cells #[.slice A10 2 c10, .int .i64 (k : Int)] 119)) g4 s1 A2 n2 c2 s2 A3 n3 c3 Al i cl) ∧ Below W10.heap.size W10 (W10.alloc (.cells #[.slice A10 2 c10, .int .i64 (k : Int)] 119)) from ⟨fun h => h.next ((Below.refl _ _).alloc (Nat.le_refl _) _), (Below.refl _ _).alloc (Nat.le_refl _) _⟩)
        have HY := Lib.hid (HO9.out _ hb10).2
        clear hQR hb10 ho10 ho11 hF hFR hr hrow
        go_wp2_with (at_builtin; refine wpList_append_own _ rfl _ _ 114 rfl w.heap.size 119 i0 (.agg #[.slice none 0 0, .int .i64 0]) 2 32 Tryz.underlying114 hi0 hz0 hz1 hz2 rfl (by decide) _ _ _ rfl (HRW.out.alloc _) ⟨W10.heap.size, 0, none⟩ 1 1 [.slice A10 2 c10, .int .i64 (k : Int)] rfl rfl (wcell_new _ _ _ _) (by simp [Value.oneCell']) (by unfold maxLen; omega) (by omega) (by have := HSZ.out; simp at this ⊢; omega) ?_; intro v' w1 hown' hgrow _; obtain ⟨A12, c12, rfl⟩ := row_sl hown'; have HF1 := Lib.hid (FC.grown (v := .slice Al i cl) (HBA.out.1 HFS.out.1) (HRW.out.alloc _) hgrow); have f4 := HF1.out.fz 4; have k5 := HF1.out.c4)
        have hkq : KeepQ (W10.alloc (.cells #[.slice A10 2 c10, .int .i64 (k : Int)] 119)) (w1.setCell ⟨g4, 4, none⟩ (.slice A12 (i + 1) c12)) := by
          have h1 := keepQ_row (v := .slice Al i cl) (HRW.out.alloc (.cells #[.slice A10 2 c10, .int .i64 (k : Int)] 119)) (by decide) (by decide) hgrow
          have h2 := HF1.out.keepQ 4 (.slice A12 (i + 1) c12)
          exact ⟨h1.1.trans h2.1, fun a b c h => h2.2 a b c (h1.2 a b c h)⟩
        have hgA := (HOG.out.next HBA.out.2).keep hkq
        have hyA := (HY.out.next HBA.out.2).keep hkq
        have hrA := (HFS.out.2.2.next HBA.out.2).keep hkq.1
        have hFA := HF1.out.list A12 (i + 1) c12
        have hFB := (FC.grown (v := .slice Al i cl) (HFS.out.2.1.next HBA.out.2) (HRW.out.alloc _) hgrow).far (p := ⟨g4, 4, none⟩) (Nat.ne_of_lt HG4.out.1) (.slice A12 (i + 1) c12)
        have hrB := row_set hown' (p := ⟨g4, 4, none⟩) HF1.out (by decide) (.slice A12 (i + 1) c12)
        have hbA : Below w.heap.size w (w1.setCell ⟨g4, 4, none⟩ (.slice A12 (i + 1) c12)) := by
          have h1 := HB.out.trans ((HB10.out.2.trans (HBA.out.2.mono HB10.out.2.size)).mono HB.out.size)
          exact (h1.grown hgrow h1.size (own_block (v := .slice Al i cl) HRW.out)).setCell (p := ⟨g4, 4, none⟩) (Nat.le_of_lt HG4.out.1) _
        have HV := Lib.hid (show Pws (vs ++ [.slice A10 2 c10, .int .i64 (k : Int)]) (i + 1) by rw [HK.out]; exact hvs.out.snoc _)
        generalize w1.setCell ⟨g4, 4, none⟩ (.slice A12 (i + 1) c12) = W12 at *
        have hryA := hyA.rd (N := 1) HR.out.2.2.2.2.2.2.2.2.qs
        have HALL := Lib.hid (show ∀ W, Below W12.heap.size W12 W → OwQp W w.heap.size A9 n9 c9 (qz (wT (i + 1))) ∧ OwQ W b s1 A2 n2 c2 s2 A3 n3 c3 x ∧ FC W g4 s1 A2 n2 c2 s2 A3 n3 c3 A12 (i + 1) c12 ∧ FC W w.heap.size false none 0 0 false none 0 0 none 0 0 ∧ W.ownsRow w.heap.size 119 2 (.slice A12 (i + 1) c12) (i + 1) (vs ++ [.slice A10 2 c10, .int .i64 (k : Int)]) from fun W hb => ⟨hyA.next hb, hrA.next hb, hFA.next hb, hFB.next hb, row_next hrB hb⟩)
        have HBL := Lib.hid hbA
        clear hkq hyA hrA hFA hFB hrB hbA hown' hgrow f4 k4 k5 HF1
        refine (qdiv_ok hgA hryA HR.out.2.2.1 HBL.out.size).mono ?_
        rintro _ W13 ⟨A13, n13, c13, Q13, A14, n14, c14, R14, rfl, ho13, ho14, hQR, hb13⟩
        obtain ⟨rfl, rfl⟩ := hQR.out
        obtain ⟨r1, r2, r3, r4, r5⟩ := HALL.out _ hb13
        have HB13 := Lib.hid (HBL.out.trans (hb13.mono HBL.out.size))
        have HR13 := Lib.hid (And.intro r1 (And.intro r2 (And.intro r3 (And.intro r4 r5))))
        clear hgA hryA hb13 ho14 hQR r1 r2 r3 r4 r5
        go_wp2
        go_roundw
        case rel => exact ⟨i + 1, _, _, _, _, _, _, A12, c12, _, rfl, rfl, by rw [HK.out]; go_num, HI.out, ho13, HR13.out.1, HR13.out.2.2.1, HR13.out.2.2.2.1, HR13.out.2.1, HR13.out.2.2.2.2, HV, HB13.out⟩
        case measure => simp [intOf]; have := HK.out; omega
end Go.Proofs.YtipbpdiahemmpaaGreat
