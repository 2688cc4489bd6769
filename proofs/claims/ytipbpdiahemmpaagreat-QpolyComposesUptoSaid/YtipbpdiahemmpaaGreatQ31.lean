/- Lists of polynomials: those that came in, those of the call's own. -/
import Derived.Test.YtipbpdiahemmpaaGreatQ25
import Derived.Test.YtipbpdiahemmpaaGreatQ19
import Derived.Test.YtipbpdiahemmpaaGreatQ30
namespace Go.Proofs.YtipbpdiahemmpaaGreat
open Go.RowKit Go.IntWalk

/-- A slice of polynomials that came in, any numerators and denominators. -/
structure RdPs (w : World) (B N K : Nat) (A : Option Addr) (n c : Nat) (LL : List (List (Int × Int))) : Prop where
  len : LL.length = n
  le : n ≤ c
  mx : c ≤ maxLen
  at_ : ∀ (j : Nat) (L : List (Int × Int)), LL[j]? = some L → ∃ (ad : Addr) (A1 : Option Addr) (n1 c1 : Nat), A = some ad ∧ ad.block < B ∧ w.cell? (ad.add j) = some (.slice A1 n1 c1) ∧ RdQs w B N A1 n1 c1 L ∧ n1 ≤ K
section
variable {w w' : World} {B B' N K : Nat} {A : Option Addr} {n c : Nat} {LL : List (List (Int × Int))}
theorem RdPs.below (h : RdPs w B N K A n c LL) (hb : Below B w w') : RdPs w' B N K A n c LL :=
  ⟨h.len, h.le, h.mx, fun j L hp => by
    obtain ⟨ad, A1, n1, c1, h1, h2, h3, h4, h5⟩ := h.at_ j L hp
    exact ⟨ad, A1, n1, c1, h1, h2, (hb.cell (p := ad.add j) (by rw [add_blk]; exact h2)).trans h3, h4.below hb, h5⟩⟩
theorem RdPs.more (h : RdPs w B N K A n c LL) (hB : B ≤ B') : RdPs w B' N K A n c LL :=
  ⟨h.len, h.le, h.mx, fun j L hp => by
    obtain ⟨ad, A1, n1, c1, h1, h2, h3, h4, h5⟩ := h.at_ j L hp
    exact ⟨ad, A1, n1, c1, h1, Nat.lt_of_lt_of_le h2 hB, h3, h4.more hB, h5⟩⟩
theorem RdPs.next (h : RdPs w w.heap.size N K A n c LL) (hb : Below w.heap.size w w') : RdPs w' w'.heap.size N K A n c LL := (h.below hb).more hb.size
theorem ps_at (h : RdPs w B N K A n c LL) {j : Nat} (hj : j < n) :
    ∃ (ad : Addr) (A1 : Option Addr) (n1 c1 : Nat) (L : List (Int × Int)), A = some ad ∧ ad.block < B ∧ w.cell? (ad.add j) = some (.slice A1 n1 c1) ∧ RdQs w B N A1 n1 c1 L ∧ n1 ≤ K ∧ Hid (LL[j]? = some L) := by
  have hl : j < LL.length := by rw [h.len]; exact hj
  obtain ⟨ad, A1, n1, c1, h1, h2, h3, h4, h5⟩ := h.at_ j LL[j] (List.getElem?_eq_getElem hl)
  exact ⟨ad, A1, n1, c1, _, h1, h2, h3, h4, h5, Lib.hid (List.getElem?_eq_getElem hl)⟩
/-- One polynomial in a new row. -/
theorem ps_one {A1 : Option Addr} {n1 c1 : Nat} {L : List (Int × Int)} (h : RdQs w w.heap.size N A1 n1 c1 L) (hn : n1 ≤ K) {w1 : World} (hw : w1 = w.alloc (.cells #[.slice A1 n1 c1] 38)) :
    RdPs w1 w1.heap.size N K (some ⟨w.heap.size, 0, none⟩) 1 1 [L] := by
  have hb : Below w.heap.size w w1 := by rw [hw]; exact (Below.refl _ _).alloc (Nat.le_refl _) _
  have hr : w1.heap[w.heap.size]? = some (.cells #[.slice A1 n1 c1] 38 (0, 0)) := by rw [hw]; exact heap_alloc_new w _
  have hlt : w.heap.size < w1.heap.size := (Array.getElem?_eq_some_iff.1 hr).1
  refine ⟨rfl, Nat.le_refl _, by unfold maxLen; omega, fun j y hy => ?_⟩
  match j, hy with
  | 0, hy =>
    simp at hy
    subst hy
    exact ⟨_, A1, n1, c1, rfl, hlt, by rw [add_base, cell_of_row w1 _ _ _ _ _ hr]; rfl, h.next hb, hn⟩
  | j + 1, hy => simp at hy
/-- Two polynomials in a new row. -/
theorem ps_two {A1 A2 : Option Addr} {n1 c1 n2 c2 : Nat} {L L' : List (Int × Int)} (h : RdQs w w.heap.size N A1 n1 c1 L) (h' : RdQs w w.heap.size N A2 n2 c2 L') (hn : n1 ≤ K) (hn' : n2 ≤ K) {w1 : World} (hw : w1 = w.alloc (.cells #[.slice A1 n1 c1, .slice A2 n2 c2] 38)) :
    RdPs w1 w1.heap.size N K (some ⟨w.heap.size, 0, none⟩) 2 2 [L, L'] := by
  have hb : Below w.heap.size w w1 := by rw [hw]; exact (Below.refl _ _).alloc (Nat.le_refl _) _
  have hr : w1.heap[w.heap.size]? = some (.cells #[.slice A1 n1 c1, .slice A2 n2 c2] 38 (0, 0)) := by rw [hw]; exact heap_alloc_new w _
  have hlt : w.heap.size < w1.heap.size := (Array.getElem?_eq_some_iff.1 hr).1
  refine ⟨rfl, Nat.le_refl _, by unfold maxLen; omega, fun j y hy => ?_⟩
  match j, hy with
  | 0, hy =>
    simp at hy
    subst hy
    exact ⟨_, A1, n1, c1, rfl, hlt, by rw [add_base, cell_of_row w1 _ _ _ _ _ hr]; rfl, h.next hb, hn⟩
  | 1, hy =>
    simp at hy
    subst hy
    exact ⟨_, A2, n2, c2, rfl, hlt, by rw [add_base, cell_of_row w1 _ _ _ _ _ hr]; rfl, h'.next hb, hn'⟩
  | j + 2, hy => simp at hy
end

def psl (e : Option Addr × Nat × Nat) : Value := .slice e.1 e.2.1 e.2.2
/-- Each entry is a polynomial of the call's own. -/
def EntP (w : World) (b : Nat) (E : List (Option Addr × Nat × Nat)) (LL : List (List Rat)) : Prop := E.length = LL.length ∧ ∀ (j : Nat) (e : Option Addr × Nat × Nat) (L : List Rat), E[j]? = some e → LL[j]? = some L → OwQp w b e.1 e.2.1 e.2.2 L
/-- A row of polynomials of the call's own, at or beyond block b. -/
def OwPs (w : World) (b : Nat) (A : Option Addr) (n c : Nat) (LL : List (List Rat)) : Prop :=
  ∃ E : List (Option Addr × Nat × Nat), w.ownsRow b 38 1 (.slice A n c) n (E.map psl) ∧ E.length = n ∧ EntP w b E LL
section
variable {w w' : World} {b b' : Nat} {A : Option Addr} {n c : Nat} {LL : List (List Rat)} {E : List (Option Addr × Nat × Nat)}
theorem EntP.next (h : EntP w b E LL) (hb : Below w.heap.size w w') : EntP w' b E LL := ⟨h.1, fun j e z he hz => (h.2 j e z he hz).next hb⟩
theorem EntP.base (h : EntP w b E LL) (hb : b' ≤ b) : EntP w b' E LL := ⟨h.1, fun j e z he hz => (h.2 j e z he hz).base hb⟩
theorem EntP.keep (h : EntP w b E LL) (hk : KeepQ w w') : EntP w' b E LL := ⟨h.1, fun j e z he hz => (h.2 j e z he hz).keep hk⟩
theorem EntP.snoc (h : EntP w b E LL) {e : Option Addr × Nat × Nat} {L : List Rat} (he : OwQp w b e.1 e.2.1 e.2.2 L) : EntP w b (E ++ [e]) (LL ++ [L]) := by
  refine ⟨by rw [List.length_append, List.length_append, h.1]; rfl, fun j e' z' h1 h2 => ?_⟩
  rcases Nat.lt_or_ge j E.length with hj | hj
  · rw [List.getElem?_append_left hj] at h1
    rw [List.getElem?_append_left (by rw [← h.1]; exact hj)] at h2
    exact h.2 j e' z' h1 h2
  · rw [List.getElem?_append_right hj] at h1
    rw [List.getElem?_append_right (by rw [← h.1]; exact hj)] at h2
    rw [← h.1] at h2
    have hj0 : j - E.length = 0 := by
      rcases Nat.eq_zero_or_pos (j - E.length) with e0 | e0
      · exact e0
      · rw [List.getElem?_eq_none (by simp; omega)] at h1; cases h1
    rw [hj0] at h1 h2
    simp at h1 h2
    subst h1 h2
    exact he
theorem OwPs.len (h : OwPs w b A n c LL) : LL.length = n := by
  obtain ⟨E, _, h2, h3⟩ := h
  rw [← h3.1, h2]
theorem OwPs.nil (w : World) (b : Nat) : OwPs w b none 0 0 [] := ⟨[], World.ownsRow_nil _ _ _ _, rfl, rfl, fun j e z he _ => by simp at he⟩
theorem OwPs.next (h : OwPs w b A n c LL) (hb : Below w.heap.size w w') : OwPs w' b A n c LL := by
  obtain ⟨E, h1, h2, h3⟩ := h
  exact ⟨E, row_next h1 hb, h2, h3.next hb⟩
theorem OwPs.base (h : OwPs w b A n c LL) (hb : b' ≤ b) : OwPs w b' A n c LL := by
  obtain ⟨E, h1, h2, h3⟩ := h
  exact ⟨E, row_base h1 hb, h2, h3.base hb⟩
theorem OwPs.form (h : OwPs w b A n c LL) : (A = none ∧ n = 0 ∧ c = 0) ∨ ∃ g, A = some ⟨g, 0, none⟩ ∧ b ≤ g ∧ g < w.heap.size ∧ n ≤ c ∧ c ≤ maxLen := by
  obtain ⟨E, h, _, _⟩ := h
  rcases h.2 with ⟨h1, h2⟩ | ⟨g, cap, cur, h1, h2, h3, h4, h5, _⟩
  · injection h1 with h1 h1' h1''
    exact .inl ⟨h1, h2, h1''⟩
  · injection h1 with h1 h1' h1''
    subst h1''
    exact .inr ⟨g, h1, h2, (Array.getElem?_eq_some_iff.1 h3).1, h4, h5⟩
theorem keepQ_grown {w1 : World} {xs : List Value} (hE : w.ownsRow b 38 1 (.slice A n c) n xs) (hg : w.grownBy w1 (Value.slice A n c).ownBlock) : KeepQ w w1 := by
  have key : ∀ (i : Nat) (cs : Array Value) (t : TypeId) (f : Nat × Nat), t ≠ 38 → w.heap[i]? = some (.cells cs t f) → w1.heap[i]? = some (.cells cs t f) := by
    intro i cs t f ht hi
    rw [← hi]
    refine hg.block i (Array.getElem?_eq_some_iff.1 hi).1 ?_
    rcases hE.2 with ⟨h1, _⟩ | ⟨g, cap, cur, h1, h2, h3, _⟩
    · rw [h1]
      intro e0
      cases e0
    · rw [h1]
      intro e0
      cases e0
      rw [hi] at h3
      injection h3 with h3
      injection h3 with _ h3
      exact ht h3
  exact ⟨fun i cs f => key i cs _ f (by decide), fun i cs f => key i cs _ f (by decide)⟩
/-- One polynomial more. -/
theorem ps_more {wb w1 : World} {v' : Value} {e : Option Addr × Nat × Nat} {L : List Rat} {t : TypeId} (he : OwQp w b e.1 e.2.1 e.2.2 L) (hwb : wb = w.alloc (.cells #[.slice e.1 e.2.1 e.2.2] t)) (hE : wb.ownsRow b 38 1 (.slice A n c) n (E.map psl)) (hEl : E.length = n) (hEn : EntP wb b E LL)
    (hown' : w1.ownsRow b 38 1 v' (n + 1) (E.map psl ++ [.slice e.1 e.2.1 e.2.2])) (hg : wb.grownBy w1 (Value.slice A n c).ownBlock) :
    ∃ (A' : Option Addr) (c' : Nat), v' = .slice A' (n + 1) c' ∧ OwPs w1 b A' (n + 1) c' (LL ++ [L]) := by
  obtain ⟨A', c', rfl⟩ := row_sl hown'
  have hba : Below w.heap.size w wb := by rw [hwb]; exact (Below.refl w.heap.size w).alloc (Nat.le_refl _) _
  have hk := keepQ_grown hE hg
  refine ⟨A', c', rfl, E ++ [e], ?_, by rw [List.length_append, hEl]; rfl, ?_⟩
  · rw [List.map_append]; exact hown'
  · exact (hEn.snoc (he.next hba)).keep hk
/-- An entry, with its cell. -/
theorem opl_at (h : OwPs w b A n c LL) {j : Nat} (hj : j < n) :
    ∃ (g : Nat) (A1 : Option Addr) (n1 c1 : Nat) (L : List Rat), A = some ⟨g, 0, none⟩ ∧ g < w.heap.size ∧ w.cell? ⟨g, j, none⟩ = some (.slice A1 n1 c1) ∧ OwQp w b A1 n1 c1 L ∧ Hid (LL[j]? = some L) := by
  have hl := h.len
  rcases h.form with ⟨_, h0, _⟩ | ⟨g, rfl, h1, h2, h3, h4⟩
  · omega
  · obtain ⟨E, hr, hE, hel⟩ := h
    have hjE : j < E.length := by omega
    have hjL : j < LL.length := by omega
    refine ⟨g, E[j].1, E[j].2.1, E[j].2.2, LL[j], rfl, h2, ?_, hel.2 j _ _ (List.getElem?_eq_getElem hjE) (List.getElem?_eq_getElem hjL), Lib.hid (List.getElem?_eq_getElem hjL)⟩
    have := hr.cellAt j (by omega)
    rw [this, List.getElem?_map, List.getElem?_eq_getElem hjE]
    rfl
end
theorem infoPoly : (Tryz.prog.info? 38).map (fun i => (i.zero, i.size, i.bytes)) = some (some (.slice none 0 0), 1, 24) := by kernel_rfl
end Go.Proofs.YtipbpdiahemmpaaGreat

/- qpoly.norms: a function of polynomials in normal form. -/
namespace Go.Proofs.YtipbpdiahemmpaaGreat
open Go.RowKit Go.IntWalk
attribute [local go_sem ↓] Go.wp_at_zero Go.wp_at_succ

theorem pcell_new (w : World) (x : Value) (t : TypeId) : ∀ j a, [x][j]? = some a → (w.alloc (.cells #[x] t)).cell? ((⟨w.heap.size, 0, none⟩ : Addr).add j) = some a := by
  intro j a hj
  match j, hj with
  | 0, hj => simp at hj; subst hj; simp [Addr.add]
  | (j + 1), hj => simp at hj
/-- A list in normal form, of what came in. -/
abbrev nq (L : List (Int × Int)) : List Rat := Pq.nrm (L.map qval)
theorem mapn_snoc {L : List (List (Int × Int))} {j : Nat} {p : List (Int × Int)} (h : L[j]? = some p) : (L.take j).map nq ++ [nq p] = (L.take (j + 1)).map nq := by
  rw [List.take_add_one, h]
  simp
/-- A polynomial and an error's number come back; the polynomial lies at block b or beyond. -/
def RetPqE (b : Nat) (Φ : List Rat → Int → Prop) (w : World) (e : Ending) (w' : World) : Prop :=
  ∃ (A : Option Addr) (n c : Nat) (M : List Rat) (kk : Int), e = .returned (.tuple #[.slice A n c, .int .i64 kk]) ∧ OwQp w' b A n c M ∧ Hid (Φ M kk) ∧ Below w.heap.size w w'

set_option maxRecDepth 100000 in
set_option maxHeartbeats 8000000 in
theorem norms_poly {f N K : Nat} {A : Option Addr} {n c : Nat} {LL : List (List (Int × Int))} {w : World} {Φ : List Rat → Int → Prop} (h : RdPs w w.heap.size N K A n c LL) (hn : n ≤ 1048576) (hK : K ≤ 1048576) (hN : N ≤ 1000000000000) (h1N : 1 ≤ N) (heg : ∀ args w, (callFunc f args).run Tryz.prog w = .ok (.enter f args) w)
    (hdo : (∀ L ∈ LL, ∀ p ∈ L, p.2 ≠ 0) → ∀ (W : World) (A' : Option Addr) (c' : Nat), Below w.heap.size w W → OwPs W w.heap.size A' n c' (LL.map nq) → Calls Tryz.prog f #[.slice A' n c'] W (RetPqE w.heap.size Φ W)) :
    Calls Tryz.prog 123 #[.slice A n c, .func (.func f) #[] #[]] w fun e w' => ((∀ L ∈ LL, ∀ p ∈ L, p.2 ≠ 0) ∧ RetPqE w.heap.size Φ w e w') ∨ ((∃ L ∈ LL, ∃ p ∈ L, p.2 = 0) ∧ e = .returned (.tuple #[.slice none 0 0, .int .i64 6]) ∧ Below w.heap.size w w') := by
  have HD := Lib.hid hdo
  have HLEN := Lib.hid h.len
  obtain ⟨i0, hi, hz0, hz1, hz2⟩ := info_parts infoPoly
  clear hdo
  go_enter Tryz.func123, Tryz.ntmps123
  go_wp2_with fail
  go_loopw [7, 14] (fun ov iv wr => ∃ (j c' : Nat) (A' : Option Addr) (M : List (List Rat)), ov = .slice A' j c' ∧ iv = .int .i64 j ∧ j ≤ n ∧ OwPs wr w.heap.size A' j c' M ∧ Hid (M = (LL.take j).map nq) ∧ Hid (∀ (i : Nat) (L : List (Int × Int)), i < j → LL[i]? = some L → ∀ p ∈ L, p.2 ≠ 0) ∧ Below w.heap.size w wr) (fun _ iv _ => n - (intOf iv).toNat)
  case atStart => exact ⟨0, 0, none, [], rfl, rfl, Nat.zero_le _, OwPs.nil _ _, Lib.hid rfl, Lib.hid fun i p hi => absurd hi (Nat.not_lt_zero _), Below.refl _ _⟩
  case round =>
    obtain ⟨j, c', A', M, rfl, rfl, hj, ho, hM, hne, hB⟩ := hrel
    by_cases hjn : j = n
    · subst hjn
      have HALL := Lib.hid (show ∀ L ∈ LL, ∀ p ∈ L, p.2 ≠ 0 from fun L hp => by
        obtain ⟨i, hi, e⟩ := List.mem_iff_getElem.1 hp
        exact hne.out i L (by rw [← HLEN.out]; exact hi) (by rw [List.getElem?_eq_getElem hi, e]))
      have HO := Lib.hid (show OwPs wr w.heap.size A' j c' (LL.map nq) by rw [← List.take_of_length_le (l := LL) (by rw [HLEN.out]; exact Nat.le_refl _), ← hM.out]; exact ho)
      have HB := Lib.hid hB
      clear ho hB hM hne
      go_wp2_with fail
      refine (HD.out HALL.out wr A' c' HB.out HO.out).mono ?_
      rintro _ W5 ⟨A5, n5, c5, M5, kk, rfl, ho5, hy, hb5⟩
      go_wp2
      exact bodyPost_ret (by simp [results, Tryz.results123, go_sem]) rfl (.inl ⟨HALL.out, _, _, _, M5, kk, rfl, ho5, hy, HB.out.trans (hb5.mono HB.out.size)⟩)
    · have hjl : j < n := by omega
      clear hjn
      have hjli : (j : Int) < (n : Int) := by omega
      obtain ⟨ad, A1, n1, c1, L, rfl, hbk, hx, hr, hn1, hp⟩ := ps_at h hjl
      have hy := (hB.cell (p := ad.add j) (by rw [add_blk]; exact hbk)).trans hx
      have HR := Lib.hid (hr.next hB)
      have HO := Lib.hid ho
      clear hx hr ho
      go_wp2_with fail
      clear hy
      refine (qpnorm_any HR.out (by omega) hN h1N).mono ?_
      rintro _ W3 (⟨hall, A4, n4, c4, M4, rfl, ho4, hM4, hb3⟩ | ⟨hex, rfl, hb3⟩)
      · have HALL := Lib.hid hall
        have hB3 := hB.trans (hb3.mono hB.size)
        obtain ⟨E, hE, hEl, hEn⟩ := HO.out.next hb3
        have HO4 := Lib.hid (ho4.base hB.size)
        have HE := Lib.hid hE
        have HEN := Lib.hid (And.intro hEl (hEn.next ((Below.refl _ _).alloc (Nat.le_refl _) (.cells #[.slice A4 n4 c4] 38))))
        have HM2 := Lib.hid (show M ++ [M4] = (LL.take (j + 1)).map nq by rw [hM.out, hM4.out]; exact mapn_snoc hp.out)
        have HNE2 := Lib.hid (show ∀ (i : Nat) (L : List (Int × Int)), i < j + 1 → LL[i]? = some L → ∀ p ∈ L, p.2 ≠ 0 from fun i L' hi hq => by
          rcases Nat.lt_or_ge i j with h1 | h1
          · exact hne.out i L' h1 hq
          · rw [show i = j by omega, hp.out] at hq
            injection hq with hq
            rw [← hq]
            exact HALL.out)
        have HB3 := Lib.hid hB3
        clear hE hEl hEn hb3 ho4 hB3 hB hM4 HO hne hM hall
        go_wp2_with (at_builtin; refine wpList_append_own _ rfl _ _ 68 rfl w.heap.size 38 i0 (.slice none 0 0) 1 24 Tryz.underlying68 hi hz0 hz1 hz2 rfl (by decide) _ _ _ rfl (HE.out.alloc _) ⟨W3.heap.size, 0, none⟩ 1 1 [.slice A4 n4 c4] rfl rfl (pcell_new _ _ _) (by simp [Value.oneCell']) (by unfold maxLen; omega) (by omega) (by have := HB3.out.size; simp; omega) ?_; intro v' w1 hown' hgrow _)
        have hmore := ps_more (e := (A4, n4, c4)) (L := M4) HO4.out rfl (HE.out.alloc _) HEN.out.1 HEN.out.2 hown' hgrow
        have HB5 := Lib.hid ((HB3.out.alloc HB3.out.size (.cells #[.slice A4 n4 c4] 38)).grown hgrow (by have := HB3.out.size; simp; omega) (own_block HE.out))
        obtain ⟨A5, c5, rfl, ho5⟩ := hmore
        clear hown' hgrow HE HEN HO4
        go_wp2
        go_roundw
        case rel => exact ⟨j + 1, c5, A5, M ++ [M4], rfl, by go_num, by omega, ho5, HM2, HNE2, HB5.out⟩
        case measure => simp [intOf]; omega
      · have HEX := Lib.hid (show ∃ L ∈ LL, ∃ p ∈ L, p.2 = 0 from ⟨L, List.mem_of_getElem? hp.out, hex⟩)
        go_wp2
        exact bodyPost_ret (by simp [results, Tryz.results123, go_sem]) rfl (.inr ⟨HEX.out, rfl, hB.trans (hb3.mono hB.size)⟩)
end Go.Proofs.YtipbpdiahemmpaaGreat

/- qpoly.gcd, Gcd: along told chains of integer polynomials. -/
namespace Go.Proofs.YtipbpdiahemmpaaGreat
open Go.RowKit Go.IntWalk
attribute [local go_sem ↓] Go.wp_at_zero Go.wp_at_succ

/-- Whole coefficients. -/
def qz (Z : List Int) : List Rat := Z.map fun z : Int => (z : Rat)
theorem co_qz (Z : List Int) (i : Nat) : Pq.co (qz Z) i = ((Pz.co Z i : Int) : Rat) := by
  rcases Nat.lt_or_ge i Z.length with h | h
  · unfold qz
    rw [Pq.co_get (by rw [List.getElem?_map, Pz.get_co h]; rfl)]
  · rw [Pq.co_ge (by unfold qz; rw [List.length_map]; exact h), Pz.co_ge h]
    rfl
theorem cast_zero {z : Int} (h : (z : Rat) = 0) : z = 0 := by
  have e := congrArg Rat.num h
  exact e
theorem nz_qz {Z : List Int} (h : Pz.Nz Z) : Pq.Nz (qz Z) := by
  intro hne
  have hz : Z ≠ [] := by rintro rfl; exact hne rfl
  have hl : 0 < Z.length := List.length_pos_iff.2 hz
  have e := Pz.nz_top h hl
  rw [List.getLast_eq_getElem]
  intro e0
  refine e (cast_zero ?_)
  rw [← co_qz]
  have e1 : (qz Z).length = Z.length := List.length_map ..
  have e2 := Pq.get_co (L := qz Z) (i := Z.length - 1) (by omega)
  rw [List.getElem?_eq_getElem (by omega)] at e2
  injection e2 with e2
  rw [← e2, ← e0]
  congr 1
  omega
theorem den_qz : ∀ (Z : List Int), denF 1 (qz Z) = 1
  | [] => rfl
  | z :: Z => by
    have ih := den_qz Z
    unfold denF qz at *
    rw [List.map_cons, List.foldl_cons, show ((Nat.lcm (Int.natAbs 1) (z : Rat).den : Nat) : Int) = 1 by rw [show (z : Rat).den = 1 from rfl]; rfl]
    exact ih
theorem take_qz (Z : List Int) (j : Nat) : (qz Z).take j = qz (Z.take j) := by unfold qz; rw [List.map_take]
theorem num_qz (Z : List Int) : numL (qz Z) = Z := by
  unfold numL
  rw [show denL (qz Z) = 1 from den_qz Z]
  unfold qz
  rw [List.map_map]
  refine (List.map_congr_left fun z _ => ?_).trans (List.map_id Z)
  show (z : Rat).num * (1 : Int).tdiv ((z : Rat).den : Int) = z
  rw [show (z : Rat).num = z from rfl, show ((z : Rat).den : Int) = 1 from rfl]
  simp
/-- Numbers below 2^32. -/
def Sm (Z : List Int) : Prop := ∀ z ∈ Z, z.natAbs < 4294967296
theorem Sm.co {Z : List Int} (h : Sm Z) (i : Nat) : (Pz.co Z i).natAbs < 4294967296 := by
  rcases Nat.lt_or_ge i Z.length with h1 | h1
  · exact h _ (List.mem_of_getElem? (Pz.get_co h1))
  · rw [Pz.co_ge h1]; decide
theorem Sm.qs {Z : List Int} (h : Sm Z) : ∀ x ∈ qz Z, Qs 1 x := fun x hx => by
  obtain ⟨z, hz, rfl⟩ := List.mem_map.1 hx
  exact Qs.int (Zz.zl_small (h z hz)) (Nat.le_refl _)
/-- What is asked of a told gcd. -/
def GcdOK (Z Z' D : List Int) : Prop :=
  Pz.Nz Z ∧ Pz.Nz Z' ∧ Sm Z ∧ Sm Z' ∧ Z.length ≤ 1000 ∧ Z'.length ≤ 1000 ∧ Pz.Nz D ∧ Sm D ∧ D.length ≤ 1000 ∧ Pz.co D (D.length - 1) = 1 ∧
    ∃ G, GRun (gst (pp Z) (pp Z')) G ∧ Pz.Nz G ∧ Sm G ∧ G.length ≤ 1000 ∧ ∀ i, Pz.co D i = Pz.co (pp G) i * (Int.gcd (prC Z) (prC Z') : Int)
/-- Whole coefficients come back. -/
def RetQz (D : List Int) (w : World) (e : Ending) (w' : World) : Prop :=
  ∃ (A : Option Addr) (n c : Nat) (M : List Rat), e = .returned (.slice A n c) ∧ OwQp w' w.heap.size A n c M ∧ Hid (M = qz D) ∧ Below w.heap.size w w'

set_option maxRecDepth 100000 in
set_option maxHeartbeats 4000000 in
theorem qgcd_run {A A' : Option Addr} {n c n' c' : Nat} {Z Z' D : List Int} {w : World} (h : RdQs w w.heap.size 1 A n c ((qz Z).map pr)) (h' : RdQs w w.heap.size 1 A' n' c' ((qz Z').map pr)) (hk : GcdOK Z Z' D) :
    Calls Tryz.prog 152 #[.slice A n c, .slice A' n' c'] w (RetQz D w) := by
  obtain ⟨hz, hz', hs, hs', hl, hl', hzd, hsd, hld, hd1, G, hT, hG, hGs, hGl, hD⟩ := hk
  have hn : n ≤ 1000 := by rw [← h.lenp]; unfold qz; rw [List.length_map]; exact hl
  have hn' : n' ≤ 1000 := by rw [← h'.lenp]; unfold qz; rw [List.length_map]; exact hl'
  have HS := Lib.hid (show ∀ (Z : List Int) (j : Nat), Zz.zl (denF 1 ((qz Z).take j)) ≤ 1 from fun Z j => by
    rw [take_qz, den_qz]
    exact Zz.zl_small (by decide))
  have HZ := Lib.hid (And.intro (And.intro hz hz') (And.intro hs hs'))
  have HD := Lib.hid (And.intro (And.intro hzd hsd) (And.intro hd1 hD))
  have HG := Lib.hid (And.intro hT (And.intro hG (And.intro hGs hGl)))
  have HLL := Lib.hid (And.intro hl (And.intro hl' hld))
  clear hz hz' hs hs' hl hl' hld hzd hsd hd1 hT hG hGs hGl hD
  go_enter Tryz.func152, Tryz.ntmps152
  go_wp2_with fail
  refine (parts_any (N := 1) (M := 1) h (HS.out Z) (by omega) (by omega) (by omega) (Nat.le_refl _)).mono ?_
  rintro _ W1 ⟨s1, A1, n1, c1, y1, A2, n2, c2, P1, rfl, ho1, ho2, hy1, hb1⟩
  have hb2 : Below W1.heap.size W1 (W1.alloc (.cells #[.bool s1, .slice A1 n1 c1] 28)) := (Below.refl _ _).alloc (Nat.le_refl _) _
  obtain ⟨W2, HW2⟩ : ∃ W, W = W1.alloc (.cells #[.bool s1, .slice A1 n1 c1] 28) := ⟨_, rfl⟩
  rw [← HW2] at hb2
  have hB2 := hb1.trans (hb2.mono hb1.size)
  have hoz := ho2.next hb2
  have HP1 := Lib.hid (show P1 = Z by rw [hy1.out.2]; exact num_qz Z)
  have h'2 := h'.next hB2
  have HW2 := Lib.hid HW2
  clear ho1 ho2 hb1 hb2 h'
  go_wp2_with fail
  rw [← HW2.out]
  clear HW2
  clear HW2
  refine (parts_any (N := 1) (M := 1) h'2 (HS.out Z') (by omega) (by omega) (by omega) (Nat.le_refl _)).mono ?_
  rintro _ W3 ⟨s3, A3, n3, c3, y3, A4, n4, c4, P2, rfl, ho3, ho4, hy3, hb3⟩
  obtain ⟨W4, HW4⟩ : ∃ W, W = W3.alloc (.cells #[.bool s3, .slice A3 n3 c3] 28) := ⟨_, rfl⟩
  have hb4 : Below W3.heap.size W3 W4 := by rw [HW4]; exact (Below.refl _ _).alloc (Nat.le_refl _) _
  have hb24 := hb3.trans (hb4.mono hb3.size)
  have HB4 := Lib.hid (hB2.trans (hb24.mono hB2.size))
  have HP2 := Lib.hid (show P2 = Z' by rw [hy3.out.2]; exact num_qz Z')
  have HO4 := Lib.hid (And.intro (hoz.next hb24) (ho4.next hb4))
  have HW4 := Lib.hid HW4
  clear ho3 ho4 hb3 hb4 hb24 hoz hB2 h'2 h
  obtain rfl := HP1.out
  obtain rfl := HP2.out
  have hn2 : n2 ≤ 1000 := by rw [← HO4.out.1.len]; exact HLL.out.1
  have hn4 : n4 ≤ 1000 := by rw [← HO4.out.2.len]; exact HLL.out.2.1
  have hr2 := HO4.out.1.rd (N := 1) (fun z hz => Zz.zl_small (HZ.out.2.1 z hz))
  have hr4 := HO4.out.2.rd (N := 1) (fun z hz => Zz.zl_small (HZ.out.2.2 z hz))
  go_wp2_with fail
  rw [← HW4.out]
  clear HW4
  clear HW4
  refine (zgcd_run (N := 1) hr2 hr4 (Pz.IsP.self HZ.out.1.1) (Pz.IsP.self HZ.out.1.2) (by omega) (by omega) (by omega) HG.out.1 HG.out.2.1 HG.out.2.2.1 HG.out.2.2.2).mono ?_
  rintro _ W5 ⟨A5, n5, c5, M5, rfl, ho5, hM5, hb5⟩
  have HM5 := Lib.hid (show M5 = D from hM5.out.unique ⟨HD.out.1.1, HD.out.2.2⟩)
  obtain rfl := HM5.out
  have HB5 := Lib.hid (HB4.out.trans (hb5.mono HB4.out.size))
  go_wp2_with fail
  refine (of_any 1 (by decide) (by decide) W5).mono ?_
  rintro _ W6 ⟨s6, A6, n6, c6, y6, rfl, ho6, hy6, hb6⟩
  obtain rfl : y6 = 1 := hy6.out
  have HB6 := Lib.hid (HB5.out.trans (hb6.mono HB5.out.size))
  have hr5 := (ho5.next hb6).rd (N := 1) (fun z hz => Zz.zl_small (HD.out.1.2 z hz))
  have hn5 : n5 ≤ 1000 := by rw [← ho5.len]; exact HLL.out.2.2
  have hn6 : n6 ≤ 1 := by rw [ho6.len]; exact Zz.zl_small (by decide)
  go_wp2_with fail
  refine (qover_any (N := 1) hr5 ho6.rd hn6 (by omega) (by omega) (by decide)).mono ?_
  rintro _ W7 ⟨A7, n7, c7, M7, rfl, ho7, hM7, hb7⟩
  have HB7 := Lib.hid (HB6.out.trans (hb7.mono HB6.out.size))
  have HM7 := Lib.hid (show M7 = qz M5 from hM7.out.unique ⟨nz_qz HD.out.1.1, fun i => by rw [co_qz]; exact (Rat.num_divInt_den ((Pz.co M5 i : Int) : Rat)).symm⟩)
  obtain rfl := HM7.out
  have hr7 := ho7.rd (N := 1) HD.out.1.2.qs
  have hn7 : n7 ≤ 1000 := by rw [← ho7.len]; unfold qz; rw [List.length_map]; exact HLL.out.2.2
  go_wp2_with fail
  refine (qmonic_any (N := 1) hr7 (nz_qz HD.out.1.1) (by omega) (by omega) (Nat.le_refl _)).mono ?_
  rintro _ W8 ⟨A8, n8, c8, M8, rfl, ho8, hM8, hb8⟩
  go_wp2
  go_ret
  refine ⟨_, _, _, M8, rfl, ho8.base HB7.out.size, Lib.hid (hM8.out.unique ⟨nz_qz HD.out.1.1, fun i => ?_⟩), HB7.out.trans (hb8.mono HB7.out.size)⟩
  rw [show (qz M5).length = M5.length from List.length_map .., co_qz M5 (M5.length - 1), HD.out.2.1, show ((1 : Int) : Rat) = 1 from rfl, show (1 : Rat)⁻¹ = 1 by decide +kernel]
  exact (Rat.mul_one _).symm
end Go.Proofs.YtipbpdiahemmpaaGreat

/- qpoly.Gcd along told chains; the examples' chains. -/
namespace Go.Proofs.YtipbpdiahemmpaaGreat
open Go.RowKit Go.IntWalk
attribute [local go_sem ↓] Go.wp_at_zero Go.wp_at_succ

set_option maxRecDepth 100000 in
set_option maxHeartbeats 4000000 in
theorem gcdIn_run {b n c : Nat} {A : Option Addr} {Zs : List (List Int)} {w : World} (Ds : Nat → List Int) (h : OwPs w b A n c (Zs.map qz)) (h0 : Ds 0 = []) (hst : ∀ (j : Nat) (Z : List Int), Zs[j]? = some Z → GcdOK (Ds j) Z (Ds (j + 1))) (hn : n ≤ 1000) :
    Calls Tryz.prog 151 #[.slice A n c] w (RetPqE w.heap.size (fun M kk => M = qz (Ds n) ∧ kk = 0) w) := by
  have HLEN := Lib.hid h.len
  have H := Lib.hid h
  have HST := Lib.hid hst
  have H0 := Lib.hid h0
  clear h hst h0
  go_enter Tryz.func151, Tryz.ntmps151
  go_wp2_with fail
  go_loopw [4, 9] (fun gv iv wr => ∃ (j m c' : Nat) (A' : Option Addr), gv = .slice A' m c' ∧ iv = .int .i64 j ∧ j ≤ n ∧ OwQp wr w.heap.size A' m c' (qz (Ds j)) ∧ Below w.heap.size w wr) (fun _ iv _ => n - (intOf iv).toNat)
  case atStart => exact ⟨0, 0, 0, none, rfl, rfl, Nat.zero_le _, by rw [H0.out]; exact OwQp.nil _ _ _, Below.refl _ _⟩
  case round =>
    obtain ⟨j, m, c', A', rfl, rfl, hj, ho, hB⟩ := hrel
    by_cases hjn : j = n
    · subst hjn
      go_wp2
      go_ret2
      exact ⟨_, _, _, _, 0, rfl, ho, Lib.hid ⟨rfl, rfl⟩, hB⟩
    · have hjl : j < n := by omega
      clear hjn
      have hjli : (j : Int) < (n : Int) := by omega
      obtain ⟨g, A1, n1, c1, L, rfl, hbk, hx, hoL, hL⟩ := opl_at H.out hjl
      obtain ⟨Z, hZ, hLZ⟩ : ∃ Z, Zs[j]? = some Z ∧ L = qz Z := by
        have e := hL.out
        rw [List.getElem?_map] at e
        obtain ⟨Z, h1, h2⟩ := Option.map_eq_some_iff.1 e
        exact ⟨Z, h1, h2.symm⟩
      subst hLZ
      have HK := Lib.hid (HST.out j Z hZ)
      have hy := (hB.cell (p := ⟨g, j, none⟩) hbk).trans hx
      have hr := (hoL.next hB).rd (N := 1) HK.out.2.2.2.1.qs
      have hr0 := ho.rd (N := 1) HK.out.2.2.1.qs
      have e1 : (⟨g, 0, none⟩ : Addr).add j = ⟨g, j, none⟩ := add_base g j
      clear hx hoL hL hZ
      go_wp2_with fail
      refine (qgcd_run hr0 hr HK.out).mono ?_
      rintro _ W2 ⟨A2, m2, c2, M2, rfl, ho2, hM2, hb2⟩
      obtain rfl := hM2.out
      have HO2 := Lib.hid (ho2.base (b' := w.heap.size) hB.size)
      have HB2 := Lib.hid (hB.trans (hb2.mono hB.size))
      clear ho2 hb2 hy hr hr0 ho hB e1
      go_wp2
      go_roundw
      case rel => exact ⟨j + 1, m2, c2, A2, rfl, by go_num, by omega, HO2.out, HB2.out⟩
      case measure => simp [intOf]; omega

theorem map_qval_ok {Zs : List (List Int)} (hz : ∀ Z ∈ Zs, Pz.Nz Z) : ((Zs.map fun Z => (qz Z).map pr).map nq) = Zs.map qz := by
  rw [List.map_map]
  refine List.map_congr_left fun Z hZ => ?_
  show Pq.nrm (((qz Z).map pr).map qval) = qz Z
  rw [map_qval_pr, Pq.nrm_id (nz_qz (hz Z hZ))]
set_option maxRecDepth 100000 in
set_option maxHeartbeats 4000000 in
theorem qGcd_run {n c K : Nat} {A : Option Addr} {Zs : List (List Int)} {w : World} (Ds : Nat → List Int) (h : RdPs w w.heap.size 1 K A n c (Zs.map fun Z => (qz Z).map pr)) (h0 : Ds 0 = []) (hst : ∀ (j : Nat) (Z : List Int), Zs[j]? = some Z → GcdOK (Ds j) Z (Ds (j + 1))) (hn : n ≤ 1000) (hK : K ≤ 1048576) :
    Calls Tryz.prog 59 #[.slice A n c] w (RetPqE w.heap.size (fun M kk => M = qz (Ds n) ∧ kk = 0) w) := by
  have heg := enters_of Tryz.func151 (by kernel_rfl) rfl
  have hz : ∀ Z ∈ Zs, Pz.Nz Z := fun Z hZ => by
    obtain ⟨j, hj⟩ := List.getElem?_of_mem hZ
    exact (hst j Z hj).2.1
  have hst' := Lib.hid hst
  go_enter Tryz.func59, Tryz.ntmps59
  go_wp2_with fail
  refine (norms_poly (Φ := fun M kk => M = qz (Ds n) ∧ kk = 0) h (by omega) hK (by omega) (Nat.le_refl _) heg (fun _ W A' c' hb ho => by
    rw [map_qval_ok hz] at ho
    exact (gcdIn_run Ds ho h0 hst'.out hn).mono fun e w' ⟨A2, n2, c2, M2, kk, h1, h2, h3, h4⟩ => ⟨A2, n2, c2, M2, kk, h1, h2.base hb.size, h3, h4⟩)).mono ?_
  intro e W2 hpost
  rcases hpost with ⟨_, A2, n2, c2, M2, kk, rfl, ho2, hM2, hb2⟩ | ⟨⟨L, hL, p, hp, h1⟩, _⟩
  · go_wp2
    go_ret2
    exact ⟨_, _, _, M2, kk, rfl, ho2, hM2, hb2⟩
  · obtain ⟨Z, _, rfl⟩ := List.mem_map.1 hL
    obtain ⟨x, _, rfl⟩ := List.mem_map.1 hp
    exact absurd h1 (pr_ne x)

theorem psd_check {l : Int} {S : Nat} {a b Q R : List Int} (K : Nat) (h1 : a.length ≤ K) (h2 : Q.length + b.length ≤ K) (h3 : R.length ≤ K) (h : ∀ t, t < K → l ^ S * Pz.co a t = Pz.cv (Pz.co Q) (Pz.co b) t + Pz.co R t) : Pz.Psd l S (Pz.co a) (Pz.co b) (Pz.co Q) (Pz.co R) := fun t => by
  rcases Nat.lt_or_ge t K with ht | ht
  · exact h t ht
  · rw [Pz.co_ge (L := a) (by omega), Pz.co_ge (L := R) (by omega), Pz.cv_up (Pz.up_co Q) (Pz.up_co b) t (by omega)]
    simp
theorem co_check {D M : List Int} {z : Int} (K : Nat) (h1 : D.length ≤ K) (h2 : M.length ≤ K) (h : ∀ t, t < K → Pz.co D t = Pz.co M t * z) (i : Nat) : Pz.co D i = Pz.co M i * z := by
  rcases Nat.lt_or_ge i K with hi | hi
  · exact h i hi
  · rw [Pz.co_ge (L := D) (by omega), Pz.co_ge (L := M) (by omega), Int.zero_mul]
theorem up_check {Q : List Int} {n : Nat} (h : Q.length ≤ n) : Pz.Up (Pz.co Q) n := (Pz.up_co Q).mono h
instance decSm (Z : List Int) : Decidable (Sm Z) := inferInstanceAs (Decidable (∀ z ∈ Z, z.natAbs < 4294967296))
theorem nz_check {L : List Int} (h : L.length = 0 ∨ Pz.co L (L.length - 1) ≠ 0) : Pz.Nz L := by
  have := Pz.nz_take (L := L) (Nat.le_refl _) h
  rwa [List.take_length] at this
theorem gt_eq {s t : GT} (h : s.a = t.a ∧ s.b = t.b ∧ s.g = t.g ∧ s.h = t.h) : s = t := by
  cases s
  cases t
  obtain ⟨h1, h2, h3, h4⟩ := h
  cases h1
  cases h2
  cases h3
  cases h4
  rfl
theorem gok1 : GcdOK [] [-1, 0, 1] [-1, 0, 1] :=
  ⟨Pz.nz_nil, nz_check (by decide), by decide, by decide, by decide, by decide, nz_check (by decide), by decide, by decide, by decide, [-1, 0, 1], by
    rw [show gst (pp []) (pp [-1, 0, 1]) = ⟨[-1, 0, 1], [], 1, 1⟩ from gt_eq (by decide +kernel)]
    exact .done _ _ _, nz_check (by decide), by decide, by decide, co_check 3 (by decide) (by decide +kernel) (by decide +kernel)⟩
theorem gok2 : GcdOK [-1, 0, 1] [-2, 2] [-1, 1] :=
  ⟨nz_check (by decide), nz_check (by decide), by decide, by decide, by decide, by decide, nz_check (by decide), by decide, by decide, by decide, [-1, 1], by
    rw [show gst (pp [-1, 0, 1]) (pp [-2, 2]) = ⟨[-1, 0, 1], [-1, 1], 1, 1⟩ from gt_eq (by decide +kernel)]
    exact .step (t := ⟨[-1, 1], [], 1, 1⟩) ⟨1, [1, 1], [], nz_check (by decide), nz_check (by decide), by decide, by decide, by decide, by decide, by decide, by decide, by decide, by decide, by decide, psd_check 4 (by decide) (by decide) (by decide) (by decide +kernel), up_check (by decide), Pz.nz_nil, by decide, gt_eq (by decide +kernel)⟩ (.done _ _ _), nz_check (by decide), by decide, by decide, co_check 3 (by decide) (by decide +kernel) (by decide +kernel)⟩
theorem gok3 : GcdOK [0, 0, -1, 1] [0, -2, 3] [0, 1] :=
  ⟨nz_check (by decide), nz_check (by decide), by decide, by decide, by decide, by decide, nz_check (by decide), by decide, by decide, by decide, [0, -2], by
    rw [show gst (pp [0, 0, -1, 1]) (pp [0, -2, 3]) = ⟨[0, 0, -1, 1], [0, -2, 3], 1, 1⟩ from gt_eq (by decide +kernel)]
    exact .step (t := ⟨[0, -2, 3], [0, -2], 3, 3⟩) ⟨2, [-1, 3], [0, -2], nz_check (by decide), nz_check (by decide), by decide, by decide, by decide, by decide, by decide, by decide, by decide, by decide, by decide, psd_check 5 (by decide) (by decide) (by decide) (by decide +kernel), up_check (by decide), nz_check (by decide), by decide, gt_eq (by decide +kernel)⟩
      (.step (t := ⟨[0, -2], [], -2, -2⟩) ⟨1, [4, -6], [], nz_check (by decide), nz_check (by decide), by decide, by decide, by decide, by decide, by decide, by decide, by decide, by decide, by decide, psd_check 4 (by decide) (by decide) (by decide) (by decide +kernel), up_check (by decide), Pz.nz_nil, by decide, gt_eq (by decide +kernel)⟩ (.done _ _ _)), nz_check (by decide), by decide, by decide, co_check 3 (by decide) (by decide +kernel) (by decide +kernel)⟩
theorem gok4 : GcdOK [0, -1, 1] [0, 1] [0, 1] :=
  ⟨nz_check (by decide), nz_check (by decide), by decide, by decide, by decide, by decide, nz_check (by decide), by decide, by decide, by decide, [0, 1], by
    rw [show gst (pp [0, -1, 1]) (pp [0, 1]) = ⟨[0, -1, 1], [0, 1], 1, 1⟩ from gt_eq (by decide +kernel)]
    exact .step (t := ⟨[0, 1], [], 1, 1⟩) ⟨1, [-1, 1], [], nz_check (by decide), nz_check (by decide), by decide, by decide, by decide, by decide, by decide, by decide, by decide, by decide, by decide, psd_check 4 (by decide) (by decide) (by decide) (by decide +kernel), up_check (by decide), Pz.nz_nil, by decide, gt_eq (by decide +kernel)⟩ (.done _ _ _), nz_check (by decide), by decide, by decide, co_check 3 (by decide) (by decide +kernel) (by decide +kernel)⟩
theorem gok5 : GcdOK [0, 1] [1] [1] :=
  ⟨nz_check (by decide), nz_check (by decide), by decide, by decide, by decide, by decide, nz_check (by decide), by decide, by decide, by decide, [1], by
    rw [show gst (pp [0, 1]) (pp [1]) = ⟨[0, 1], [1], 1, 1⟩ from gt_eq (by decide +kernel)]
    exact .step (t := ⟨[1], [], 1, 1⟩) ⟨0, [0, 1], [], nz_check (by decide), nz_check (by decide), by decide, by decide, by decide, by decide, by decide, by decide, by decide, by decide, by decide, psd_check 3 (by decide) (by decide) (by decide) (by decide +kernel), up_check (by decide), Pz.nz_nil, by decide, gt_eq (by decide +kernel)⟩ (.done _ _ _), nz_check (by decide), by decide, by decide, co_check 2 (by decide) (by decide +kernel) (by decide +kernel)⟩
end Go.Proofs.YtipbpdiahemmpaaGreat
