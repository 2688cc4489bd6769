/- Fractions' cells that are stored into: what stays. -/
import Derived.Test.YtipbpdiahemmpaaGreatQ29
import Derived.Test.YtipbpdiahemmpaaGreatQ39
import Derived.Test.YtipbpdiahemmpaaGreatQ33
import Derived.Test.YtipbpdiahemmpaaGreatQ13
import Derived.Test.YtipbpdiahemmpaaGreatQ26
import Derived.Test.YtipbpdiahemmpaaGreatQ31
namespace Go.Proofs.YtipbpdiahemmpaaGreat
open Go.RowKit Go.IntWalk

/-- Four cells are stored. -/
abbrev put4 (w : World) (g : Nat) (x y z u : Value) : World := (((w.setCell ⟨g, 0, none⟩ x).setCell ⟨g, 1, none⟩ y).setCell ⟨g, 2, none⟩ z).setCell ⟨g, 3, none⟩ u
section
variable {w w' : World} {g b B : Nat} {s s' t t' : Bool} {A A' D D' : Option Addr} {n c n' c' k m k' m' : Nat} {x : Rat} {z : Int}
theorem QC.newAt (hg : g = w.heap.size) : QC (w.alloc (.cells #[.bool s, .slice A n c, .bool s', .slice A' n' c'] 56)) g s A n c s' A' n' c' := by subst hg; exact QC.new w s A n c s' A' n' c'
theorem QC.alloc (h : QC w g s A n c s' A' n' c') (o : Obj) : QC (w.alloc o) g s A n c s' A' n' c' := h.next ((Below.refl w.heap.size w).alloc (Nat.le_refl _) o)
theorem OwQ.made (h : OwQ w b s A n c s' A' n' c' x) (o : Obj) : OwQ (w.alloc o) b s A n c s' A' n' c' x := h.next ((Below.refl w.heap.size w).alloc (Nat.le_refl _) o)
/-- A fraction lies there. -/
def QE (w : World) (g : Nat) : Prop := ∃ s A n c s' A' n' c', QC w g s A n c s' A' n' c'
theorem QE.of (h : QC w g s A n c s' A' n' c') : QE w g := ⟨s, A, n, c, s', A', n', c', h⟩
theorem QE.newAt (hg : g = w.heap.size) : QE (w.alloc (.cells #[.bool s, .slice A n c, .bool s', .slice A' n' c'] 56)) g := QE.of (QC.newAt hg)
theorem QE.put (h : QE w g) (s : Bool) (A : Option Addr) (n c : Nat) (s' : Bool) (A' : Option Addr) (n' c' : Nat) : QC (put4 w g (.bool s) (.slice A n c) (.bool s') (.slice A' n' c')) g s A n c s' A' n' c' := by
  obtain ⟨_, _, _, _, _, _, _, _, h⟩ := h
  exact h.store s A n c s' A' n' c'
theorem QE.puts (h : QE w g) (s : Bool) (A : Option Addr) (n c : Nat) (s' : Bool) (A' : Option Addr) (n' c' : Nat) : QE (put4 w g (.bool s) (.slice A n c) (.bool s') (.slice A' n' c')) g := QE.of (h.put s A n c s' A' n' c')
theorem QE.far (h : QE w g) {p : Addr} (hp : g ≠ p.block) (u : Value) : QE (w.setCell p u) g := by
  obtain ⟨_, _, _, _, _, _, _, _, h⟩ := h
  exact QE.of (h.far hp u)
theorem QE.alloc (h : QE w g) (o : Obj) : QE (w.alloc o) g := by
  obtain ⟨_, _, _, _, _, _, _, _, h⟩ := h
  exact QE.of (h.alloc o)
theorem QE.next (h : QE w g) (hb : Below w.heap.size w w') : QE w' g := by
  obtain ⟨_, _, _, _, _, _, _, _, h⟩ := h
  exact QE.of (h.next hb)
theorem QE.keepT (h : QE w g) (x y u v : Value) : KeepT w (put4 w g x y u v) := by
  obtain ⟨_, _, _, _, _, _, _, _, h⟩ := h
  intro i cs f e
  have hne : i ≠ g := by
    rintro rfl
    unfold QC at h
    rw [h] at e
    simp at e
  rw [Below.heap_setCell _ (⟨g, 3, none⟩ : Addr) _ i hne, Below.heap_setCell _ (⟨g, 2, none⟩ : Addr) _ i hne, Below.heap_setCell _ (⟨g, 1, none⟩ : Addr) _ i hne, Below.heap_setCell _ (⟨g, 0, none⟩ : Addr) _ i hne]
  exact e
theorem OwQ.puts (h : OwQ w b t D k m t' D' k' m' x) (hz : QE w g) (x1 y1 u1 v1 : Value) : OwQ (put4 w g x1 y1 u1 v1) b t D k m t' D' k' m' x := h.keep (hz.keepT x1 y1 u1 v1)
theorem OwZ.put4 (h : OwZ w b t D k m z) (hz : QE w g) (x1 y1 u1 v1 : Value) : OwZ (put4 w g x1 y1 u1 v1) b t D k m z := h.keep (hz.keepT x1 y1 u1 v1)
theorem size_put4 (w : World) (g : Nat) (x y u v : Value) : (put4 w g x y u v).heap.size = w.heap.size := by simp [World.setCell]
/-- A number's words lie elsewhere than a fraction's cells. -/
theorem RdU.put4 {L : List Nat} (h : RdU w B A n c L) (hz : QE w g) (x y u v : Value) : RdU (put4 w g x y u v) B A n c L := by
  obtain ⟨t1, D1, k1, m1, t2, D2, k2, m2, hz⟩ := hz
  refine ⟨h.len, h.le, h.mx, fun j a ha => ?_⟩
  obtain ⟨h1, ad, e, hB, hc⟩ := h.at_ j a ha
  refine ⟨h1, ad, e, hB, ?_⟩
  have hne : (ad.add j).block ≠ g := by
    intro e0
    unfold World.cell? at hc
    unfold QC at hz
    rw [e0, hz] at hc
    have hs : ∀ (i : Nat) (y : Nat), (#[Value.bool t1, .slice D1 k1 m1, .bool t2, .slice D2 k2 m2] : Array Value)[i]? ≠ some (.int .u32 y) := fun i y => by
      match i with
      | 0 => simp
      | 1 => simp
      | 2 => simp
      | 3 => simp
      | (j + 4) => simp
    simp only at hc
    split at hc <;> simp_all
  rw [← hc]
  unfold World.cell?
  rw [Below.heap_setCell _ (⟨g, 3, none⟩ : Addr) _ _ hne, Below.heap_setCell _ (⟨g, 2, none⟩ : Addr) _ _ hne, Below.heap_setCell _ (⟨g, 1, none⟩ : Addr) _ _ hne, Below.heap_setCell _ (⟨g, 0, none⟩ : Addr) _ _ hne]
/-- An integer that is read here. -/
def RdN (w : World) (s : Bool) (A : Option Addr) (n c : Nat) (z : Int) : Prop := RdZ w w.heap.size s A n c z
theorem RdN.put4 (h : RdN w s A n c z) (hz : QE w g) (x y u v : Value) : RdN (put4 w g x y u v) s A n c z := by
  obtain ⟨M, h, e⟩ := h
  unfold RdN
  rw [size_put4]
  exact ⟨M, h.put4 hz x y u v, e⟩
theorem RdN.next (h : RdN w s A n c z) (hb : Below w.heap.size w w') : RdN w' s A n c z := RdZ.next h hb
theorem RdN.made (h : RdN w s A n c z) (o : Obj) : RdN (w.alloc o) s A n c z := h.next ((Below.refl w.heap.size w).alloc (Nat.le_refl _) o)
end
end Go.Proofs.YtipbpdiahemmpaaGreat

/- Reference 05, 09: copies, word by word. -/
namespace Go.Proofs.YtipbpdiahemmpaaGreat
open Go.RowKit Go.IntWalk
attribute [local go_sem ↓] Go.wp_at_zero Go.wp_at_succ

/-- A fraction comes back word by word, in memory of its own. -/
def RetW4 (r : RawQ) (w : World) (e : Ending) (w' : World) : Prop :=
  ∃ (s : Bool) (A : Option Addr) (n c : Nat) (M : List Nat) (s' : Bool) (A' : Option Addr) (n' c' : Nat) (M' : List Nat), e = .returned (.agg #[.bool s, .slice A n c, .bool s', .slice A' n' c']) ∧ OwU w' w.heap.size A n c M ∧ OwU w' w.heap.size A' n' c' M' ∧ Hid (((s, M), (s', M')) = r) ∧ Below w.heap.size w w'
set_option maxRecDepth 100000 in
set_option maxHeartbeats 4000000 in
theorem rQCopy_any {s s' : Bool} {A A' : Option Addr} {n c n' c' : Nat} {M M' : List Nat} {w : World} (h : RdU w w.heap.size A n c M) (h' : RdU w w.heap.size A' n' c' M') (hn : n ≤ 4398046511103) (hn' : n' ≤ 4398046511103) :
    Calls Tryz.prog 209 #[.agg #[.bool s, .slice A n c, .bool s', .slice A' n' c']] w (RetW4 ((s, M), (s', M')) w) := by
  obtain ⟨W1, HW1⟩ : ∃ W, W = (w.alloc (.cells #[.bool s, .slice A n c, .bool s', .slice A' n' c'] 56)).alloc (.cells #[.bool false, .slice none 0 0, .bool false, .slice none 0 0] 56) := ⟨_, rfl⟩
  obtain ⟨hX, hR, hB⟩ := q_box1 w s A n c s' A' n' c' W1 HW1
  have HU := Lib.hid (show ∀ W : World, Below W1.heap.size W1 W → RdU W W.heap.size A n c M ∧ RdU W W.heap.size A' n' c' M' from fun W hb => ⟨(h.next hB).next hb, (h'.next hB).next hb⟩)
  have hlt := hX.lt
  have hlr := hR.lt
  have HCX := Lib.hid (show ∀ W : World, Below (w.heap.size + 1) W1 W → W.cell? ⟨w.heap.size, 0, none⟩ = some (.bool s) ∧ W.cell? ⟨w.heap.size, 1, none⟩ = some (.slice A n c) ∧ W.cell? ⟨w.heap.size, 2, none⟩ = some (.bool s') ∧ W.cell? ⟨w.heap.size, 3, none⟩ = some (.slice A' n' c') from fun W hb => ⟨(hb.cell (p := ⟨w.heap.size, 0, none⟩) (by simp)).trans hX.c0, (hb.cell (p := ⟨w.heap.size, 1, none⟩) (by simp)).trans hX.c1, (hb.cell (p := ⟨w.heap.size, 2, none⟩) (by simp)).trans hX.c2, (hb.cell (p := ⟨w.heap.size, 3, none⟩) (by simp)).trans hX.c3⟩)
  have HR := Lib.hid (And.intro hR (And.intro hB hlr))
  have HW1 := Lib.hid HW1
  clear h h' hX hR hB
  go_enter Tryz.func209, Tryz.ntmps209
  go_upto_region 1 with fail
  rw [← HW1.out]
  clear HW1
  clear HW1
  have HBD := Lib.hid (Below.refl W1.heap.size W1).drew
  have hle : w.heap.size + 1 ≤ W1.heap.size := Nat.le_of_lt hlr
  obtain ⟨a0, a1, a2, a3⟩ := HCX.out W1 (Below.refl _ _)
  go_region_held3 (fun w' => w'.cell? ⟨w.heap.size, 0, none⟩ = some (.bool s) ∧ w'.cell? ⟨w.heap.size, 1, none⟩ = some (.slice A n c) ∧ w'.cell? ⟨w.heap.size, 2, none⟩ = some (.bool s') ∧ w'.cell? ⟨w.heap.size, 3, none⟩ = some (.slice A' n' c'))
    (first | exact HCX.out _ (HB3.out.mono hle) | exact HCX.out _ (HB2.out.mono hle) | exact HCX.out _ (HBD.out.mono hle) | exact HCX.out _ (below_put4 (HB3.out.mono hle) (Nat.le_refl _) _ _ _ _))
    (first
      | (have hx := HB2.out; clear hx; go_at_call 159; refine (rICopy_any (s := s') (HU.out _ HB2.out).2 hn').mono ?_; rintro _ W3 ⟨s3, A3, n3, c3, M3, rfl, ho3, hm3, hb3⟩; have HB3 := Lib.hid (HB2.out.trans (hb3.mono HB2.out.size)); have HR3 := Lib.hid (HR.out.1.next HB3.out); have r0 := HR3.out.c0; have r1 := HR3.out.c1; have r2 := HR3.out.c2; have r3 := HR3.out.c3; have f0 := HR3.out.fz 0; have f1 := HR3.out.fz 1; have f2 := HR3.out.fz 2; have f3 := HR3.out.fz 3)
      | (go_at_call 159; refine (rICopy_any (s := s) (HU.out _ HBD.out).1 hn).mono ?_; rintro _ W2 ⟨s2, A2, n2, c2, M2, rfl, ho2, hm2, hb2⟩; have HB2 := Lib.hid (HBD.out.trans hb2); have HO2 := Lib.hid (ho2.base (b' := w.heap.size) (by have := HBD.out.size; omega))))
  all_goals
    have HO3 := Lib.hid (And.intro (HO2.out.next hb3) (ho3.base (b' := w.heap.size) (by have := HB2.out.size; omega)))
    have HK := Lib.hid (QE.keepT (QE.of HR3.out) (.bool s2) (.slice A2 n2 c2) (.bool s3) (.slice A3 n3 c3))
    have HO9 := Lib.hid (And.intro (HO3.out.1.keep HK.out) (HO3.out.2.keep HK.out))
    have HB9 := Lib.hid (below_put4 (HR.out.2.1.trans (HB3.out.mono HR.out.2.1.size)) (Nat.le_succ w.heap.size) (.bool s2) (.slice A2 n2 c2) (.bool s3) (.slice A3 n3 c3))
    have HR9 := Lib.hid (HR3.out.store s2 A2 n2 c2 s3 A3 n3 c3)
    unfold putQ at HR9
    unfold put4 at HO9 HK
    clear HO3 HK r0 r1 r2 r3 f0 f1 f2 f3 hb2 hb3 ho2 ho3 HR3
    go_wp2_with fail
    generalize (((W3.setCell ⟨w.heap.size + 1, 0, none⟩ (.bool s2)).setCell ⟨w.heap.size + 1, 1, none⟩ (.slice A2 n2 c2)).setCell ⟨w.heap.size + 1, 2, none⟩ (.bool s3)).setCell ⟨w.heap.size + 1, 3, none⟩ (.slice A3 n3 c3) = W9 at *
    have z0 := HR9.out.c0
    have z1 := HR9.out.c1
    have z2 := HR9.out.c2
    have z3 := HR9.out.c3
    exact bodyPost_ret (by simp [results, Tryz.results209, go_sem, z0, z1, z2, z3]) rfl ⟨s2, A2, n2, c2, M2, s3, A3, n3, c3, M3, rfl, HO9.out.1, HO9.out.2, Lib.hid (by rw [hm2.out, hm3.out]), HB9.out⟩

/-- The entries, word by word. -/
def EntR (w : World) (b : Nat) (E : List (Ent × Ent)) (F : Nat → RawQ) : Prop := ∀ (i : Nat) (e : Ent × Ent), E[i]? = some e → e.1.1 = (F i).1.1 ∧ e.2.1 = (F i).2.1 ∧ OwU w b e.1.2.1 e.1.2.2.1 e.1.2.2.2 (F i).1.2 ∧ OwU w b e.2.2.1 e.2.2.2.1 e.2.2.2.2 (F i).2.2
section
variable {w w' : World} {g b : Nat} {E : List (Ent × Ent)} {F : Nat → RawQ}
theorem EntR.next (h : EntR w b E F) (hb : Below w.heap.size w w') : EntR w' b E F := fun i e he => ⟨(h i e he).1, (h i e he).2.1, (h i e he).2.2.1.next hb, (h i e he).2.2.2.next hb⟩
theorem EntR.congr {F' : Nat → RawQ} (h : EntR w b E F) (e : ∀ i, F i = F' i) : EntR w b E F' := fun i x hx => by rw [← e]; exact h i x hx
theorem EntR.store (h : EntR w b E F) (hz : QB w g E) {j : Nat} {e : Ent × Ent} {r : RawQ} (he : e.1.1 = r.1.1 ∧ e.2.1 = r.2.1 ∧ OwU w b e.1.2.1 e.1.2.2.1 e.1.2.2.2 r.1.2 ∧ OwU w b e.2.2.1 e.2.2.2.1 e.2.2.2.2 r.2.2) : EntR (setQ w g j e) b (E.set j e) (fun i => if i = j then r else F i) := by
  intro i e' h'
  have hk := hz.keep j e
  by_cases hij : i = j
  · subst hij
    simp only [if_true]
    have hl : i < E.length := by
      rcases Nat.lt_or_ge i E.length with h1 | h1
      · exact h1
      · rw [List.getElem?_eq_none (by rw [List.length_set]; exact h1)] at h'; cases h'
    rw [List.getElem?_set_self hl] at h'
    injection h' with h'
    subst h'
    exact ⟨he.1, he.2.1, he.2.2.1.keep hk, he.2.2.2.keep hk⟩
  · simp only [if_neg hij]
    rw [List.getElem?_set_ne (Ne.symm hij)] at h'
    obtain ⟨h1, h2, h3, h4⟩ := h i e' h'
    exact ⟨h1, h2, h3.keep hk, h4.keep hk⟩
theorem EntR.zeros (w : World) (b n : Nat) : EntR w b (List.replicate n zq) (fun _ => ((false, []), (false, []))) := by
  intro i e he
  have e1 := List.eq_of_mem_replicate (List.mem_of_getElem? he)
  subst e1
  exact ⟨rfl, rfl, OwU.nil w b, OwU.nil w b⟩
/-- The whole block as a list that came in. -/
theorem QB.rq (h : QB w g E) (hE : EntR w b E F) {n : Nat} (hn : E.length = n) (hx : n ≤ maxLen) {R : List RawQ} (hR : R.length = n) (hF : ∀ j r, R[j]? = some r → F j = r) : RdRQ w w.heap.size (some ⟨g, 0, none⟩) n n R := by
  refine ⟨hR, Nat.le_refl _, hx, fun j r hr => ?_⟩
  have hj : j < R.length := by
    rcases Nat.lt_or_ge j R.length with h5 | h5
    · exact h5
    · rw [List.getElem?_eq_none h5] at hr; cases hr
  have he := List.getElem?_eq_getElem (l := E) (i := j) (by omega)
  obtain ⟨h1, h2, h3, h4⟩ := hE j _ he
  have h5 := hF j r hr
  rw [h5] at h1 h2 h3 h4
  obtain ⟨c0, c1, c2, c3⟩ := h.cells he
  have e1 : (⟨g, 0, none⟩ : Addr).add (j * 4) = ⟨g, j * 4, none⟩ := add_base g _
  refine ⟨_, _, _, _, _, _, _, rfl, h.lt, ?_, ?_, ?_, ?_, h3.rd, h4.rd⟩
  · rw [e1, ← h1]; exact c0
  · rw [e1]; exact c1
  · rw [e1, ← h2]; exact c2
  · rw [e1]; exact c3
end
/-- A list of fractions comes back word by word. -/
def RetRQ (R : List RawQ) (w : World) (e : Ending) (w' : World) : Prop :=
  ∃ (A : Option Addr) (n c : Nat), e = .returned (.slice A n c) ∧ RdRQ w' w'.heap.size A n c R ∧ Below w.heap.size w w'

set_option maxRecDepth 100000 in
set_option maxHeartbeats 4000000 in
theorem rQCopyAll_any {A : Option Addr} {n c : Nat} {R : List RawQ} {w : World} (h : RdRQ w w.heap.size A n c R) (hn : n ≤ 1099511627776) (hN : rsz R ≤ 4398046511103) :
    Calls Tryz.prog 116 #[.slice A n c] w (RetRQ R w) := by
  have HLEN := Lib.hid h.len
  have hmk := make_qs Tryz.underlying37 n (by omega)
  have hB0 := (Below.refl w.heap.size w).alloc (Nat.le_refl _) (.cells (qcs (List.replicate n zq)).toArray 56)
  have hZ0 := QB.made w n
  have hE0 := EntR.zeros (w.alloc (.cells (qcs (List.replicate n zq)).toArray 56)) w.heap.size n
  go_enter Tryz.func116, Tryz.ntmps116
  go_wp2_with fail
  obtain ⟨g, hg⟩ : ∃ g, g = w.heap.size := ⟨_, rfl⟩
  generalize w.alloc (.cells (qcs (List.replicate n zq)).toArray 56) = W1 at *
  rw [← hg] at hZ0 ⊢
  have HG := Lib.hid (Nat.le_of_eq hg.symm)
  clear hmk hg
  go_loopw [11] (fun iv wr => ∃ (i : Nat) (E : List (Ent × Ent)), iv = .int .i64 i ∧ i ≤ n ∧ QB wr g E ∧ Hid (E.length = n) ∧ EntR wr w.heap.size E (fun t => if t < i then R.getD t ((false, []), (false, [])) else ((false, []), (false, []))) ∧ Below w.heap.size w wr) (fun iv _ => n - (intOf iv).toNat)
  case atStart => exact ⟨0, _, rfl, Nat.zero_le _, hZ0, Lib.hid (by simp), fun i e he => by simpa using hE0 i e he, hB0⟩
  case round =>
    clear hZ0 hE0 hB0
    obtain ⟨i, E, rfl, hi, hZB, hEl, hE, hBi⟩ := hrel
    by_cases hik : i = n
    · have HO := Lib.hid (hZB.rq (R := R) hE hEl.out (by unfold maxLen; omega) HLEN.out (fun j r hr => by
        have hj : j < R.length := by
          rcases Nat.lt_or_ge j R.length with h5 | h5
          · exact h5
          · rw [List.getElem?_eq_none h5] at hr; cases hr
        rw [HLEN.out] at hj
        rw [if_pos (by omega), List.getD_eq_getElem?_getD, hr]; rfl))
      have hki := hik.symm
      subst hki
      clear hik
      go_wp2
      go_ret
      exact ⟨_, _, _, rfl, HO.out, hBi⟩
    · have hil : i < n := by omega
      clear hik
      have hili : (i : Int) < (n : Nat) := by omega
      obtain ⟨ad, s3, M, s4, M', A3, n3, c3, A4, n4, c4, rfl, hbk, hx0, hx1, hx2, hx3, hrx, hrx', hx⟩ := rq_at h hil
      obtain ⟨hw0, hw1, hw2, hw3⟩ := qs_cells hBi hbk hx0 hx1 hx2 hx3
      have HSZ := Lib.hid (show n3 ≤ 4398046511103 ∧ n4 ≤ 4398046511103 from by
        have e1 := rsz_mem (List.mem_of_getElem? hx.out)
        have e2 := hrx.len
        have e3 := hrx'.len
        simp only at e1
        omega)
      obtain ⟨W2, HW2⟩ : ∃ W, W = wr.alloc (.cells #[.bool s3, .slice A3 n3 c3, .bool s4, .slice A4 n4 c4] 56) := ⟨_, rfl⟩
      have hb2 : Below wr.heap.size wr W2 := by rw [HW2]; exact (Below.refl _ _).alloc (Nat.le_refl _) _
      have HW2 := Lib.hid HW2
      have hB2 := hBi.trans (hb2.mono hBi.size)
      have hrx2 := hrx.next hB2
      have hrx3 := hrx'.next hB2
      go_wp2_with fail
      rw [← HW2.out]
      clear HW2 hw0 hw1 hw2 hw3 hx0 hx1 hx2 hx3
      clear HW2
      refine (rQCopy_any (s := s3) (s' := s4) hrx2 hrx3 HSZ.out.1 HSZ.out.2).mono ?_
      rintro _ W4 ⟨s5, A5, n5, c5, M5, s6, A6, n6, c6, M6, rfl, ho5, ho6, hm5, hb4⟩
      have hB4 := hB2.trans (hb4.mono hB2.size)
      have hZ4 := (hZB.next hb2).next hb4
      have hE4 := (hE.next hb2).next hb4
      obtain ⟨e, he⟩ : ∃ e, E[i]? = some e := ⟨E[i]'(by rw [hEl.out]; exact hil), List.getElem?_eq_getElem _⟩
      obtain ⟨k0, k1, k2, k3⟩ := hZ4.cells he
      have f0 := hZ4.frozen (i * 4)
      have f1 := hZ4.frozen (i * 4 + 1)
      have f2 := hZ4.frozen (i * 4 + 2)
      have f3 := hZ4.frozen (i * 4 + 3)
      have HZ5 := Lib.hid (hZ4.store i ((s5, A5, n5, c5), (s6, A6, n6, c6)))
      have HE5 := Lib.hid (hE4.store (j := i) (e := ((s5, A5, n5, c5), (s6, A6, n6, c6))) (r := ((s5, M5), (s6, M6))) hZ4 ⟨rfl, rfl, ho5.base hB2.size, ho6.base hB2.size⟩)
      have HB5 := Lib.hid (below_setQ hB4 HG.out i ((s5, A5, n5, c5), (s6, A6, n6, c6)))
      unfold setQ at HZ5 HE5 HB5
      have HF := Lib.hid (show ((s5, M5), (s6, M6)) = R.getD i ((false, []), (false, [])) by rw [hm5.out, List.getD_eq_getElem?_getD, hx.out]; rfl)
      clear hrx hrx' hrx2 hrx3 hb2 hb4 hZB hE hBi he hB2 hB4 hZ4 hE4 ho5 ho6
      go_wp2_with fail
      go_roundw
      case rel => exact ⟨i + 1, E.set i ((s5, A5, n5, c5), (s6, A6, n6, c6)), by go_num, by omega, HZ5.out, Lib.hid (by rw [List.length_set]; exact hEl.out), HE5.out.congr fun t => (by
          by_cases e1 : t = i
          · subst e1; rw [if_pos rfl, if_pos (Nat.lt_succ_self _), HF.out]
          · rw [if_neg e1]
            by_cases e2 : t < i
            · rw [if_pos e2, if_pos (by omega)]
            · rw [if_neg e2, if_neg (by omega)]), HB5.out⟩
      case measure => simp [intOf]; omega

set_option maxHeartbeats 400000 in
theorem rPCopy_any {A : Option Addr} {n c : Nat} {R : List RawQ} {w : World} (h : RdRQ w w.heap.size A n c R) (hn : n ≤ 1099511627776) (hN : rsz R ≤ 4398046511103) :
    Calls Tryz.prog 37 #[.slice A n c] w (RetRQ R w) := by
  go_enter Tryz.func37, Tryz.ntmps37
  go_wp2_with fail
  refine (rQCopyAll_any h hn hN).mono ?_
  rintro _ W2 ⟨A2, n2, c2, rfl, hr2, hb2⟩
  go_wp2
  go_ret
  exact ⟨_, _, _, rfl, hr2, hb2⟩
end Go.Proofs.YtipbpdiahemmpaaGreat

/- Sizes along a division over the fractions. -/
namespace Go.Proofs.YtipbpdiahemmpaaGreat
open Go.RowKit Go.IntWalk

/-- All coefficients over one denominator. -/
structure Com (S : Nat) (f : Nat → Rat) (Z : Nat → Int) (D : Int) : Prop where
  ne : D ≠ 0
  at_ : ∀ i, f i = Rat.divInt (Z i) D
  sz : ∀ i, Zz.zl (Z i) ≤ S
  dz : Zz.zl D ≤ S
/-- The sizes of all. -/
def qsz (L : List (Int × Int)) : Nat := (L.map fun p => Zz.zl p.1 + Zz.zl p.2).sum
theorem qsz_cons (p : Int × Int) (L : List (Int × Int)) : qsz (p :: L) = Zz.zl p.1 + Zz.zl p.2 + qsz L := by simp [qsz]
theorem Com.qs {S : Nat} {f : Nat → Rat} {Z : Nat → Int} {D : Int} (h : Com S f Z D) (i : Nat) : Qs S (f i) := by
  rw [h.at_]
  exact Qs.divInt h.ne (h.sz i) h.dz
theorem Com.mono {S S' : Nat} {f : Nat → Rat} {Z : Nat → Int} {D : Int} (h : Com S f Z D) (hS : S ≤ S') : Com S' f Z D := ⟨h.ne, h.at_, fun i => Nat.le_trans (h.sz i) hS, Nat.le_trans h.dz hS⟩
theorem Com.congr {S : Nat} {f g : Nat → Rat} {Z : Nat → Int} {D : Int} (h : Com S f Z D) (e : ∀ i, g i = f i) : Com S g Z D := ⟨h.ne, fun i => by rw [e, h.at_], h.sz, h.dz⟩
theorem com_list : ∀ L : List (Int × Int), (∀ p ∈ L, p.2 ≠ 0) → ∃ Z D, Com (1 + qsz L) (Pq.co (L.map qval)) Z D
  | [], _ => ⟨fun _ => 0, 1, by decide, fun i => by rw [List.map_nil, Pq.co_nil]; rfl, fun i => by rw [Zz.zl_zero]; omega, Nat.le_trans (Zz.zl_small (by decide)) (by omega)⟩
  | p :: L, h => by
    obtain ⟨Z, D, hD⟩ := com_list L fun q hq => h q (List.mem_cons_of_mem _ hq)
    have hp := h p (List.mem_cons_self ..)
    have e0 := Zz.zl_mul p.2 D
    have e1 := Zz.zl_mul p.1 D
    have e2 := hD.dz
    refine ⟨fun i => if i = 0 then p.1 * D else Z (i - 1) * p.2, p.2 * D, Int.mul_ne_zero hp hD.ne, fun i => ?_, fun i => ?_, ?_⟩
    · cases i with
      | zero =>
        rw [List.map_cons, Pq.co_cons_zero, if_pos rfl]
        show Rat.divInt p.1 p.2 = _
        rw [Rat.divInt_eq_divInt_iff hp (Int.mul_ne_zero hp hD.ne)]
        grind
      | succ i =>
        rw [List.map_cons, Pq.co_cons_succ, if_neg (by omega), hD.at_, Nat.add_sub_cancel, Rat.divInt_eq_divInt_iff hD.ne (Int.mul_ne_zero hp hD.ne)]
        grind
    · rw [qsz_cons]
      by_cases hi : i = 0
      · rw [if_pos hi]; omega
      · rw [if_neg hi]
        have e3 := Zz.zl_mul (Z (i - 1)) p.2
        have e4 := hD.sz (i - 1)
        omega
    · rw [qsz_cons]; omega
theorem divInt_div (z d : Int) : Rat.divInt z d = (z : Rat) / (d : Rat) := Rat.divInt_eq_div z d
theorem int_ne {d : Int} (h : d ≠ 0) : (d : Rat) ≠ 0 := fun e => h (by exact_mod_cast e)
/-- One digit of the quotient. -/
theorem com_quo {S T : Nat} {f g : Nat → Rat} {Z Y : Nat → Int} {D E : Int} (h : Com S f Z D) (h' : Com T g Y E) {m n : Nat} (hn : g n ≠ 0) : Qs (S + T) (f m / g n) ∧ ∀ t, Qs (S + T) (f m / g n * g t) := by
  have hE := int_ne h'.ne
  have hD := int_ne h.ne
  have hY : Y n ≠ 0 := by
    intro e
    apply hn
    rw [h'.at_, e, Rat.zero_divInt]
  have hYq := int_ne hY
  have e0 := Zz.zl_mul D (Y n)
  have e1 := h.dz
  have e2 := h'.sz n
  constructor
  · have e : f m / g n = Rat.divInt (Z m * E) (D * Y n) := by
      rw [h.at_, h'.at_, divInt_div, divInt_div, divInt_div, Rat.intCast_mul, Rat.intCast_mul]
      grind
    rw [e]
    refine Qs.divInt (Int.mul_ne_zero h.ne hY) ?_ (by omega)
    have e3 := Zz.zl_mul (Z m) E
    have e4 := h.sz m
    have e5 := h'.dz
    omega
  · intro t
    have e : f m / g n * g t = Rat.divInt (Z m * Y t) (D * Y n) := by
      rw [h.at_, h'.at_, h'.at_, divInt_div, divInt_div, divInt_div, divInt_div, Rat.intCast_mul, Rat.intCast_mul]
      grind
    rw [e]
    refine Qs.divInt (Int.mul_ne_zero h.ne hY) ?_ (by omega)
    have e3 := Zz.zl_mul (Z m) (Y t)
    have e4 := h.sz m
    have e5 := h'.sz t
    omega
/-- One round. -/
theorem com_step {S T : Nat} {a b : List Rat} {Z Y : Nat → Int} {D E : Int} (h : Com S (Pq.co a) Z D) (h' : Com T (Pq.co b) Y E) (hb : Pq.Nz b) (h0 : 0 < b.length) (hl : b.length ≤ a.length) : ∃ Z' D', Com (S + T + 1) (Pq.co (Pq.dstep b a)) Z' D' := by
  have hn := Pq.nz_top hb h0
  have hE := int_ne h'.ne
  have hD := int_ne h.ne
  have hY : Y (b.length - 1) ≠ 0 := by
    intro e
    apply hn
    rw [h'.at_, e, Rat.zero_divInt]
  have hYq := int_ne hY
  refine ⟨fun i => Y (b.length - 1) * Z i - (if i < a.length - b.length then 0 else Z (a.length - 1) * Y (i - (a.length - b.length))), D * Y (b.length - 1), Int.mul_ne_zero h.ne hY, fun i => ?_, fun i => ?_, ?_⟩
  · rw [Pq.co_dstep hl]
    by_cases h1 : i < a.length - b.length
    · rw [if_pos h1, if_pos h1, h.at_, divInt_div, divInt_div, Int.sub_zero, Rat.intCast_mul, Rat.intCast_mul]
      grind
    · rw [if_neg h1, if_neg h1, h.at_, h.at_, h'.at_, h'.at_, divInt_div, divInt_div, divInt_div, divInt_div, divInt_div, Rat.intCast_sub, Rat.intCast_mul, Rat.intCast_mul, Rat.intCast_mul]
      grind
  · have e1 := Zz.zl_mul (Y (b.length - 1)) (Z i)
    have e2 := h'.sz (b.length - 1)
    have e3 := h.sz i
    by_cases h1 : i < a.length - b.length
    · rw [if_pos h1, Int.sub_zero]; omega
    · rw [if_neg h1]
      have e4 := Zz.zl_sub (Y (b.length - 1) * Z i) (Z (a.length - 1) * Y (i - (a.length - b.length)))
      have e5 := Zz.zl_mul (Z (a.length - 1)) (Y (i - (a.length - b.length)))
      have e6 := h.sz (a.length - 1)
      have e7 := h'.sz (i - (a.length - b.length))
      omega
  · have e1 := Zz.zl_mul D (Y (b.length - 1))
    have e2 := h'.sz (b.length - 1)
    have e3 := h.dz
    omega
/-- All rounds. -/
theorem com_rest {T : Nat} {b : List Rat} {Y : Nat → Int} {E : Int} (h' : Com T (Pq.co b) Y E) (hb : Pq.Nz b) (h0 : 0 < b.length) : ∀ (j S : Nat) (a : List Rat) (Z : Nat → Int) (D : Int), Com S (Pq.co a) Z D → ∃ S' Z' D', Com S' (Pq.co (Pq.drest b j a)) Z' D' ∧ S' + (Pq.drest b j a).length * (T + 1) ≤ S + a.length * (T + 1)
  | 0, S, a, Z, D, h => ⟨S, Z, D, h, Nat.le_refl _⟩
  | j + 1, S, a, Z, D, h => by
    by_cases hl : b.length ≤ a.length
    · rw [Pq.drest_step hl]
      obtain ⟨Z1, D1, h1⟩ := com_step h h' hb h0 hl
      obtain ⟨S2, Z2, D2, h2, h3⟩ := com_rest h' hb h0 j _ _ _ _ h1
      refine ⟨S2, Z2, D2, h2, ?_⟩
      have h4 := Pq.dstep_len hb h0 hl
      have h5 : ((Pq.dstep b a).length + 1) * (T + 1) ≤ a.length * (T + 1) := Nat.mul_le_mul_right _ h4
      rw [Nat.succ_mul] at h5
      omega
    · rw [Pq.drest, if_neg hl]
      exact ⟨S, Z, D, h, Nat.le_refl _⟩
/-- The sizes along a division. -/
structure DivSz (N : Nat) (a b : List Rat) : Prop where
  rest : ∀ j, SzQ N (Pq.drest b j a)
  quo : ∀ j, b.length ≤ (Pq.drest b j a).length → Qs N (Pq.co (Pq.drest b j a) ((Pq.drest b j a).length - 1) / Pq.co b (b.length - 1)) ∧ ∀ t, Qs N (Pq.co (Pq.drest b j a) ((Pq.drest b j a).length - 1) / Pq.co b (b.length - 1) * Pq.co b t)
  one : 1 ≤ N
theorem div_sz {S T N : Nat} {a b : List Rat} {Z Y : Nat → Int} {D E : Int} (h : Com S (Pq.co a) Z D) (h' : Com T (Pq.co b) Y E) (hb : Pq.Nz b) (h0 : 0 < b.length) (h1 : 1 ≤ S) (hN : S + a.length * (T + 1) ≤ N) : DivSz N a b := by
  refine ⟨fun j i => ?_, fun j hj => ?_, by omega⟩
  · obtain ⟨S', Z', D', h2, h3⟩ := com_rest h' hb h0 j _ _ _ _ h
    exact (h2.qs i).mono (by have := Nat.zero_le ((Pq.drest b j a).length * (T + 1)); omega)
  · obtain ⟨S', Z', D', h2, h3⟩ := com_rest h' hb h0 j _ _ _ _ h
    have h5 : 1 * (T + 1) ≤ (Pq.drest b j a).length * (T + 1) := Nat.mul_le_mul_right _ (by omega)
    have hq := com_quo (m := (Pq.drest b j a).length - 1) h2 h' (Pq.nz_top hb h0)
    exact ⟨hq.1.mono (by omega), fun t => (hq.2 t).mono (by omega)⟩
/-- The size of what came in. -/
theorem toZ_zl {w : World} {B : Nat} {A : Option Addr} {n c : Nat} {M : List Nat} (s : Bool) (h : RdU w B A n c M) : Zz.zl (toZ (s, M)) ≤ M.length := by
  have h1 : RdZ w B s A n c (toZ (s, M)) := ⟨M, h, rfl⟩
  rw [h.len]
  exact h1.len
theorem qsz_rsz {w : World} {B : Nat} {A : Option Addr} {n c : Nat} {R : List RawQ} (h : RdRQ w B A n c R) : qsz (R.map toQ) ≤ rsz R := by
  have hm : ∀ r ∈ R, Zz.zl (toZ r.1) + Zz.zl (toZ r.2) ≤ r.1.2.length + r.2.2.length := fun r hr => by
    obtain ⟨j, hj⟩ := List.getElem?_of_mem hr
    obtain ⟨ad, A1, n1, c1, A1', n1', c1', h1, h2, h3, h4, h5, h6, h7, h8⟩ := h.at_ j r hj
    have e1 := toZ_zl r.1.1 h7
    have e2 := toZ_zl r.2.1 h8
    have e3 : Zz.zl (toZ r.1) ≤ r.1.2.length := e1
    have e4 : Zz.zl (toZ r.2) ≤ r.2.2.length := e2
    omega
  clear h
  induction R with
  | nil => exact Nat.le_refl _
  | cons r R ih =>
    have e1 := hm r (List.mem_cons_self ..)
    have e2 := ih fun x hx => hm x (List.mem_cons_of_mem _ hx)
    rw [List.map_cons, qsz_cons]
    have e3 : rsz (r :: R) = r.1.2.length + r.2.2.length + rsz R := by simp [rsz]
    rw [e3]
    have e4 : Zz.zl (toQ r).1 + Zz.zl (toQ r).2 ≤ r.1.2.length + r.2.2.length := e1
    omega
end Go.Proofs.YtipbpdiahemmpaaGreat

/- qpoly.norms at int. -/
namespace Go.Proofs.YtipbpdiahemmpaaGreat
open Go.RowKit Go.IntWalk
attribute [local go_sem ↓] Go.wp_at_zero Go.wp_at_succ

/-- A value and an error's number come back. -/
def RetKE (Φ : Int → Int → Prop) (w : World) (e : Ending) (w' : World) : Prop :=
  ∃ (v : Int) (kk : Int), e = .returned (.tuple #[.int .i64 v, .int .i64 kk]) ∧ Hid (Φ v kk) ∧ Below w.heap.size w w'

set_option maxRecDepth 100000 in
set_option maxHeartbeats 8000000 in
theorem norms_int {f N K : Nat} {A : Option Addr} {n c : Nat} {LL : List (List (Int × Int))} {w : World} {Φ : Int → Int → Prop} (h : RdPs w w.heap.size N K A n c LL) (hn : n ≤ 1048576) (hK : K ≤ 1048576) (hN : N ≤ 1000000000000) (h1N : 1 ≤ N) (heg : ∀ args w, (callFunc f args).run Tryz.prog w = .ok (.enter f args) w)
    (hdo : (∀ L ∈ LL, ∀ p ∈ L, p.2 ≠ 0) → ∀ (W : World) (A' : Option Addr) (c' : Nat), Below w.heap.size w W → OwPs W w.heap.size A' n c' (LL.map nq) → Calls Tryz.prog f #[.slice A' n c'] W (RetKE Φ W)) :
    Calls Tryz.prog 119 #[.slice A n c, .func (.func f) #[] #[]] w fun e w' => ((∀ L ∈ LL, ∀ p ∈ L, p.2 ≠ 0) ∧ RetKE Φ w e w') ∨ ((∃ L ∈ LL, ∃ p ∈ L, p.2 = 0) ∧ e = .returned (.tuple #[.int .i64 0, .int .i64 6]) ∧ Below w.heap.size w w') := by
  have HD := Lib.hid hdo
  have HLEN := Lib.hid h.len
  obtain ⟨i0, hi, hz0, hz1, hz2⟩ := info_parts infoPoly
  clear hdo
  go_enter Tryz.func119, Tryz.ntmps119
  go_wp2_with fail
  go_loopw [7, 14] (fun ov iv wr => ∃ (j c' : Nat) (A' : Option Addr) (M : List (List Rat)), ov = .slice A' j c' ∧ iv = .int .i64 j ∧ j ≤ n ∧ OwPs wr w.heap.size A' j c' M ∧ Hid (M = (LL.take j).map nq) ∧ Hid (∀ (i : Nat) (L : List (Int × Int)), i < j → LL[i]? = some L → ∀ p ∈ L, p.2 ≠ 0) ∧ Below w.heap.size w wr) (fun _ iv _ => n - (intOf iv).toNat)
  case atStart => exact ⟨0, 0, none, [], rfl, rfl, Nat.zero_le _, OwPs.nil _ _, Lib.hid rfl, Lib.hid fun i p hi => absurd hi (Nat.not_lt_zero _), Below.refl _ _⟩
  case round =>
    obtain ⟨j, c', A', M, rfl, rfl, hj, ho, hM, hne, hB⟩ := hrel
    by_cases hjn : j = n
    · subst hjn
      have HALL := Lib.hid (show ∀ L ∈ LL, ∀ p ∈ L, p.2 ≠ 0 from fun L hp => by
        obtain ⟨i, hi, e⟩ := List.mem_iff_getElem.1 hp
        exact hne.out i L (by rw [← HLEN.out]; exact hi) (by rw [List.getElem?_eq_getElem hi, e]))
      have HO := Lib.hid (show OwPs wr w.heap.size A' j c' (LL.map nq) by rw [← List.take_of_length_le (l := LL) (by rw [HLEN.out]; exact Nat.le_refl _), ← hM.out]; exact ho)
      have HB := Lib.hid hB
      clear ho hB hM hne
      go_wp2_with fail
      refine (HD.out HALL.out wr A' c' HB.out HO.out).mono ?_
      rintro _ W5 ⟨v, kk, rfl, hy, hb5⟩
      go_wp2
      exact bodyPost_ret (by simp [results, Tryz.results119, go_sem]) rfl (.inl ⟨HALL.out, v, kk, rfl, hy, HB.out.trans (hb5.mono HB.out.size)⟩)
    · have hjl : j < n := by omega
      clear hjn
      have hjli : (j : Int) < (n : Int) := by omega
      obtain ⟨ad, A1, n1, c1, L, rfl, hbk, hx, hr, hn1, hp⟩ := ps_at h hjl
      have hy := (hB.cell (p := ad.add j) (by rw [add_blk]; exact hbk)).trans hx
      have HR := Lib.hid (hr.next hB)
      have HO := Lib.hid ho
      clear hx hr ho
      go_wp2_with fail
      clear hy
      refine (qpnorm_any HR.out (by omega) hN h1N).mono ?_
      rintro _ W3 (⟨hall, A4, n4, c4, M4, rfl, ho4, hM4, hb3⟩ | ⟨hex, rfl, hb3⟩)
      · have HALL := Lib.hid hall
        have hB3 := hB.trans (hb3.mono hB.size)
        obtain ⟨E, hE, hEl, hEn⟩ := HO.out.next hb3
        have HO4 := Lib.hid (ho4.base hB.size)
        have HE := Lib.hid hE
        have HEN := Lib.hid (And.intro hEl (hEn.next ((Below.refl _ _).alloc (Nat.le_refl _) (.cells #[.slice A4 n4 c4] 38))))
        have HM2 := Lib.hid (show M ++ [M4] = (LL.take (j + 1)).map nq by rw [hM.out, hM4.out]; exact mapn_snoc hp.out)
        have HNE2 := Lib.hid (show ∀ (i : Nat) (L : List (Int × Int)), i < j + 1 → LL[i]? = some L → ∀ p ∈ L, p.2 ≠ 0 from fun i L' hi hq => by
          rcases Nat.lt_or_ge i j with h1 | h1
          · exact hne.out i L' h1 hq
          · rw [show i = j by omega, hp.out] at hq
            injection hq with hq
            rw [← hq]
            exact HALL.out)
        have HB3 := Lib.hid hB3
        clear hE hEl hEn hb3 ho4 hB3 hB hM4 HO hne hM hall
        go_wp2_with (at_builtin; refine wpList_append_own _ rfl _ _ 68 rfl w.heap.size 38 i0 (.slice none 0 0) 1 24 Tryz.underlying68 hi hz0 hz1 hz2 rfl (by decide) _ _ _ rfl (HE.out.alloc _) ⟨W3.heap.size, 0, none⟩ 1 1 [.slice A4 n4 c4] rfl rfl (pcell_new _ _ _) (by simp [Value.oneCell']) (by unfold maxLen; omega) (by omega) (by have := HB3.out.size; simp; omega) ?_; intro v' w1 hown' hgrow _)
        have hmore := ps_more (e := (A4, n4, c4)) (L := M4) HO4.out rfl (HE.out.alloc _) HEN.out.1 HEN.out.2 hown' hgrow
        have HB5 := Lib.hid ((HB3.out.alloc HB3.out.size (.cells #[.slice A4 n4 c4] 38)).grown hgrow (by have := HB3.out.size; simp; omega) (own_block HE.out))
        obtain ⟨A5, c5, rfl, ho5⟩ := hmore
        clear hown' hgrow HE HEN HO4
        go_wp2
        go_roundw
        case rel => exact ⟨j + 1, c5, A5, M ++ [M4], rfl, by go_num, by omega, ho5, HM2, HNE2, HB5.out⟩
        case measure => simp [intOf]; omega
      · have HEX := Lib.hid (show ∃ L ∈ LL, ∃ p ∈ L, p.2 = 0 from ⟨L, List.mem_of_getElem? hp.out, hex⟩)
        go_wp2
        exact bodyPost_ret (by simp [results, Tryz.results119, go_sem]) rfl (.inr ⟨HEX.out, rfl, hB.trans (hb3.mono hB.size)⟩)
end Go.Proofs.YtipbpdiahemmpaaGreat
