/- modpoly: the polynomials in normal form, and the field. -/
import Derived.Test.YtmgacikdgbedfaaGreatDoorM2
import Derived.Test.YtmgacikdgbedfaaGreatDoorM1
namespace Go.Proofs.YtmgacikdgbedfaaGreatDoor
open Go.RowKit Go.IntWalk

/-- Block g is a row of values. -/
def VB (w : World) (g : Nat) (t : TypeId) (vs : List Value) : Prop := w.heap[g]? = some (.cells vs.toArray t (0, 0))
theorem VB.lt {w : World} {g : Nat} {t : TypeId} {vs : List Value} (h : VB w g t vs) : g < w.heap.size := (Array.getElem?_eq_some_iff.1 h).1
theorem VB.cell {w : World} {g : Nat} {t : TypeId} {vs : List Value} (h : VB w g t vs) {j : Nat} {v : Value} (hv : vs[j]? = some v) : w.cell? ⟨g, j, none⟩ = some v := by
  rw [cell_of_row w g j _ _ _ h]
  simpa using hv
theorem VB.frozen {w : World} {g : Nat} {t : TypeId} {vs : List Value} (h : VB w g t vs) (j : Nat) : w.frozen? ⟨g, j, none⟩ = false := frozen_of_row w g j _ _ h
theorem VB.set {w : World} {g : Nat} {t : TypeId} {vs : List Value} (h : VB w g t vs) (k : Nat) (v : Value) : VB (w.setCell ⟨g, k, none⟩ v) g t (vs.set k v) := by
  unfold VB at h ⊢
  simp [World.setCell, Array.getElem?_modify, h]
theorem VB.far {w : World} {g : Nat} {t : TypeId} {vs : List Value} (h : VB w g t vs) {p : Addr} (hp : g ≠ p.block) (u : Value) : VB (w.setCell p u) g t vs := (Below.heap_setCell w p u g hp).trans h
theorem VB.below {w w' : World} {g B : Nat} {t : TypeId} {vs : List Value} (h : VB w g t vs) (hb : Below B w w') (hg : g < B) : VB w' g t vs := (hb.block g hg).trans h
theorem VB.new (w : World) (t : TypeId) (vs : List Value) : VB (w.alloc (.cells vs.toArray t)) w.heap.size t vs := heap_alloc_new w _

theorem infoS : (Tryz.prog.info? 22).map (fun i => (i.zero, i.size, i.bytes)) = some (some (.slice none 0 0), 1, 24) := by kernel_rfl
theorem make_slices (n : Nat) (hn : n ≤ 1048576) (w : World) :
    (Instr.makeSlice 52 (.int .i64 (n : Int)) (.int .i64 (n : Int))).run Tryz.prog w = .ok (.slice (some ⟨w.heap.size, 0, none⟩) n n) (w.alloc (.cells (madeCells #[.slice none 0 0] n) 22)) :=
  run_make_row' 52 22 (.slice none 0 0) 24 Tryz.underlying52 infoS rfl .i64 .i64 n (by omega) (by omega) w
theorem nils_made (n : Nat) : (List.replicate n (Value.slice none 0 0)).toArray = madeCells #[.slice none 0 0] n := by
  unfold madeCells
  apply Array.ext
  · simp
  · intro i h1 h2
    simp [Nat.mod_one]
theorem VB.made (w : World) (n : Nat) : VB (w.alloc (.cells (madeCells #[.slice none 0 0] n) 22)) w.heap.size 22 (List.replicate n (.slice none 0 0)) := by
  unfold VB
  rw [nils_made]
  exact heap_alloc_new w _

/-- A polynomial's slice, in memory from block b on: in normal form, congruent to L. -/
def PoOf (p b : Nat) (w : World) (L : List Nat) (v : Value) : Prop := ∃ (A : Option Addr) (n c : Nat) (M : List Nat), v = .slice A n c ∧ Po w b A n c M ∧ Pm.Pn p M ∧ Pm.Cg p (Pm.co M) (Pm.co L)
theorem PoOf.next {p b : Nat} {w w' : World} {L : List Nat} {v : Value} (h : PoOf p b w L v) (hb : Below w.heap.size w w') : PoOf p b w' L v := by
  obtain ⟨A, n, c, M, h1, h2, h3⟩ := h
  exact ⟨A, n, c, M, h1, h2.next hb, h3⟩
theorem po_store {w : World} {b g n c : Nat} {A : Option Addr} {M : List Nat} {t : TypeId} {vs : List Value} (h : Po w b A n c M) (hv : VB w g t vs) (ht : t ≠ 24) (i : Nat) (u : Value) : Po (w.setCell ⟨g, i, none⟩ u) b A n c M := by
  refine ⟨h.len, h.le, h.mx, h.wd, ?_⟩
  rcases h.at_ with h0 | ⟨g', cur, h1, h2, h3, h4⟩
  · exact .inl h0
  · refine .inr ⟨g', cur, h1, h2, (Below.heap_setCell w ⟨g, i, none⟩ u g' ?_).trans h3, h4⟩
    rintro rfl
    unfold VB at hv
    rw [h3] at hv
    injection hv with hv
    injection hv with _ hv _
    exact ht hv.symm
theorem poOf_store {p b g : Nat} {w : World} {L : List Nat} {v : Value} {t : TypeId} {vs : List Value} (h : PoOf p b w L v) (hv : VB w g t vs) (ht : t ≠ 24) (i : Nat) (u : Value) : PoOf p b (w.setCell ⟨g, i, none⟩ u) L v := by
  obtain ⟨A, n, c, M, h1, h2, h3⟩ := h
  exact ⟨A, n, c, M, h1, po_store h2 hv ht i u, h3⟩
theorem po_far {w : World} {b g n c : Nat} {A : Option Addr} {M : List Nat} {x u : Int} (h : Po w b A n c M) (hc : w.cell? ⟨g, 0, none⟩ = some (.int .u64 x)) : Po (w.setCell ⟨g, 0, none⟩ (.int .u64 u)) b A n c M := by
  refine ⟨h.len, h.le, h.mx, h.wd, ?_⟩
  rcases h.at_ with h0 | ⟨g', cur, h1, h2, h3, h4, h5⟩
  · exact .inl h0
  · rcases Nat.eq_zero_or_pos n with hn | hn
    · exact .inl hn
    · refine .inr ⟨g', cur, h1, h2, (Below.heap_setCell w ⟨g, 0, none⟩ (.int .u64 u) g' ?_).trans h3, h4, h5⟩
      rintro rfl
      rw [cell_of_row w _ 0 _ _ _ h3] at hc
      have h6 : (uc M)[0]? = some (.int .u64 x) := by
        rw [← h5, List.getElem?_take_of_lt hn, Array.getElem?_toList]
        exact hc
      unfold uc at h6
      rw [List.getElem?_map] at h6
      cases hm : M[0]? with
      | none => rw [hm] at h6; cases h6
      | some y => rw [hm] at h6; simp at h6
/-- The field and the polynomials come back. -/
def RetAll (p : Nat) (LL : List (List Nat)) (w : World) (e : Ending) (w' : World) : Prop :=
  ∃ (g : Nat) (T : List Value), e = .returned (.tuple #[.agg #[.int .u64 p], .slice (some ⟨g, 0, none⟩) LL.length LL.length, .int .i64 0]) ∧ w.heap.size ≤ g ∧ VB w' g 22 T ∧
    Hid (T.length = LL.length ∧ ∀ (j : Nat) v L, T[j]? = some v → LL[j]? = some L → PoOf p w.heap.size w' L v) ∧ Below w.heap.size w w'

set_option maxRecDepth 100000 in
set_option maxHeartbeats 2000000 in
theorem mall_any {LL : List (List Nat)} {gl : Nat} {vs : List Value} {w : World} (p : Nat) (hpr : Nt.Pr p) (hp : p < 4294967296) (hl : VB w gl 23 vs) (hlen : vs.length = LL.length) (hk : LL.length ≤ 1048576)
    (hrd : ∀ (j : Nat) v L, vs[j]? = some v → LL[j]? = some L → ∃ A n c, v = .slice A n c ∧ RdU w w.heap.size A n c L ∧ n ≤ 1099511627776) (hT : Tabs w) :
    Calls Tryz.prog 31 #[.int .u32 p, .slice (some ⟨gl, 0, none⟩) LL.length LL.length] w (RetAll p LL w) := by
  have HP := Lib.hid hpr
  have h0 := hpr.pos
  have HRD := Lib.hid hrd
  have HLN := Lib.hid hlen
  obtain ⟨k, hkk⟩ : ∃ k, k = LL.length := ⟨_, rfl⟩
  rw [← hkk] at hk ⊢
  have HK := Lib.hid hkk
  have hmk := fun W : World => make_slices k hk W
  have hgl := hl.lt
  have HL := Lib.hid hl
  have hT0 := hT.alloc (.cells #[.int .u64 0] 51)
  clear hpr hrd hlen hkk hl
  go_enter Tryz.func31, Tryz.ntmps31
  go_wp2_with fail
  refine (is_true HP.out rfl hp _ hT0).mono ?_
  rintro _ _ ⟨rfl, rfl⟩
  go_wp2_with fail
  have HV0 := Lib.hid (VB.made ((w.alloc (.cells #[.int .u64 0] 51)).alloc (.cells #[.int .u64 p] 51)) k)
  have HC0 := Lib.hid (show (((w.alloc (.cells #[.int .u64 0] 51)).alloc (.cells #[.int .u64 p] 51)).alloc (.cells (madeCells #[.slice none 0 0] k) 22)).cell? ⟨w.heap.size, 0, none⟩ = some (.int .u64 0) by go_simp)
  have HF0 := Lib.hid (show (((w.alloc (.cells #[.int .u64 0] 51)).alloc (.cells #[.int .u64 p] 51)).alloc (.cells (madeCells #[.slice none 0 0] k) 22)).frozen? ⟨w.heap.size, 0, none⟩ = false by go_simp)
  have HC1 := Lib.hid (show (((w.alloc (.cells #[.int .u64 0] 51)).alloc (.cells #[.int .u64 p] 51)).alloc (.cells (madeCells #[.slice none 0 0] k) 22)).cell? ⟨w.heap.size + 1, 0, none⟩ = some (.int .u64 p) by go_simp)
  have hB0 : Below w.heap.size w (((w.alloc (.cells #[.int .u64 0] 51)).alloc (.cells #[.int .u64 p] 51)).alloc (.cells (madeCells #[.slice none 0 0] k) 22)) := ((below1 w _).alloc (by simp) _).alloc (by simp; omega) _
  have HV0' := Lib.hid (show VB (((w.alloc (.cells #[.int .u64 0] 51)).alloc (.cells #[.int .u64 p] 51)).alloc (.cells (madeCells #[.slice none 0 0] k) 22)) (w.heap.size + 1 + 1) 22 (List.replicate k (.slice none 0 0)) by
    have := HV0.out
    rwa [World.size_alloc, World.size_alloc] at this)
  clear HV0 hmk
  generalize ((w.alloc (.cells #[.int .u64 0] 51)).alloc (.cells #[.int .u64 p] 51)).alloc (.cells (madeCells #[.slice none 0 0] k) 22) = W3 at HC0 HF0 HC1 HV0' hB0 ⊢
  obtain ⟨b0, hb0⟩ : ∃ b0, b0 = w.heap.size := ⟨_, rfl⟩
  rw [← hb0] at HC0 HF0 HC1 HV0' ⊢
  have hbw : w.heap.size ≤ b0 := by omega
  clear hb0
  go_loopw [23] (fun iv wr => ∃ (i : Nat) (T : List Value), iv = .int .i64 i ∧ i ≤ k ∧ VB wr (b0 + 1 + 1) 22 T ∧ Hid (T.length = k ∧ ∀ (j : Nat) v L, j < i → T[j]? = some v → LL[j]? = some L → PoOf p w.heap.size wr L v) ∧
    wr.cell? ⟨b0, 0, none⟩ = some (.int .u64 0) ∧ wr.frozen? ⟨b0, 0, none⟩ = false ∧ wr.cell? ⟨b0 + 1, 0, none⟩ = some (.int .u64 p) ∧ Below w.heap.size w wr) (fun iv _ => k - (intOf iv).toNat)
  case atStart => exact ⟨0, _, rfl, Nat.zero_le _, HV0'.out, Lib.hid ⟨by simp, fun j v L hj => absurd hj (by omega)⟩, HC0.out, HF0.out, HC1.out, hB0⟩
  case round =>
    clear HV0' HC0 HF0 HC1 hB0
    obtain ⟨i, T, rfl, hi, hV, hTT, hc0, hf0, hc1, hB⟩ := hrel
    by_cases hik : i < k
    · obtain ⟨v, L, hv, hL⟩ : ∃ v L, vs[i]? = some v ∧ LL[i]? = some L := ⟨_, _, List.getElem?_eq_getElem (by rw [HLN.out, ← HK.out]; exact hik), List.getElem?_eq_getElem (by rw [← HK.out]; exact hik)⟩
      obtain ⟨A, n, c, rfl, hr, hn⟩ := HRD.out i v L hv hL
      have hcl := (hB.cell (p := ⟨gl, i, none⟩) hgl).trans (HL.out.cell hv)
      have HLL := Lib.hid hL
      have hrw := hr.next (w' := wr) ⟨hB.os, hB.tape, hB.output, hB.size, hB.block⟩
      clear hv hL
      go_wp2_with fail
      refine (mnorm_any p h0 hp hrw (by omega)).mono ?_
      rintro _ w1 ⟨A1, n1, c1, M1, rfl, hpo, hM, hb1⟩
      have hgl2 := hV.lt
      have hV1 := hV.below hb1 hgl2
      have hc01 := (hb1.cell (p := ⟨b0, 0, none⟩) (by simp; omega)).trans hc0
      have hf01 := (hb1.frozen (p := ⟨b0, 0, none⟩) (by simp; omega)).trans hf0
      have hc11 := (hb1.cell (p := ⟨b0 + 1, 0, none⟩) (by simp; omega)).trans hc1
      have hcell := hV1.cell (List.getElem?_eq_getElem (l := T) (i := i) (by rw [hTT.out.1]; exact hik))
      generalize T[i]'(by rw [hTT.out.1]; exact hik) = v0 at hcell
      have hfz := hV1.frozen i
      have hB1 := hB.trans (hb1.mono hB.size)
      have HX := Lib.hid (show VB (w1.setCell ⟨b0 + 1 + 1, i, none⟩ (.slice A1 n1 c1)) (b0 + 1 + 1) 22 (T.set i (.slice A1 n1 c1)) ∧ Hid ((T.set i (.slice A1 n1 c1)).length = k ∧ ∀ (j : Nat) v L, j < i + 1 → (T.set i (.slice A1 n1 c1))[j]? = some v → LL[j]? = some L → PoOf p w.heap.size (w1.setCell ⟨b0 + 1 + 1, i, none⟩ (.slice A1 n1 c1)) L v) ∧
          (w1.setCell ⟨b0 + 1 + 1, i, none⟩ (.slice A1 n1 c1)).cell? ⟨b0, 0, none⟩ = some (.int .u64 0) ∧ (w1.setCell ⟨b0 + 1 + 1, i, none⟩ (.slice A1 n1 c1)).frozen? ⟨b0, 0, none⟩ = false ∧ (w1.setCell ⟨b0 + 1 + 1, i, none⟩ (.slice A1 n1 c1)).cell? ⟨b0 + 1, 0, none⟩ = some (.int .u64 p) ∧ Below w.heap.size w (w1.setCell ⟨b0 + 1 + 1, i, none⟩ (.slice A1 n1 c1)) from by
        refine ⟨hV1.set i _, Lib.hid ⟨by rw [List.length_set]; exact hTT.out.1, fun j v L' hj hv hL => ?_⟩, by go_simp, by go_simp, by go_simp, hB1.setCell (p := ⟨b0 + 1 + 1, i, none⟩) (by simp; omega) _⟩
        by_cases hji : j = i
        · subst hji
          rw [List.getElem?_set_self (by rw [hTT.out.1]; exact hik)] at hv
          injection hv with hv
          subst hv
          have e := HLL.out
          rw [hL] at e
          injection e with e
          subst e
          exact ⟨A1, n1, c1, M1, rfl, po_store (hpo.base hB.size) hV1 (by decide) j _, hM.out⟩
        · rw [List.getElem?_set_ne (by omega)] at hv
          exact poOf_store ((hTT.out.2 j v L' (by omega) hv hL).next hb1) hV1 (by decide) i _)
      clear hV hc0 hf0 hc1
      go_wp2
      go_roundw
      case rel => exact ⟨i + 1, _, by go_num, hik, HX.out.1, HX.out.2.1, HX.out.2.2.1, HX.out.2.2.2.1, HX.out.2.2.2.2.1, HX.out.2.2.2.2.2⟩
      case measure => simp [intOf]; omega
    · obtain rfl : i = k := by omega
      have hgl2 := hV.lt
      have HX := Lib.hid (show VB (wr.setCell ⟨b0, 0, none⟩ (.int .u64 p)) (b0 + 1 + 1) 22 T ∧ Below w.heap.size w (wr.setCell ⟨b0, 0, none⟩ (.int .u64 p)) from
        ⟨hV.far (p := ⟨b0, 0, none⟩) (by simp; omega) _, hB.setCell (p := ⟨b0, 0, none⟩) hbw _⟩)
      have hcn : (wr.setCell ⟨b0, 0, none⟩ (.int .u64 p)).cell? ⟨b0, 0, none⟩ = some (.int .u64 p) := by go_simp
      have HTT := Lib.hid (show ∀ (j : Nat) v L, T[j]? = some v → LL[j]? = some L → PoOf p w.heap.size (wr.setCell ⟨b0, 0, none⟩ (.int .u64 p)) L v from fun j v L hv hL => by
        have hj : j < i := by
          have := (List.getElem?_eq_some_iff.1 hL).1
          rw [← HK.out] at this
          exact this
        obtain ⟨A, n, c, M, h1, h2, h3⟩ := hTT.out.2 j v L hj hv hL
        exact ⟨A, n, c, M, h1, po_far h2 hc0, h3⟩)
      go_wp2
      refine bodyPost_ret (v := .tuple #[.agg #[.int .u64 p], .slice (some ⟨b0 + 1 + 1, 0, none⟩) i i, .int .i64 0]) (by simp [results, Tryz.results31, go_sem, hcn]) rfl ?_
      refine ⟨b0 + 1 + 1, T, ?_, by omega, HX.out.1, Lib.hid ⟨by rw [hTT.out.1, HK.out], HTT.out⟩, HX.out.2⟩
      rw [← HK.out]
end Go.Proofs.YtmgacikdgbedfaaGreatDoor
