/- nat: limb by limb; the sum, the difference. -/
import Derived.Test.YtipbpdiahemmpaaGreatN2
import Derived.OneCell
namespace Go.Proofs.YtipbpdiahemmpaaGreat
open Go.RowKit Go.IntWalk

theorem RdU.drewN {w : World} {B : Nat} {A : Option Addr} {n c : Nat} {L : List Nat} (h : RdU w B A n c L) (k : Nat) : RdU (w.drewN k) B A n c L := ⟨h.len, h.le, h.mx, h.at_⟩
theorem make_cap (n : Nat) (hn : n ≤ 17592186044416) (w : World) :
    (Instr.makeSlice 26 (.int .i64 (n : Int)) (.int .i64 ((n : Int) + 1))).run Tryz.prog w = .ok (.slice (some ⟨w.heap.size, 0, none⟩) n (n + 1)) (w.alloc (.cells (madeCells #[.int .u32 0] (n + 1)) 35)) := by
  obtain ⟨i, hi, hzz⟩ := Option.map_eq_some_iff.1 infoW
  simp only [Prod.mk.injEq] at hzz
  obtain ⟨hz, hs, hb⟩ := hzz
  have hr := run_make (P := Tryz.prog) w 26 35 i _ Tryz.underlying26 hi hz .i64 .i64 n (n + 1) (by omega) (by omega) (by rw [hb]; omega) (by omega)
  simpa [hs, Value.cells] using hr

/-- The steps of a carry. -/
def Chain (R : Nat → Nat → Nat → Nat → Nat → Prop) (a b o : Nat → Nat) : Nat → Nat → Prop
  | 0, c => c = 0
  | i + 1, c => ∃ c', Chain R a b o i c' ∧ R (a i) (b i) c' (o i) c
theorem Chain.congr {R : Nat → Nat → Nat → Nat → Nat → Prop} {a b o o' : Nat → Nat} : ∀ {i c : Nat}, Chain R a b o i c → (∀ j, j < i → o j = o' j) → Chain R a b o' i c
  | 0, _, h, _ => h
  | i + 1, c, ⟨c', h1, h2⟩, h => ⟨c', h1.congr (fun j hj => h j (by omega)), by rw [← h i (by omega)]; exact h2⟩

/-- What limb by limb leaves. -/
def RetEach (R : Nat → Nat → Nat → Nat → Nat → Prop) (L L' : List Nat) (n B Bc : Nat) (w : World) (e : Ending) (w' : World) : Prop :=
  ∃ (O : List Nat) (c : Nat), e = .returned (.slice (some ⟨w.heap.size, 0, none⟩) n (n + 1)) ∧ UB w' w.heap.size O ∧ Hid (O.length = n + 1 ∧ Dg.Wd O ∧ c ≤ 1 ∧ Chain R (Dg.ld L) (Dg.ld L') (Dg.ld O) n c) ∧ w'.cell? ⟨Bc, 0, none⟩ = some (.int .u32 c) ∧ Below B w w'

set_option maxRecDepth 100000 in
set_option maxHeartbeats 2000000 in
theorem each_any {R : Nat → Nat → Nat → Nat → Nat → Prop} {f B Bc : Nat} {A A' : Option Addr} {n c n' c' : Nat} {L L' : List Nat} {w : World}
    (heg : ∀ args w, (callFunc f args).run Tryz.prog w = .ok (.enter f args) w)
    (hdo : ∀ (W : World) (x y q : Nat), x < 4294967296 → y < 4294967296 → q ≤ 1 → W.cell? ⟨Bc, 0, none⟩ = some (.int .u32 q) → W.frozen? ⟨Bc, 0, none⟩ = false →
      Calls Tryz.prog f #[.int .u32 x, .int .u32 y, .pointer (some ⟨Bc, 0, none⟩)] W fun e W' => ∃ s q' : Nat, e = .returned (.int .u32 s) ∧ s < 4294967296 ∧ q' ≤ 1 ∧ Hid (R x y q s q') ∧ W' = W.setCell ⟨Bc, 0, none⟩ (.int .u32 q'))
    (h : RdU w B A n c L) (h' : RdU w B A' n' c' L') (hn : n ≤ 8796093022208) (hn' : n' ≤ 8796093022208) (hB : B ≤ Bc) (hBc : Bc < w.heap.size)
    (hcc : w.cell? ⟨Bc, 0, none⟩ = some (.int .u32 0)) (hcf : w.frozen? ⟨Bc, 0, none⟩ = false) :
    Calls Tryz.prog 278 #[.slice A n c, .slice A' n' c', .func (.func f) #[] #[.pointer (some ⟨Bc, 0, none⟩)]] w (RetEach R L L' (max n n') B Bc w) := by
  have HD := Lib.hid hdo
  clear hdo
  obtain ⟨m, hm⟩ : ∃ m, m = max n n' := ⟨_, rfl⟩
  have hmn : n ≤ m := by omega
  have hmn' : n' ≤ m := by omega
  have hmx : m ≤ 8796093022208 := by omega
  have hmk : ∀ W : World, (Instr.makeSlice 26 (.int .i64 (max (n : Int) n')) (.int .i64 (max (n : Int) n' + 1))).run Tryz.prog W = .ok (.slice (some ⟨W.heap.size, 0, none⟩) m (m + 1)) (W.alloc (.cells (madeCells #[.int .u32 0] (m + 1)) 35)) := by
    rw [show max (n : Int) n' = (m : Int) by omega]
    exact make_cap m (by omega)
  rw [← hm]
  have HM := Lib.hid hm
  clear hm
  have hlt := Lib.hid h.len
  have hlt' := Lib.hid h'.len
  go_enter Tryz.func278, Tryz.ntmps278
  go_wp2_with fail
  have hU0 := UB.made w (m + 1)
  have hB0 := (Below.refl w.heap.size w).alloc (Nat.le_refl _) (.cells (madeCells #[.int .u32 0] (m + 1)) 35)
  have hcc0 := (hB0.cell (p := ⟨Bc, 0, none⟩) hBc).trans hcc
  have hcf0 := (hB0.frozen (p := ⟨Bc, 0, none⟩) hBc).trans hcf
  have hBB := hB0.mono (Nat.le_of_lt (Nat.lt_of_le_of_lt hB hBc))
  generalize w.alloc (.cells (madeCells #[.int .u32 0] (m + 1)) 35) = W1 at hU0 hcc0 hcf0 hBB ⊢
  clear hmk hB0 hcc hcf
  have HCC := Lib.hid hcc0
  have HCF := Lib.hid hcf0
  clear hcc0 hcf0
  obtain ⟨g, hg⟩ : ∃ g, g = w.heap.size := ⟨_, rfl⟩
  have hgB : Bc < g := by omega
  rw [← hg] at hU0 ⊢
  have HG := Lib.hid hg
  clear hg
  go_wp2_with fail
  go_loopw [23] (fun i wr => ∃ (k q : Nat) (O : List Nat), i = .int .i64 k ∧ k ≤ m ∧ q ≤ 1 ∧ UB wr g O ∧ Hid (O.length = m + 1 ∧ Dg.Wd O ∧ Chain R (Dg.ld L) (Dg.ld L') (Dg.ld O) k q) ∧ wr.cell? ⟨Bc, 0, none⟩ = some (.int .u32 q) ∧ wr.frozen? ⟨Bc, 0, none⟩ = false ∧ Below B w wr) (fun i _ => m - (intOf i).toNat)
  case atStart => exact ⟨0, 0, _, rfl, Nat.zero_le _, by omega, hU0, Lib.hid ⟨by simp, Dg.Wd.zeros _, rfl⟩, HCC.out, HCF.out, hBB⟩
  case round =>
    clear hU0 hBB
    obtain ⟨k, q, O, rfl, hk, hq, hU, hO, hc, hf, hb⟩ := hrel
    by_cases hkm : k < m
    · by_cases h1 : k < n
      · obtain ⟨hx, ad, rfl, hbx, hcx⟩ := h.at_ k _ (Dg.get_of_ld (by rw [hlt.out]; exact h1))
        have hcx := (hb.cell (p := ad.add k) (by rw [add_blk]; exact hbx)).trans hcx
        obtain ⟨x, ex⟩ : ∃ x, x = Dg.ld L k := ⟨_, rfl⟩
        rw [← ex] at hx hcx
        have EX := Lib.hid ex
        clear ex
        by_cases h2 : k < n'
        · obtain ⟨hy, ad', rfl, hby, hcy⟩ := h'.at_ k _ (Dg.get_of_ld (by rw [hlt'.out]; exact h2))
          have hcy := (hb.cell (p := ad'.add k) (by rw [add_blk]; exact hby)).trans hcy
          obtain ⟨y, ey⟩ : ∃ y, y = Dg.ld L' k := ⟨_, rfl⟩
          rw [← ey] at hy hcy
          have EY := Lib.hid ey
          clear ey
          have hneg : Bc ≠ g := by omega
          have hneg' : g ≠ Bc := by omega
          have hOl := hO.out.1
          have hcell := hU.cell (Dg.get_of_ld (L := O) (i := k) (by omega))
          generalize Dg.ld O k = o0 at hcell
          have hfz := hU.frozen k
          clear hOl
          go_wp2_with fail
          refine (HD.out _ x y q hx hy hq hc hf).mono ?_
          rintro _ _ ⟨s, q', rfl, hs, hq', hR, rfl⟩
          have hU1 := (hU.far (p := ⟨Bc, 0, none⟩) hneg' (.int .u32 q')).set k s
          have hB1 := (hb.setCell (p := ⟨Bc, 0, none⟩) hB (.int .u32 q')).setCell (p := ⟨g, k, none⟩) (Nat.le_of_lt (Nat.lt_of_le_of_lt hB hgB)) (.int .u32 s)
          have HC1 := Lib.hid (show ((wr.setCell ⟨Bc, 0, none⟩ (.int .u32 q')).setCell ⟨g, k, none⟩ (.int .u32 s)).cell? ⟨Bc, 0, none⟩ = some (.int .u32 q') by go_simp)
          have HF1 := Lib.hid (show ((wr.setCell ⟨Bc, 0, none⟩ (.int .u32 q')).setCell ⟨g, k, none⟩ (.int .u32 s)).frozen? ⟨Bc, 0, none⟩ = false by go_simp)
          go_wp2
          go_roundw
          case rel => exact ⟨k + 1, q', O.set k s, by go_num, hkm, hq', hU1, Lib.hid ⟨by rw [List.length_set]; exact hO.out.1, hO.out.2.1.set k hs, q, hO.out.2.2.congr (fun j hj => (Dg.ld_set_other s (by omega)).symm), by rw [Dg.ld_set_same s (by rw [hO.out.1]; omega)]; exact (by rw [← EX.out, ← EY.out]; exact hR.out)⟩, HC1.out, HF1.out, hB1⟩
          case measure => simp [intOf]; omega
        · have hy : 0 < 4294967296 := by omega
          have hneg : Bc ≠ g := by omega
          have hneg' : g ≠ Bc := by omega
          have hOl := hO.out.1
          have hcell := hU.cell (Dg.get_of_ld (L := O) (i := k) (by omega))
          generalize Dg.ld O k = o0 at hcell
          have hfz := hU.frozen k
          clear hOl
          go_wp2_with fail
          refine (HD.out _ x 0 q hx hy hq hc hf).mono ?_
          rintro _ _ ⟨s, q', rfl, hs, hq', hR, rfl⟩
          have hU1 := (hU.far (p := ⟨Bc, 0, none⟩) hneg' (.int .u32 q')).set k s
          have hB1 := (hb.setCell (p := ⟨Bc, 0, none⟩) hB (.int .u32 q')).setCell (p := ⟨g, k, none⟩) (Nat.le_of_lt (Nat.lt_of_le_of_lt hB hgB)) (.int .u32 s)
          have HC1 := Lib.hid (show ((wr.setCell ⟨Bc, 0, none⟩ (.int .u32 q')).setCell ⟨g, k, none⟩ (.int .u32 s)).cell? ⟨Bc, 0, none⟩ = some (.int .u32 q') by go_simp)
          have HF1 := Lib.hid (show ((wr.setCell ⟨Bc, 0, none⟩ (.int .u32 q')).setCell ⟨g, k, none⟩ (.int .u32 s)).frozen? ⟨Bc, 0, none⟩ = false by go_simp)
          go_wp2
          go_roundw
          case rel => exact ⟨k + 1, q', O.set k s, by go_num, hkm, hq', hU1, Lib.hid ⟨by rw [List.length_set]; exact hO.out.1, hO.out.2.1.set k hs, q, hO.out.2.2.congr (fun j hj => (Dg.ld_set_other s (by omega)).symm), by rw [Dg.ld_set_same s (by rw [hO.out.1]; omega)]; exact (by rw [← EX.out, Dg.ld_ge (L := L') (by rw [hlt'.out]; omega)]; exact hR.out)⟩, HC1.out, HF1.out, hB1⟩
          case measure => simp [intOf]; omega
      · have hx : 0 < 4294967296 := by omega
        by_cases h2 : k < n'
        · obtain ⟨hy, ad', rfl, hby, hcy⟩ := h'.at_ k _ (Dg.get_of_ld (by rw [hlt'.out]; exact h2))
          have hcy := (hb.cell (p := ad'.add k) (by rw [add_blk]; exact hby)).trans hcy
          obtain ⟨y, ey⟩ : ∃ y, y = Dg.ld L' k := ⟨_, rfl⟩
          rw [← ey] at hy hcy
          have EY := Lib.hid ey
          clear ey
          have hneg : Bc ≠ g := by omega
          have hneg' : g ≠ Bc := by omega
          have hOl := hO.out.1
          have hcell := hU.cell (Dg.get_of_ld (L := O) (i := k) (by omega))
          generalize Dg.ld O k = o0 at hcell
          have hfz := hU.frozen k
          clear hOl
          go_wp2_with fail
          refine (HD.out _ 0 y q hx hy hq hc hf).mono ?_
          rintro _ _ ⟨s, q', rfl, hs, hq', hR, rfl⟩
          have hU1 := (hU.far (p := ⟨Bc, 0, none⟩) hneg' (.int .u32 q')).set k s
          have hB1 := (hb.setCell (p := ⟨Bc, 0, none⟩) hB (.int .u32 q')).setCell (p := ⟨g, k, none⟩) (Nat.le_of_lt (Nat.lt_of_le_of_lt hB hgB)) (.int .u32 s)
          have HC1 := Lib.hid (show ((wr.setCell ⟨Bc, 0, none⟩ (.int .u32 q')).setCell ⟨g, k, none⟩ (.int .u32 s)).cell? ⟨Bc, 0, none⟩ = some (.int .u32 q') by go_simp)
          have HF1 := Lib.hid (show ((wr.setCell ⟨Bc, 0, none⟩ (.int .u32 q')).setCell ⟨g, k, none⟩ (.int .u32 s)).frozen? ⟨Bc, 0, none⟩ = false by go_simp)
          go_wp2
          go_roundw
          case rel => exact ⟨k + 1, q', O.set k s, by go_num, hkm, hq', hU1, Lib.hid ⟨by rw [List.length_set]; exact hO.out.1, hO.out.2.1.set k hs, q, hO.out.2.2.congr (fun j hj => (Dg.ld_set_other s (by omega)).symm), by rw [Dg.ld_set_same s (by rw [hO.out.1]; omega)]; exact (by rw [← EY.out, Dg.ld_ge (L := L) (by rw [hlt.out]; omega)]; exact hR.out)⟩, HC1.out, HF1.out, hB1⟩
          case measure => simp [intOf]; omega
        · exfalso
          have := HM.out
          omega
    · obtain rfl : k = m := by omega
      go_wp2
      go_ret
      exact ⟨O, q, by rw [← HG.out]; rfl, by rw [← HG.out]; exact hU, Lib.hid ⟨hO.out.1, hO.out.2.1, hq, hO.out.2.2⟩, hc, hb⟩

end Go.Proofs.YtipbpdiahemmpaaGreat
