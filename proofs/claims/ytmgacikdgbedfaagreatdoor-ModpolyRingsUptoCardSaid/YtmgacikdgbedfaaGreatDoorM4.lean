/- modpoly: coefficient by coefficient. -/
import Derived.Test.YtmgacikdgbedfaaGreatDoorM3
namespace Go.Proofs.YtmgacikdgbedfaaGreatDoor
open Go.RowKit Go.IntWalk

set_option maxRecDepth 100000 in
set_option maxHeartbeats 2000000 in
theorem meach_any {A A' : Option Addr} {n c n' c' : Nat} {L L' : List Nat} {w : World} {f : Nat} {F : Int → Int → Int} (p : Nat) (h0 : 0 < p) (hp : p < 4294967296)
    (heg : ∀ args w, (callFunc f args).run Tryz.prog w = .ok (.enter f args) w)
    (hdo : ∀ (W : World) (x y : Nat), x < p → y < p → Calls Tryz.prog f #[.agg #[.int .u64 p], .int .u32 x, .int .u32 y] W (RetC p (F x y) W)) (hF : F 0 0 = 0)
    (h : RdU w w.heap.size A n c L) (h' : RdU w w.heap.size A' n' c' L') (hn : n ≤ 8796093022208) (hn' : n' ≤ 8796093022208) (hL : Lt p L) (hL' : Lt p L') :
    Calls Tryz.prog 34 #[.agg #[.int .u64 p], .slice A n c, .slice A' n' c', .func (.func f) #[.agg #[.int .u64 p]] #[]] w (RetPo p (fun k => F (Pm.co L k) (Pm.co L' k)) w) := by
  have HD := Lib.hid hdo
  have HF := Lib.hid hF
  clear hdo hF
  obtain ⟨m, hm⟩ : ∃ m, m = max n n' := ⟨_, rfl⟩
  have hmn : n ≤ m := by omega
  have hmn' : n' ≤ m := by omega
  have hmx : m ≤ 8796093022208 := by omega
  have HM := Lib.hid hm
  clear hm
  have HLEN := Lib.hid h.len
  have HLEN' := Lib.hid h'.len
  have HL := Lib.hid hL
  have HL' := Lib.hid hL'
  clear hL hL'
  have HK1 : Hid (n < n' → ∀ W : World, (Instr.makeSlice 22 (.int .i64 (n' : Int)) (.int .i64 (n' : Int))).run Tryz.prog W = .ok (.slice (some ⟨W.heap.size, 0, none⟩) m m) (W.alloc (.cells (madeCells #[.int .u32 0] m) 24))) := Lib.hid fun hle W => by
    rw [show n' = m by have := HM.out; omega]
    exact make_words m (by omega) W
  have HK2 : Hid (n' ≤ n → ∀ W : World, (Instr.makeSlice 22 (.int .i64 (n : Int)) (.int .i64 (n : Int))).run Tryz.prog W = .ok (.slice (some ⟨W.heap.size, 0, none⟩) m m) (W.alloc (.cells (madeCells #[.int .u32 0] m) 24))) := Lib.hid fun hle W => by
    rw [show n = m by have := HM.out; omega]
    exact make_words m (by omega) W
  rcases Nat.lt_or_ge n n' with hle | hle
  · have hmk := HK1.out hle
    clear HK1 HK2
    go_enter Tryz.func34, Tryz.ntmps34
    go_wp2_with fail
    have HU0 := UB.made (w.alloc (.cells #[.int .u64 p] 51)) m
    have hB0 : Below w.heap.size w ((w.alloc (.cells #[.int .u64 p] 51)).alloc (.cells (madeCells #[.int .u32 0] m) 24)) := (below1 w _).alloc (by simp) _
    rw [World.size_alloc] at HU0
    clear hmk
    generalize (w.alloc (.cells #[.int .u64 p] 51)).alloc (.cells (madeCells #[.int .u32 0] m) 24) = W1 at HU0 hB0 ⊢
    obtain ⟨gb, hgb⟩ : ∃ gb, gb = w.heap.size := ⟨_, rfl⟩
    rw [← hgb] at HU0 ⊢
    have hbb : w.heap.size ≤ gb := by omega
    have HGB := Lib.hid hgb
    clear hgb
    go_loopw [21] (fun i wr => ∃ (k : Nat) (O : List Nat), i = .int .i64 k ∧ k ≤ m ∧ UB wr (gb + 1) O ∧ Hid (O.length = m ∧ Lt p O ∧ Upto p O (fun k => F (Pm.co L k) (Pm.co L' k)) k) ∧ Below w.heap.size w wr) (fun i _ => m - (intOf i).toNat)
    case atStart => exact ⟨0, _, rfl, Nat.zero_le _, HU0, Lib.hid ⟨by simp, Lt.zeros h0 m, fun j hj => absurd hj (by omega)⟩, hB0⟩
    case round =>
      clear HU0 hB0
      obtain ⟨k, O, rfl, hk, hU, hO, hB⟩ := hrel
      by_cases hkm : k < m
      · have HK : ∀ x y : Nat, Hid (x = Dg.ld L k) → Hid (y = Dg.ld L' k) → ∀ w1 : World, Below wr.heap.size wr w1 → ∀ v : Nat, v < p → Hid (Pm.cz p v (F x y)) →
            UB w1 (gb + 1) O ∧ UB (w1.setCell ⟨gb + 1, k, none⟩ (.int .u32 (v : Int))) (gb + 1) (O.set k v) ∧ Hid ((O.set k v).length = m ∧ Lt p (O.set k v) ∧ Upto p (O.set k v) (fun k => F (Pm.co L k) (Pm.co L' k)) (k + 1)) ∧ Below w.heap.size w (w1.setCell ⟨gb + 1, k, none⟩ (.int .u32 (v : Int))) := fun x y ex ey w1 hb1 v hv hz =>
          ⟨hU.below hb1 hU.lt, (hU.below hb1 hU.lt).set k v, Lib.hid ⟨by rw [List.length_set]; exact hO.out.1, hO.out.2.1.set k hv, hO.out.2.2.set (by rw [hO.out.1]; exact hkm) (by unfold Pm.co; rw [← ex.out, ← ey.out]; exact hz.out)⟩,
            (hB.trans (hb1.mono hB.size)).setCell (p := ⟨gb + 1, k, none⟩) (by simp; omega) (.int .u32 (v : Int))⟩
        have HK := Lib.hid HK
        have HC : Hid (∀ w1 : World, UB w1 (gb + 1) O → ∃ o0 : Int, w1.cell? ⟨gb + 1, k, none⟩ = some (.int .u32 o0)) := Lib.hid fun w1 hu => ⟨_, hu.cell (Dg.get_of_ld (L := O) (i := k) (by rw [hO.out.1]; exact hkm))⟩
        by_cases h1 : k < n
        · obtain ⟨_, ad, rfl, hbx, hcx⟩ := h.at_ k _ (Dg.get_of_ld (by rw [HLEN.out]; exact h1))
          have hcx := (hB.cell (p := ad.add k) (by rw [add_blk]; exact hbx)).trans hcx
          have hx := HL.out.ld h0 k
          obtain ⟨x, ex⟩ : ∃ x, x = Dg.ld L k := ⟨_, rfl⟩
          rw [← ex] at hx hcx
          have EX := Lib.hid ex
          clear ex
          by_cases h2 : k < n'
          · obtain ⟨_, ad', rfl, hby, hcy⟩ := h'.at_ k _ (Dg.get_of_ld (by rw [HLEN'.out]; exact h2))
            have hcy := (hB.cell (p := ad'.add k) (by rw [add_blk]; exact hby)).trans hcy
            have hy := HL'.out.ld h0 k
            obtain ⟨y, ey⟩ : ∃ y, y = Dg.ld L' k := ⟨_, rfl⟩
            rw [← ey] at hy hcy
            have EY := Lib.hid ey
            clear ey
            go_wp2_with fail
            refine (HD.out _ x y hx hy).mono ?_
            rintro _ w1 ⟨v, rfl, hv, hz, hb1⟩
            have HX := Lib.hid (HK.out x y EX EY w1 hb1 v hv hz)
            obtain ⟨o0, hcell⟩ := HC.out w1 HX.out.1
            have hfz := HX.out.1.frozen k
            go_wp2
            go_roundw
            case rel => exact ⟨k + 1, O.set k v, by go_num, hkm, HX.out.2.1, HX.out.2.2.1, HX.out.2.2.2⟩
            case measure => simp [intOf]; omega
          · exfalso; omega
        · have EX : Hid (0 = Dg.ld L k) := Lib.hid (Dg.ld_ge (by rw [HLEN.out]; omega)).symm
          by_cases h2 : k < n'
          · obtain ⟨_, ad', rfl, hby, hcy⟩ := h'.at_ k _ (Dg.get_of_ld (by rw [HLEN'.out]; exact h2))
            have hcy := (hB.cell (p := ad'.add k) (by rw [add_blk]; exact hby)).trans hcy
            have hy := HL'.out.ld h0 k
            obtain ⟨y, ey⟩ : ∃ y, y = Dg.ld L' k := ⟨_, rfl⟩
            rw [← ey] at hy hcy
            have EY := Lib.hid ey
            clear ey
            go_wp2_with fail
            refine (HD.out _ 0 y h0 hy).mono ?_
            rintro _ w1 ⟨v, rfl, hv, hz, hb1⟩
            have HX := Lib.hid (HK.out 0 y EX EY w1 hb1 v hv hz)
            obtain ⟨o0, hcell⟩ := HC.out w1 HX.out.1
            have hfz := HX.out.1.frozen k
            go_wp2
            go_roundw
            case rel => exact ⟨k + 1, O.set k v, by go_num, hkm, HX.out.2.1, HX.out.2.2.1, HX.out.2.2.2⟩
            case measure => simp [intOf]; omega
          · exfalso
            have := HM.out
            omega
      · obtain rfl : k = m := by omega
        have hR := hU.rd (hO.out.2.1.wd hp) (B := wr.heap.size) hU.lt (k := k) (by rw [hO.out.1]; exact Nat.le_refl _) (by rw [hO.out.1]; unfold maxLen; omega)
        rw [hO.out.1, List.take_of_length_le (by rw [hO.out.1]; exact Nat.le_refl _)] at hR
        go_wp2_with fail
        refine (mtrim_any hR (by omega)).mono ?_
        rintro _ _ ⟨m, rfl, hm, rfl⟩
        go_wp2
        go_ret
        exact ⟨_, m, k, O.take m, rfl, hU.po (hO.out.2.1.wd hp) (by omega) hm.out.1 (by have := hm.out.1; rw [hO.out.1] at this; exact this) (by unfold maxLen; omega), Lib.hid (cut_pn hO.out.2.1 (Upto.all (by rw [hO.out.1]; exact hO.out.2.2) (fun j hj => by
          have hh := HM.out
          have hl := hO.out.1
          have e1 : Pm.co L j = 0 := by unfold Pm.co; rw [Dg.ld_ge (by rw [HLEN.out]; omega)]; rfl
          have e2 : Pm.co L' j = 0 := by unfold Pm.co; rw [Dg.ld_ge (by rw [HLEN'.out]; omega)]; rfl
          rw [e1, e2, HF.out]
          exact Pm.cz.refl _)) hm.out), hB⟩
  · have hmk := HK2.out hle
    clear HK1 HK2
    go_enter Tryz.func34, Tryz.ntmps34
    go_wp2_with fail
    have HU0 := UB.made (w.alloc (.cells #[.int .u64 p] 51)) m
    have hB0 : Below w.heap.size w ((w.alloc (.cells #[.int .u64 p] 51)).alloc (.cells (madeCells #[.int .u32 0] m) 24)) := (below1 w _).alloc (by simp) _
    rw [World.size_alloc] at HU0
    clear hmk
    generalize (w.alloc (.cells #[.int .u64 p] 51)).alloc (.cells (madeCells #[.int .u32 0] m) 24) = W1 at HU0 hB0 ⊢
    obtain ⟨gb, hgb⟩ : ∃ gb, gb = w.heap.size := ⟨_, rfl⟩
    rw [← hgb] at HU0 ⊢
    have hbb : w.heap.size ≤ gb := by omega
    have HGB := Lib.hid hgb
    clear hgb
    go_loopw [21] (fun i wr => ∃ (k : Nat) (O : List Nat), i = .int .i64 k ∧ k ≤ m ∧ UB wr (gb + 1) O ∧ Hid (O.length = m ∧ Lt p O ∧ Upto p O (fun k => F (Pm.co L k) (Pm.co L' k)) k) ∧ Below w.heap.size w wr) (fun i _ => m - (intOf i).toNat)
    case atStart => exact ⟨0, _, rfl, Nat.zero_le _, HU0, Lib.hid ⟨by simp, Lt.zeros h0 m, fun j hj => absurd hj (by omega)⟩, hB0⟩
    case round =>
      clear HU0 hB0
      obtain ⟨k, O, rfl, hk, hU, hO, hB⟩ := hrel
      by_cases hkm : k < m
      · have HK : ∀ x y : Nat, Hid (x = Dg.ld L k) → Hid (y = Dg.ld L' k) → ∀ w1 : World, Below wr.heap.size wr w1 → ∀ v : Nat, v < p → Hid (Pm.cz p v (F x y)) →
            UB w1 (gb + 1) O ∧ UB (w1.setCell ⟨gb + 1, k, none⟩ (.int .u32 (v : Int))) (gb + 1) (O.set k v) ∧ Hid ((O.set k v).length = m ∧ Lt p (O.set k v) ∧ Upto p (O.set k v) (fun k => F (Pm.co L k) (Pm.co L' k)) (k + 1)) ∧ Below w.heap.size w (w1.setCell ⟨gb + 1, k, none⟩ (.int .u32 (v : Int))) := fun x y ex ey w1 hb1 v hv hz =>
          ⟨hU.below hb1 hU.lt, (hU.below hb1 hU.lt).set k v, Lib.hid ⟨by rw [List.length_set]; exact hO.out.1, hO.out.2.1.set k hv, hO.out.2.2.set (by rw [hO.out.1]; exact hkm) (by unfold Pm.co; rw [← ex.out, ← ey.out]; exact hz.out)⟩,
            (hB.trans (hb1.mono hB.size)).setCell (p := ⟨gb + 1, k, none⟩) (by simp; omega) (.int .u32 (v : Int))⟩
        have HK := Lib.hid HK
        have HC : Hid (∀ w1 : World, UB w1 (gb + 1) O → ∃ o0 : Int, w1.cell? ⟨gb + 1, k, none⟩ = some (.int .u32 o0)) := Lib.hid fun w1 hu => ⟨_, hu.cell (Dg.get_of_ld (L := O) (i := k) (by rw [hO.out.1]; exact hkm))⟩
        by_cases h1 : k < n
        · obtain ⟨_, ad, rfl, hbx, hcx⟩ := h.at_ k _ (Dg.get_of_ld (by rw [HLEN.out]; exact h1))
          have hcx := (hB.cell (p := ad.add k) (by rw [add_blk]; exact hbx)).trans hcx
          have hx := HL.out.ld h0 k
          obtain ⟨x, ex⟩ : ∃ x, x = Dg.ld L k := ⟨_, rfl⟩
          rw [← ex] at hx hcx
          have EX := Lib.hid ex
          clear ex
          by_cases h2 : k < n'
          · obtain ⟨_, ad', rfl, hby, hcy⟩ := h'.at_ k _ (Dg.get_of_ld (by rw [HLEN'.out]; exact h2))
            have hcy := (hB.cell (p := ad'.add k) (by rw [add_blk]; exact hby)).trans hcy
            have hy := HL'.out.ld h0 k
            obtain ⟨y, ey⟩ : ∃ y, y = Dg.ld L' k := ⟨_, rfl⟩
            rw [← ey] at hy hcy
            have EY := Lib.hid ey
            clear ey
            go_wp2_with fail
            refine (HD.out _ x y hx hy).mono ?_
            rintro _ w1 ⟨v, rfl, hv, hz, hb1⟩
            have HX := Lib.hid (HK.out x y EX EY w1 hb1 v hv hz)
            obtain ⟨o0, hcell⟩ := HC.out w1 HX.out.1
            have hfz := HX.out.1.frozen k
            go_wp2
            go_roundw
            case rel => exact ⟨k + 1, O.set k v, by go_num, hkm, HX.out.2.1, HX.out.2.2.1, HX.out.2.2.2⟩
            case measure => simp [intOf]; omega
          · have EY : Hid (0 = Dg.ld L' k) := Lib.hid (Dg.ld_ge (by rw [HLEN'.out]; omega)).symm
            go_wp2_with fail
            refine (HD.out _ x 0 hx h0).mono ?_
            rintro _ w1 ⟨v, rfl, hv, hz, hb1⟩
            have HX := Lib.hid (HK.out x 0 EX EY w1 hb1 v hv hz)
            obtain ⟨o0, hcell⟩ := HC.out w1 HX.out.1
            have hfz := HX.out.1.frozen k
            go_wp2
            go_roundw
            case rel => exact ⟨k + 1, O.set k v, by go_num, hkm, HX.out.2.1, HX.out.2.2.1, HX.out.2.2.2⟩
            case measure => simp [intOf]; omega
        · have EX : Hid (0 = Dg.ld L k) := Lib.hid (Dg.ld_ge (by rw [HLEN.out]; omega)).symm
          by_cases h2 : k < n'
          · exfalso; omega
          · exfalso
            have := HM.out
            omega
      · obtain rfl : k = m := by omega
        have hR := hU.rd (hO.out.2.1.wd hp) (B := wr.heap.size) hU.lt (k := k) (by rw [hO.out.1]; exact Nat.le_refl _) (by rw [hO.out.1]; unfold maxLen; omega)
        rw [hO.out.1, List.take_of_length_le (by rw [hO.out.1]; exact Nat.le_refl _)] at hR
        go_wp2_with fail
        refine (mtrim_any hR (by omega)).mono ?_
        rintro _ _ ⟨m, rfl, hm, rfl⟩
        go_wp2
        go_ret
        exact ⟨_, m, k, O.take m, rfl, hU.po (hO.out.2.1.wd hp) (by omega) hm.out.1 (by have := hm.out.1; rw [hO.out.1] at this; exact this) (by unfold maxLen; omega), Lib.hid (cut_pn hO.out.2.1 (Upto.all (by rw [hO.out.1]; exact hO.out.2.2) (fun j hj => by
          have hh := HM.out
          have hl := hO.out.1
          have e1 : Pm.co L j = 0 := by unfold Pm.co; rw [Dg.ld_ge (by rw [HLEN.out]; omega)]; rfl
          have e2 : Pm.co L' j = 0 := by unfold Pm.co; rw [Dg.ld_ge (by rw [HLEN'.out]; omega)]; rfl
          rw [e1, e2, HF.out]
          exact Pm.cz.refl _)) hm.out), hB⟩
end Go.Proofs.YtmgacikdgbedfaaGreatDoor
