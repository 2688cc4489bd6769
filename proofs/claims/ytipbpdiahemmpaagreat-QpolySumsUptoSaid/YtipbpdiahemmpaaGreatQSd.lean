/- The law QpolySums. -/
import Derived.Test.YtipbpdiahemmpaaGreatQSc
import Derived.Deep.RegionHeld3
namespace Go.Proofs.YtipbpdiahemmpaaGreat
open Go.RowKit Go.IntWalk
attribute [local go_sem ↓] Go.wp_at_zero Go.wp_at_succ

theorem all_nil {ok : Prop} {f : Nat → Rat} {M : List Rat} {kk : Int} (h : Hid ((ok ∧ Pq.IsP f M ∧ kk = 0) ∨ (¬ok ∧ M = [] ∧ kk = 6))) (hn : ¬ok) : M = [] ∧ kk = 6 := h.out.elim (fun e => absurd e.1 hn) (fun e => e.2)
theorem all_ok {ok : Prop} {f : Nat → Rat} {M : List Rat} {kk : Int} (h : Hid ((ok ∧ Pq.IsP f M ∧ kk = 0) ∨ (¬ok ∧ M = [] ∧ kk = 6))) (hy : ok) : Pq.IsP f M ∧ kk = 0 := h.out.elim (fun e => e.2) (fun e => absurd hy e.1)
theorem bo_true {P : Prop} {b : Bool} (h : Hid (b = true ↔ P)) (hp : P) : b = true := h.out.2 hp
theorem bo_false {P : Prop} {b : Bool} (h : Hid (b = true ↔ P)) (hp : ¬P) : b = false := by
  cases b
  · rfl
  · exact absurd (h.out.1 rfl) hp
theorem sums_room {n S : Nat} (h : 5 * n + S ≤ 1048579) : 2 + (n + 1) * S ≤ 200000000000 := by
  rcases Nat.lt_or_ge n 150000 with h1 | h1
  · have e1 : (n + 1) * S ≤ 150001 * 1048579 := Nat.mul_le_mul (by omega) (by omega)
    omega
  · have e1 : (n + 1) * S ≤ 209717 * 298579 := Nat.mul_le_mul (by omega) (by omega)
    omega

set_option maxRecDepth 100000 in
set_option maxHeartbeats 16000000 in
theorem walk_QpolySums {A0 A1 A2 A3 : Option Addr} {n0 c0 n1 c1 n2 c2 n3 c3 : Nat} {R0 R1 : List RawQ} {s2 s3 : Bool} {z d : Int} {w : World} (h0 : RdRQ w w.heap.size A0 n0 c0 R0) (h1 : RdRQ w w.heap.size A1 n1 c1 R1) (h2 : RdZ w w.heap.size s2 A2 n2 c2 z) (h3 : RdZ w w.heap.size s3 A3 n3 c3 d) (hk : 5 * n0 + rsz R0 + (5 * n1 + rsz R1) + (n2 + n3) ≤ 1048576) :
    Calls Tryz.prog 6 #[.slice A0 n0 c0, .slice A1 n1 c1, .agg #[.bool s2, .slice A2 n2 c2, .bool s3, .slice A3 n3 c3]] w (RetYes w) := by
  have HK := Lib.hid hk
  have hC := QC.new w s2 A2 n2 c2 s3 A3 n3 c3
  have hB0 : Below w.heap.size w (w.alloc (.cells #[.bool s2, .slice A2 n2 c2, .bool s3, .slice A3 n3 c3] 56)) := (Below.refl _ _).alloc (Nat.le_refl _) _
  have h0 := h0.next hB0
  have h1 := h1.next hB0
  have h2 := h2.next hB0
  have h3 := h3.next hB0
  have hn0 : n0 ≤ 1048576 := by omega
  have hn1 : n1 ≤ 1048576 := by omega
  have HN := Lib.hid (show n0 ≤ 1048576 ∧ n1 ≤ 1048576 ∧ n2 ≤ 1048577 ∧ n3 ≤ 1048577 ∧ rsz R0 ≤ 1048577 ∧ rsz R1 ≤ 1048577 from by omega)
  obtain ⟨L0, hL0⟩ : ∃ L, L = R0.map toQ := ⟨_, rfl⟩
  obtain ⟨L1, hL1⟩ : ∃ L, L = R1.map toQ := ⟨_, rfl⟩
  have HL := Lib.hid (And.intro hL0 hL1)
  have RD0 := Lib.hid (show ∀ (W : World) (A : Option Addr) (n c N : Nat), RdRQ W W.heap.size A n c R0 → rsz R0 ≤ N → RdQs W W.heap.size N A n c L0 from fun W A n c N h hN => by rw [HL.out.1]; exact h.rd hN)
  have RD1 := Lib.hid (show ∀ (W : World) (A : Option Addr) (n c N : Nat), RdRQ W W.heap.size A n c R1 → rsz R1 ≤ N → RdQs W W.heap.size N A n c L1 from fun W A n c N h hN => by rw [HL.out.2]; exact h.rd hN)
  clear hk hL0 hL1
  go_enter Tryz.func6, Tryz.ntmps6
  go_wp2_with fail
  obtain ⟨g, hg⟩ : ∃ g, g = w.heap.size := ⟨_, rfl⟩
  rw [← hg] at hC ⊢
  have HG := Lib.hid hg
  clear hg
  generalize w.alloc (.cells #[.bool s2, .slice A2 n2 c2, .bool s3, .slice A3 n3 c3] 56) = W1 at *
  refine (rPCopy_any h0 (by omega) (by have := HN.out; omega)).mono ?_
  rintro _ W2 ⟨Ap, np, cp, rfl, hp, hb2⟩
  obtain rfl : np = n0 := by rw [← hp.len, h0.len]
  have h0 := h0.next hb2
  have h1 := h1.next hb2
  have h2 := h2.next hb2
  have h3 := h3.next hb2
  have hC := hC.next hb2
  have hB2 := hB0.trans (hb2.mono hB0.size)
  clear hb2
  go_wp2_with fail
  refine (rPCopy_any h1 (by omega) (by have := HN.out; omega)).mono ?_
  rintro _ W3 ⟨Aq, nq', cq, rfl, hq, hb3⟩
  obtain rfl : nq' = n1 := by rw [← hq.len, h1.len]
  have h0 := h0.next hb3
  have h1 := h1.next hb3
  have h2 := h2.next hb3
  have h3 := h3.next hb3
  have hC := hC.next hb3
  have hp := hp.next hb3
  have hB3 := hB2.trans (hb3.mono hB2.size)
  clear hb3
  go_wp2_with fail
  refine (qAdd_any (N := 1048577) (RD0.out _ _ _ _ _ hp HN.out.2.2.2.2.1) (RD1.out _ _ _ _ _ hq HN.out.2.2.2.2.2) hn0 hn1 (by decide) (by decide)).mono ?_
  intro e W4 hpost
  obtain ⟨A4, m4, d4, M4, k4, rfl, ho4, hM4, hb4⟩ := hpost.all
  have h0 := h0.next hb4
  have h1 := h1.next hb4
  have h2 := h2.next hb4
  have h3 := h3.next hb4
  have hC := hC.next hb4
  have hp := hp.next hb4
  have hq := hq.next hb4
  have hB4 := hB3.trans (hb4.mono hB3.size)
  clear hb4
  clear hpost
  go_wp2_with fail
  refine (qSub_any (N := 1048577) (RD0.out _ _ _ _ _ hp HN.out.2.2.2.2.1) (RD1.out _ _ _ _ _ hq HN.out.2.2.2.2.2) hn0 hn1 (by decide) (by decide)).mono ?_
  intro e W5 hpost
  obtain ⟨A5, m5, d5, M5, k5, rfl, ho5, hM5, hb5⟩ := hpost.all
  have h0 := h0.next hb5
  have h1 := h1.next hb5
  have h2 := h2.next hb5
  have h3 := h3.next hb5
  have hC := hC.next hb5
  have hp := hp.next hb5
  have hq := hq.next hb5
  have ho4 := ho4.next hb5
  have hB5 := hB4.trans (hb5.mono hB4.size)
  clear hb5
  clear hpost
  have x0 := hC.c0
  have x1 := hC.c1
  have x2 := hC.c2
  have x3 := hC.c3
  go_wp2_with fail
  clear x0 x1 x2 x3
  refine (qScale_any (N := 1048577) (RD0.out _ _ _ _ _ hp HN.out.2.2.2.2.1) h2 h3 hn0 HN.out.2.2.1 HN.out.2.2.2.1 (by decide) (by decide)).mono ?_
  intro e W6 hpost
  obtain ⟨A6, m6, d6, M6, k6, rfl, ho6, hM6, hb6⟩ := hpost.all
  have h0 := h0.next hb6
  have h1 := h1.next hb6
  have h2 := h2.next hb6
  have h3 := h3.next hb6
  have hC := hC.next hb6
  have hp := hp.next hb6
  have hq := hq.next hb6
  have ho4 := ho4.next hb6
  have ho5 := ho5.next hb6
  have hB6 := hB5.trans (hb6.mono hB5.size)
  clear hb6
  clear hpost
  have x0 := hC.c0
  have x1 := hC.c1
  have x2 := hC.c2
  have x3 := hC.c3
  go_wp2_with fail
  clear x0 x1 x2 x3
  refine (qEval_any (N := rsz R0 + 1) (N' := n2 + n3 + 1) (RD0.out _ _ _ _ _ hp (by omega)) h2 h3 hn0 (by omega) (by omega) (sums_room (by have := HK.out; omega)) (by omega) (by omega)).mono ?_
  intro e W7 hpost
  obtain ⟨s7, A7, m7, d7, V7, s7', A7', m7', d7', V7', k7, rfl, hv7, hv7', hM7, hb7⟩ := hpost.raw
  have h0 := h0.next hb7
  have h1 := h1.next hb7
  have h2 := h2.next hb7
  have h3 := h3.next hb7
  have hC := hC.next hb7
  have hp := hp.next hb7
  have hq := hq.next hb7
  have ho4 := ho4.next hb7
  have ho5 := ho5.next hb7
  have ho6 := ho6.next hb7
  have hB7 := hB6.trans (hb7.mono hB6.size)
  clear hb7
  clear hpost
  obtain ⟨W8, HW8⟩ : ∃ W, W = W7.alloc (.cells #[.bool s7, .slice A7 m7 d7, .bool s7', .slice A7' m7' d7'] 56) := ⟨_, rfl⟩
  have hV : QC W8 W7.heap.size s7 A7 m7 d7 s7' A7' m7' d7' := by rw [HW8]; exact QC.new W7 s7 A7 m7 d7 s7' A7' m7' d7'
  have hb8 : Below W7.heap.size W7 W8 := by rw [HW8]; exact (Below.refl _ _).alloc (Nat.le_refl _) _
  have HW8 := Lib.hid HW8
  have h0 := h0.next hb8
  have h1 := h1.next hb8
  have h2 := h2.next hb8
  have h3 := h3.next hb8
  have hC := hC.next hb8
  have hp := hp.next hb8
  have hq := hq.next hb8
  have ho4 := ho4.next hb8
  have ho5 := ho5.next hb8
  have ho6 := ho6.next hb8
  have hv7 := hv7.next hb8
  have hv7' := hv7'.next hb8
  have hB8 := hB7.trans (hb8.mono hB7.size)
  clear hb8
  go_wp2_with fail
  rw [← HW8.out]
  clear HW8
  clear HW8
  obtain ⟨gv, hgv⟩ : ∃ g, g = W7.heap.size := ⟨_, rfl⟩
  rw [← hgv] at hV ⊢
  clear hgv
  refine (qDerive_any (N := 1048577) (RD0.out _ _ _ _ _ hp HN.out.2.2.2.2.1) hn0 (by decide) (by decide)).mono ?_
  intro e V hpost
  obtain ⟨A9, m9, d9, M9, k9, rfl, ho9, hM9, hb9⟩ := hpost.all
  have h0 := h0.next hb9
  have h1 := h1.next hb9
  have h2 := h2.next hb9
  have h3 := h3.next hb9
  have hC := hC.next hb9
  have hp := hp.next hb9
  have hq := hq.next hb9
  have ho4 := ho4.next hb9
  have ho5 := ho5.next hb9
  have ho6 := ho6.next hb9
  have hv7 := hv7.next hb9
  have hv7' := hv7'.next hb9
  have hV := hV.next hb9
  have hB9 := hB8.trans (hb9.mono hB8.size)
  clear hb9
  clear hpost
  have HA := Lib.hid (show ∀ W : World, Below V.heap.size V W → RdRQ W W.heap.size A0 np c0 R0 ∧ RdRQ W W.heap.size A1 nq' c1 R1 ∧ RdRQ W W.heap.size Ap np cp R0 ∧ RdRQ W W.heap.size Aq nq' cq R1 from fun W hb => ⟨h0.next hb, h1.next hb, hp.next hb, hq.next hb⟩)
  have HZ := Lib.hid (show ∀ W : World, Below V.heap.size V W → RdZ W W.heap.size s2 A2 n2 c2 z ∧ RdZ W W.heap.size s3 A3 n3 c3 d ∧ RdU W W.heap.size A7 m7 d7 V7 ∧ RdU W W.heap.size A7' m7' d7' V7' from fun W hb => ⟨h2.next hb, h3.next hb, hv7.next hb, hv7'.next hb⟩)
  have HM := Lib.hid (show ∀ W : World, Below V.heap.size V W → RdRQ W W.heap.size A4 m4 d4 (M4.map ofQ) ∧ RdRQ W W.heap.size A5 m5 d5 (M5.map ofQ) ∧ RdRQ W W.heap.size A6 m6 d6 (M6.map ofQ) ∧ RdRQ W W.heap.size A9 m9 d9 (M9.map ofQ) from fun W hb => ⟨(ho4.next hb).rq, (ho5.next hb).rq, (ho6.next hb).rq, (ho9.next hb).rq⟩)
  have HCE := Lib.hid (show ∀ W : World, Below V.heap.size V W → W.cell? ⟨g, 0, none⟩ = some (.bool s2) ∧ W.cell? ⟨g, 1, none⟩ = some (.slice A2 n2 c2) ∧ W.cell? ⟨g, 2, none⟩ = some (.bool s3) ∧ W.cell? ⟨g, 3, none⟩ = some (.slice A3 n3 c3) ∧ W.cell? ⟨gv, 0, none⟩ = some (.bool s7) ∧ W.cell? ⟨gv, 1, none⟩ = some (.slice A7 m7 d7) ∧ W.cell? ⟨gv, 2, none⟩ = some (.bool s7') ∧ W.cell? ⟨gv, 3, none⟩ = some (.slice A7' m7' d7') from fun W hb => ⟨(hC.next hb).c0, (hC.next hb).c1, (hC.next hb).c2, (hC.next hb).c3, (hV.next hb).c0, (hV.next hb).c1, (hV.next hb).c2, (hV.next hb).c3⟩)
  have HLN := Lib.hid (And.intro ho4.len (And.intro ho5.len (And.intro ho6.len ho9.len)))
  have HB := Lib.hid hB9
  have HD0 := Lib.hid (Below.refl V.heap.size V)
  clear h0 h1 h2 h3 hC hV hp hq ho4 ho5 ho6 ho9 hv7 hv7' hB0 hB2 hB3 hB4 hB5 hB6 hB7 hB8 hB9 hn0 hn1
  go_wp2_with fail
  refine (lsame09_any (HA.out _ HD0.out).2.2.1 (HA.out _ HD0.out).1).mono ?_
  rintro _ V1 ⟨b1, rfl, hq1, hl1⟩
  have HD1 := Lib.hid (HD0.out.trans (hl1.mono HD0.out.size))
  obtain rfl : b1 = true := bo_true hq1 rfl
  clear hq1 hl1
  go_wp2_with fail
  refine (lsame09_any (HA.out _ HD1.out).2.2.2 (HA.out _ HD1.out).2.1).mono ?_
  rintro _ V2 ⟨b2, rfl, hq2, hl2⟩
  have HD2 := Lib.hid (HD1.out.trans (hl2.mono HD1.out.size))
  obtain rfl : b2 = true := bo_true hq2 rfl
  clear hq2 hl2
  by_cases hA : okD L0
  · have HAK := Lib.hid hA
    have HF9 := Lib.hid (all_ok hM9 hA).1
    obtain rfl : k9 = 0 := (all_ok hM9 hA).2
    by_cases hBb : okD L1
    · have HBK := Lib.hid hBb
      have HF4 := Lib.hid (all_ok hM4 ⟨hA, hBb⟩).1
      have HF5 := Lib.hid (all_ok hM5 ⟨hA, hBb⟩).1
      obtain rfl : k4 = 0 := (all_ok hM4 ⟨hA, hBb⟩).2
      obtain rfl : k5 = 0 := (all_ok hM5 ⟨hA, hBb⟩).2
      by_cases hD : d = 0
      · have HDK := Lib.hid hD
        obtain rfl : k6 = 6 := (all_nil hM6 (fun e => e.2 hD)).2
        have HE6 := Lib.hid (all_nil hM6 (fun e => e.2 hD)).1
        have HE7 := Lib.hid ((hM7.out.elim (fun e => absurd e.1 (fun e => e.2 hD)) (fun e => e.2.1)))
        obtain rfl : k7 = 6 := hM7.out.elim (fun e => absurd e.1 (fun e => e.2 hD)) (fun e => e.2.2)
        go_wp2_with fail
        refine (rPMay_any (RD0.out _ _ _ _ 1048577 (HA.out _ HD2.out).1 HN.out.2.2.2.2.1) (by have := HN.out; omega) (by decide)).mono ?_
        rintro _ V3 ⟨b3, rfl, hq3, hl3⟩
        have HD3 := Lib.hid (HD2.out.trans (hl3.mono HD2.out.size))
        obtain rfl : b3 = true := bo_true hq3 hA
        clear hq3 hl3
        go_wp2_with fail
        refine (rPMay_any (RD0.out _ _ _ _ 1048577 (HA.out _ HD3.out).1 HN.out.2.2.2.2.1) (by have := HN.out; omega) (by decide)).mono ?_
        rintro _ V4 ⟨b4, rfl, hq4, hl4⟩
        have HD4 := Lib.hid (HD3.out.trans (hl4.mono HD3.out.size))
        obtain rfl : b4 = true := bo_true hq4 hA
        clear hq4 hl4
        go_wp2_with fail
        refine (rqDerive_any (N := 1048577) (RD0.out _ _ _ _ 1048577 (HA.out _ HD4.out).1 HN.out.2.2.2.2.1) hA HN.out.1 (by decide) (by decide)).mono ?_
        rintro _ V5 ⟨B5, p5, q5, P5, rfl, hp5, hP5, hl5⟩
        have HD5 := Lib.hid (HD4.out.trans (hl5.mono HD4.out.size))
        have HP5 := Lib.hid hp5.rq
        clear hp5 hl5
        go_wp2_with fail
        refine (lsame09_any (HM.out _ HD5.out).2.2.2 HP5.out).mono ?_
        rintro _ V6 ⟨b6, rfl, hq6, hl6⟩
        have HD6 := Lib.hid (HD5.out.trans (hl6.mono HD5.out.size))
        obtain rfl : b6 = true := bo_true hq6 (congrArg (List.map ofQ) (HF9.out.unique hP5.out))
        clear hq6 hl6
        go_wp2_with fail
        refine (rPMay_any (RD0.out _ _ _ _ 1048577 (HA.out _ HD6.out).1 HN.out.2.2.2.2.1) (by have := HN.out; omega) (by decide)).mono ?_
        rintro _ V7 ⟨b7, rfl, hq7, hl7⟩
        have HD7 := Lib.hid (HD6.out.trans (hl7.mono HD6.out.size))
        obtain rfl : b7 = true := bo_true hq7 hA
        clear hq7 hl7
        obtain ⟨x0, x1, x2, x3, x4, x5, x6, x7⟩ := HCE.out _ HD7.out
        go_wp2_with fail
        clear x0 x1 x2 x3 x4 x5 x6 x7
        refine (rQMay_any (s := s2) (A := A2) (n := n2) (c := c2) (HZ.out _ HD7.out).2.1 (by have := HN.out; omega)).mono ?_
        rintro _ V8 ⟨b8, rfl, hq8, hl8⟩
        have HD8 := Lib.hid (HD7.out.trans (hl8.mono HD7.out.size))
        obtain rfl : b8 = false := bo_false hq8 (fun e => e hD)
        clear hq8 hl8
        go_wp2_with fail
        refine (lnone_any).mono ?_
        rintro _ V9 ⟨b9, rfl, hq9, hl9⟩
        have HD9 := Lib.hid (HD8.out.trans (hl9.mono HD8.out.size))
        obtain rfl : b9 = true := bo_true hq9 (by rw [← HLN.out.2.2.1, HE6.out]; rfl)
        clear hq9 hl9
        obtain ⟨x0, x1, x2, x3, x4, x5, x6, x7⟩ := HCE.out _ HD9.out
        go_wp2_with fail
        clear x0 x1 x2 x3 x4 x5 x6 x7
        refine (same05_any (s1 := s7) (s2 := s7') (s3 := false) (s4 := false) (HZ.out _ HD9.out).2.2.1 (HZ.out _ HD9.out).2.2.2 (RdU.nil _ _ 0 none (Nat.zero_le _)) (RdU.nil _ _ 0 none (Nat.zero_le _))).mono ?_
        rintro _ V10 ⟨b10, rfl, hq10, hl10⟩
        have HD10 := Lib.hid (HD9.out.trans (hl10.mono HD9.out.size))
        obtain rfl : b10 = true := bo_true hq10 HE7.out
        clear hq10 hl10
        go_wp2_with fail
        refine (rPMay_any (RD0.out _ _ _ _ 1048577 (HA.out _ HD10.out).1 HN.out.2.2.2.2.1) (by have := HN.out; omega) (by decide)).mono ?_
        rintro _ V11 ⟨b11, rfl, hq11, hl11⟩
        have HD11 := Lib.hid (HD10.out.trans (hl11.mono HD10.out.size))
        obtain rfl : b11 = true := bo_true hq11 hA
        clear hq11 hl11
        go_wp2_with fail
        refine (rPMay_any (RD1.out _ _ _ _ 1048577 (HA.out _ HD11.out).2.1 HN.out.2.2.2.2.2) (by have := HN.out; omega) (by decide)).mono ?_
        rintro _ V12 ⟨b12, rfl, hq12, hl12⟩
        have HD12 := Lib.hid (HD11.out.trans (hl12.mono HD11.out.size))
        obtain rfl : b12 = true := bo_true hq12 hBb
        clear hq12 hl12
        go_wp2_with fail
        refine (rqAdd_any (N := 1048577) (RD0.out _ _ _ _ 1048577 (HA.out _ HD12.out).1 HN.out.2.2.2.2.1) (RD1.out _ _ _ _ 1048577 (HA.out _ HD12.out).2.1 HN.out.2.2.2.2.2) hA hBb HN.out.1 HN.out.2.1 (by decide) (by decide)).mono ?_
        rintro _ V13 ⟨B13, p13, q13, P13, rfl, hp13, hP13, hl13⟩
        have HD13 := Lib.hid (HD12.out.trans (hl13.mono HD12.out.size))
        have HP13 := Lib.hid hp13.rq
        clear hp13 hl13
        go_wp2_with fail
        refine (lsame09_any (HM.out _ HD13.out).1 HP13.out).mono ?_
        rintro _ V14 ⟨b14, rfl, hq14, hl14⟩
        have HD14 := Lib.hid (HD13.out.trans (hl14.mono HD13.out.size))
        obtain rfl : b14 = true := bo_true hq14 (congrArg (List.map ofQ) (HF4.out.unique hP13.out))
        clear hq14 hl14
        go_wp2_with fail
        refine (rqSub_any (N := 1048577) (RD0.out _ _ _ _ 1048577 (HA.out _ HD14.out).1 HN.out.2.2.2.2.1) (RD1.out _ _ _ _ 1048577 (HA.out _ HD14.out).2.1 HN.out.2.2.2.2.2) hA hBb HN.out.1 HN.out.2.1 (by decide) (by decide)).mono ?_
        rintro _ V15 ⟨B15, p15, q15, P15, rfl, hp15, hP15, hl15⟩
        have HD15 := Lib.hid (HD14.out.trans (hl15.mono HD14.out.size))
        have HP15 := Lib.hid hp15.rq
        clear hp15 hl15
        go_wp2_with fail
        refine (lsame09_any (HM.out _ HD15.out).2.1 HP15.out).mono ?_
        rintro _ V16 ⟨b16, rfl, hq16, hl16⟩
        have HD16 := Lib.hid (HD15.out.trans (hl16.mono HD15.out.size))
        obtain rfl : b16 = true := bo_true hq16 (congrArg (List.map ofQ) (HF5.out.unique hP15.out))
        clear hq16 hl16
        go_wp2_with fail
        refine (lives_any _).mono ?_
        rintro _ V17 ⟨rfl, hl17⟩
        have HF := Lib.hid (HB.out.trans ((HD16.out.trans (hl17.mono HD16.out.size)).mono HB.out.size))
        clear hl17
        go_wp2
        go_ret
        exact ⟨rfl, HF.out⟩
      · have HDK := Lib.hid hD
        have HF6 := Lib.hid (all_ok hM6 ⟨hA, hD⟩).1
        obtain rfl : k6 = 0 := (all_ok hM6 ⟨hA, hD⟩).2
        obtain rfl : k7 = 0 := hM7.out.elim (fun e => e.2.2) (fun e => absurd ⟨hA, hD⟩ e.1)
        have HE7 := Lib.hid (hM7.out.elim (fun e => e.2.1) (fun e => absurd ⟨hA, hD⟩ e.1))
        go_wp2_with fail
        refine (rPMay_any (RD0.out _ _ _ _ 1048577 (HA.out _ HD2.out).1 HN.out.2.2.2.2.1) (by have := HN.out; omega) (by decide)).mono ?_
        rintro _ V3 ⟨b3, rfl, hq3, hl3⟩
        have HD3 := Lib.hid (HD2.out.trans (hl3.mono HD2.out.size))
        obtain rfl : b3 = true := bo_true hq3 hA
        clear hq3 hl3
        go_wp2_with fail
        refine (rPMay_any (RD0.out _ _ _ _ 1048577 (HA.out _ HD3.out).1 HN.out.2.2.2.2.1) (by have := HN.out; omega) (by decide)).mono ?_
        rintro _ V4 ⟨b4, rfl, hq4, hl4⟩
        have HD4 := Lib.hid (HD3.out.trans (hl4.mono HD3.out.size))
        obtain rfl : b4 = true := bo_true hq4 hA
        clear hq4 hl4
        go_wp2_with fail
        refine (rqDerive_any (N := 1048577) (RD0.out _ _ _ _ 1048577 (HA.out _ HD4.out).1 HN.out.2.2.2.2.1) hA HN.out.1 (by decide) (by decide)).mono ?_
        rintro _ V5 ⟨B5, p5, q5, P5, rfl, hp5, hP5, hl5⟩
        have HD5 := Lib.hid (HD4.out.trans (hl5.mono HD4.out.size))
        have HP5 := Lib.hid hp5.rq
        clear hp5 hl5
        go_wp2_with fail
        refine (lsame09_any (HM.out _ HD5.out).2.2.2 HP5.out).mono ?_
        rintro _ V6 ⟨b6, rfl, hq6, hl6⟩
        have HD6 := Lib.hid (HD5.out.trans (hl6.mono HD5.out.size))
        obtain rfl : b6 = true := bo_true hq6 (congrArg (List.map ofQ) (HF9.out.unique hP5.out))
        clear hq6 hl6
        go_wp2_with fail
        refine (rPMay_any (RD0.out _ _ _ _ 1048577 (HA.out _ HD6.out).1 HN.out.2.2.2.2.1) (by have := HN.out; omega) (by decide)).mono ?_
        rintro _ V7 ⟨b7, rfl, hq7, hl7⟩
        have HD7 := Lib.hid (HD6.out.trans (hl7.mono HD6.out.size))
        obtain rfl : b7 = true := bo_true hq7 hA
        clear hq7 hl7
        obtain ⟨x0, x1, x2, x3, x4, x5, x6, x7⟩ := HCE.out _ HD7.out
        go_wp2_with fail
        clear x0 x1 x2 x3 x4 x5 x6 x7
        refine (rQMay_any (s := s2) (A := A2) (n := n2) (c := c2) (HZ.out _ HD7.out).2.1 (by have := HN.out; omega)).mono ?_
        rintro _ V8 ⟨b8, rfl, hq8, hl8⟩
        have HD8 := Lib.hid (HD7.out.trans (hl8.mono HD7.out.size))
        obtain rfl : b8 = true := bo_true hq8 hD
        clear hq8 hl8
        go_upto_region 14 with fail
        have HDD := Lib.hid HD8.out.drew
        obtain ⟨x0, x1, x2, x3, x4, x5, x6, x7⟩ := HCE.out _ HD8.out
        go_region_held3 (fun w' => w'.cell? ⟨g, 0, none⟩ = some (.bool s2) ∧ w'.cell? ⟨g, 1, none⟩ = some (.slice A2 n2 c2) ∧ w'.cell? ⟨g, 2, none⟩ = some (.bool s3) ∧ w'.cell? ⟨g, 3, none⟩ = some (.slice A3 n3 c3) ∧ w'.cell? ⟨gv, 0, none⟩ = some (.bool s7) ∧ w'.cell? ⟨gv, 1, none⟩ = some (.slice A7 m7 d7) ∧ w'.cell? ⟨gv, 2, none⟩ = some (.bool s7') ∧ w'.cell? ⟨gv, 3, none⟩ = some (.slice A7' m7' d7'))
          (first | exact HCE.out _ HD12.out | exact HCE.out _ HD11.out | exact HCE.out _ HD10.out | exact HCE.out _ HD9.out | exact HCE.out _ HDD.out)
          (first
            | (have hx := HD11.out; clear hx; go_at_call 53; refine (same05_any (s1 := s7) (s2 := s7') (s3 := t1) (s4 := t2) (HZ.out _ HD11.out).2.2.1 (HZ.out _ HD11.out).2.2.2 HRW.out.1 HRW.out.2.1).mono ?_; rintro _ V12 ⟨b12, rfl, hq12, hl12⟩; have HD12 := Lib.hid (HD11.out.trans (hl12.mono HD11.out.size)); obtain rfl : b12 = true := bo_true hq12 (by rw [HE7.out, HRW.out.2.2, hy.out]))
            | (have hx := HD10.out; clear hx; go_at_call 55; refine (rqEval_any (N := rsz R0 + 1) (N' := n2 + n3 + 1) (RD0.out _ _ _ _ _ (HA.out _ HD10.out).1 (by omega)) (HZ.out _ HD10.out).1 (HZ.out _ HD10.out).2.1 hA hD (by omega) (by omega) (sums_room (by have := HK.out; omega)) (by omega)).mono ?_; rintro _ V11 ⟨t1, B1, p1, q1, t2, B2, p2, q2, y, rfl, ho, hy, hl11⟩; have HD11 := Lib.hid (HD10.out.trans (hl11.mono HD10.out.size)); have HRW := Lib.hid ho.raw)
            | (have hx := HD9.out; clear hx; go_at_call 36; refine (lsame09_any (HM.out _ HD9.out).2.2.1 HP9.out).mono ?_; rintro _ V10 ⟨b10, rfl, hq10, hl10⟩; have HD10 := Lib.hid (HD9.out.trans (hl10.mono HD9.out.size)); obtain rfl : b10 = true := bo_true hq10 (congrArg (List.map ofQ) (HF6.out.unique hP9.out)))
            | (go_at_call 54; refine (rqScale_any (N := 1048577) (RD0.out _ _ _ _ 1048577 (HA.out _ HDD.out).1 HN.out.2.2.2.2.1) (HZ.out _ HDD.out).1 (HZ.out _ HDD.out).2.1 hA hD HN.out.1 HN.out.2.2.1 HN.out.2.2.2.1 (by decide) (by decide)).mono ?_; rintro _ V9 ⟨B9, p9, q9, P9, rfl, hp9, hP9, hl9⟩; have HD9 := Lib.hid (HDD.out.trans (hl9.mono HDD.out.size)); have HP9 := Lib.hid hp9.rq))
        clear x0 x1 x2 x3 x4 x5 x6 x7
        clear hl9 hl10 hl11 hl12 hq10 hq12
        go_wp2_with fail
        refine (rPMay_any (RD0.out _ _ _ _ 1048577 (HA.out _ HD12.out).1 HN.out.2.2.2.2.1) (by have := HN.out; omega) (by decide)).mono ?_
        rintro _ V13 ⟨b13, rfl, hq13, hl13⟩
        have HD13 := Lib.hid (HD12.out.trans (hl13.mono HD12.out.size))
        obtain rfl : b13 = true := bo_true hq13 hA
        clear hq13 hl13
        go_wp2_with fail
        refine (rPMay_any (RD1.out _ _ _ _ 1048577 (HA.out _ HD13.out).2.1 HN.out.2.2.2.2.2) (by have := HN.out; omega) (by decide)).mono ?_
        rintro _ V14 ⟨b14, rfl, hq14, hl14⟩
        have HD14 := Lib.hid (HD13.out.trans (hl14.mono HD13.out.size))
        obtain rfl : b14 = true := bo_true hq14 hBb
        clear hq14 hl14
        go_wp2_with fail
        refine (rqAdd_any (N := 1048577) (RD0.out _ _ _ _ 1048577 (HA.out _ HD14.out).1 HN.out.2.2.2.2.1) (RD1.out _ _ _ _ 1048577 (HA.out _ HD14.out).2.1 HN.out.2.2.2.2.2) hA hBb HN.out.1 HN.out.2.1 (by decide) (by decide)).mono ?_
        rintro _ V15 ⟨B15, p15, q15, P15, rfl, hp15, hP15, hl15⟩
        have HD15 := Lib.hid (HD14.out.trans (hl15.mono HD14.out.size))
        have HP15 := Lib.hid hp15.rq
        clear hp15 hl15
        go_wp2_with fail
        refine (lsame09_any (HM.out _ HD15.out).1 HP15.out).mono ?_
        rintro _ V16 ⟨b16, rfl, hq16, hl16⟩
        have HD16 := Lib.hid (HD15.out.trans (hl16.mono HD15.out.size))
        obtain rfl : b16 = true := bo_true hq16 (congrArg (List.map ofQ) (HF4.out.unique hP15.out))
        clear hq16 hl16
        go_wp2_with fail
        refine (rqSub_any (N := 1048577) (RD0.out _ _ _ _ 1048577 (HA.out _ HD16.out).1 HN.out.2.2.2.2.1) (RD1.out _ _ _ _ 1048577 (HA.out _ HD16.out).2.1 HN.out.2.2.2.2.2) hA hBb HN.out.1 HN.out.2.1 (by decide) (by decide)).mono ?_
        rintro _ V17 ⟨B17, p17, q17, P17, rfl, hp17, hP17, hl17⟩
        have HD17 := Lib.hid (HD16.out.trans (hl17.mono HD16.out.size))
        have HP17 := Lib.hid hp17.rq
        clear hp17 hl17
        go_wp2_with fail
        refine (lsame09_any (HM.out _ HD17.out).2.1 HP17.out).mono ?_
        rintro _ V18 ⟨b18, rfl, hq18, hl18⟩
        have HD18 := Lib.hid (HD17.out.trans (hl18.mono HD17.out.size))
        obtain rfl : b18 = true := bo_true hq18 (congrArg (List.map ofQ) (HF5.out.unique hP17.out))
        clear hq18 hl18
        go_wp2_with fail
        refine (lives_any _).mono ?_
        rintro _ V19 ⟨rfl, hl19⟩
        have HF := Lib.hid (HB.out.trans ((HD18.out.trans (hl19.mono HD18.out.size)).mono HB.out.size))
        clear hl19
        go_wp2
        go_ret
        exact ⟨rfl, HF.out⟩
    · have HBK := Lib.hid hBb
      obtain rfl : k4 = 6 := (all_nil hM4 (fun e => hBb e.2)).2
      obtain rfl : k5 = 6 := (all_nil hM5 (fun e => hBb e.2)).2
      have HE4 := Lib.hid (all_nil hM4 (fun e => hBb e.2)).1
      have HE5 := Lib.hid (all_nil hM5 (fun e => hBb e.2)).1
      by_cases hD : d = 0
      · have HDK := Lib.hid hD
        obtain rfl : k6 = 6 := (all_nil hM6 (fun e => e.2 hD)).2
        have HE6 := Lib.hid (all_nil hM6 (fun e => e.2 hD)).1
        have HE7 := Lib.hid ((hM7.out.elim (fun e => absurd e.1 (fun e => e.2 hD)) (fun e => e.2.1)))
        obtain rfl : k7 = 6 := hM7.out.elim (fun e => absurd e.1 (fun e => e.2 hD)) (fun e => e.2.2)
        go_wp2_with fail
        refine (rPMay_any (RD0.out _ _ _ _ 1048577 (HA.out _ HD2.out).1 HN.out.2.2.2.2.1) (by have := HN.out; omega) (by decide)).mono ?_
        rintro _ V3 ⟨b3, rfl, hq3, hl3⟩
        have HD3 := Lib.hid (HD2.out.trans (hl3.mono HD2.out.size))
        obtain rfl : b3 = true := bo_true hq3 hA
        clear hq3 hl3
        go_wp2_with fail
        refine (rPMay_any (RD0.out _ _ _ _ 1048577 (HA.out _ HD3.out).1 HN.out.2.2.2.2.1) (by have := HN.out; omega) (by decide)).mono ?_
        rintro _ V4 ⟨b4, rfl, hq4, hl4⟩
        have HD4 := Lib.hid (HD3.out.trans (hl4.mono HD3.out.size))
        obtain rfl : b4 = true := bo_true hq4 hA
        clear hq4 hl4
        go_wp2_with fail
        refine (rqDerive_any (N := 1048577) (RD0.out _ _ _ _ 1048577 (HA.out _ HD4.out).1 HN.out.2.2.2.2.1) hA HN.out.1 (by decide) (by decide)).mono ?_
        rintro _ V5 ⟨B5, p5, q5, P5, rfl, hp5, hP5, hl5⟩
        have HD5 := Lib.hid (HD4.out.trans (hl5.mono HD4.out.size))
        have HP5 := Lib.hid hp5.rq
        clear hp5 hl5
        go_wp2_with fail
        refine (lsame09_any (HM.out _ HD5.out).2.2.2 HP5.out).mono ?_
        rintro _ V6 ⟨b6, rfl, hq6, hl6⟩
        have HD6 := Lib.hid (HD5.out.trans (hl6.mono HD5.out.size))
        obtain rfl : b6 = true := bo_true hq6 (congrArg (List.map ofQ) (HF9.out.unique hP5.out))
        clear hq6 hl6
        go_wp2_with fail
        refine (rPMay_any (RD0.out _ _ _ _ 1048577 (HA.out _ HD6.out).1 HN.out.2.2.2.2.1) (by have := HN.out; omega) (by decide)).mono ?_
        rintro _ V7 ⟨b7, rfl, hq7, hl7⟩
        have HD7 := Lib.hid (HD6.out.trans (hl7.mono HD6.out.size))
        obtain rfl : b7 = true := bo_true hq7 hA
        clear hq7 hl7
        obtain ⟨x0, x1, x2, x3, x4, x5, x6, x7⟩ := HCE.out _ HD7.out
        go_wp2_with fail
        clear x0 x1 x2 x3 x4 x5 x6 x7
        refine (rQMay_any (s := s2) (A := A2) (n := n2) (c := c2) (HZ.out _ HD7.out).2.1 (by have := HN.out; omega)).mono ?_
        rintro _ V8 ⟨b8, rfl, hq8, hl8⟩
        have HD8 := Lib.hid (HD7.out.trans (hl8.mono HD7.out.size))
        obtain rfl : b8 = false := bo_false hq8 (fun e => e hD)
        clear hq8 hl8
        go_wp2_with fail
        refine (lnone_any).mono ?_
        rintro _ V9 ⟨b9, rfl, hq9, hl9⟩
        have HD9 := Lib.hid (HD8.out.trans (hl9.mono HD8.out.size))
        obtain rfl : b9 = true := bo_true hq9 (by rw [← HLN.out.2.2.1, HE6.out]; rfl)
        clear hq9 hl9
        obtain ⟨x0, x1, x2, x3, x4, x5, x6, x7⟩ := HCE.out _ HD9.out
        go_wp2_with fail
        clear x0 x1 x2 x3 x4 x5 x6 x7
        refine (same05_any (s1 := s7) (s2 := s7') (s3 := false) (s4 := false) (HZ.out _ HD9.out).2.2.1 (HZ.out _ HD9.out).2.2.2 (RdU.nil _ _ 0 none (Nat.zero_le _)) (RdU.nil _ _ 0 none (Nat.zero_le _))).mono ?_
        rintro _ V10 ⟨b10, rfl, hq10, hl10⟩
        have HD10 := Lib.hid (HD9.out.trans (hl10.mono HD9.out.size))
        obtain rfl : b10 = true := bo_true hq10 HE7.out
        clear hq10 hl10
        go_wp2_with fail
        refine (rPMay_any (RD0.out _ _ _ _ 1048577 (HA.out _ HD10.out).1 HN.out.2.2.2.2.1) (by have := HN.out; omega) (by decide)).mono ?_
        rintro _ V11 ⟨b11, rfl, hq11, hl11⟩
        have HD11 := Lib.hid (HD10.out.trans (hl11.mono HD10.out.size))
        obtain rfl : b11 = true := bo_true hq11 hA
        clear hq11 hl11
        go_wp2_with fail
        refine (rPMay_any (RD1.out _ _ _ _ 1048577 (HA.out _ HD11.out).2.1 HN.out.2.2.2.2.2) (by have := HN.out; omega) (by decide)).mono ?_
        rintro _ V12 ⟨b12, rfl, hq12, hl12⟩
        have HD12 := Lib.hid (HD11.out.trans (hl12.mono HD11.out.size))
        obtain rfl : b12 = false := bo_false hq12 hBb
        clear hq12 hl12
        go_wp2_with fail
        refine (lnone_any).mono ?_
        rintro _ V13 ⟨b13, rfl, hq13, hl13⟩
        have HD13 := Lib.hid (HD12.out.trans (hl13.mono HD12.out.size))
        obtain rfl : b13 = true := bo_true hq13 (by rw [← HLN.out.1, HE4.out]; rfl)
        clear hq13 hl13
        go_wp2_with fail
        refine (lnone_any).mono ?_
        rintro _ V14 ⟨b14, rfl, hq14, hl14⟩
        have HD14 := Lib.hid (HD13.out.trans (hl14.mono HD13.out.size))
        obtain rfl : b14 = true := bo_true hq14 (by rw [← HLN.out.2.1, HE5.out]; rfl)
        clear hq14 hl14
        go_wp2_with fail
        refine (lives_any _).mono ?_
        rintro _ V15 ⟨rfl, hl15⟩
        have HF := Lib.hid (HB.out.trans ((HD14.out.trans (hl15.mono HD14.out.size)).mono HB.out.size))
        clear hl15
        go_wp2
        go_ret
        exact ⟨rfl, HF.out⟩
      · have HDK := Lib.hid hD
        have HF6 := Lib.hid (all_ok hM6 ⟨hA, hD⟩).1
        obtain rfl : k6 = 0 := (all_ok hM6 ⟨hA, hD⟩).2
        obtain rfl : k7 = 0 := hM7.out.elim (fun e => e.2.2) (fun e => absurd ⟨hA, hD⟩ e.1)
        have HE7 := Lib.hid (hM7.out.elim (fun e => e.2.1) (fun e => absurd ⟨hA, hD⟩ e.1))
        go_wp2_with fail
        refine (rPMay_any (RD0.out _ _ _ _ 1048577 (HA.out _ HD2.out).1 HN.out.2.2.2.2.1) (by have := HN.out; omega) (by decide)).mono ?_
        rintro _ V3 ⟨b3, rfl, hq3, hl3⟩
        have HD3 := Lib.hid (HD2.out.trans (hl3.mono HD2.out.size))
        obtain rfl : b3 = true := bo_true hq3 hA
        clear hq3 hl3
        go_wp2_with fail
        refine (rPMay_any (RD0.out _ _ _ _ 1048577 (HA.out _ HD3.out).1 HN.out.2.2.2.2.1) (by have := HN.out; omega) (by decide)).mono ?_
        rintro _ V4 ⟨b4, rfl, hq4, hl4⟩
        have HD4 := Lib.hid (HD3.out.trans (hl4.mono HD3.out.size))
        obtain rfl : b4 = true := bo_true hq4 hA
        clear hq4 hl4
        go_wp2_with fail
        refine (rqDerive_any (N := 1048577) (RD0.out _ _ _ _ 1048577 (HA.out _ HD4.out).1 HN.out.2.2.2.2.1) hA HN.out.1 (by decide) (by decide)).mono ?_
        rintro _ V5 ⟨B5, p5, q5, P5, rfl, hp5, hP5, hl5⟩
        have HD5 := Lib.hid (HD4.out.trans (hl5.mono HD4.out.size))
        have HP5 := Lib.hid hp5.rq
        clear hp5 hl5
        go_wp2_with fail
        refine (lsame09_any (HM.out _ HD5.out).2.2.2 HP5.out).mono ?_
        rintro _ V6 ⟨b6, rfl, hq6, hl6⟩
        have HD6 := Lib.hid (HD5.out.trans (hl6.mono HD5.out.size))
        obtain rfl : b6 = true := bo_true hq6 (congrArg (List.map ofQ) (HF9.out.unique hP5.out))
        clear hq6 hl6
        go_wp2_with fail
        refine (rPMay_any (RD0.out _ _ _ _ 1048577 (HA.out _ HD6.out).1 HN.out.2.2.2.2.1) (by have := HN.out; omega) (by decide)).mono ?_
        rintro _ V7 ⟨b7, rfl, hq7, hl7⟩
        have HD7 := Lib.hid (HD6.out.trans (hl7.mono HD6.out.size))
        obtain rfl : b7 = true := bo_true hq7 hA
        clear hq7 hl7
        obtain ⟨x0, x1, x2, x3, x4, x5, x6, x7⟩ := HCE.out _ HD7.out
        go_wp2_with fail
        clear x0 x1 x2 x3 x4 x5 x6 x7
        refine (rQMay_any (s := s2) (A := A2) (n := n2) (c := c2) (HZ.out _ HD7.out).2.1 (by have := HN.out; omega)).mono ?_
        rintro _ V8 ⟨b8, rfl, hq8, hl8⟩
        have HD8 := Lib.hid (HD7.out.trans (hl8.mono HD7.out.size))
        obtain rfl : b8 = true := bo_true hq8 hD
        clear hq8 hl8
        go_upto_region 14 with fail
        have HDD := Lib.hid HD8.out.drew
        obtain ⟨x0, x1, x2, x3, x4, x5, x6, x7⟩ := HCE.out _ HD8.out
        go_region_held3 (fun w' => w'.cell? ⟨g, 0, none⟩ = some (.bool s2) ∧ w'.cell? ⟨g, 1, none⟩ = some (.slice A2 n2 c2) ∧ w'.cell? ⟨g, 2, none⟩ = some (.bool s3) ∧ w'.cell? ⟨g, 3, none⟩ = some (.slice A3 n3 c3) ∧ w'.cell? ⟨gv, 0, none⟩ = some (.bool s7) ∧ w'.cell? ⟨gv, 1, none⟩ = some (.slice A7 m7 d7) ∧ w'.cell? ⟨gv, 2, none⟩ = some (.bool s7') ∧ w'.cell? ⟨gv, 3, none⟩ = some (.slice A7' m7' d7'))
          (first | exact HCE.out _ HD12.out | exact HCE.out _ HD11.out | exact HCE.out _ HD10.out | exact HCE.out _ HD9.out | exact HCE.out _ HDD.out)
          (first
            | (have hx := HD11.out; clear hx; go_at_call 53; refine (same05_any (s1 := s7) (s2 := s7') (s3 := t1) (s4 := t2) (HZ.out _ HD11.out).2.2.1 (HZ.out _ HD11.out).2.2.2 HRW.out.1 HRW.out.2.1).mono ?_; rintro _ V12 ⟨b12, rfl, hq12, hl12⟩; have HD12 := Lib.hid (HD11.out.trans (hl12.mono HD11.out.size)); obtain rfl : b12 = true := bo_true hq12 (by rw [HE7.out, HRW.out.2.2, hy.out]))
            | (have hx := HD10.out; clear hx; go_at_call 55; refine (rqEval_any (N := rsz R0 + 1) (N' := n2 + n3 + 1) (RD0.out _ _ _ _ _ (HA.out _ HD10.out).1 (by omega)) (HZ.out _ HD10.out).1 (HZ.out _ HD10.out).2.1 hA hD (by omega) (by omega) (sums_room (by have := HK.out; omega)) (by omega)).mono ?_; rintro _ V11 ⟨t1, B1, p1, q1, t2, B2, p2, q2, y, rfl, ho, hy, hl11⟩; have HD11 := Lib.hid (HD10.out.trans (hl11.mono HD10.out.size)); have HRW := Lib.hid ho.raw)
            | (have hx := HD9.out; clear hx; go_at_call 36; refine (lsame09_any (HM.out _ HD9.out).2.2.1 HP9.out).mono ?_; rintro _ V10 ⟨b10, rfl, hq10, hl10⟩; have HD10 := Lib.hid (HD9.out.trans (hl10.mono HD9.out.size)); obtain rfl : b10 = true := bo_true hq10 (congrArg (List.map ofQ) (HF6.out.unique hP9.out)))
            | (go_at_call 54; refine (rqScale_any (N := 1048577) (RD0.out _ _ _ _ 1048577 (HA.out _ HDD.out).1 HN.out.2.2.2.2.1) (HZ.out _ HDD.out).1 (HZ.out _ HDD.out).2.1 hA hD HN.out.1 HN.out.2.2.1 HN.out.2.2.2.1 (by decide) (by decide)).mono ?_; rintro _ V9 ⟨B9, p9, q9, P9, rfl, hp9, hP9, hl9⟩; have HD9 := Lib.hid (HDD.out.trans (hl9.mono HDD.out.size)); have HP9 := Lib.hid hp9.rq))
        clear x0 x1 x2 x3 x4 x5 x6 x7
        clear hl9 hl10 hl11 hl12 hq10 hq12
        go_wp2_with fail
        refine (rPMay_any (RD0.out _ _ _ _ 1048577 (HA.out _ HD12.out).1 HN.out.2.2.2.2.1) (by have := HN.out; omega) (by decide)).mono ?_
        rintro _ V13 ⟨b13, rfl, hq13, hl13⟩
        have HD13 := Lib.hid (HD12.out.trans (hl13.mono HD12.out.size))
        obtain rfl : b13 = true := bo_true hq13 hA
        clear hq13 hl13
        go_wp2_with fail
        refine (rPMay_any (RD1.out _ _ _ _ 1048577 (HA.out _ HD13.out).2.1 HN.out.2.2.2.2.2) (by have := HN.out; omega) (by decide)).mono ?_
        rintro _ V14 ⟨b14, rfl, hq14, hl14⟩
        have HD14 := Lib.hid (HD13.out.trans (hl14.mono HD13.out.size))
        obtain rfl : b14 = false := bo_false hq14 hBb
        clear hq14 hl14
        go_wp2_with fail
        refine (lnone_any).mono ?_
        rintro _ V15 ⟨b15, rfl, hq15, hl15⟩
        have HD15 := Lib.hid (HD14.out.trans (hl15.mono HD14.out.size))
        obtain rfl : b15 = true := bo_true hq15 (by rw [← HLN.out.1, HE4.out]; rfl)
        clear hq15 hl15
        go_wp2_with fail
        refine (lnone_any).mono ?_
        rintro _ V16 ⟨b16, rfl, hq16, hl16⟩
        have HD16 := Lib.hid (HD15.out.trans (hl16.mono HD15.out.size))
        obtain rfl : b16 = true := bo_true hq16 (by rw [← HLN.out.2.1, HE5.out]; rfl)
        clear hq16 hl16
        go_wp2_with fail
        refine (lives_any _).mono ?_
        rintro _ V17 ⟨rfl, hl17⟩
        have HF := Lib.hid (HB.out.trans ((HD16.out.trans (hl17.mono HD16.out.size)).mono HB.out.size))
        clear hl17
        go_wp2
        go_ret
        exact ⟨rfl, HF.out⟩
  · have HAK := Lib.hid hA
    obtain rfl : k4 = 6 := (all_nil hM4 (fun e => hA e.1)).2
    obtain rfl : k5 = 6 := (all_nil hM5 (fun e => hA e.1)).2
    have HE4 := Lib.hid (all_nil hM4 (fun e => hA e.1)).1
    have HE5 := Lib.hid (all_nil hM5 (fun e => hA e.1)).1
    obtain rfl : k9 = 6 := (all_nil hM9 hA).2
    have HE9 := Lib.hid (all_nil hM9 hA).1
    obtain rfl : k6 = 6 := (all_nil hM6 (fun e => hA e.1)).2
    have HE6 := Lib.hid (all_nil hM6 (fun e => hA e.1)).1
    have HE7 := Lib.hid ((hM7.out.elim (fun e => absurd e.1 (fun e => hA e.1)) (fun e => e.2.1)))
    obtain rfl : k7 = 6 := hM7.out.elim (fun e => absurd e.1 (fun e => hA e.1)) (fun e => e.2.2)
    go_wp2_with fail
    refine (rPMay_any (RD0.out _ _ _ _ 1048577 (HA.out _ HD2.out).1 HN.out.2.2.2.2.1) (by have := HN.out; omega) (by decide)).mono ?_
    rintro _ V3 ⟨b3, rfl, hq3, hl3⟩
    have HD3 := Lib.hid (HD2.out.trans (hl3.mono HD2.out.size))
    obtain rfl : b3 = false := bo_false hq3 hA
    clear hq3 hl3
    go_wp2_with fail
    refine (lnone_any).mono ?_
    rintro _ V4 ⟨b4, rfl, hq4, hl4⟩
    have HD4 := Lib.hid (HD3.out.trans (hl4.mono HD3.out.size))
    obtain rfl : b4 = true := bo_true hq4 (by rw [← HLN.out.2.2.2, HE9.out]; rfl)
    clear hq4 hl4
    go_wp2_with fail
    refine (rPMay_any (RD0.out _ _ _ _ 1048577 (HA.out _ HD4.out).1 HN.out.2.2.2.2.1) (by have := HN.out; omega) (by decide)).mono ?_
    rintro _ V5 ⟨b5, rfl, hq5, hl5⟩
    have HD5 := Lib.hid (HD4.out.trans (hl5.mono HD4.out.size))
    obtain rfl : b5 = false := bo_false hq5 hA
    clear hq5 hl5
    go_wp2_with fail
    refine (rPMay_any (RD0.out _ _ _ _ 1048577 (HA.out _ HD5.out).1 HN.out.2.2.2.2.1) (by have := HN.out; omega) (by decide)).mono ?_
    rintro _ V6 ⟨b6, rfl, hq6, hl6⟩
    have HD6 := Lib.hid (HD5.out.trans (hl6.mono HD5.out.size))
    obtain rfl : b6 = false := bo_false hq6 hA
    clear hq6 hl6
    go_wp2_with fail
    refine (lnone_any).mono ?_
    rintro _ V7 ⟨b7, rfl, hq7, hl7⟩
    have HD7 := Lib.hid (HD6.out.trans (hl7.mono HD6.out.size))
    obtain rfl : b7 = true := bo_true hq7 (by rw [← HLN.out.2.2.1, HE6.out]; rfl)
    clear hq7 hl7
    obtain ⟨x0, x1, x2, x3, x4, x5, x6, x7⟩ := HCE.out _ HD7.out
    go_wp2_with fail
    clear x0 x1 x2 x3 x4 x5 x6 x7
    refine (same05_any (s1 := s7) (s2 := s7') (s3 := false) (s4 := false) (HZ.out _ HD7.out).2.2.1 (HZ.out _ HD7.out).2.2.2 (RdU.nil _ _ 0 none (Nat.zero_le _)) (RdU.nil _ _ 0 none (Nat.zero_le _))).mono ?_
    rintro _ V8 ⟨b8, rfl, hq8, hl8⟩
    have HD8 := Lib.hid (HD7.out.trans (hl8.mono HD7.out.size))
    obtain rfl : b8 = true := bo_true hq8 HE7.out
    clear hq8 hl8
    go_wp2_with fail
    refine (rPMay_any (RD0.out _ _ _ _ 1048577 (HA.out _ HD8.out).1 HN.out.2.2.2.2.1) (by have := HN.out; omega) (by decide)).mono ?_
    rintro _ V9 ⟨b9, rfl, hq9, hl9⟩
    have HD9 := Lib.hid (HD8.out.trans (hl9.mono HD8.out.size))
    obtain rfl : b9 = false := bo_false hq9 hA
    clear hq9 hl9
    go_wp2_with fail
    refine (lnone_any).mono ?_
    rintro _ V10 ⟨b10, rfl, hq10, hl10⟩
    have HD10 := Lib.hid (HD9.out.trans (hl10.mono HD9.out.size))
    obtain rfl : b10 = true := bo_true hq10 (by rw [← HLN.out.1, HE4.out]; rfl)
    clear hq10 hl10
    go_wp2_with fail
    refine (lnone_any).mono ?_
    rintro _ V11 ⟨b11, rfl, hq11, hl11⟩
    have HD11 := Lib.hid (HD10.out.trans (hl11.mono HD10.out.size))
    obtain rfl : b11 = true := bo_true hq11 (by rw [← HLN.out.2.1, HE5.out]; rfl)
    clear hq11 hl11
    go_wp2_with fail
    refine (lives_any _).mono ?_
    rintro _ V12 ⟨rfl, hl12⟩
    have HF := Lib.hid (HB.out.trans ((HD11.out.trans (hl12.mono HD11.out.size)).mono HB.out.size))
    clear hl12
    go_wp2
    go_ret
    exact ⟨rfl, HF.out⟩
end Go.Proofs.YtipbpdiahemmpaaGreat
