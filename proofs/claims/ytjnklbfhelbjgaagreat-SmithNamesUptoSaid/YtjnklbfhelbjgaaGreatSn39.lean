/- similelaw18: poly, num. -/
import Derived.Test.YtjnklbfhelbjgaaGreatSn38
import Derived.Test.YtjnklbfhelbjgaaGreatSn19
import Derived.Test.YtjnklbfhelbjgaaGreatRows
import Derived.WalkKit
import Derived.ProofKit
import Derived.OpenShut
import Derived.JoinedCond
import Derived.Test.YtjnklbfhelbjgaaGreatSn00
import Derived.ChangeSlices
namespace Go.Proofs.YtjnklbfhelbjgaaGreat
open Go.RowKit Go.IntWalk
attribute [local go_sem ↓] Go.wp_at_zero Go.wp_at_succ
set_option maxHeartbeats 1000000 in
theorem num18_any (z : Int) (w : World) : Calls Tryz.prog 16 #[.int .i64 z] w (fun e w' => e = .returned (.int .i64 z) ∧ w' = w) := by
 go_enter Tryz.func16, Tryz.ntmps16
 go_wp2
 go_ret
 exact ⟨rfl, rfl⟩
set_option maxRecDepth 100000 in
set_option maxHeartbeats 8000000 in
theorem lpoly18_any {A : Option Addr} {n c : Nat} {L : List Int} {w : World} (h : RdK w w.heap.size A n c L) (hn : n ≤ 1048576) :
  Calls Tryz.prog 62 #[.slice A n c] w fun e w' => ∃ (A : Option Addr) (n c : Nat) (M : List Rat), e = .returned (.slice A n c) ∧ OwQp w' w.heap.size A n c M ∧ Hid (M = L.map fun z : Int => (z : Rat)) ∧ Below w.heap.size w w' := by
 have HLEN := Lib.hid h.len
 obtain ⟨i0, hi, hz0, hz1, hz2⟩ := info_parts infoQ
 go_enter Tryz.func62, Tryz.ntmps62
 go_wp2_with fail
 go_loopw [3, 8] (fun ov iv wr => ∃ (j c' : Nat) (A' : Option Addr) (M : List Rat), ov = .slice A' j c' ∧ iv = .int .i64 j ∧ j ≤ n ∧ OwQs wr w.heap.size A' j c' M ∧ Hid (M = (L.take j).map fun z : Int => (z : Rat)) ∧ Below w.heap.size w wr) (fun _ iv _ => n - (intOf iv).toNat)
 case atStart => exact ⟨0, 0, none, [], rfl, rfl, Nat.zero_le _, OwQs.nil _ _, Lib.hid rfl, Below.refl _ _⟩
 case round =>
  obtain ⟨j, c', A', M, rfl, rfl, hj, ho, hM, hB⟩ := hrel
  by_cases hjn : j = n
  ·subst hjn
   go_wp2
   go_ret
   exact ⟨_, _, _, _, rfl, ho.p, Lib.hid (by rw [hM.out, List.take_of_length_le (by rw [HLEN.out]; exact Nat.le_refl _)]), hB⟩
  ·have hjl : j < n := by omega
   clear hjn
   have hjli : (j : Int) < (n : Int) := by omega
   obtain ⟨z, hz⟩ := zs_get (L := L) (j := j) (by rw [h.len]; exact hjl)
   obtain ⟨h1, h2, ad, rfl, hbk, hx⟩ := h.at_ j z hz
   have hy := (hB.cell (p := ad.add j) (by rw [add_blk]; exact hbk)).trans hx
   have HZ := Lib.hid hz
   have HRG := Lib.hid (And.intro h1 h2)
   have HO := Lib.hid ho
   clear hz hx ho h1 h2
   go_wp2_with fail
   refine (rQOf_any z HRG.out.1 HRG.out.2 wr).mono ?_
   rintro _ W3 ⟨s3, A3, n3, c3, s4, A4, n4, c4, y, rfl, ho3, hy3, hb3⟩
   have hB3 := hB.trans (hb3.mono hB.size)
   obtain ⟨E, hE, hEl, hEn⟩ := HO.out.next hb3
   have HO4 := Lib.hid (ho3.base hB.size)
   have HE := Lib.hid hE
   have HEN := Lib.hid (And.intro hEl hEn)
   have HM2 := Lib.hid (show M ++ [y] = (L.take (j + 1)).map fun z : Int => (z : Rat) by rw [hM.out, hy3.out, List.take_add_one, HZ.out]; simp)
   clear hE hEl hEn hy hb3 ho3
   go_wp2_with (at_builtin; refine wpList_append_own _ rfl _ _ 73 rfl w.heap.size 47 i0 (.agg #[.bool false, .slice none 0 0, .bool false, .slice none 0 0]) 4 64 Tryz.underlying73 hi hz0 hz1 hz2 rfl (by decide) _ _ _ rfl (HE.out.alloc _) ⟨W3.heap.size, 0, none⟩ 1 1 [.bool s3, .slice A3 n3 c3, .bool s4, .slice A4 n4 c4] rfl rfl (qcell_new _ _ _ _ _ _) (by simp [Value.oneCell']) (by unfold maxLen; omega) (by omega) (by have := hB3.size; simp; omega) ?_; intro v' w1 hown' hgrow _)
   have hmore := qs_more (e := ((s3, A3, n3, c3), (s4, A4, n4, c4))) (x := y) HO4.out rfl (HE.out.alloc _) HEN.out.1 HEN.out.2 hown' hgrow
   have HB5 := Lib.hid ((hB3.alloc hB3.size (.cells #[.bool s3, .slice A3 n3 c3, .bool s4, .slice A4 n4 c4] 47)).grown hgrow (by have := hB3.size; simp; omega) (own_block HE.out))
   obtain ⟨A5, c5, rfl, ho5⟩ := hmore
   clear hown' hgrow HE HEN HO4 hB3 hB
   go_wp2
   go_roundw
   case rel => exact ⟨j + 1, c5, A5, M ++ [y], rfl, by go_num, by omega, ho5, HM2, HB5.out⟩
   case measure => simp [intOf]; omega
end Go.Proofs.YtjnklbfhelbjgaaGreat

/- similelaw18: awake. -/
namespace Go.Proofs.YtjnklbfhelbjgaaGreat
open Go.RowKit Go.IntWalk
attribute [local go_sem ↓] Go.wp_at_zero Go.wp_at_succ
def RetYes18 (w : World) (e : Ending) (w' : World) : Prop := e = .returned (.bool true) ∧ Below w.heap.size w w'
set_option maxRecDepth 100000 in
set_option maxHeartbeats 16000000 in
theorem awake_any (w : World) : Calls Tryz.prog 17 #[] w (RetYes18 w) := by
 go_enter Tryz.func17, Tryz.ntmps17
 obtain ⟨X0a, HX0a⟩ : ∃ W, W = w.alloc (.cells #[.int .i64 2, .int .i64 0] 2) := ⟨_, rfl⟩
 obtain ⟨X0b, HX0b⟩ : ∃ W, W = X0a.alloc (.cells #[.int .i64 0, .int .i64 2] 2) := ⟨_, rfl⟩
 have hs1 : X0a.heap.size = w.heap.size + 1 := by rw [HX0a]; simp
 have hs2 : X0b.heap.size = w.heap.size + 2 := by rw [HX0b, World.size_alloc, hs1]
 obtain ⟨X0c, HX0c⟩ : ∃ W, W = X0b.alloc (.cells #[.slice (some ⟨w.heap.size, 0, none⟩) 2 2, .slice (some ⟨w.heap.size + 1, 0, none⟩) 2 2] 97) := ⟨_, rfl⟩
 have hb1 : Below w.heap.size w X0a := by rw [HX0a]; exact (Below.refl _ _).alloc (Nat.le_refl _) _
 have hb2 : Below X0a.heap.size X0a X0b := by rw [HX0b]; exact (Below.refl _ _).alloc (Nat.le_refl _) _
 have hb3 : Below X0b.heap.size X0b X0c := by rw [HX0c]; exact (Below.refl _ _).alloc (Nat.le_refl _) _
 have HP0 := Lib.hid (show PX X0c w.heap.size 2 [.int .i64 2, .int .i64 0] by
  have h1 : PX X0a w.heap.size 2 [.int .i64 2, .int .i64 0] := by rw [HX0a]; exact PX.new w _ [.int .i64 2, .int .i64 0]
  exact (h1.next hb2).next hb3)
 have HP1 := Lib.hid (show PX X0c (w.heap.size + 1) 2 [.int .i64 0, .int .i64 2] by
  have h1 : PX X0b X0a.heap.size 2 [.int .i64 0, .int .i64 2] := by rw [HX0b]; exact PX.new X0a _ [.int .i64 0, .int .i64 2]
  rw [hs1] at h1
  exact h1.next hb3)
 have HP2 := Lib.hid (show PX X0c (w.heap.size + 2) 97 [.slice (some ⟨w.heap.size, 0, none⟩) 2 2, .slice (some ⟨w.heap.size + 1, 0, none⟩) 2 2] by
  rw [HX0c, ← hs2]
  exact PX.new X0b _ [.slice (some ⟨w.heap.size, 0, none⟩) 2 2, .slice (some ⟨w.heap.size + 1, 0, none⟩) 2 2])
 have HBX0c := Lib.hid (show Below w.heap.size w X0c from (Below.refl w.heap.size w).trans ((hb1.trans ((hb2.trans (hb3.mono hb2.size)).mono hb1.size)).mono (Below.refl w.heap.size w).size))
 rw [HX0b, HX0a] at HX0c
 have HX0c := Lib.hid HX0c
 clear hb1 hb2 hb3 hs1 hs2 HX0a HX0b
 go_wp2_with fail
 rw [← HX0c.out]
 clear HX0c
 clear HX0c
 refine (table_two (w := X0c) (ga := w.heap.size + 2) (g0 := w.heap.size) (g1 := w.heap.size + 1) HP2.out HP0.out HP1.out (by decide) (by decide) (by decide) (by decide)).mono ?_
 rintro _ M0 ⟨s, A, n, c, G, r, k, rfl, hoz, hom, hb⟩
 have HZM := Lib.hid (And.intro hoz hom)
 have HBM0 := Lib.hid (HBX0c.out.trans (hb.mono HBX0c.out.size))
 clear hoz hom hb HP0 HP1 HP2
 go_wp2_with fail
 refine (factors_A HZM.out.1 HZM.out.2).mono ?_
 rintro _ F0 ⟨A0, n0, c0, rfl, ho, hb⟩
 obtain rfl : n0 = 2 := ho.len.symm
 have HBF0 := Lib.hid (HBM0.out.trans (hb.mono HBM0.out.size))
 have HL0 := Lib.hid (show ∀ W, Below F0.heap.size F0 W → OwPs W M0.heap.size A0 2 c0 [xA.a, xA.d] from fun W hb => ho.next hb)
 clear ho hb HZM
 obtain ⟨X1a, HX1a⟩ : ∃ W, W = F0.alloc (.cells #[.int .i64 2, .int .i64 0] 2) := ⟨_, rfl⟩
 obtain ⟨X1b, HX1b⟩ : ∃ W, W = X1a.alloc (.cells #[.int .i64 0, .int .i64 3] 2) := ⟨_, rfl⟩
 have hs1 : X1a.heap.size = F0.heap.size + 1 := by rw [HX1a]; simp
 have hs2 : X1b.heap.size = F0.heap.size + 2 := by rw [HX1b, World.size_alloc, hs1]
 obtain ⟨X1c, HX1c⟩ : ∃ W, W = X1b.alloc (.cells #[.slice (some ⟨F0.heap.size, 0, none⟩) 2 2, .slice (some ⟨F0.heap.size + 1, 0, none⟩) 2 2] 97) := ⟨_, rfl⟩
 have hb1 : Below F0.heap.size F0 X1a := by rw [HX1a]; exact (Below.refl _ _).alloc (Nat.le_refl _) _
 have hb2 : Below X1a.heap.size X1a X1b := by rw [HX1b]; exact (Below.refl _ _).alloc (Nat.le_refl _) _
 have hb3 : Below X1b.heap.size X1b X1c := by rw [HX1c]; exact (Below.refl _ _).alloc (Nat.le_refl _) _
 have HP0 := Lib.hid (show PX X1c F0.heap.size 2 [.int .i64 2, .int .i64 0] by
  have h1 : PX X1a F0.heap.size 2 [.int .i64 2, .int .i64 0] := by rw [HX1a]; exact PX.new F0 _ [.int .i64 2, .int .i64 0]
  exact (h1.next hb2).next hb3)
 have HP1 := Lib.hid (show PX X1c (F0.heap.size + 1) 2 [.int .i64 0, .int .i64 3] by
  have h1 : PX X1b X1a.heap.size 2 [.int .i64 0, .int .i64 3] := by rw [HX1b]; exact PX.new X1a _ [.int .i64 0, .int .i64 3]
  rw [hs1] at h1
  exact h1.next hb3)
 have HP2 := Lib.hid (show PX X1c (F0.heap.size + 2) 97 [.slice (some ⟨F0.heap.size, 0, none⟩) 2 2, .slice (some ⟨F0.heap.size + 1, 0, none⟩) 2 2] by
  rw [HX1c, ← hs2]
  exact PX.new X1b _ [.slice (some ⟨F0.heap.size, 0, none⟩) 2 2, .slice (some ⟨F0.heap.size + 1, 0, none⟩) 2 2])
 have HQX := Lib.hid (show Below F0.heap.size F0 X1c from hb1.trans ((hb2.trans (hb3.mono hb2.size)).mono hb1.size))
 have HBX1c := Lib.hid (show Below w.heap.size w X1c from HBF0.out.trans ((hb1.trans ((hb2.trans (hb3.mono hb2.size)).mono hb1.size)).mono HBF0.out.size))
 rw [HX1b, HX1a] at HX1c
 have HX1c := Lib.hid HX1c
 clear hb1 hb2 hb3 hs1 hs2 HX1a HX1b
 go_wp2_with fail
 rw [← HX1c.out]
 clear HX1c
 clear HX1c
 refine (table_two (w := X1c) (ga := F0.heap.size + 2) (g0 := F0.heap.size) (g1 := F0.heap.size + 1) HP2.out HP0.out HP1.out (by decide) (by decide) (by decide) (by decide)).mono ?_
 rintro _ M1 ⟨s, A, n, c, G, r, k, rfl, hoz, hom, hb⟩
 have HZM := Lib.hid (And.intro hoz hom)
 have HBQ := Lib.hid (show Below F0.heap.size F0 M1 from HQX.out.trans (hb.mono HQX.out.size))
 have HBM1 := Lib.hid (HBX1c.out.trans (hb.mono HBX1c.out.size))
 clear hoz hom hb HP0 HP1 HP2
 go_wp2_with fail
 refine (factors_B HZM.out.1 HZM.out.2).mono ?_
 rintro _ F1 ⟨A1, n1, c1, rfl, ho, hb⟩
 obtain rfl : n1 = 1 := ho.len.symm
 have HBF1 := Lib.hid (HBM1.out.trans (hb.mono HBM1.out.size))
 have HL1 := Lib.hid (show ∀ W, Below F1.heap.size F1 W → OwPs W M1.heap.size A1 1 c1 [xE.d] from fun W hb => ho.next hb)
 have HBF01 := Lib.hid (show Below F0.heap.size F0 F1 from (HBQ.out).trans (hb.mono HBQ.out.size))
 clear ho hb HZM
 obtain ⟨ga, P0, m0, l0, L0, rfl, _, j0, hq0, hL0⟩ := opl_at (HL0.out _ HBF01.out) (show 0 < 2 by decide)
 obtain ⟨ga', P1, m1, l1, L1, e, _, j1, hq1, hL1⟩ := opl_at (HL0.out _ HBF01.out) (show 1 < 2 by decide)
 injection e with e
 injection e with e
 subst e
 obtain ⟨gb, P2, m2, l2, L2, rfl, _, j2, hq2, hL2⟩ := opl_at (HL1.out F1 (Below.refl _ _)) (show 0 < 1 by decide)
 obtain rfl : L0 = xA.a := by simpa using hL0.out.symm
 obtain rfl : L1 = xA.d := by simpa using hL1.out.symm
 obtain rfl : L2 = xE.d := by simpa using hL2.out.symm
 have hga : ga < F1.heap.size := World.block_lt_of_cell? F1 ⟨ga, 0, none⟩ j0
 have hgb : gb < F1.heap.size := World.block_lt_of_cell? F1 ⟨gb, 0, none⟩ j2
 have HC := Lib.hid (show ∀ W, Below F1.heap.size F1 W → W.cell? ⟨ga, 0, none⟩ = some (.slice P0 m0 l0) ∧ W.cell? ⟨ga, 1, none⟩ = some (.slice P1 m1 l1) ∧ W.cell? ⟨gb, 0, none⟩ = some (.slice P2 m2 l2) from fun W hb => ⟨(hb.cell (p := ⟨ga, 0, none⟩) hga).trans j0, (hb.cell (p := ⟨ga, 1, none⟩) hga).trans j1, (hb.cell (p := ⟨gb, 0, none⟩) hgb).trans j2⟩)
 have HO := Lib.hid (show ∀ W, Below F1.heap.size F1 W → OwQp W M0.heap.size P0 m0 l0 xA.a ∧ OwQp W M0.heap.size P1 m1 l1 xA.d ∧ OwQp W M1.heap.size P2 m2 l2 xE.d from fun W hb => ⟨hq0.next hb, hq1.next hb, hq2.next hb⟩)
 clear hq0 hq1 hq2 hL0 hL1 hL2 hga hgb j0 j1 j2
 go_upto_region 3 with fail
 have HBD := Lib.hid (Below.refl F1.heap.size F1).drew
 have HBA := Lib.hid (show ∀ o, Below F1.heap.size F1 (F1.alloc o).drew from fun o => ((Below.refl F1.heap.size F1).alloc (Nat.le_refl _) _).drew)
 have HRK := Lib.hid (show RdK (F1.alloc (.cells #[.int .i64 (-2), .int .i64 1] 2)).drew (F1.alloc (.cells #[.int .i64 (-2), .int .i64 1] 2)).drew.heap.size (some ⟨F1.heap.size, 0, none⟩) 2 2 [-2, 1] from (RdK.new F1 _ [-2, 1] (by decide) (by decide) rfl rfl).next (Below.refl _ _).drew)
 have HRA := Lib.hid (show ∀ V : World, RdK (V.alloc (.cells #[.int .i64 (-2), .int .i64 1] 2)) (V.alloc (.cells #[.int .i64 (-2), .int .i64 1] 2)).heap.size (some ⟨V.heap.size, 0, none⟩) 2 2 [-2, 1] from fun V => RdK.new V _ [-2, 1] (by decide) (by decide) rfl rfl)
 have HRB := Lib.hid (show ∀ V : World, RdK (V.alloc (.cells #[.int .i64 6, .int .i64 (-5), .int .i64 1] 2)) (V.alloc (.cells #[.int .i64 6, .int .i64 (-5), .int .i64 1] 2)).heap.size (some ⟨V.heap.size, 0, none⟩) 3 3 [6, -5, 1] from fun V => RdK.new V _ [6, -5, 1] (by decide) (by decide) rfl rfl)
 have HAL := Lib.hid (show ∀ (V : World) o, Below F1.heap.size F1 V → Below F1.heap.size F1 (V.alloc o) from fun V o hb => hb.alloc hb.size o)
 have E1 := Lib.hid (show xA.a.map ofQ = (([-2, 1] : List Int).map fun z : Int => (z : Rat)).map ofQ from by decide +kernel)
 have E2 := Lib.hid (show xA.d.map ofQ = (([-2, 1] : List Int).map fun z : Int => (z : Rat)).map ofQ from by decide +kernel)
 have E3 := Lib.hid (show xE.d.map ofQ = (([6, -5, 1] : List Int).map fun z : Int => (z : Rat)).map ofQ from by decide +kernel)
 go_region_held3 (fun W => W.cell? ⟨ga, 0, none⟩ = some (.slice P0 m0 l0) ∧ W.cell? ⟨ga, 1, none⟩ = some (.slice P1 m1 l1) ∧ W.cell? ⟨gb, 0, none⟩ = some (.slice P2 m2 l2))
  (first | exact HC.out _ HBS3.out | exact HC.out _ HBP3.out | exact HC.out _ (HAL.out _ _ HBS2.out) | exact HC.out _ HBS2.out | exact HC.out _ HBP2.out | exact HC.out _ (HAL.out _ _ HBS1.out) | exact HC.out _ HBS1.out | exact HC.out _ HBP1.out | exact HC.out _ (HBA.out _) | exact HC.out _ HBD.out)
  (first
   | (go_at_call 16; refine (num18_any _ _).mono ?_; rintro _ _ ⟨rfl, rfl⟩)
   | (go_at_call 62; have hx := HBS2.out; clear hx; refine (lpoly18_any (HRB.out _) (by decide)).mono ?_; rintro _ WP3 ⟨B3, d3, f3, M3, rfl, hp, hM, hbp⟩; obtain rfl := hM.out; have HBP3 : Hid (Below F1.heap.size F1 WP3) := Lib.hid ((HAL.out _ _ HBS2.out).trans (hbp.mono (HAL.out _ _ HBS2.out).size)); have HP3 := Lib.hid hp; clear hp hM hbp)
   | (go_at_call 62; have hx := HBS1.out; clear hx; refine (lpoly18_any (HRA.out _) (by decide)).mono ?_; rintro _ WP2 ⟨B2, d2, f2, M2, rfl, hp, hM, hbp⟩; obtain rfl := hM.out; have HBP2 : Hid (Below F1.heap.size F1 WP2) := Lib.hid ((HAL.out _ _ HBS1.out).trans (hbp.mono (HAL.out _ _ HBS1.out).size)); have HP2 := Lib.hid hp; clear hp hM hbp)
   | (go_at_call 62; refine (lpoly18_any HRK.out (by decide)).mono ?_; rintro _ WP1 ⟨B1, d1, f1, M1', rfl, hp, hM, hbp⟩; obtain rfl := hM.out; have HBP1 : Hid (Below F1.heap.size F1 WP1) := Lib.hid ((HBA.out _).trans (hbp.mono (HBA.out _).size)); have HP1 := Lib.hid hp; clear hp hM hbp)
   | (go_at_call 58; have hx := HBP3.out; clear hx; refine (same09_any (HO.out _ HBP3.out).2.2.rq HP3.out.rq).mono ?_; rintro _ WS3 ⟨v, rfl, hv, hbs⟩; obtain rfl : v = true := hv.out.2 E3.out; have HBS3 := Lib.hid (HBP3.out.trans (hbs.mono HBP3.out.size)); clear hv hbs)
   | (go_at_call 58; have hx := HBP2.out; clear hx; refine (same09_any (HO.out _ HBP2.out).2.1.rq HP2.out.rq).mono ?_; rintro _ WS2 ⟨v, rfl, hv, hbs⟩; obtain rfl : v = true := hv.out.2 E2.out; have HBS2 := Lib.hid (HBP2.out.trans (hbs.mono HBP2.out.size)); clear hv hbs)
   | (go_at_call 58; refine (same09_any (HO.out _ HBP1.out).1.rq HP1.out.rq).mono ?_; rintro _ WS1 ⟨v, rfl, hv, hbs⟩; obtain rfl : v = true := hv.out.2 E1.out; have HBS1 := Lib.hid (HBP1.out.trans (hbs.mono HBP1.out.size)); clear hv hbs))
 all_goals
  have HBE := Lib.hid (HBF1.out.trans (HBS3.out.mono HBF1.out.size))
  go_wp2
  go_ret
  exact ⟨rfl, HBE.out⟩
end Go.Proofs.YtjnklbfhelbjgaaGreat

/- The law SmithNames: the errors' numbers, and the limit; the document's examples. -/
namespace Go.Proofs.YtjnklbfhelbjgaaGreat
open Go.RowKit Go.IntWalk
attribute [local go_sem ↓] Go.wp_at_zero Go.wp_at_succ
set_option maxRecDepth 100000 in
set_option maxHeartbeats 4000000 in
theorem walk_SmithNames (w : World) : Calls Tryz.prog 4 #[] w (RetYes18 w) := by
 go_enter Tryz.func4, Tryz.ntmps4
 go_wp2_with fail
 refine (num18_any 1 w).mono ?_
 rintro _ W1 ⟨rfl, h1⟩
 rw [h1]
 clear h1
 go_wp2_with fail
 refine (num18_any 3 w).mono ?_
 rintro _ W2 ⟨rfl, h2⟩
 rw [h2]
 clear h2
 go_wp2_with fail
 refine (awake_any w).mono ?_
 rintro _ W3 ⟨rfl, hb⟩
 have HB := Lib.hid hb
 clear hb
 go_wp2
 go_ret
 exact ⟨rfl, HB.out⟩
end Go.Proofs.YtjnklbfhelbjgaaGreat

/- What every bare row of this seat shares: the end of a law that writes nothing that was there; a list is opened, and shut behind the call; the bound. -/
namespace Go.Proofs.YtjnklbfhelbjgaaGreat
open Go.ChangeShapes Go.WideShapes Go.ChangeAt Go.RowKit
theorem own : ownKnob Tryz.prog.godebug = none := by kernel_rfl
section
variable {H : Type} {enc : TypeId × Value → H} {P : Program}
theorem post_of_below {f : Func} {s : ChangeSpec} {apart fresh handsOn again : Bool} {W W' : World} {args : Array Value} {v : Value} {ds gs : List (DataW H)} {before pa pv : List MemPlace}
  (hW : DataW.Whole enc P f.params.toList s.vars apart W args.toList ds gs before)
  (hres : ∀ (b : Nat) (sp : Nat → Bool) (hd : Bool), DataW.TrodAll enc P W' b sp hd f.resultTypes.toList (v.resultList f.resultTypes.size) (s.fn H (ds ++ gs)).results [])
  (hargs : ∀ sp : Nat → Bool, (∀ p ∈ before, sp p.block = true) → DataW.TrodAll enc P W' 0 sp true f.params.toList args.toList (s.fn H (ds ++ gs)).args pa)
  (hvars : ∀ sp : Nat → Bool, (∀ p ∈ before, sp p.block = true) → DataW.TrodVars enc P W' sp s.vars (s.fn H (ds ++ gs)).vars pv)
  (hps : before = pa ++ pv) (hb : Below W.heap.size W W')
  (hok : ∀ (j : Nat) (t : TypeId) (r : Value), f.resultTypes[j]? = some t → (v.resultList f.resultTypes.size)[j]? = some r → Value.okWide P W' .any 0 t r) :
  s.post enc P f apart fresh handsOn again W args v W' := by
 have hlt : ∀ p ∈ before, p.block < W.heap.size := fun p hp => hW.lt p hp
 have hold : ∀ p ∈ before, (fun b => decide (b < W.heap.size)) p.block = true := fun p hp => by simpa using hlt p hp
 refine ⟨ds, gs, before, [], pa, pv, hW, hres _ _ _, hargs _ hold, hvars _ hold, World.keptBut_mono (fun p hp => ⟨hp, ?_⟩) (hb.frame (· ∈ before)), fun _ => ?_⟩
 ·rw [hps, List.mem_append] at hp
  exact Or.inr hp
 ·obtain ⟨_, _, _, _, _, hz, hn⟩ := hW
  refine ⟨hok, _, _, ([] ++ pa) ++ pv, ⟨[] ++ pa, pv, trodAll_append (hargs _ (fun _ _ => rfl)) (hres _ _ _), hvars _ (fun _ _ => rfl), rfl, ?_, ?_⟩, ?_⟩
  ·intro b off hp
   have hin : MemPlace.cell b off ∈ before := by rw [hps]; simpa using hp
   rw [hb.frozen (hlt _ hin)]
   exact hz b off hin
  ·intro ha
   have := hn ha
   rw [hps] at this
   simpa using this
  ·intro p hp _
   rw [hps]
   simpa using hp
end
end Go.Proofs.YtjnklbfhelbjgaaGreat
/- What the rows with lists share: a list is opened, and shut behind the call; the bound. -/
namespace Go.Proofs.YtjnklbfhelbjgaaGreat
open Go.ChangeShapes Go.WideShapes Go.ChangeAt Go.RowKit
end Go.Proofs.YtjnklbfhelbjgaaGreat
