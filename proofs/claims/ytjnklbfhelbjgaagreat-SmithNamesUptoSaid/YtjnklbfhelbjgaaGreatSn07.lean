/- nat: the product. -/
import Derived.Test.YtjnklbfhelbjgaaGreatSn00
import Derived.Deep.LoopGhost
import Derived.Deep.CutBlock
import Derived.Deep.CutRange
import Derived.Test.YtjnklbfhelbjgaaGreatSn06
import Derived.Test.YtjnklbfhelbjgaaGreatSn05
import Derived.WalkSmall
namespace Go.Proofs.YtjnklbfhelbjgaaGreat
open Go.RowKit Go.IntWalk
theorem mul_bound {x y : Nat} (hx : x < 4294967296) (hy : y < 4294967296) : x * y ≤ 18446744065119617025 := by
 have := Nat.mul_le_mul (show x ≤ 4294967295 by omega) (show y ≤ 4294967295 by omega)
 simpa using this
theorem mul_inner {O O0 L' : List Nat} {i j x c T : Nat} (hO : i + j < O.length) (h : Dg.vf (Dg.ld O) (i + j) + c * 4294967296 ^ (i + j) = Dg.vf (Dg.ld O0) (i + j) + x * 4294967296 ^ i * Dg.vf (Dg.ld L') j)
  (he : Dg.ld O (i + j) = Dg.ld O0 (i + j)) (hT : T = x * Dg.ld L' j + Dg.ld O (i + j) + c) :
  Dg.vf (Dg.ld (O.set (i + j) (T % 4294967296))) (i + (j + 1)) + T / 4294967296 * 4294967296 ^ (i + (j + 1)) = Dg.vf (Dg.ld O0) (i + (j + 1)) + x * 4294967296 ^ i * Dg.vf (Dg.ld L') (j + 1) := by
 rw [show i + (j + 1) = i + j + 1 by omega, Dg.vf_succ, Dg.vf_succ, Dg.vf_succ, Dg.vf_set _ (Nat.le_refl _), Dg.ld_set_same _ hO, ← he]
 have hm : T = T % 4294967296 + 4294967296 * (T / 4294967296) := (Nat.mod_add_div T 4294967296).symm
 rw [Nat.pow_succ]
 have hp : 4294967296 ^ (i + j) = 4294967296 ^ i * 4294967296 ^ j := Nat.pow_add _ _ _
 generalize T % 4294967296 = r at *
 generalize T / 4294967296 = q at *
 generalize Dg.vf (Dg.ld O) (i + j) = v at *
 generalize Dg.vf (Dg.ld O0) (i + j) = v0 at *
 generalize Dg.vf (Dg.ld L') j = b at *
 generalize Dg.ld O (i + j) = o at *
 generalize Dg.ld L' j = y at *
 rw [hp] at h ⊢
 generalize 4294967296 ^ i = P at *
 generalize 4294967296 ^ j = R at *
 generalize (4294967296 : Nat) = B at *
 grind
theorem mul_outer {O O0 L L' : List Nat} {i n' c : Nat} (hO : i + n' < O.length) (h0 : Dg.vf (Dg.ld O0) (i + n') = Dg.vf (Dg.ld L) i * Dg.val L')
  (h : Dg.vf (Dg.ld O) (i + n') + c * 4294967296 ^ (i + n') = Dg.vf (Dg.ld O0) (i + n') + Dg.ld L i * 4294967296 ^ i * Dg.val L') :
  Dg.vf (Dg.ld (O.set (i + n') c)) (i + 1 + n') = Dg.vf (Dg.ld L) (i + 1) * Dg.val L' := by
 rw [show i + 1 + n' = i + n' + 1 by omega, Dg.vf_succ, Dg.vf_succ, Dg.vf_set _ (Nat.le_refl _), Dg.ld_set_same _ hO, h, h0]
 generalize Dg.vf (Dg.ld L) i = a
 generalize Dg.ld L i = x
 generalize Dg.val L' = v
 generalize 4294967296 ^ i = P
 grind
set_option maxRecDepth 100000 in
set_option maxHeartbeats 4000000 in
theorem nMul_any {A A' : Option Addr} {n c n' c' : Nat} {L L' : List Nat} {w : World} (h : RdU w w.heap.size A n c L) (h' : RdU w w.heap.size A' n' c' L') (hn : n ≤ 4398046511103) (hn' : n' ≤ 4398046511103) :
  Calls Tryz.prog 195 #[.slice A n c, .slice A' n' c'] w (RetN (Dg.val L * Dg.val L') w) := by
 have hlen := Lib.hid h.len
 have hlen' := Lib.hid h'.len
 go_enter Tryz.func195, Tryz.ntmps195
 go_wp2_with fail
 refine (trim_any h (by omega)).mono ?_
 rintro _ _ ⟨k, rfl, hk, rfl⟩
 go_wp2_with fail
 refine (trim_any h' (by omega)).mono ?_
 rintro _ _ ⟨k', rfl, hk', rfl⟩
 have hkn : k ≤ n := by have := hk.out.1; rw [hlen.out] at this; exact this
 have hkn' : k' ≤ n' := by have := hk'.out.1; rw [hlen'.out] at this; exact this
 have hR := h.take hkn
 have hR' := h'.take hkn'
 have HV := Lib.hid (show Dg.val (L.take k) = Dg.val L ∧ Dg.val (L'.take k') = Dg.val L' from ⟨by rw [hk.out.2, Dg.val_dg], by rw [hk'.out.2, Dg.val_dg]⟩)
 clear hk hk' h h' hlen hlen'
 generalize L.take k = M at *
 generalize L'.take k' = M' at *
 have HL := Lib.hid (And.intro hR.len hR'.len)
 rcases Nat.eq_zero_or_pos k with e | e
 ·subst e
  have HZ := Lib.hid (show Dg.val L = 0 by rw [← HV.out.1, List.eq_nil_of_length_eq_zero HL.out.1]; rfl)
  go_wp2
  go_ret
  exact ⟨none, 0, 0, 0, rfl, by rw [Dg.dg_zero]; exact OwU.nil _ _, Lib.hid (by rw [HZ.out, Nat.zero_mul]), Below.refl _ _⟩
 rcases Nat.eq_zero_or_pos k' with e' | e'
 ·subst e'
  have HZ := Lib.hid (show Dg.val L' = 0 by rw [← HV.out.2, List.eq_nil_of_length_eq_zero HL.out.2]; rfl)
  have hkb : ((k : Int) == 0) = false := by simp; omega
  go_wp2
  go_ret
  exact ⟨none, 0, 0, 0, rfl, by rw [Dg.dg_zero]; exact OwU.nil _ _, Lib.hid (by rw [HZ.out, Nat.mul_zero]), Below.refl _ _⟩
 have hkb : ((k : Int) == 0) = false := by simp; omega
 have hkb' : ((k' : Int) == 0) = false := by simp; omega
 obtain ⟨m, hm⟩ : ∃ m, m = k + k' := ⟨_, rfl⟩
 have hmi : (k : Int) + k' = m := by omega
 have hmx : m ≤ 8796093022206 := by omega
 have hmk := make_nat m (by omega)
 have hB0 := (Below.refl w.heap.size w).alloc (Nat.le_refl _) (.cells (madeCells #[.int .u32 0] m) 171)
 have hU0 := UB.made w m
 have HM := Lib.hid hm
 clear hm
 go_wp2_with fail
 generalize w.alloc (.cells (madeCells #[.int .u32 0] m) 171) = W1 at hB0 hU0 ⊢
 obtain ⟨g, hg⟩ : ∃ g, g = w.heap.size := ⟨_, rfl⟩
 rw [← hg] at hU0 ⊢
 have HG := Lib.hid hg
 clear hg hmk
 go_loopw [32] (fun iv wr => ∃ (i : Nat) (O : List Nat), iv = .int .i64 i ∧ i ≤ k ∧ UB wr g O ∧ Hid (O.length = m ∧ Dg.Wd O ∧ Dg.vf (Dg.ld O) (i + k') = Dg.vf (Dg.ld M) i * Dg.val M') ∧ Hid (∀ z, i + k' ≤ z → Dg.ld O z = 0) ∧ Below w.heap.size w wr) (fun iv _ => k - (intOf iv).toNat)
 case atStart =>
  refine ⟨0, _, rfl, Nat.zero_le _, hU0, Lib.hid ⟨by simp, Dg.Wd.zeros _, ?_⟩, Lib.hid fun z _ => Dg.ld_replicate _ _, hB0⟩
  rw [show Dg.vf (Dg.ld M) 0 = 0 from rfl, Nat.zero_mul]
  have e : ∀ t, Dg.vf (Dg.ld (List.replicate m 0)) t = 0 := by
   intro t
   induction t with
   | zero => rfl
   | succ t ih => rw [Dg.vf_succ, ih, Dg.ld_replicate]; simp
  exact e _
 case round =>
  clear hU0 hB0
  obtain ⟨i, O, rfl, hi, hU, hO, hZ, hB⟩ := hrel
  by_cases hik : i = k
  ·subst hik
   have hO3 := hU.rd hO.out.2.1 hU.lt (k := m) (by rw [hO.out.1]; exact Nat.le_refl _) (by rw [hO.out.1]; unfold maxLen; omega)
   rw [hO.out.1, List.take_of_length_le (by rw [hO.out.1]; exact Nat.le_refl _)] at hO3
   go_wp2_with fail
   refine (own_any hO3 (by omega)).mono ?_
   rintro _ W4 ⟨A4, m4, c4, x4, rfl, ho4, hx4, hb4⟩
   go_wp2
   go_ret
   refine ⟨_, _, _, x4, rfl, ho4.base hB.size, Lib.hid ?_, hB.trans (hb4.mono hB.size)⟩
   have e1 := hO.out.2.2
   rw [Dg.vf_eq_val (by rw [hO.out.1, HM.out]; exact Nat.le_refl _), Dg.vf_eq_val (by rw [HL.out.1]; exact Nat.le_refl _)] at e1
   rw [hx4.out, e1, HV.out.1, HV.out.2]
  ·have hil : i < k := by omega
   clear hik
   have hili : (i : Int) < (k : Int) := by omega
   obtain ⟨hx, ad, rfl, hbx, hcx⟩ := hR.at_ i _ (Dg.get_of_ld (by rw [HL.out.1]; exact hil))
   have hcx := (hB.cell (p := ad.add i) (by rw [add_blk]; exact hbx)).trans hcx
   obtain ⟨x, ex⟩ : ∃ x, x = Dg.ld M i := ⟨_, rfl⟩
   rw [← ex] at hx hcx
   have EX := Lib.hid ex
   clear ex
   have hx0 : (0 : Int) ≤ (x : Int) := by omega
   go_wp2_with fail
   go_loopw [8, 39] (fun cv jv wr => ∃ (j cy : Nat) (O' : List Nat), cv = .int .u64 cy ∧ jv = .int .i64 j ∧ j ≤ k' ∧ cy < 4294967296 ∧ UB wr g O' ∧ Hid (O'.length = m ∧ Dg.Wd O' ∧ Dg.vf (Dg.ld O') (i + j) + cy * 4294967296 ^ (i + j) = Dg.vf (Dg.ld O) (i + j) + x * 4294967296 ^ i * Dg.vf (Dg.ld M') j) ∧ Hid (∀ z, i + j ≤ z → Dg.ld O' z = Dg.ld O z) ∧ Below w.heap.size w wr) (fun _ jv _ => k' - (intOf jv).toNat)
   case atStart => exact ⟨0, 0, O, rfl, rfl, Nat.zero_le _, by omega, hU, Lib.hid ⟨hO.out.1, hO.out.2.1, by rw [show Dg.vf (Dg.ld M') 0 = 0 from rfl, Nat.zero_mul, Nat.mul_zero]⟩, Lib.hid fun _ _ => rfl, hB⟩
   case round =>
    clear hU hB hcx
    obtain ⟨j, cy, P, rfl, rfl, hj, hcy, hU, hP, hZP, hB⟩ := hrel
    by_cases hjk : j = k'
    ·subst hjk
     obtain ⟨y, hy⟩ : ∃ y, y = i + j := ⟨_, rfl⟩
     have hyi : (i : Int) + j = (y : Int) := by omega
     have hyl : y < m := by rw [HM.out]; omega
     have hfz := hU.frozen y
     have hcell := hU.cell (Dg.get_of_ld (L := P) (i := y) (by rw [hP.out.1]; exact hyl))
     have HY := Lib.hid hy
     generalize Dg.ld P y = o0 at hcell
     have hU1 : UB (wr.setCell ⟨g, y, none⟩ (.int .u32 cy)) g (P.set y cy) := hU.set y cy
     have hB1 := hB.setCell (p := ⟨g, y, none⟩) (by show w.heap.size ≤ g; have := HG.out; omega) (.int .u32 cy)
     have hcyi : (cy : Int) % 4294967296 = (cy : Int) := by omega
     clear hy
     go_wp2
     go_roundw
     case rel => exact ⟨i + 1, _, by go_num, by omega, hU1, Lib.hid ⟨by rw [List.length_set]; exact hP.out.1, hP.out.2.1.set y hcy, by
      rw [HY.out]
      exact mul_outer (O0 := O) (by rw [hP.out.1, HM.out]; omega) hO.out.2.2 (by have e := hP.out.2.2; rw [Dg.vf_eq_val (L := M') (by rw [HL.out.2]; exact Nat.le_refl _)] at e; rw [← EX.out]; exact e)⟩, Lib.hid (fun z hz => by rw [Dg.ld_set_other _ (by have := HY.out; omega), hZP.out z (by omega)]; exact hZ.out z (by omega)), hB1⟩
     case measure => simp [intOf]; omega
    ·have hjl : j < k' := by omega
     clear hjk
     have hjli : (j : Int) < (k' : Int) := by omega
     obtain ⟨hv, ad', rfl, hbv, hcv⟩ := hR'.at_ j _ (Dg.get_of_ld (by rw [HL.out.2]; exact hjl))
     have hcv := (hB.cell (p := ad'.add j) (by rw [add_blk]; exact hbv)).trans hcv
     obtain ⟨v, ev⟩ : ∃ v, v = Dg.ld M' j := ⟨_, rfl⟩
     rw [← ev] at hv hcv
     have EV := Lib.hid ev
     obtain ⟨y, hy⟩ : ∃ y, y = i + j := ⟨_, rfl⟩
     have hyi : (i : Int) + j = (y : Int) := by omega
     have hyl : y < m := by rw [HM.out]; omega
     have hfz := hU.frozen y
     have hcell := hU.cell (Dg.get_of_ld (L := P) (i := y) (by rw [hP.out.1]; exact hyl))
     have HY := Lib.hid hy
     obtain ⟨o0, eo⟩ : ∃ o, o = Dg.ld P y := ⟨_, rfl⟩
     rw [← eo] at hcell
     have hol : o0 < 4294967296 := by rw [eo]; exact Dg.ld_word hP.out.2.1 y
     have EO := Lib.hid eo
     obtain ⟨r, er⟩ : ∃ r, r = x * v := ⟨_, rfl⟩
     have hrl : r ≤ 18446744065119617025 := by rw [er]; exact mul_bound hx hv
     have hri : (x : Int) * v = (r : Int) := by rw [er]; simp
     have ER := Lib.hid er
     have HB := Lib.hid hB
     obtain ⟨T, eT⟩ : ∃ T, T = r + o0 + cy := ⟨_, rfl⟩
     have hw : IntKind.u64.wrap (IntKind.u64.wrap (IntKind.u64.wrap (IntKind.u64.wrap (x : Int) * IntKind.u64.wrap (v : Int)) + o0) + cy) = (T : Int) := by
      rw [IntWalk.u64_in (x : Int) (by omega), IntWalk.u64_in (v : Int) (by omega), hri, IntWalk.u64_in (r : Int) (by omega), IntWalk.u64_in ((r : Int) + o0) (by omega), IntWalk.u64_in _ (by omega)]
      omega
     have HW := Lib.hid hw
     have ET := Lib.hid eT
     have hq : ((T : Int) / 4294967296) = ((T / 4294967296 : Nat) : Int) := by simp
     have hr : ((T : Int) % 4294967296) = ((T % 4294967296 : Nat) : Int) := by simp
     have HQR := Lib.hid (And.intro hq hr)
     have hTl : T / 4294967296 < 4294967296 := by omega
     have HU1 := Lib.hid (show UB (wr.setCell ⟨g, y, none⟩ (.int .u32 ((T % 4294967296 : Nat) : Int))) g (P.set y (T % 4294967296)) from hU.set y (T % 4294967296))
     have HB1 := Lib.hid (hB.setCell (p := ⟨g, y, none⟩) (by show w.heap.size ≤ g; have := HG.out; omega) (.int .u32 ((T % 4294967296 : Nat) : Int)))
     have HI := Lib.hid (mul_inner (O := P) (O0 := O) (L' := M') (i := i) (j := j) (x := x) (c := cy) (T := T) (by rw [hP.out.1, HM.out]; omega) hP.out.2.2 (hZP.out _ (Nat.le_refl _)) (by rw [eT, er, ← EV.out, eo, hy]))
     clear ev hy eo er hx hv hri hw hq hr eT
     go_wp2_with fail
     rw [HW.out, HQR.out.1, HQR.out.2]
     go_roundw
     case rel => exact ⟨j + 1, T / 4294967296, P.set y (T % 4294967296), rfl, by go_num, by omega, hTl, HU1.out, Lib.hid ⟨by rw [List.length_set]; exact hP.out.1, hP.out.2.1.set y (Nat.mod_lt _ (by omega)), by rw [HY.out]; exact HI.out⟩, Lib.hid (fun z hz => by rw [Dg.ld_set_other _ (by have := HY.out; omega)]; exact hZP.out z (by omega)), HB1.out⟩
     case measure => simp [intOf]; omega
end Go.Proofs.YtjnklbfhelbjgaaGreat

/- zint: in normal form, the product. -/
namespace Go.Proofs.YtjnklbfhelbjgaaGreat
open Go.RowKit Go.IntWalk
attribute [local go_sem ↓] Go.wp_at_zero Go.wp_at_succ
set_option maxHeartbeats 1000000 in
theorem inorm_any {s : Bool} {A : Option Addr} {n c : Nat} {z : Int} {w : World} (h : RdZ w w.heap.size s A n c z) (hn : n ≤ 17592186044416) :
  Calls Tryz.prog 251 #[.agg #[.bool s, .slice A n c]] w (RetI z w) := by
 obtain ⟨hZ, hR, hB⟩ := boxed1 w s A n c
 have h1 := h.next hB
 obtain ⟨M, h, hz⟩ := h1.raw
 have HSZ := Lib.hid (Nat.lt_trans (Nat.lt_succ_self _) hR.lt)
 go_enter Tryz.func251, Tryz.ntmps251
 go_wp2_with fail
 generalize (w.alloc (.cells #[.bool s, .slice A n c] 25)).alloc (.cells #[.bool false, .slice none 0 0] 25) = W1 at *
 have HBD := Lib.hid (Below.refl W1.heap.size W1).drew
 have HNO := Lib.hid (norm_any (h.next HBD.out) hn)
 have hc0 := hZ.c0
 have hc1 := hZ.c1
 have HZ := Lib.hid hZ
 go_region_held3 (fun w' => w'.cell? ⟨w.heap.size, 0, none⟩ = some (.bool s) ∧ w'.cell? ⟨w.heap.size, 1, none⟩ = some (.slice A n c)) (go_keep)
  (first
   | (go_at_call 142; refine HNO.out.mono ?_; rintro _ W3 ⟨A3, m3, c3, x3, rfl, ho3, hx3, hb3⟩; have HB3 := Lib.hid (HBD.out.trans hb3); have he0 := (HZ.out.next HB3.out).c0; have he1 := (HZ.out.next HB3.out).c1)
   | (go_at_call 141; refine (make1_any _ ho3).mono ?_; rintro _ W4 ⟨s4, rfl, ho4, hb4⟩; have HB4 := Lib.hid (HB3.out.trans (hb4.mono HB3.out.size)); have hf0 := (HZ.out.next HB4.out).c0; have hf1 := (HZ.out.next HB4.out).c1; have hg0 := (hR.next HB4.out).c0; have hg1 := (hR.next HB4.out).c1; have hh0 := (hR.next HB4.out).fz 0; have hh1 := (hR.next HB4.out).fz 1))
 have HS1 := Lib.hid hR.lt
 have hp := put_int (hR.next HB4.out) (hB.trans (HB4.out.mono hB.size)) (Nat.le_succ _) ho4 (Nat.lt_of_lt_of_le HS1.out HBD.out.size)
 generalize (W4.setCell ⟨w.heap.size + 1, 0, none⟩ (.bool s4)).setCell ⟨w.heap.size + 1, 1, none⟩ (.slice A3 m3 c3) = W5 at hp ⊢
 obtain ⟨hZ5, ho5, hB5⟩ := hp
 clear hf0 hf1 hg0 hg1 hh0 hh1 hc0 hc1 he0 he1 hb3 hb4
 go_wp2
 exact bodyPost_ret (by simp [results, Tryz.results251, go_sem, hZ5.c0, hZ5.c1]) rfl ⟨_, _, _, _, _, rfl, ho5.base (Nat.le_trans (Nat.le_of_lt HSZ.out) HBD.out.size), Lib.hid (by rw [hx3.out, hz.out]), hB5⟩
set_option maxRecDepth 100000 in
set_option maxHeartbeats 2000000 in
theorem imul_any {s s' : Bool} {A A' : Option Addr} {n c n' c' : Nat} {z z' : Int} {w : World} (h : RdZ w w.heap.size s A n c z) (h' : RdZ w w.heap.size s' A' n' c' z') (hn : n ≤ 4398046511103) (hn' : n' ≤ 4398046511103) :
  Calls Tryz.prog 146 #[.agg #[.bool s, .slice A n c], .agg #[.bool s', .slice A' n' c']] w (RetI (z * z') w) := by
 obtain ⟨hZ, hY, hR, hB⟩ := boxed2 w s A n c s' A' n' c'
 obtain ⟨M, h1, hz⟩ := (h.next hB).raw
 obtain ⟨M', h1', hz'⟩ := (h'.next hB).raw
 have HSZ := Lib.hid (show w.heap.size < _ from Nat.lt_trans (Nat.lt_succ_self _) (Nat.lt_trans (Nat.lt_succ_self _) hR.lt))
 go_enter Tryz.func146, Tryz.ntmps146
 go_wp2_with fail
 generalize ((w.alloc (.cells #[.bool s, .slice A n c] 25)).alloc (.cells #[.bool s', .slice A' n' c'] 25)).alloc (.cells #[.bool false, .slice none 0 0] 25) = W1 at *
 have HBD := Lib.hid (Below.refl W1.heap.size W1).drew
 have HMU := Lib.hid (nMul_any (h1.next HBD.out) (h1'.next HBD.out) hn hn')
 have hc0 := hZ.c0
 have hc1 := hZ.c1
 have hd0 := hY.c0
 have hd1 := hY.c1
 have HZ := Lib.hid hZ
 have HY := Lib.hid hY
 have HR := Lib.hid hR
 have hq1 : ¬ (w.heap.size + 1 + 1 = w.heap.size) := by omega
 have hq2 : ¬ (w.heap.size = w.heap.size + 1 + 1) := by omega
 go_region_held3 (fun w' => w'.cell? ⟨w.heap.size, 0, none⟩ = some (.bool s) ∧ w'.cell? ⟨w.heap.size, 1, none⟩ = some (.slice A n c) ∧ w'.cell? ⟨w.heap.size + 1, 0, none⟩ = some (.bool s') ∧ w'.cell? ⟨w.heap.size + 1, 1, none⟩ = some (.slice A' n' c')) (go_keep)
  (first
   | (go_at_call 195; refine HMU.out.mono ?_; rintro _ W2 ⟨A2, m2, c2, x2, rfl, ho2, hx2, hb2⟩; have HB2 := Lib.hid (HBD.out.trans hb2); have hd0 := (HZ.out.next HB2.out).c0; have hd1 := (HZ.out.next HB2.out).c1; have hd2 := (HY.out.next HB2.out).c0; have hd3 := (HY.out.next HB2.out).c1)
   | (go_at_call 141; refine (make1_any (s != s') ho2).mono ?_; rintro _ W4 ⟨s4, rfl, ho4, hb4⟩; have HB4 := Lib.hid (HB2.out.trans (hb4.mono HB2.out.size)); have hf0 := (HZ.out.next HB4.out).c0; have hf1 := (HZ.out.next HB4.out).c1; have hf2 := (HY.out.next HB4.out).c0; have hf3 := (HY.out.next HB4.out).c1; have hg0 := (HR.out.next HB4.out).c0; have hg1 := (HR.out.next HB4.out).c1; have hh0 := (HR.out.next HB4.out).fz 0; have hh1 := (HR.out.next HB4.out).fz 1))
 have HS1 := Lib.hid hR.lt
 have HFA := Lib.hid (show Zz.sg (s != s') x2 = z * z' by rw [hx2.out, hz.out, hz'.out, Zz.sg_mul])
 clear hf0 hf1 hf2 hf3 hg0 hg1 hh0 hh1 hc0 hc1 hd0 hd1 hd2 hd3 hb2 hb4 hq1 hq2
 have hR4 := hR.next HB4.out
 have hB4 := hB.trans (HB4.out.mono hB.size)
 have hp := put_int hR4 hB4 (by omega) ho4 (Nat.lt_of_lt_of_le HS1.out HBD.out.size)
 generalize (W4.setCell ⟨w.heap.size + 1 + 1, 0, none⟩ (.bool s4)).setCell ⟨w.heap.size + 1 + 1, 1, none⟩ (.slice A2 m2 c2) = W9 at hp ⊢
 obtain ⟨hZ9, ho9, hB9⟩ := hp
 go_wp2
 exact bodyPost_ret (by simp [results, Tryz.results146, go_sem, hZ9.c0, hZ9.c1]) rfl ⟨_, _, _, _, _, rfl, ho9.base (Nat.le_trans (Nat.le_of_lt HSZ.out) HBD.out.size), HFA, hB9⟩
end Go.Proofs.YtjnklbfhelbjgaaGreat

/- Lists of integers; zint: the greatest common divisor of a list. -/
namespace Go.Proofs.YtjnklbfhelbjgaaGreat
open Go.RowKit Go.IntWalk
attribute [local go_sem ↓] Go.wp_at_zero Go.wp_at_succ
structure RdZs (w : World) (B N : Nat) (A : Option Addr) (n c : Nat) (L : List Int) : Prop where
 len : L.length = n
 le : n ≤ c
 mx : c ≤ maxLen
 at_ : ∀ (j : Nat) (z : Int), L[j]? = some z → ∃ (ad : Addr) (s : Bool) (A' : Option Addr) (n' c' : Nat), A = some ad ∧ ad.block < B ∧ w.cell? (ad.add (j * 2)) = some (.bool s) ∧ w.cell? ⟨(ad.add (j * 2)).block, (ad.add (j * 2)).off + 1, none⟩ = some (.slice A' n' c') ∧ RdZ w B s A' n' c' z ∧ n' ≤ N
section
variable {w w' : World} {B B' N : Nat} {A : Option Addr} {n c : Nat} {L : List Int}
theorem RdZs.below (h : RdZs w B N A n c L) (hb : Below B w w') : RdZs w' B N A n c L :=
 ⟨h.len, h.le, h.mx, fun j z hz => by
  obtain ⟨ad, s, A', n', c', h1, h2, h3, h4, h5, h6⟩ := h.at_ j z hz
  exact ⟨ad, s, A', n', c', h1, h2, (hb.cell (p := ad.add (j * 2)) (by rw [add_blk]; exact h2)).trans h3, (hb.cell (p := ⟨(ad.add (j * 2)).block, (ad.add (j * 2)).off + 1, none⟩) (by show (ad.add (j * 2)).block < B; rw [add_blk]; exact h2)).trans h4, h5.below hb, h6⟩⟩
theorem RdZs.more (h : RdZs w B N A n c L) (hB : B ≤ B') : RdZs w B' N A n c L :=
 ⟨h.len, h.le, h.mx, fun j z hz => by
  obtain ⟨ad, s, A', n', c', h1, h2, h3, h4, h5, h6⟩ := h.at_ j z hz
  exact ⟨ad, s, A', n', c', h1, by omega, h3, h4, h5.more hB, h6⟩⟩
theorem RdZs.next (h : RdZs w w.heap.size N A n c L) (hb : Below w.heap.size w w') : RdZs w' w'.heap.size N A n c L := (h.below hb).more hb.size
end
theorem foldl_take {f : Int → Int → Int} {a : Int} {L : List Int} {j : Nat} {x : Int} (h : L[j]? = some x) : (L.take (j + 1)).foldl f a = f ((L.take j).foldl f a) x := by
 rw [List.take_add_one, h, List.foldl_append]
 rfl
theorem zs_get {L : List Int} {j : Nat} (h : j < L.length) : ∃ x, L[j]? = some x := ⟨L[j], List.getElem?_eq_getElem h⟩
set_option maxRecDepth 100000 in
set_option maxHeartbeats 2000000 in
theorem folded_gcd {N : Nat} {A : Option Addr} {n c : Nat} {L : List Int} {w : World} (h : RdZs w w.heap.size N A n c L) (hN : N ≤ 1000000000000) :
  Calls Tryz.prog 190 #[.agg #[.bool false, .slice none 0 0], .slice A n c, .func (.func 191) #[] #[]] w (RetI (L.foldl (fun (g x : Int) => (Int.gcd g x : Int)) 0) w) := by
 have hEN := enters_of Tryz.func191 (by kernel_rfl) rfl
 have HLEN := Lib.hid h.len
 have hn48 : n ≤ 9223372036854775807 := by
  have h1 := h.mx
  have h2 := h.le
  unfold maxLen at h1
  omega
 obtain ⟨hZ, hR, hB⟩ := boxed1 w false none 0 0
 go_enter Tryz.func190, Tryz.ntmps190
 go_wp2_with fail
 generalize (w.alloc (.cells #[.bool false, .slice none 0 0] 25)).alloc (.cells #[.bool false, .slice none 0 0] 25) = W1 at *
 have HS1 := Lib.hid hR.lt
 go_loopw [11] (fun iv wr => ∃ (j : Nat) (s : Bool) (A' : Option Addr) (n' c' : Nat) (y : Int), iv = .int .i64 j ∧ j ≤ n ∧ ZC wr w.heap.size s A' n' c' ∧ ZC wr (w.heap.size + 1) false none 0 0 ∧ Hid (W1.heap.size ≤ wr.heap.size) ∧ OwZ wr W1.heap.size s A' n' c' y ∧ n' ≤ N ∧ Hid (y = (L.take j).foldl (fun (g x : Int) => (Int.gcd g x : Int)) 0) ∧ Below w.heap.size w wr) (fun iv _ => n - (intOf iv).toNat)
 case atStart => exact ⟨0, false, none, 0, 0, 0, rfl, Nat.zero_le _, hZ, hR, Lib.hid (Nat.le_refl _), OwZ.zero _ _, Nat.zero_le _, Lib.hid rfl, hB⟩
 case round =>
  clear hZ hR hB
  obtain ⟨j, s, A', n', c', y, rfl, hj, hZ, hR, HB1, ho, hn', hy, hB⟩ := hrel
  by_cases hjn : j = n
  ·subst hjn
   have hc0 := hZ.c0
   have hc1 := hZ.c1
   have hr0 := hR.c0
   have hr1 := hR.c1
   have hf0 := hR.fz 0
   have hf1 := hR.fz 1
   go_wp2
   have hp := put_int hR hB (Nat.le_succ _) ho HS1.out
   generalize (wr.setCell ⟨w.heap.size + 1, 0, none⟩ (.bool s)).setCell ⟨w.heap.size + 1, 1, none⟩ (.slice A' n' c') = W5 at hp ⊢
   obtain ⟨hZ5, ho5, hB5⟩ := hp
   exact bodyPost_ret (by simp [results, Tryz.results190, go_sem, hZ5.c0, hZ5.c1]) rfl ⟨_, _, _, _, _, rfl, ho5.base (by have := HS1.out; omega), Lib.hid (by rw [hy.out, List.take_of_length_le (by rw [HLEN.out]; exact Nat.le_refl _)]), hB5⟩
  ·have hjl : j < n := by omega
   clear hjn
   obtain ⟨x, hx⟩ := zs_get (L := L) (j := j) (by rw [HLEN.out]; exact hjl)
   obtain ⟨ad, s2, A2, n2, c2, rfl, hbk, hx0, hx1, hr, hn2⟩ := h.at_ j x hx
   have hx0' := (hB.cell (p := ad.add (j * 2)) (by rw [add_blk]; exact hbk)).trans hx0
   have hx1' := (hB.cell (p := ⟨(ad.add (j * 2)).block, (ad.add (j * 2)).off + 1, none⟩) (by show (ad.add (j * 2)).block < _; rw [add_blk]; exact hbk)).trans hx1
   have hjl' : (j : Int) < (n : Int) := by omega
   obtain ⟨W2, HW2⟩ : ∃ W, W = wr.alloc (.cells #[.bool s2, .slice A2 n2 c2] 25) := ⟨_, rfl⟩
   have hX : ZC W2 wr.heap.size s2 A2 n2 c2 := by rw [HW2]; exact ZC.new wr s2 A2 n2 c2
   have hb2 : Below wr.heap.size wr W2 := by rw [HW2]; exact (Below.refl wr.heap.size wr).alloc (Nat.le_refl _) _
   have hZ2 := hZ.next hb2
   have hc0 := hZ2.c0
   have hc1 := hZ2.c1
   have hd0 := hX.c0
   have hd1 := hX.c1
   rw [HW2] at hc0 hc1 hd0 hd1
   have HW2 := Lib.hid HW2
   go_wp2_with fail
   clear hc0 hc1 hd0 hd1
   rw [← HW2.out]
   clear HW2
   have hR2 := hR.next hb2
   have hB2 := hB.trans (hb2.mono hB.size)
   have hr2 := (hr.next hB2)
   have ho2 := ho.next hb2
   refine (igcd_any ho2.rd hr2 (by omega) (by omega)).mono ?_
   rintro _ W3 ⟨s3, A3, m3, c3, z3, rfl, ho3, hz3, hb3⟩
   have hZ3 := hZ2.next hb3
   have hR3 := hR2.next hb3
   have hB3 := hB2.trans (hb3.mono hB2.size)
   have hc0 := hZ3.c0
   have hc1 := hZ3.c1
   have hf0 := hZ3.fz 0
   have hf1 := hZ3.fz 1
   have HS2 := Lib.hid (show w.heap.size < W2.heap.size from hZ2.lt)
   have HZL := Lib.hid (show m3 ≤ N by
    rw [ho3.len, hz3.out]
    have e1 := Zz.zl_gcd y x
    have e2 := hr.len
    have e3 := ho.len
    omega)
   have HFO := Lib.hid (show z3 = (L.take (j + 1)).foldl (fun (g x : Int) => (Int.gcd g x : Int)) 0 by rw [foldl_take hx, hz3.out, hy.out])
   have HB12 := Lib.hid (show W1.heap.size ≤ W2.heap.size from Nat.le_trans HB1.out hb2.size)
   have HB23 := Lib.hid hb3.size
   clear hx hx0 hx1 hx0' hx1' hr hr2 hZ hZ2 hX hR hR2 hb2 hb3 ho ho2 hy hz3
   go_wp2
   have hp := put_int hZ3 hB3 (Nat.le_refl _) ho3 HS2.out
   have HS5 := Lib.hid (show W2.heap.size ≤ ((W3.setCell ⟨w.heap.size, 0, none⟩ (.bool s3)).setCell ⟨w.heap.size, 1, none⟩ (.slice A3 m3 c3)).heap.size by simpa using HB23.out)
   have hR5 := (hR3.far (p := ⟨w.heap.size, 0, none⟩) (by simp) (.bool s3)).far (p := ⟨w.heap.size, 1, none⟩) (by simp) (.slice A3 m3 c3)
   generalize (W3.setCell ⟨w.heap.size, 0, none⟩ (.bool s3)).setCell ⟨w.heap.size, 1, none⟩ (.slice A3 m3 c3) = W5 at hp hR5 HS5 ⊢
   obtain ⟨hZ5, ho5, hB5⟩ := hp
   have HB15 : W1.heap.size ≤ W5.heap.size := Nat.le_trans HB12.out HS5.out
   go_roundw
   case rel => exact ⟨j + 1, s3, A3, m3, c3, z3, by go_num, by omega, hZ5, hR5, Lib.hid HB15, ho5.base HB12.out, HZL.out, HFO.out, hB5⟩
   case measure => simp [intOf]; omega
set_option maxHeartbeats 1000000 in
theorem gcdl_any {N : Nat} {A : Option Addr} {n c : Nat} {L : List Int} {w : World} (h : RdZs w w.heap.size N A n c L) (hN : N ≤ 1000000000000) :
  Calls Tryz.prog 137 #[.slice A n c] w (RetI (L.foldl (fun (g x : Int) => (Int.gcd g x : Int)) 0) w) := by
 obtain ⟨W1, HW1⟩ : ∃ W, W = w.alloc (.cells #[.bool false, .slice none 0 0] 25) := ⟨_, rfl⟩
 have hR : ZC W1 w.heap.size false none 0 0 := by rw [HW1]; exact ZC.new w false none 0 0
 have hB : Below w.heap.size w W1 := by rw [HW1]; exact (Below.refl w.heap.size w).alloc (Nat.le_refl _) _
 have HW1 := Lib.hid HW1
 have h1 := h.next hB
 go_enter Tryz.func137, Tryz.ntmps137
 go_wp2_with fail
 rw [← HW1.out]
 clear HW1
 refine (folded_gcd h1 hN).mono ?_
 rintro _ W3 ⟨s3, A3, m3, c3, z3, rfl, ho3, hz3, hb3⟩
 have hR3 := hR.next hb3
 have hB3 := hB.trans (hb3.mono hB.size)
 have HS1 := Lib.hid hR.lt
 have hc0 := hR3.c0
 have hc1 := hR3.c1
 have hf0 := hR3.fz 0
 have hf1 := hR3.fz 1
 clear hb3 hR h1 h
 go_wp2
 have hp := put_int hR3 hB3 (Nat.le_refl _) ho3 HS1.out
 generalize (W3.setCell ⟨w.heap.size, 0, none⟩ (.bool s3)).setCell ⟨w.heap.size, 1, none⟩ (.slice A3 m3 c3) = W5 at hp ⊢
 obtain ⟨hZ5, ho5, hB5⟩ := hp
 exact bodyPost_ret (by simp [results, Tryz.results137, go_sem, hZ5.c0, hZ5.c1]) rfl ⟨_, _, _, _, _, rfl, ho5.base (Nat.le_of_lt HS1.out), hz3, hB5⟩
end Go.Proofs.YtjnklbfhelbjgaaGreat

/- Lists of integers of the call's own. -/
namespace Go.Proofs.YtjnklbfhelbjgaaGreat
open Go.RowKit Go.IntWalk
abbrev Ent := Bool × Option Addr × Nat × Nat
def zc (e : Ent) : List Value := [.bool e.1, .slice e.2.1 e.2.2.1 e.2.2.2]
def zcs (E : List Ent) : List Value := E.flatMap zc
theorem zcs_cons (e : Ent) (E : List Ent) : zcs (e :: E) = zc e ++ zcs E := by simp [zcs]
theorem zcs_append (E F : List Ent) : zcs (E ++ F) = zcs E ++ zcs F := by simp [zcs]
theorem zcs_one (e : Ent) : zcs [e] = [.bool e.1, .slice e.2.1 e.2.2.1 e.2.2.2] := rfl
theorem zcs_len (E : List Ent) : (zcs E).length = E.length * 2 := by
 induction E with
 | nil => rfl
 | cons e E ih => rw [zcs_cons, List.length_append, ih]; simp [zc]; omega
theorem zcs_at : ∀ (E : List Ent) (j : Nat) (e : Ent), E[j]? = some e → (zcs E)[j * 2]? = some (.bool e.1) ∧ (zcs E)[j * 2 + 1]? = some (.slice e.2.1 e.2.2.1 e.2.2.2)
 | [], _, _, h => by simp at h
 | x :: E, 0, e, h => by
   simp at h
   subst h
   exact ⟨rfl, rfl⟩
 | x :: E, j + 1, e, h => by
   have ih := zcs_at E j e (by simpa using h)
   rw [zcs_cons]
   have e1 : (zc x ++ zcs E)[(j + 1) * 2]? = (zcs E)[j * 2]? := by
    rw [List.getElem?_append_right (by simp [zc]; omega)]
    congr 1
    simp [zc]
    omega
   have e2 : (zc x ++ zcs E)[(j + 1) * 2 + 1]? = (zcs E)[j * 2 + 1]? := by
    rw [List.getElem?_append_right (by simp [zc]; omega)]
    congr 1
    simp [zc]
    omega
   rw [e1, e2]
   exact ih
def Ents (w : World) (b : Nat) (E : List Ent) (L : List Int) : Prop := E.length = L.length ∧ ∀ (j : Nat) (e : Ent) (z : Int), E[j]? = some e → L[j]? = some z → OwZ w b e.1 e.2.1 e.2.2.1 e.2.2.2 z
def OwZs (w : World) (b : Nat) (A : Option Addr) (n c : Nat) (L : List Int) : Prop :=
 ∃ E : List Ent, w.ownsRow b 25 2 (.slice A n c) n (zcs E) ∧ E.length = n ∧ Ents w b E L
section
variable {w w' : World} {b b' : Nat} {A : Option Addr} {n c : Nat} {L : List Int} {E : List Ent}
theorem Ents.next (h : Ents w b E L) (hb : Below w.heap.size w w') : Ents w' b E L := ⟨h.1, fun j e z he hz => (h.2 j e z he hz).next hb⟩
theorem Ents.base (h : Ents w b E L) (hb : b' ≤ b) : Ents w b' E L := ⟨h.1, fun j e z he hz => (h.2 j e z he hz).base hb⟩
theorem Ents.snoc (h : Ents w b E L) {e : Ent} {z : Int} (he : OwZ w b e.1 e.2.1 e.2.2.1 e.2.2.2 z) : Ents w b (E ++ [e]) (L ++ [z]) := by
 refine ⟨by rw [List.length_append, List.length_append, h.1]; rfl, fun j e' z' h1 h2 => ?_⟩
 rcases Nat.lt_or_ge j E.length with hj | hj
 ·rw [List.getElem?_append_left hj] at h1
  rw [List.getElem?_append_left (by rw [← h.1]; exact hj)] at h2
  exact h.2 j e' z' h1 h2
 ·rw [List.getElem?_append_right hj] at h1
  rw [List.getElem?_append_right (by rw [← h.1]; exact hj)] at h2
  rw [← h.1] at h2
  have hj0 : j - E.length = 0 := by
   rcases Nat.eq_zero_or_pos (j - E.length) with e0 | e0
   ·exact e0
   ·rw [List.getElem?_eq_none (by simp; omega)] at h1; cases h1
  rw [hj0] at h1 h2
  simp at h1 h2
  subst h1 h2
  exact he
theorem OwZs.len (h : OwZs w b A n c L) : L.length = n := by
 obtain ⟨E, _, h2, h3⟩ := h
 rw [← h3.1, h2]
theorem OwZs.nil (w : World) (b : Nat) : OwZs w b none 0 0 [] := ⟨[], World.ownsRow_nil _ _ _ _, rfl, rfl, fun j e z he _ => by simp at he⟩
theorem OwZs.form (h : OwZs w b A n c L) : (A = none ∧ n = 0 ∧ c = 0) ∨ ∃ g, A = some ⟨g, 0, none⟩ ∧ b ≤ g ∧ g < w.heap.size ∧ n ≤ c ∧ c ≤ maxLen := by
 obtain ⟨E, h, _, _⟩ := h
 rcases h.2 with ⟨h1, h2⟩ | ⟨g, cap, cur, h1, h2, h3, h4, h5, _⟩
 ·injection h1 with h1 h1' h1''
  exact .inl ⟨h1, h2, h1''⟩
 ·injection h1 with h1 h1' h1''
  subst h1''
  exact .inr ⟨g, h1, h2, (Array.getElem?_eq_some_iff.1 h3).1, h4, h5⟩
theorem row_next {e : TypeId} {k : Nat} {v : Value} {xs : List Value} (h : w.ownsRow b e k v n xs) (hb : Below w.heap.size w w') : w'.ownsRow b e k v n xs := by
 refine ⟨h.1, ?_⟩
 rcases h.2 with h0 | ⟨g, cap, cur, h1, h2, h3, h4⟩
 ·exact .inl h0
 ·exact .inr ⟨g, cap, cur, h1, h2, (hb.block g (Array.getElem?_eq_some_iff.1 h3).1).trans h3, h4⟩
theorem row_base {e : TypeId} {k : Nat} {v : Value} {xs : List Value} (h : w.ownsRow b e k v n xs) (hb : b' ≤ b) : w.ownsRow b' e k v n xs := by
 refine ⟨h.1, ?_⟩
 rcases h.2 with h0 | ⟨g, cap, cur, h1, h2, h3⟩
 ·exact .inl h0
 ·exact .inr ⟨g, cap, cur, h1, by omega, h3⟩
theorem OwZs.next (h : OwZs w b A n c L) (hb : Below w.heap.size w w') : OwZs w' b A n c L := by
 obtain ⟨E, h1, h2, h3⟩ := h
 exact ⟨E, row_next h1 hb, h2, h3.next hb⟩
theorem OwZs.base (h : OwZs w b A n c L) (hb : b' ≤ b) : OwZs w b' A n c L := by
 obtain ⟨E, h1, h2, h3⟩ := h
 exact ⟨E, row_base h1 hb, h2, h3.base hb⟩
theorem OwZs.rd {N : Nat} (h : OwZs w b A n c L) (hN : ∀ z ∈ L, Zz.zl z ≤ N) : RdZs w w.heap.size N A n c L := by
 have hl := h.len
 rcases h.form with ⟨rfl, rfl, rfl⟩ | ⟨g, rfl, h1, h2, h3, h4⟩
 ·refine ⟨hl, Nat.le_refl _, Nat.zero_le _, fun j z hz => ?_⟩
  rw [List.eq_nil_of_length_eq_zero hl] at hz
  simp at hz
 ·obtain ⟨E, hr, hE, hel⟩ := h
  refine ⟨hl, h3, h4, fun j z hz => ?_⟩
  have hj : j < L.length := by
   rcases Nat.lt_or_ge j L.length with h5 | h5
   ·exact h5
   ·rw [List.getElem?_eq_none h5] at hz; cases hz
  have hjE : j < E.length := by rw [hel.1]; exact hj
  have he := List.getElem?_eq_getElem hjE
  have hz' := hel.2 j _ z he hz
  obtain ⟨c0, c1⟩ := zcs_at E j _ he
  have e1 : (⟨g, 0, none⟩ : Addr).add (j * 2) = ⟨g, j * 2, none⟩ := add_base g _
  refine ⟨_, _, _, _, _, rfl, h2, ?_, ?_, hz'.rd, ?_⟩
  ·rw [e1, hr.cellAt (j * 2) (by omega)]; exact c0
  ·rw [e1]
   show w.cell? ⟨g, j * 2 + 1, none⟩ = _
   rw [hr.cellAt (j * 2 + 1) (by omega)]
   exact c1
  ·rw [hz'.len]; exact hN z (List.mem_of_getElem? hz)
theorem own_other {k m g : Nat} {M : List Nat} {A : Option Addr} {cur : Array Value} {f : Nat × Nat} (h : OwU w b A k m M) (hg : w.heap[g]? = some (.cells cur 25 f)) {w1 : World} (hb : ∀ i, i < w.heap.size → i ≠ g → w1.heap[i]? = w.heap[i]?) : OwU w1 b A k m M := by
 refine ⟨⟨h.own.1, ?_⟩, h.wd⟩
 rcases h.own.2 with h0 | ⟨g2, cap, cur2, h1, h2, h3, h4⟩
 ·exact .inl h0
 ·have hne : g2 ≠ g := by
   rintro rfl
   rw [hg] at h3
   simp at h3
  exact .inr ⟨g2, cap, cur2, h1, h2, (hb g2 (Array.getElem?_eq_some_iff.1 h3).1 hne).trans h3, h4⟩
theorem zs_more {wb w1 : World} {v' : Value} {e : Ent} {z : Int} {t : TypeId} (he : OwZ w b e.1 e.2.1 e.2.2.1 e.2.2.2 z) (hwb : wb = w.alloc (.cells #[.bool e.1, .slice e.2.1 e.2.2.1 e.2.2.2] t)) {E : List Ent} (hE : wb.ownsRow b 25 2 (.slice A n c) n (zcs E)) (hEl : E.length = n) (hEn : Ents w b E L)
  (hown' : w1.ownsRow b 25 2 v' (n + 1) (zcs E ++ [.bool e.1, .slice e.2.1 e.2.2.1 e.2.2.2])) (hg : wb.grownBy w1 (Value.slice A n c).ownBlock) :
  ∃ (A' : Option Addr) (c' : Nat), v' = .slice A' (n + 1) c' ∧ OwZs w1 b A' (n + 1) c' (L ++ [z]) := by
 obtain ⟨A', c', rfl⟩ := row_sl hown'
 have hba : Below w.heap.size w wb := by rw [hwb]; exact (Below.refl w.heap.size w).alloc (Nat.le_refl _) _
 have key : ∀ {s : Bool} {B : Option Addr} {k m : Nat} {y : Int}, OwZ w b s B k m y → OwZ w1 b s B k m y := by
  intro s B k m y hy
  have hy2 := hy.next hba
  refine ⟨?_, hy2.sgn⟩
  rcases hE.2 with ⟨h1, h2⟩ | ⟨g, cap, cur, h1, h2, h3, _⟩
  ·refine hy2.own.next ((Below.refl _ _).grown hg (Nat.le_refl _) fun k hk => ?_)
   rw [h1] at hk
   cases hk
  ·refine own_other hy2.own h3 fun i hi hne => hg.block i hi ?_
   rw [h1]
   intro e0
   cases e0
   exact hne rfl
 refine ⟨A', c', rfl, E ++ [e], ?_, by rw [List.length_append, hEl]; rfl, ?_⟩
 ·rw [zcs_append, zcs_one]; exact hown'
 ·have h2 := hEn.snoc he
  exact ⟨h2.1, fun j e' z' h3 h4 => key (h2.2 j e' z' h3 h4)⟩
end
def RetL (L : List Int) (w : World) (e : Ending) (w' : World) : Prop :=
 ∃ (A : Option Addr) (n c : Nat) (M : List Int), e = .returned (.slice A n c) ∧ OwZs w' w.heap.size A n c M ∧ Hid (M = L) ∧ Below w.heap.size w w'
theorem infoZ : (Tryz.prog.info? 25).map (fun i => (i.zero, i.size, i.bytes)) = some (some (.agg #[.bool false, .slice none 0 0]), 2, 32) := by kernel_rfl
end Go.Proofs.YtjnklbfhelbjgaaGreat
