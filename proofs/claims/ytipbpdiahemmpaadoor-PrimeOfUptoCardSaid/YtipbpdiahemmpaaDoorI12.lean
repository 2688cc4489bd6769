/- The reference's integers, fifth part: Euclid's rest modulo a word. -/
import Derived.Test.YtipbpdiahemmpaaDoorI7
namespace Go.Proofs.YtipbpdiahemmpaaDoor
open Go.RowKit Go.IntWalk
attribute [local go_sem ↓] Go.wp_at_zero Go.wp_at_succ

set_option maxRecDepth 100000 in
set_option maxHeartbeats 8000000 in
theorem rIMod_any (p : Nat) {pi : Int} (hpi : pi = p) {s : Bool} {A : Option Addr} {n c : Nat} {z : Int} {w : World} (h : RdZ w w.heap.size s A n c z) (hn : n ≤ 1000000000000) (hp : p < 4294967296) (hp0 : 0 < p) :
    Calls Tryd.prog 28 #[.agg #[.bool s, .slice A n c], .int .u32 pi] w fun e w' => ∃ x : Nat, e = .returned (.int .u32 x) ∧ Hid ((x : Int) = z % p) ∧ Below w.heap.size w w' := by
  subst hpi
  obtain ⟨W1, HW1⟩ : ∃ W, W = w.alloc (.cells #[.bool s, .slice A n c] 25) := ⟨_, rfl⟩
  have hZ : ZC W1 w.heap.size s A n c := by rw [HW1]; exact ZC.new w s A n c
  have hB : Below w.heap.size w W1 := by rw [HW1]; exact (Below.refl w.heap.size w).alloc (Nat.le_refl _) _
  have HW1 := Lib.hid HW1
  have h1 := h.next hB
  have hp0' : ((p : Int) == 0) = false := by simp; omega
  go_enter Tryd.func28, Tryd.ntmps28
  go_upto_region 1 with fail
  rw [← HW1.out]
  clear HW1
  clear HW1
  have HP := Lib.hid (And.intro hp hp0)
  go_cut [6] from 7 to 14 (fun tv wr => ∃ g : Nat, tv = .pointer (some ⟨g, 0, none⟩) ∧ Rest w g (z % p) wr)
  case first =>
    have HBD := Lib.hid (Below.refl W1.heap.size W1).drew
    have HZ := Lib.hid hZ
    have HH := Lib.hid h1
    have HBW := Lib.hid hB
    have hc0 := hZ.c0
    have hc1 := hZ.c1
    have HOF := Lib.hid (fun W => rIOf_any (p : Int) (by omega) (by omega) W)
    have hs1 := hZ.lt
    have hw1 : IntKind.i64.wrap (p : Int) = (p : Int) := by rw [IntWalk.i64_in _ (by omega)]
    clear h h1 hp0' hp hp0 hB
    go_region_held3 (fun w' => w'.cell? ⟨w.heap.size, 0, none⟩ = some (.bool s) ∧ w'.cell? ⟨w.heap.size, 1, none⟩ = some (.slice A n c)) (go_keep)
      (first
        | (go_at_call 58; refine (HOF.out _).mono ?_; rintro _ W2 ⟨s2, A2, m2, c2, z2, rfl, ho2, hz2, hb2⟩; have HB2 : Hid (Below W1.heap.size W1 W2) := Lib.hid (by first | exact HBD.out.trans hb2 | exact (HBD.out.alloc HBD.out.size _).trans (hb2.mono (by simp)) | exact ((HBD.out.alloc HBD.out.size _).alloc (by simp) _).trans (hb2.mono (by simp; omega))); have hs2 := hb2.size; (try simp at hs2); have hd0 := (HZ.out.next HB2.out).c0; have hd1 := (HZ.out.next HB2.out).c1;
            (first | have HA2 : Hid (ZC W2 W1.heap.size false none 0 0) := Lib.hid (zcF2 hb2) | have HA2 : Hid (ZC W2 W1.heap.size false none 0 0) := Lib.hid (zcF1 hb2) | skip); (first | have HC2 : Hid (ZC W2 (W1.heap.size + 1) false none 0 0) := Lib.hid (zcFE hb2) | skip))
        | (go_at_call 57; refine (rIEuclid_any (HH.out.next (by first | exact HB2.out | exact HB2.out.alloc HB2.out.size _ | exact (HB2.out.alloc HB2.out.size _).alloc (by simp; omega) _)) (by first | exact ho2.rd | exact (ho2.made _).rd | exact ((ho2.made _).made _).rd) (by omega) (by rw [ho2.len, hz2.out]; exact Nat.le_trans (Zz.zl_small (by have := HP.out; omega)) (by omega)) (by rw [hz2.out]; have := HP.out; omega)).mono ?_; rintro _ W3 ⟨s3, A3, m3, c3, z3, s4, A4, m4, c4, z4, rfl, ho3, ho4, hz4, hb3⟩;
            have HB23 : Hid (Below W2.heap.size W2 W3) := Lib.hid (by first | exact hb3 | exact ((Below.refl W2.heap.size W2).alloc (Nat.le_refl _) _).trans (hb3.mono (by simp)) | exact (((Below.refl W2.heap.size W2).alloc (Nat.le_refl _) _).alloc (by simp) _).trans (hb3.mono (by simp; omega))); have HB3 := Lib.hid (HB2.out.trans (HB23.out.mono HB2.out.size)); have hs3 := hb3.size; (try simp at hs3); have he0 := (HZ.out.next HB3.out).c0; have he1 := (HZ.out.next HB3.out).c1;
            (try have hA3 := HA2.out.next HB23.out); (try have hC3 := HC2.out.next HB23.out);
            (first | have hD3 := zcD2 hb3 | have hD3 := zcD1 hb3 | skip); (first | have hE3 := zcE hb3 | skip);
            (try have hx0 := hA3.c0); (try have hx1 := (hA3.alloc (.cells #[.bool false, .slice none 0 0] 25)).c0); (try have hy1 := (hA3.alloc (.cells #[.bool s3, .slice A3 m3 c3] 25)).c0); (try have hx2 := hA3.c1); (try have hx3 := (hA3.alloc (.cells #[.bool false, .slice none 0 0] 25)).c1); (try have hy3 := (hA3.alloc (.cells #[.bool s3, .slice A3 m3 c3] 25)).c1); (try have hx4 := hA3.fz 0); (try have hx5 := (hA3.alloc (.cells #[.bool false, .slice none 0 0] 25)).fz 0); (try have hy5 := (hA3.alloc (.cells #[.bool s3, .slice A3 m3 c3] 25)).fz 0); (try have hx6 := hA3.fz 1); (try have hx7 := (hA3.alloc (.cells #[.bool false, .slice none 0 0] 25)).fz 1); (try have hy7 := (hA3.alloc (.cells #[.bool s3, .slice A3 m3 c3] 25)).fz 1); (try have hx8 := hC3.c0); (try have hx9 := (hC3.alloc (.cells #[.bool false, .slice none 0 0] 25)).c0); (try have hy9 := (hC3.alloc (.cells #[.bool s3, .slice A3 m3 c3] 25)).c0); (try have hx10 := hC3.c1); (try have hx11 := (hC3.alloc (.cells #[.bool false, .slice none 0 0] 25)).c1); (try have hy11 := (hC3.alloc (.cells #[.bool s3, .slice A3 m3 c3] 25)).c1); (try have hx12 := hC3.fz 0); (try have hx13 := (hC3.alloc (.cells #[.bool false, .slice none 0 0] 25)).fz 0); (try have hy13 := (hC3.alloc (.cells #[.bool s3, .slice A3 m3 c3] 25)).fz 0); (try have hx14 := hC3.fz 1); (try have hx15 := (hC3.alloc (.cells #[.bool false, .slice none 0 0] 25)).fz 1); (try have hy15 := (hC3.alloc (.cells #[.bool s3, .slice A3 m3 c3] 25)).fz 1); (try have hx16 := hD3.c0); (try have hx17 := (hD3.alloc (.cells #[.bool false, .slice none 0 0] 25)).c0); (try have hy17 := (hD3.alloc (.cells #[.bool s3, .slice A3 m3 c3] 25)).c0); (try have hx18 := hD3.c1); (try have hx19 := (hD3.alloc (.cells #[.bool false, .slice none 0 0] 25)).c1); (try have hy19 := (hD3.alloc (.cells #[.bool s3, .slice A3 m3 c3] 25)).c1); (try have hx20 := hD3.fz 0); (try have hx21 := (hD3.alloc (.cells #[.bool false, .slice none 0 0] 25)).fz 0); (try have hy21 := (hD3.alloc (.cells #[.bool s3, .slice A3 m3 c3] 25)).fz 0); (try have hx22 := hD3.fz 1); (try have hx23 := (hD3.alloc (.cells #[.bool false, .slice none 0 0] 25)).fz 1); (try have hy23 := (hD3.alloc (.cells #[.bool s3, .slice A3 m3 c3] 25)).fz 1); (try have hx24 := hE3.c0); (try have hx25 := (hE3.alloc (.cells #[.bool false, .slice none 0 0] 25)).c0); (try have hy25 := (hE3.alloc (.cells #[.bool s3, .slice A3 m3 c3] 25)).c0); (try have hx26 := hE3.c1); (try have hx27 := (hE3.alloc (.cells #[.bool false, .slice none 0 0] 25)).c1); (try have hy27 := (hE3.alloc (.cells #[.bool s3, .slice A3 m3 c3] 25)).c1); (try have hx28 := hE3.fz 0); (try have hx29 := (hE3.alloc (.cells #[.bool false, .slice none 0 0] 25)).fz 0); (try have hy29 := (hE3.alloc (.cells #[.bool s3, .slice A3 m3 c3] 25)).fz 0); (try have hx30 := hE3.fz 1); (try have hx31 := (hE3.alloc (.cells #[.bool false, .slice none 0 0] 25)).fz 1); (try have hy31 := (hE3.alloc (.cells #[.bool s3, .slice A3 m3 c3] 25)).fz 1); (try have hn1 : ¬ W1.heap.size = W2.heap.size := Nat.ne_of_lt hs2); (try have hn2 : ¬ W2.heap.size = W1.heap.size := Nat.ne_of_gt hs2); (try have hn3 : ¬ W2.heap.size = W3.heap.size := Nat.ne_of_lt hs3); (try have hn4 : ¬ W3.heap.size = W2.heap.size := Nat.ne_of_gt hs3); (try have hn5 : ¬ W1.heap.size = W3.heap.size := Nat.ne_of_lt (Nat.lt_of_lt_of_le hs2 HB23.out.size)); (try have hn6 : ¬ W3.heap.size = W1.heap.size := Nat.ne_of_gt (Nat.lt_of_lt_of_le hs2 HB23.out.size)); have hl2 := Nat.lt_of_lt_of_le hs1 HB2.out.size; have hl3 := Nat.lt_of_lt_of_le hs1 HB3.out.size; have hm1 : ¬ W1.heap.size = w.heap.size := Nat.ne_of_gt hs1; have hm2 : ¬ W1.heap.size + 1 = w.heap.size := Nat.ne_of_gt (Nat.lt_succ_of_lt hs1); have hm3 : ¬ W2.heap.size = w.heap.size := Nat.ne_of_gt hl2; have hm4 : ¬ W2.heap.size + 1 = w.heap.size := Nat.ne_of_gt (Nat.lt_succ_of_lt hl2); have hm5 : ¬ W3.heap.size = w.heap.size := Nat.ne_of_gt hl3; have hm6 : ¬ W3.heap.size + 1 = w.heap.size := Nat.ne_of_gt (Nat.lt_succ_of_lt hl3)))
    all_goals
      go_wp2
      go_meet
      have HO4 := ho4.base (Nat.zero_le _)
      refine ⟨_, rfl, s4, A4, m4, c4, z4, ?x1, ?x2, Lib.hid (by rw [hz4.out.2, hz2.out]), ?x3⟩
      case x2 => repeat (with_reducible first | exact HO4 | refine OwZ.puts ?_ (by repeat (with_reducible first | assumption | exact ZE.of hA3 | exact ZE.of hC3 | exact ZE.of hD3 | exact ZE.of hE3 | exact ZC.newAt (by first | rfl | simp) | exact ZE.newAt (by first | rfl | simp) | refine ZE.put ?_ _ _ _ _ | refine ZE.puts ?_ _ _ _ _ | refine ZC.far ?_ (by first | (simp only [ne_eq]; omega) | (simp; done) | (simp; omega)) _ | refine ZE.far ?_ (by first | (simp only [ne_eq]; omega) | (simp; done) | (simp; omega)) _ | refine ZC.alloc ?_ _ | refine ZE.alloc ?_ _)) _ _ _ _ | refine OwZ.made ?_ _)
      case x1 => repeat (with_reducible first | assumption | exact ZE.of hA3 | exact ZE.of hC3 | exact ZE.of hD3 | exact ZE.of hE3 | exact ZC.newAt (by first | rfl | simp) | exact ZE.newAt (by first | rfl | simp) | refine ZE.put ?_ _ _ _ _ | refine ZE.puts ?_ _ _ _ _ | refine ZC.far ?_ (by first | (simp only [ne_eq]; omega) | (simp; done) | (simp; omega)) _ | refine ZE.far ?_ (by first | (simp only [ne_eq]; omega) | (simp; done) | (simp; omega)) _ | refine ZC.alloc ?_ _ | refine ZE.alloc ?_ _)
      case x3 => repeat (with_reducible first | exact HBW.out.trans (HB3.out.mono HBW.out.size) | refine Below.setCell ?_ (by first | (simp only []; omega) | (simp; omega)) _ | refine Below.alloc ?_ (by first | omega | (simp; omega)) _)
  case rest =>
    clear h h1 hp0' hp hp0 hB hZ
    obtain ⟨g, rfl, s4, A4, m4, c4, y, hZ4, ho4, hy, hB4⟩ := hcut
    have HYB := Lib.hid (show 0 ≤ y ∧ y < 4294967296 ∧ (y.natAbs : Int) = z % p from by
      have h1 := Int.emod_nonneg z (show (p : Int) ≠ 0 by have := HP.out; omega)
      have h2 := Int.emod_lt_of_pos z (show (0 : Int) < p by have := HP.out; omega)
      have h3 := HP.out
      have h4 := hy.out
      omega)
    have hd0 := hZ4.c0
    have hd1 := hZ4.c1
    rcases Nat.eq_zero_or_pos m4 with e | e
    · have HY0 := Lib.hid (ho4.eq0.1 e)
      subst e
      go_wp2
      go_ret
      exact ⟨0, rfl, Lib.hid (by have := HYB.out.2.2; have := HY0.out; omega), hB4⟩
    · have hyp : 0 < y.natAbs := by
        rcases Nat.eq_zero_or_pos y.natAbs with e2 | e2
        · have := ho4.eq0.2 (by omega); omega
        · exact e2
      obtain ⟨g2, rfl, hc, hm⟩ := own_low ho4.own hyp
      have e3 : y.natAbs % 4294967296 = y.natAbs := Nat.mod_eq_of_lt (by have := HYB.out; omega)
      rw [e3] at hc
      have HX := Lib.hid HYB.out.2.2
      generalize y.natAbs = x at hc HX
      have hmb : ((m4 : Int) == 0) = false := by simp; omega
      have hmi : (0 : Int) < (m4 : Int) := by omega
      clear hyp e3 e hm
      go_wp2
      go_ret
      exact ⟨x, rfl, HX, hB4⟩
end Go.Proofs.YtipbpdiahemmpaaDoor
