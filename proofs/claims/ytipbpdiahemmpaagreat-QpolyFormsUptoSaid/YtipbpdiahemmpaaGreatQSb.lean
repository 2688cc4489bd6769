/- qpoly.Eval, from within and as exported. -/
import Derived.Test.YtipbpdiahemmpaaGreatQ41
import Derived.Test.YtipbpdiahemmpaaGreatQ42
import Derived.Test.YtipbpdiahemmpaaGreatQSa
import Derived.Deep.RegionWith
namespace Go.Proofs.YtipbpdiahemmpaaGreat
open Go.RowKit Go.IntWalk
attribute [local go_sem ↓] Go.wp_at_zero Go.wp_at_succ

theorem cutin {T G : Prop} (h : T) (k : T → G) : G := k h
theorem QC.drew {w : World} {g : Nat} {s s' : Bool} {A A' : Option Addr} {n c n' c' : Nat} (h : QC w g s A n c s' A' n' c') : QC w.drew g s A n c s' A' n' c' := h
theorem qcG1 {V W : World} (hb : Below ((V.alloc (.cells #[.bool false, .slice none 0 0, .bool false, .slice none 0 0] 56)).alloc (.cells #[.bool false, .slice none 0 0, .bool false, .slice none 0 0] 56)).heap.size ((V.alloc (.cells #[.bool false, .slice none 0 0, .bool false, .slice none 0 0] 56)).alloc (.cells #[.bool false, .slice none 0 0, .bool false, .slice none 0 0] 56)) W) : QC W V.heap.size false none 0 0 false none 0 0 := ((QC.new V false none 0 0 false none 0 0).alloc _).next hb
theorem qcG2 {V W : World} (hb : Below ((V.alloc (.cells #[.bool false, .slice none 0 0, .bool false, .slice none 0 0] 56)).alloc (.cells #[.bool false, .slice none 0 0, .bool false, .slice none 0 0] 56)).heap.size ((V.alloc (.cells #[.bool false, .slice none 0 0, .bool false, .slice none 0 0] 56)).alloc (.cells #[.bool false, .slice none 0 0, .bool false, .slice none 0 0] 56)) W) : QC W (V.heap.size + 1) false none 0 0 false none 0 0 := (QC.newAt (w := V.alloc (.cells #[.bool false, .slice none 0 0, .bool false, .slice none 0 0] 56)) (by simp)).next hb
theorem qcH1 {V W : World} (hb : Below ((V.drew.alloc (.cells #[.bool false, .slice none 0 0, .bool false, .slice none 0 0] 56)).alloc (.cells #[.bool false, .slice none 0 0, .bool false, .slice none 0 0] 56)).heap.size ((V.drew.alloc (.cells #[.bool false, .slice none 0 0, .bool false, .slice none 0 0] 56)).alloc (.cells #[.bool false, .slice none 0 0, .bool false, .slice none 0 0] 56)) W) : QC W V.heap.size false none 0 0 false none 0 0 := ((QC.new V.drew false none 0 0 false none 0 0).alloc _).next hb
theorem qcH2 {V W : World} (hb : Below ((V.drew.alloc (.cells #[.bool false, .slice none 0 0, .bool false, .slice none 0 0] 56)).alloc (.cells #[.bool false, .slice none 0 0, .bool false, .slice none 0 0] 56)).heap.size ((V.drew.alloc (.cells #[.bool false, .slice none 0 0, .bool false, .slice none 0 0] 56)).alloc (.cells #[.bool false, .slice none 0 0, .bool false, .slice none 0 0] 56)) W) : QC W (V.heap.size + 1) false none 0 0 false none 0 0 := (QC.newAt (w := V.drew.alloc (.cells #[.bool false, .slice none 0 0, .bool false, .slice none 0 0] 56)) (by simp)).next hb
theorem Below.next3 {w w' w'' : World} (h : Below w.heap.size w w') (hb : Below w'.heap.size w' w'') : Below w.heap.size w w'' := h.trans (hb.mono h.size)
theorem QE.drew {w : World} {g : Nat} (h : QE w g) : QE w.drew g := h

set_option maxRecDepth 100000 in
set_option maxHeartbeats 16000000 in
theorem qEvalIn_any {b N N' c : Nat} {A : Option Addr} {P Q : List Rat} {w : World} (h : OwPs w b A 2 c [P, Q]) (hP : ∀ x ∈ P, Qs N x) (hQ : ∀ x ∈ Q, Qs N' x) (hsz : 2 + (P.length + 1) * (N' + N + 1) ≤ 200000000000) (h1N : 1 ≤ N) (h1N' : 1 ≤ N') :
    Calls Tryz.prog 140 #[.slice A 2 c] w (RetQcE w.heap.size (fun y kk => y = Pq.psum (Pq.co P) (Pq.co Q 0) P.length ∧ kk = 0) w) := by
  obtain ⟨g, A1, n1, c1, L1, rfl, hbk, hx, ho1, hL1⟩ := opl_at h (show 0 < 2 by decide)
  obtain ⟨g', A2, n2, c2, L2, e, _, hy, ho2, hL2⟩ := opl_at h (show 1 < 2 by decide)
  injection e with e
  injection e with e
  subst e
  obtain rfl : P = L1 := by simpa using hL1.out
  obtain rfl : Q = L2 := by simpa using hL2.out
  obtain ⟨W1, HW1⟩ : ∃ W, W = w.alloc (.cells #[.bool false, .slice none 0 0, .bool false, .slice none 0 0] 56) := ⟨_, rfl⟩
  have hR : QC W1 w.heap.size false none 0 0 false none 0 0 := by rw [HW1]; exact QC.new w false none 0 0 false none 0 0
  have hB : Below w.heap.size w W1 := by rw [HW1]; exact (Below.refl _ _).alloc (Nat.le_refl _) _
  have hPl : P.length = n1 := ho1.len
  have HX := Lib.hid (show ∀ W, Below W1.heap.size W1 W → RdQs W W.heap.size N A1 n1 c1 (P.map pr) ∧ RdQs W W.heap.size N' A2 n2 c2 (Q.map pr) from fun W hb => by
    have hb' := hB.trans (hb.mono hB.size)
    exact ⟨(ho1.next hb').rd hP, (ho2.next hb').rd hQ⟩)
  have HCX := Lib.hid (show ∀ W, Below W1.heap.size W1 W → W.cell? ⟨g, 0, none⟩ = some (.slice A1 n1 c1) ∧ W.cell? ⟨g, 1, none⟩ = some (.slice A2 n2 c2) from fun W hb => by
    have hb' := hB.trans (hb.mono hB.size)
    exact ⟨(hb'.cell (p := ⟨g, 0, none⟩) hbk).trans hx, (hb'.cell (p := ⟨g, 1, none⟩) hbk).trans hy⟩)
  have HR := Lib.hid (And.intro hR (And.intro hB hR.lt))
  have HN := Lib.hid (And.intro hsz hPl)
  have HBD := Lib.hid (Below.refl W1.heap.size W1).drew
  have HW1 := Lib.hid HW1
  clear h hL1 hL2 ho1 ho2 hP hQ hR hB hsz hx hy hPl
  go_enter Tryz.func140, Tryz.ntmps140
  go_upto_region 1 with fail
  rw [← HW1.out]
  clear HW1
  clear HW1
  go_cut [4, 5] from 7 to 11 (fun pv xv V => ∃ (g4 g5 : Nat) (s2 : Bool) (A2 : Option Addr) (n2 c2 : Nat) (s3 : Bool) (A3 : Option Addr) (n3 c3 : Nat) (s5 : Bool) (A5 : Option Addr) (n5 c5 : Nat) (s6 : Bool) (A6 : Option Addr) (n6 c6 : Nat), pv = .pointer (some ⟨g4, 0, none⟩) ∧ xv = .pointer (some ⟨g5, 0, none⟩) ∧ Hid (g4 ≠ g5 ∧ W1.heap.size ≤ g4 ∧ W1.heap.size ≤ g5) ∧ QC V g4 s2 A2 n2 c2 s3 A3 n3 c3 ∧ QC V g5 s5 A5 n5 c5 s6 A6 n6 c6 ∧ OwQ V W1.heap.size s2 A2 n2 c2 s3 A3 n3 c3 0 ∧ RdN V s5 A5 n5 c5 (Pq.co Q 0).num ∧ RdN V s6 A6 n6 c6 ((Pq.co Q 0).den : Int) ∧ Hid (n5 ≤ N' ∧ n6 ≤ N') ∧ Below W1.heap.size W1 V)
  case first =>
    obtain ⟨la0, la1⟩ := HCX.out W1 (Below.refl _ _)
    have hw1 := HR.out.2.2
    go_region_held3 (fun w' => w'.cell? ⟨g, 0, none⟩ = some (.slice A1 n1 c1) ∧ w'.cell? ⟨g, 1, none⟩ = some (.slice A2 n2 c2))
      ((refine HCX.out _ ?_; repeat (with_reducible first | exact HB3.out | exact HB2.out | exact HBD.out | exact Below.refl _ _ | refine Below.drew ?_ | refine Below.setCell ?_ (by first | (simp only []; omega) | (simp; omega)) _ | refine Below.alloc ?_ (by first | omega | (simp; done) | (simp; omega)) _)))
      (first
        | (have hx := HB2.out; clear hx; go_at_call 138; refine (qat_any 0 (HX.out _ ?bb).2 h1N').mono ?_; (case bb => first | exact HB2.out | exact HB2.out.alloc HB2.out.size _ | exact (HB2.out.alloc HB2.out.size _).alloc (by simp; omega) _); rintro _ W3 ⟨s5, A5, n5, c5, s6, A6, n6, c6, rfl, h5, h6, hn5, hn6, hb3⟩; have HB23 : Hid (Below W2.heap.size W2 W3) := Lib.hid (by first | exact hb3 | exact ((Below.refl W2.heap.size W2).alloc (Nat.le_refl _) _).trans (hb3.mono (by simp)) | exact (((Below.refl W2.heap.size W2).alloc (Nat.le_refl _) _).alloc (by simp) _).trans (hb3.mono (by simp; omega))); have HB3 := Lib.hid (HB2.out.trans (HB23.out.mono HB2.out.size)); have hs3 := HB23.out.size; have hs4 := hb3.size; (try simp at hs4); (try have hA3 := HA2.out.next HB23.out); (try have hC3 := HC2.out.next HB23.out); (first | have hD3 : QC W3 W2.heap.size false none 0 0 false none 0 0 := qcF2 hb3 | have hD3 : QC W3 W2.heap.size false none 0 0 false none 0 0 := qcG1 hb3 | skip); (first | have hE3 : QC W3 (W2.heap.size + 1) false none 0 0 false none 0 0 := qcG2 hb3 | skip); (first | (have hz := hC3; clear hz; have q1 := hA3.c0; have q2 := hA3.fz 0; have q3 := hA3.c1; have q4 := hA3.fz 1; have q5 := hA3.c2; have q6 := hA3.fz 2; have q7 := hA3.c3; have q8 := hA3.fz 3; have q9 := hC3.c0; have q10 := hC3.fz 0; have q11 := hC3.c1; have q12 := hC3.fz 1; have q13 := hC3.c2; have q14 := hC3.fz 2; have q15 := hC3.c3; have q16 := hC3.fz 3) | (have hz := hE3; clear hz; have q17 := hD3.c0; have q18 := hD3.fz 0; have q19 := hD3.c1; have q20 := hD3.fz 1; have q21 := hD3.c2; have q22 := hD3.fz 2; have q23 := hD3.c3; have q24 := hD3.fz 3; have q25 := hE3.c0; have q26 := hE3.fz 0; have q27 := hE3.c1; have q28 := hE3.fz 1; have q29 := hE3.c2; have q30 := hE3.fz 2; have q31 := hE3.c3; have q32 := hE3.fz 3) | (have hz := hA3; clear hz; have hz := hD3; clear hz; have ne1 := Nat.ne_of_lt HA2.out.lt; have nf1 := Ne.symm ne1; have q33 := hA3.c0; have q34 := hA3.fz 0; have q35 := hA3.c1; have q36 := hA3.fz 1; have q37 := hA3.c2; have q38 := hA3.fz 2; have q39 := hA3.c3; have q40 := hA3.fz 3; have q41 := hD3.c0; have q42 := hD3.fz 0; have q43 := hD3.c1; have q44 := hD3.fz 1; have q45 := hD3.c2; have q46 := hD3.fz 2; have q47 := hD3.c3; have q48 := hD3.fz 3) | (have ne2 := Nat.ne_of_lt hA3.lt; have nf2 := Ne.symm ne2; have q49 := (hA3.alloc (.cells #[.bool false, .slice none 0 0, .bool false, .slice none 0 0] 56)).c0; have q50 := (hA3.alloc (.cells #[.bool false, .slice none 0 0, .bool false, .slice none 0 0] 56)).fz 0; have q51 := (hA3.alloc (.cells #[.bool false, .slice none 0 0, .bool false, .slice none 0 0] 56)).c1; have q52 := (hA3.alloc (.cells #[.bool false, .slice none 0 0, .bool false, .slice none 0 0] 56)).fz 1; have q53 := (hA3.alloc (.cells #[.bool false, .slice none 0 0, .bool false, .slice none 0 0] 56)).c2; have q54 := (hA3.alloc (.cells #[.bool false, .slice none 0 0, .bool false, .slice none 0 0] 56)).fz 2; have q55 := (hA3.alloc (.cells #[.bool false, .slice none 0 0, .bool false, .slice none 0 0] 56)).c3; have q56 := (hA3.alloc (.cells #[.bool false, .slice none 0 0, .bool false, .slice none 0 0] 56)).fz 3; have q57 := (hA3.alloc (.cells #[.bool s2, .slice A2 n2 c2, .bool s3, .slice A3 n3 c3] 56)).c0; have q58 := (hA3.alloc (.cells #[.bool s2, .slice A2 n2 c2, .bool s3, .slice A3 n3 c3] 56)).fz 0; have q59 := (hA3.alloc (.cells #[.bool s2, .slice A2 n2 c2, .bool s3, .slice A3 n3 c3] 56)).c1; have q60 := (hA3.alloc (.cells #[.bool s2, .slice A2 n2 c2, .bool s3, .slice A3 n3 c3] 56)).fz 1; have q61 := (hA3.alloc (.cells #[.bool s2, .slice A2 n2 c2, .bool s3, .slice A3 n3 c3] 56)).c2; have q62 := (hA3.alloc (.cells #[.bool s2, .slice A2 n2 c2, .bool s3, .slice A3 n3 c3] 56)).fz 2; have q63 := (hA3.alloc (.cells #[.bool s2, .slice A2 n2 c2, .bool s3, .slice A3 n3 c3] 56)).c3; have q64 := (hA3.alloc (.cells #[.bool s2, .slice A2 n2 c2, .bool s3, .slice A3 n3 c3] 56)).fz 3) | (have ne3 := Nat.ne_of_lt hD3.lt; have nf3 := Ne.symm ne3; have q65 := (hD3.alloc (.cells #[.bool false, .slice none 0 0, .bool false, .slice none 0 0] 56)).c0; have q66 := (hD3.alloc (.cells #[.bool false, .slice none 0 0, .bool false, .slice none 0 0] 56)).fz 0; have q67 := (hD3.alloc (.cells #[.bool false, .slice none 0 0, .bool false, .slice none 0 0] 56)).c1; have q68 := (hD3.alloc (.cells #[.bool false, .slice none 0 0, .bool false, .slice none 0 0] 56)).fz 1; have q69 := (hD3.alloc (.cells #[.bool false, .slice none 0 0, .bool false, .slice none 0 0] 56)).c2; have q70 := (hD3.alloc (.cells #[.bool false, .slice none 0 0, .bool false, .slice none 0 0] 56)).fz 2; have q71 := (hD3.alloc (.cells #[.bool false, .slice none 0 0, .bool false, .slice none 0 0] 56)).c3; have q72 := (hD3.alloc (.cells #[.bool false, .slice none 0 0, .bool false, .slice none 0 0] 56)).fz 3; have q73 := (hD3.alloc (.cells #[.bool s2, .slice A2 n2 c2, .bool s3, .slice A3 n3 c3] 56)).c0; have q74 := (hD3.alloc (.cells #[.bool s2, .slice A2 n2 c2, .bool s3, .slice A3 n3 c3] 56)).fz 0; have q75 := (hD3.alloc (.cells #[.bool s2, .slice A2 n2 c2, .bool s3, .slice A3 n3 c3] 56)).c1; have q76 := (hD3.alloc (.cells #[.bool s2, .slice A2 n2 c2, .bool s3, .slice A3 n3 c3] 56)).fz 1; have q77 := (hD3.alloc (.cells #[.bool s2, .slice A2 n2 c2, .bool s3, .slice A3 n3 c3] 56)).c2; have q78 := (hD3.alloc (.cells #[.bool s2, .slice A2 n2 c2, .bool s3, .slice A3 n3 c3] 56)).fz 2; have q79 := (hD3.alloc (.cells #[.bool s2, .slice A2 n2 c2, .bool s3, .slice A3 n3 c3] 56)).c3; have q80 := (hD3.alloc (.cells #[.bool s2, .slice A2 n2 c2, .bool s3, .slice A3 n3 c3] 56)).fz 3) | skip))
        | (go_at_call 141; refine (qof_any 0 (by decide) (by decide) _).mono ?_; rintro _ W2 ⟨s2, A2, n2, c2, s3, A3, n3, c3, y2, rfl, ho2, hy2, hb2⟩; have HB2 : Hid (Below W1.heap.size W1 W2) := Lib.hid (by first | exact HBD.out.trans hb2 | exact (HBD.out.alloc HBD.out.size _).trans (hb2.mono (by simp)) | exact ((HBD.out.alloc HBD.out.size _).alloc (by simp) _).trans (hb2.mono (by simp; omega))); have hs2 := hb2.size; (try simp at hs2); obtain rfl : y2 = 0 := hy2.out; have HO2 : Hid (OwQ W2 W1.heap.size s2 A2 n2 c2 s3 A3 n3 c3 0) := Lib.hid (ho2.base (by first | exact Nat.le_refl _ | (simp; done) | (simp; omega))); (first | have HA2 : Hid (QC W2 W1.heap.size false none 0 0 false none 0 0) := Lib.hid (qcF1 hb2) | have HA2 : Hid (QC W2 W1.heap.size false none 0 0 false none 0 0) := Lib.hid (qcH1 hb2) | skip); (first | have HC2 : Hid (QC W2 (W1.heap.size + 1) false none 0 0 false none 0 0) := Lib.hid (qcH2 hb2) | skip)))
    all_goals
      have HO3 := Lib.hid ((HO2.out.next HB23.out))
      have hr5 : RdN W3 s5 A5 n5 c5 (Pq.co Q 0).num := h5
      have hr6 : RdN W3 s6 A6 n6 c6 ((Pq.co Q 0).den : Int) := h6
      have HBL := HB3.out
      go_wp2
      go_meet
      refine ⟨_, _, s2, A2, n2, c2, s3, A3, n3, c3, s5, A5, n5, c5, s6, A6, n6, c6, rfl, rfl, ?gne, ?qv, ?qx, ?ov, ?rz, ?rd, Lib.hid ⟨hn5, hn6⟩, ?bb⟩
      case gne => exact Lib.hid (by refine ⟨?_, ?_, ?_⟩ <;> first | omega | (simp; done) | (simp; omega))
      case qv => repeat (first | with_reducible assumption | with_reducible exact QE.of hA3 | with_reducible exact QE.of hC3 | with_reducible exact QE.of hD3 | with_reducible exact QE.of hE3 | (with_reducible refine QC.newAt ?_; (first | rfl | (simp; done))) | (with_reducible refine QE.newAt ?_; (first | rfl | (simp; done))) | with_reducible refine QE.put ?_ _ _ _ _ _ _ _ _ | with_reducible refine QE.puts ?_ _ _ _ _ _ _ _ _ | (with_reducible refine QC.far ?_ ?_ _; rotate_left; (first | (simp only [ne_eq]; omega) | (simp; done) | (simp; omega))) | (with_reducible refine QE.far ?_ ?_ _; rotate_left; (first | (simp only [ne_eq]; omega) | (simp; done) | (simp; omega))) | with_reducible refine QC.alloc ?_ _ | with_reducible refine QE.alloc ?_ _)
      case qx => repeat (first | with_reducible assumption | with_reducible exact QE.of hA3 | with_reducible exact QE.of hC3 | with_reducible exact QE.of hD3 | with_reducible exact QE.of hE3 | (with_reducible refine QC.newAt ?_; (first | rfl | (simp; done))) | (with_reducible refine QE.newAt ?_; (first | rfl | (simp; done))) | with_reducible refine QE.put ?_ _ _ _ _ _ _ _ _ | with_reducible refine QE.puts ?_ _ _ _ _ _ _ _ _ | (with_reducible refine QC.far ?_ ?_ _; rotate_left; (first | (simp only [ne_eq]; omega) | (simp; done) | (simp; omega))) | (with_reducible refine QE.far ?_ ?_ _; rotate_left; (first | (simp only [ne_eq]; omega) | (simp; done) | (simp; omega))) | with_reducible refine QC.alloc ?_ _ | with_reducible refine QE.alloc ?_ _)
      case ov => repeat (first | with_reducible exact HO3.out | (with_reducible refine OwQ.puts ?_ ?_ _ _ _ _; rotate_left; (focus ((repeat (first | with_reducible assumption | with_reducible exact QE.of hA3 | with_reducible exact QE.of hC3 | with_reducible exact QE.of hD3 | with_reducible exact QE.of hE3 | (with_reducible refine QC.newAt ?_; (first | rfl | (simp; done))) | (with_reducible refine QE.newAt ?_; (first | rfl | (simp; done))) | with_reducible refine QE.put ?_ _ _ _ _ _ _ _ _ | with_reducible refine QE.puts ?_ _ _ _ _ _ _ _ _ | (with_reducible refine QC.far ?_ ?_ _; rotate_left; (first | (simp only [ne_eq]; omega) | (simp; done) | (simp; omega))) | (with_reducible refine QE.far ?_ ?_ _; rotate_left; (first | (simp only [ne_eq]; omega) | (simp; done) | (simp; omega))) | with_reducible refine QC.alloc ?_ _ | with_reducible refine QE.alloc ?_ _)); done))) | with_reducible refine OwQ.made ?_ _)
      case rz => repeat (first | with_reducible exact hr5 | (with_reducible refine RdN.put4 ?_ ?_ _ _ _ _; rotate_left; (focus ((repeat (first | with_reducible assumption | with_reducible exact QE.of hA3 | with_reducible exact QE.of hC3 | with_reducible exact QE.of hD3 | with_reducible exact QE.of hE3 | (with_reducible refine QC.newAt ?_; (first | rfl | (simp; done))) | (with_reducible refine QE.newAt ?_; (first | rfl | (simp; done))) | with_reducible refine QE.put ?_ _ _ _ _ _ _ _ _ | with_reducible refine QE.puts ?_ _ _ _ _ _ _ _ _ | (with_reducible refine QC.far ?_ ?_ _; rotate_left; (first | (simp only [ne_eq]; omega) | (simp; done) | (simp; omega))) | (with_reducible refine QE.far ?_ ?_ _; rotate_left; (first | (simp only [ne_eq]; omega) | (simp; done) | (simp; omega))) | with_reducible refine QC.alloc ?_ _ | with_reducible refine QE.alloc ?_ _)); done))) | with_reducible refine RdN.made ?_ _)
      case rd => repeat (first | with_reducible exact hr6 | (with_reducible refine RdN.put4 ?_ ?_ _ _ _ _; rotate_left; (focus ((repeat (first | with_reducible assumption | with_reducible exact QE.of hA3 | with_reducible exact QE.of hC3 | with_reducible exact QE.of hD3 | with_reducible exact QE.of hE3 | (with_reducible refine QC.newAt ?_; (first | rfl | (simp; done))) | (with_reducible refine QE.newAt ?_; (first | rfl | (simp; done))) | with_reducible refine QE.put ?_ _ _ _ _ _ _ _ _ | with_reducible refine QE.puts ?_ _ _ _ _ _ _ _ _ | (with_reducible refine QC.far ?_ ?_ _; rotate_left; (first | (simp only [ne_eq]; omega) | (simp; done) | (simp; omega))) | (with_reducible refine QE.far ?_ ?_ _; rotate_left; (first | (simp only [ne_eq]; omega) | (simp; done) | (simp; omega))) | with_reducible refine QC.alloc ?_ _ | with_reducible refine QE.alloc ?_ _)); done))) | with_reducible refine RdN.made ?_ _)
      case bb => repeat (first | with_reducible exact HBL | (with_reducible refine Below.setCell ?_ ?_ _; rotate_left; (first | (simp only []; omega) | (simp; done) | (simp; omega))) | (with_reducible refine Below.alloc ?_ ?_ _; rotate_left; (first | omega | (simp; done) | (simp; omega))))
  case rest =>
    obtain ⟨g4, g5, s2, A2, n2, c2, s3, A3, n3, c3, s5, A5, n5, c5, s6, A6, n6, c6, rfl, rfl, HG, hV, hX, ho, hr5, hr6, HNN, hb⟩ := hcut
    obtain ⟨la0, la1⟩ := HCX.out wc hb
    have HRC := Lib.hid (HR.out.1.next hb)
    obtain ⟨x, ex⟩ : ∃ x, x = Pq.co Q 0 := ⟨_, rfl⟩
    rw [← ex] at hr5 hr6
    have HEX := Lib.hid ex
    clear ex
    have hnl : n1 ≤ 200000000000 := by
      have e1 := HN.out.1
      rw [HN.out.2] at e1
      have e2 : (n1 + 1) * 1 ≤ (n1 + 1) * (N' + N + 1) := Nat.mul_le_mul_left _ (by omega)
      omega
    have hwn : IntKind.i64.wrap ((n1 : Int) - 1) = (n1 : Int) - 1 := by rw [IntWalk.i64_in _ (by omega)]
    go_wp2_with fail
    clear hwn
    clear la0 la1
    have HSZX := Lib.hid (show (∀ i, Qs N (Pq.co P i)) ∧ Qs N' x from by
      have h1 := HX.out wc hb
      exact ⟨h1.1.szp h1N, by rw [HEX.out]; exact h1.2.szp h1N' 0⟩)
    have HSB := Lib.hid (show ∀ d, d < n1 → 2 + d * (N' + N + 1) + N' + N ≤ 200000000000 from fun d hd => by
      have e1 := HN.out.1
      rw [HN.out.2] at e1
      have e2 : (d + 1) * (N' + N + 1) ≤ (n1 + 1) * (N' + N + 1) := Nat.mul_le_mul_right _ (by omega)
      have e3 : (d + 1) * (N' + N + 1) = d * (N' + N + 1) + (N' + N + 1) := Nat.succ_mul _ _
      omega)
    go_loopw [6] (fun iv wr => ∃ (d : Nat) (s2 : Bool) (A2 : Option Addr) (n2 c2 : Nat) (s3 : Bool) (A3 : Option Addr) (n3 c3 : Nat) (v : Rat), iv = .int .i64 ((n1 : Int) - 1 - d) ∧ d ≤ n1 ∧ QC wr g4 s2 A2 n2 c2 s3 A3 n3 c3 ∧ QC wr g5 s5 A5 n5 c5 s6 A6 n6 c6 ∧ QC wr w.heap.size false none 0 0 false none 0 0 ∧ OwQ wr W1.heap.size s2 A2 n2 c2 s3 A3 n3 c3 v ∧ RdN wr s5 A5 n5 c5 x.num ∧ RdN wr s6 A6 n6 c6 (x.den : Int) ∧ Hid (v = Pq.hor (Pq.co P) x n1 d) ∧ Below W1.heap.size W1 wr) (fun iv _ => (intOf iv + 1).toNat)
    case atStart => exact ⟨0, s2, A2, n2, c2, s3, A3, n3, c3, 0, by simp, Nat.zero_le _, hV, hX, HRC.out, ho, hr5, hr6, Lib.hid rfl, hb⟩
    case round =>
      clear hV hX HRC ho hr5 hr6 hb
      obtain ⟨d, s2, A2, n2, c2, s3, A3, n3, c3, v, rfl, hd, hV, hX, hR, hov, hr5, hr6, hv, hB⟩ := hrel
      have HSV := Lib.hid (show Qs (1 + d * (N' + N + 1)) v by rw [hv.out]; exact hor_qs HSZX.out.1 HSZX.out.2 n1 d)
      by_cases hdn : d = n1
      · subst hdn
        have v0 := hV.c0
        have v1 := hV.c1
        have v2 := hV.c2
        have v3 := hV.c3
        have r0 := hR.c0
        have r1 := hR.c1
        have r2 := hR.c2
        have r3 := hR.c3
        have f0 := hR.fz 0
        have f1 := hR.fz 1
        have f2 := hR.fz 2
        have f3 := hR.fz 3
        have HR9 := Lib.hid (hR.store s2 A2 n2 c2 s3 A3 n3 c3)
        have HO9 := Lib.hid ((hov.base (b' := w.heap.size) (Nat.le_of_lt HR.out.2.2)).keep (keep_putQ hR s2 A2 n2 c2 s3 A3 n3 c3))
        have HB9 := Lib.hid (below_putQ (HR.out.2.1.trans (hB.mono HR.out.2.1.size)) (Nat.le_refl w.heap.size) s2 A2 n2 c2 s3 A3 n3 c3)
        unfold putQ at HR9 HB9 HO9
        clear hX hR hV hov hB hr5 hr6
        go_wp2_with fail
        generalize (((wr.setCell ⟨w.heap.size, 0, none⟩ (.bool s2)).setCell ⟨w.heap.size, 1, none⟩ (.slice A2 n2 c2)).setCell ⟨w.heap.size, 2, none⟩ (.bool s3)).setCell ⟨w.heap.size, 3, none⟩ (.slice A3 n3 c3) = W9 at *
        have z0 := HR9.out.c0
        have z1 := HR9.out.c1
        have z2 := HR9.out.c2
        have z3 := HR9.out.c3
        exact bodyPost_ret (by simp [results, Tryz.results140, go_sem, z0, z1, z2, z3]) rfl ⟨s2, A2, n2, c2, s3, A3, n3, c3, v, 0, rfl, HO9.out, Lib.hid ⟨by rw [hv.out, Pq.hor_all, HN.out.2, HEX.out], rfl⟩, HB9.out⟩
      · obtain ⟨i, hi⟩ : ∃ i, n1 = d + 1 + i := ⟨n1 - d - 1, by omega⟩
        have hii : (n1 : Int) - 1 - d = (i : Int) := by omega
        have hil : i < n1 := by omega
        rw [hii]
        have hili : (i : Int) < (n1 : Int) := by omega
        obtain ⟨ad, s7, A7, n7, c7, s8, A8, n8, c8, y, hA, hbk7, hz0, hz1, hz2, hz3, hrz, hrd, hn7, hn8, hz⟩ := qp_at (HX.out W1 (Below.refl _ _)).1 hil
        subst hA
        have HZV := Lib.hid (show Pq.co P i = y from Pq.co_get hz.out)
        have HI := Lib.hid hi
        have HSD := Lib.hid (HSB.out d (by omega))
        have HVN := Lib.hid (show n2 ≤ 2 + d * (N' + N + 1) + N' + N ∧ n3 ≤ 2 + d * (N' + N + 1) + N' + N from ⟨by rw [hov.num.len]; exact Nat.le_trans HSV.out.1 (by omega), by rw [hov.den.len]; exact Nat.le_trans HSV.out.2 (by omega)⟩)
        have v0 := hV.c0
        have v1 := hV.c1
        have v2 := hV.c2
        have v3 := hV.c3
        have x0 := hX.c0
        have x1 := hX.c1
        have x2 := hX.c2
        have x3 := hX.c3
        have HNX := Lib.hid (And.intro hn7 hn8)
        have HCZ := Lib.hid (show ∀ W : World, Below W1.heap.size W1 W → (W.cell? (ad.add (i * 4)) = some (.bool s7) ∧ W.cell? ⟨(ad.add (i * 4)).block, (ad.add (i * 4)).off + 1, none⟩ = some (.slice A7 n7 c7) ∧ W.cell? ⟨(ad.add (i * 4)).block, (ad.add (i * 4)).off + 2, none⟩ = some (.bool s8) ∧ W.cell? ⟨(ad.add (i * 4)).block, (ad.add (i * 4)).off + 3, none⟩ = some (.slice A8 n8 c8)) ∧ RdZ W W.heap.size s7 A7 n7 c7 y.num ∧ RdZ W W.heap.size s8 A8 n8 c8 (y.den : Int) from fun W hb => by
          exact ⟨qs_cells hb hbk7 hz0 hz1 hz2 hz3, hrz.next hb, hrd.next hb⟩)
        clear hdn hi hz hn7 hn8
        go_wp2_with fail
        refine (qmulq_any (N := 2 + d * (N' + N + 1) + N' + N) hov.num.rd hov.den.rd hr5 hr6 ⟨HVN.out.1, HVN.out.2, ?e3, ?e4⟩ HSD.out).mono ?_
        case e3 => have h1 := HNN.out.1; omega
        case e4 => have h1 := HNN.out.2; omega
        rintro _ W6 ⟨s9, A9, n9, c9, s10, A10, n10, c10, m, rfl, ho6, hm, hb6⟩
        have hV6 := hV.next hb6
        have v0 := hV6.c0
        have v1 := hV6.c1
        have v2 := hV6.c2
        have v3 := hV6.c3
        have f0 := hV6.fz 0
        have f1 := hV6.fz 1
        have f2 := hV6.fz 2
        have f3 := hV6.fz 3
        have HGE := Lib.hid (show g5 ≠ g4 ∧ w.heap.size ≠ g4 from ⟨Ne.symm HG.out.1, by have h1 := HG.out.2.1; have h2 := HR.out.2.2; omega⟩)
        have hV7 := hV6.store s9 A9 n9 c9 s10 A10 n10 c10
        have hX7 := (hX.next hb6).far4 HGE.out.1 (.bool s9) (.slice A9 n9 c9) (.bool s10) (.slice A10 n10 c10)
        have hR7 := (hR.next hb6).far4 HGE.out.2 (.bool s9) (.slice A9 n9 c9) (.bool s10) (.slice A10 n10 c10)
        have ho7 := (ho6.base (b' := W1.heap.size) hB.size).puts (QE.of hV6) (.bool s9) (.slice A9 n9 c9) (.bool s10) (.slice A10 n10 c10)
        have hr57 := (hr5.next hb6).put4 (QE.of hV6) (.bool s9) (.slice A9 n9 c9) (.bool s10) (.slice A10 n10 c10)
        have hr67 := (hr6.next hb6).put4 (QE.of hV6) (.bool s9) (.slice A9 n9 c9) (.bool s10) (.slice A10 n10 c10)
        have hB7 := below_put4 (hB.trans (hb6.mono hB.size)) HG.out.2.1 (.bool s9) (.slice A9 n9 c9) (.bool s10) (.slice A10 n10 c10)
        unfold putQ at hV7
        unfold put4 at hX7 hR7 ho7 hr57 hr67
        have HCC := Lib.hid (And.intro hV7 (And.intro hX7 (And.intro hR7 (And.intro ho7 (And.intro hr57 (And.intro hr67 hB7))))))
        clear hV hX hR hov hr5 hr6 hB x0 x1 x2 x3 hb6 ho6 hV6 hV7 hX7 hR7 ho7 hr57 hr67 hB7 hz0 hz1 hz2 hz3 hrz hrd
        go_upto_region 6 with fail
        generalize (((W6.setCell ⟨g4, 0, none⟩ (.bool s9)).setCell ⟨g4, 1, none⟩ (.slice A9 n9 c9)).setCell ⟨g4, 2, none⟩ (.bool s10)).setCell ⟨g4, 3, none⟩ (.slice A10 n10 c10) = W7 at *
        obtain ⟨hV7, hX7, hR7, ho7, hr57, hr67, hB7⟩ := HCC.out
        have HBD := Lib.hid (Below.refl W7.heap.size W7).drew
        have HCY := Lib.hid (HCZ.out W7 hB7)
        obtain ⟨hz0, hz1, hz2, hz3⟩ := HCY.out.1
        obtain ⟨lb0, _⟩ := HCX.out W7 hB7
        have v0 := hV7.c0
        have v1 := hV7.c1
        have v2 := hV7.c2
        have v3 := hV7.c3
        have HOM := Lib.hid (ho7.next HBD.out)
        have HRY := Lib.hid (And.intro (HCY.out.2.1.next HBD.out) (HCY.out.2.2.next HBD.out))
        have HMN := Lib.hid (show n9 ≤ 2 + d * (N' + N + 1) + N' + N ∧ n10 ≤ 2 + d * (N' + N + 1) + N' + N from by
          have h1 : Qs (1 + d * (N' + N + 1) + N') m := by rw [hm.out]; exact HSV.out.mul HSZX.out.2
          exact ⟨by rw [ho7.num.len]; exact Nat.le_trans h1.1 (by omega), by rw [ho7.den.len]; exact Nat.le_trans h1.2 (by omega)⟩)
        have HV7 := Lib.hid hV7
        clear hV7 hX7 hR7 ho7 hr57 hr67 hB7
        go_region_with (first
          | (go_at_call 143; refine (qaddq_any (N := 2 + d * (N' + N + 1) + N' + N) HOM.out.num.rd HOM.out.den.rd HRY.out.1 HRY.out.2 ⟨HMN.out.1, HMN.out.2, ?e3, ?e4⟩ HSD.out).mono ?_; (case e3 => have h1 := HNX.out.1; omega); (case e4 => have h1 := HNX.out.2; omega); rintro _ W8 ⟨s11, A11, n11, c11, s12, A12, n12, c12, q, rfl, ho8, hq, hb8⟩; have HB8 := Lib.hid (HBD.out.trans hb8); have u0 := (HV7.out.next HB8.out).c0; have u1 := (HV7.out.next HB8.out).c1; have u2 := (HV7.out.next HB8.out).c2; have u3 := (HV7.out.next HB8.out).c3; have f0 := (HV7.out.next HB8.out).fz 0; have f1 := (HV7.out.next HB8.out).fz 1; have f2 := (HV7.out.next HB8.out).fz 2; have f3 := (HV7.out.next HB8.out).fz 3))
        all_goals
          obtain ⟨hV7, hX7, hR7, ho7, hr57, hr67, hB7⟩ := HCC.out
          have hV8 := hV7.next HB8.out
          have HV9 := Lib.hid (hV8.store s11 A11 n11 c11 s12 A12 n12 c12)
          have HX9 := Lib.hid ((hX7.next HB8.out).far4 HGE.out.1 (.bool s11) (.slice A11 n11 c11) (.bool s12) (.slice A12 n12 c12))
          have HR9 := Lib.hid ((hR7.next HB8.out).far4 HGE.out.2 (.bool s11) (.slice A11 n11 c11) (.bool s12) (.slice A12 n12 c12))
          have HO9 := Lib.hid ((ho8.base (b' := W1.heap.size) (Nat.le_trans hB7.size HBD.out.size)).puts (QE.of hV8) (.bool s11) (.slice A11 n11 c11) (.bool s12) (.slice A12 n12 c12))
          have HR5 := Lib.hid ((hr57.next HB8.out).put4 (QE.of hV8) (.bool s11) (.slice A11 n11 c11) (.bool s12) (.slice A12 n12 c12))
          have HR6 := Lib.hid ((hr67.next HB8.out).put4 (QE.of hV8) (.bool s11) (.slice A11 n11 c11) (.bool s12) (.slice A12 n12 c12))
          have HB9 := Lib.hid (below_put4 (hB7.trans (HB8.out.mono hB7.size)) HG.out.2.1 (.bool s11) (.slice A11 n11 c11) (.bool s12) (.slice A12 n12 c12))
          unfold putQ at HV9
          unfold put4 at HX9 HR9 HO9 HR5 HR6
          have HFA := Lib.hid (show q = Pq.hor (Pq.co P) x n1 (d + 1) by rw [hq.out, hm.out, hv.out, Pq.hor_succ, show n1 - 1 - d = i by have := HI.out; omega, HZV.out])
          have hdd : d < n1 := by have := HI.out; omega
          clear hV7 hX7 hR7 ho7 hr57 hr67 hB7 hV8 hb8 ho8 hz0 hz1 hz2 hz3 v0 v1 v2 v3 u0 u1 u2 u3 f0 f1 f2 f3 lb0
          go_wp2
          go_roundw
          case rel => exact ⟨d + 1, s11, A11, n11, c11, s12, A12, n12, c12, q, by go_num, by omega, HV9.out, HX9.out, HR9.out, HO9.out, HR5.out, HR6.out, HFA, HB9.out⟩
          case measure => simp [intOf]
end Go.Proofs.YtipbpdiahemmpaaGreat
