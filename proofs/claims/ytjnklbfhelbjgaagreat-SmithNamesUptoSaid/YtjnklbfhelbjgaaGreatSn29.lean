/- smith: clear where nothing is beside the diagonal; does one divide what is left? -/
import Derived.Test.YtjnklbfhelbjgaaGreatSn26
import Derived.Test.YtjnklbfhelbjgaaGreatSn23
import Derived.Deep.RegionHeld3
import Derived.Deep.DrawnRows
import Derived.Test.YtjnklbfhelbjgaaGreatSn24
import Derived.Test.YtjnklbfhelbjgaaGreatSn28
import Derived.Test.YtjnklbfhelbjgaaGreatSn16
namespace Go.Proofs.YtjnklbfhelbjgaaGreat
open Go.RowKit Go.IntWalk
attribute [local go_sem ↓] Go.wp_at_zero Go.wp_at_succ
set_option maxRecDepth 100000 in
set_option maxHeartbeats 4000000 in
theorem clear_one {b gw : Nat} {M : M2} {w : World} (h : Wk w b gw M) :
  Calls Tryz.prog 205 #[.pointer (some ⟨gw, 0, none⟩), .int .i64 1] w (fun e w' => e = .returned (.bool true) ∧ Below w.heap.size w w') := by
 obtain ⟨t, h1, _, gr, cr, g0, c0, g1, c1, x, y, z, u, h⟩ := h
 have k0 := h1.cell (i := 0) rfl
 have k1 := h.hd.cell (i := 0) rfl
 have k2 := h.hd.cell (i := 1) rfl
 clear h1 h
 go_enter Tryz.func205, Tryz.ntmps205
 go_wp2_with fail
 refine wp_loop_rounds 1 ?_
 rw [rounds_succ]
 go_wp2_with fail
 refine wp_loop_rounds 1 ?_
 rw [rounds_succ]
 go_wp2
 go_ret
 exact ⟨rfl, Below.refl _ _⟩
set_option maxRecDepth 100000 in
set_option maxHeartbeats 4000000 in
theorem stray1_any {b b1 b2 b3 gw : Nat} {M : M2} {Af : Option Addr} {nf cf : Nat} {f X R : List Rat} {w : World} (h : Wk w b gw M) (hf : OwQp w b1 Af nf cf f) (h2 : PX w b2 188 [.pointer (some ⟨gw, 0, none⟩)]) (h3 : PX w b3 3 [.int .i64 0]) (ha : Tiny M.a) (hft : Tiny f) (h0 : M.a ≠ []) (hD : Pq.IsD f M.a X R) :
  Calls Tryz.prog 232 #[.slice Af nf cf, .pointer (some ⟨b2, 0, none⟩), .pointer (some ⟨b3, 0, none⟩)] w (fun e w' => e = .returned (.bool (decide (R = []))) ∧ Below w.heap.size w w') := by
 obtain ⟨t, h1, _, gr, cr, g0, c0, g1, c1, ⟨xa, xn, xc⟩, y, z, u, h⟩ := h
 have HA := Lib.hid (show ∀ W, Below w.heap.size w W → OwQp W b xa xn xc M.a ∧ OwQp W b1 Af nf cf f from fun W hb => ⟨(h.next hb).ea, hf.next hb⟩)
 have HS := Lib.hid (show ∀ W, Below w.heap.size w W → W.cell? ⟨b2, 0, none⟩ = some (.pointer (some ⟨gw, 0, none⟩)) ∧ W.cell? ⟨gw, 0, none⟩ = some (.pointer (some ⟨t, 0, none⟩)) ∧ W.cell? ⟨t, 0, none⟩ = some (.slice (some ⟨gr, 0, none⟩) 2 cr) ∧ W.cell? ⟨b3, 0, none⟩ = some (.int .i64 0) ∧ W.cell? ⟨gr, 0, none⟩ = some (.slice (some ⟨g0, 0, none⟩) 2 c0) ∧ W.cell? ⟨g0, 0, none⟩ = some (.slice xa xn xc) from fun W hb => ⟨(h2.next hb).cell rfl, (h1.next hb).cell rfl, (h.next hb).hd.cell rfl, (h3.next hb).cell rfl, (h.next hb).rw.cell rfl, (h.next hb).r0.cell rfl⟩)
 have HD := Lib.hid (And.intro ha (And.intro hft (And.intro h0 hD)))
 have HBD := Lib.hid (Below.refl w.heap.size w).drew
 clear h1 h hf h2 h3 ha hft h0 hD
 go_enter Tryz.func232, Tryz.ntmps232
 go_wp2_with fail
 go_region_held3 (fun W => W.cell? ⟨b2, 0, none⟩ = some (.pointer (some ⟨gw, 0, none⟩)) ∧ W.cell? ⟨gw, 0, none⟩ = some (.pointer (some ⟨t, 0, none⟩)) ∧ W.cell? ⟨t, 0, none⟩ = some (.slice (some ⟨gr, 0, none⟩) 2 cr) ∧ W.cell? ⟨b3, 0, none⟩ = some (.int .i64 0) ∧ W.cell? ⟨gr, 0, none⟩ = some (.slice (some ⟨g0, 0, none⟩) 2 c0) ∧ W.cell? ⟨g0, 0, none⟩ = some (.slice xa xn xc))
  (first | exact HS.out _ HB2.out | exact HS.out _ HBD.out)
  (first
   | (go_at_call 94; refine (pdivides_any (HA.out _ HBD.out).1 (HA.out _ HBD.out).2 HD.out.1 HD.out.2.1 HD.out.2.2.1 HD.out.2.2.2).mono ?_; rintro _ W2 ⟨rfl, hb2⟩; have HB2 : Hid (Below w.heap.size w W2) := Lib.hid (HBD.out.trans (hb2.mono HBD.out.size)); clear hb2))
 all_goals
  go_wp2
  go_ret
  exact ⟨rfl, HB2.out⟩
set_option maxRecDepth 100000 in
set_option maxHeartbeats 4000000 in
theorem stray_one {b gw : Nat} {M : M2} {w : World} (h : Wk w b gw M) :
  Calls Tryz.prog 206 #[.pointer (some ⟨gw, 0, none⟩), .int .i64 1] w (fun e w' => e = .returned (.tuple #[.int .i64 0, .bool false]) ∧ Below w.heap.size w w') := by
 obtain ⟨W1, HW1⟩ : ∃ W, W = w.alloc (.cells #[.pointer (some ⟨gw, 0, none⟩)] 188) := ⟨_, rfl⟩
 obtain ⟨W2, HW2⟩ : ∃ W, W = W1.alloc (.cells #[.int .i64 1] 3) := ⟨_, rfl⟩
 have hb1 : Below w.heap.size w W1 := by rw [HW1]; exact (Below.refl _ _).alloc (Nat.le_refl _) _
 have hb2 : Below W1.heap.size W1 W2 := by rw [HW2]; exact (Below.refl _ _).alloc (Nat.le_refl _) _
 have hb02 := hb1.trans (hb2.mono hb1.size)
 have h2 : PX W2 w.heap.size 188 [.pointer (some ⟨gw, 0, none⟩)] := by
  have : PX W1 w.heap.size 188 [.pointer (some ⟨gw, 0, none⟩)] := by rw [HW1]; exact PX.new w _ [.pointer (some ⟨gw, 0, none⟩)]
  exact this.next hb2
 have h3 : PX W2 W1.heap.size 3 [.int .i64 1] := by rw [HW2]; exact PX.new W1 _ [.int .i64 1]
 have hs : W1.heap.size = w.heap.size + 1 := by rw [HW1]; simp
 obtain ⟨t, h1, _, gr, cr, g0, c0, g1, c1, x, y, z, u, h⟩ := h.next hb02
 have k0 := h1.cell (i := 0) rfl
 have k1 := h.hd.cell (i := 0) rfl
 have k2 := h2.cell (i := 0) rfl
 have k3 := h3.cell (i := 0) rfl
 have HB := Lib.hid hb02
 rw [HW2] at k0 k1 k2 k3
 rw [hs] at k3
 rw [HW1] at k0 k1 k2 k3
 have HW := Lib.hid (And.intro HW1 HW2)
 clear h1 h h2 h3 hb1 hb2 hb02 hs HW1 HW2
 go_enter Tryz.func206, Tryz.ntmps206
 go_wp2_with fail
 refine wp_loop_rounds 1 ?_
 rw [rounds_succ]
 go_wp2
 go_ret2
 exact ⟨rfl, by have := HB.out; rw [HW.out.2, HW.out.1] at this; exact this⟩
end Go.Proofs.YtjnklbfhelbjgaaGreat

/- smith: does the first one divide the last? -/
namespace Go.Proofs.YtjnklbfhelbjgaaGreat
open Go.RowKit Go.IntWalk
attribute [local go_sem ↓] Go.wp_at_zero Go.wp_at_succ
def RetSt (R : List Rat) (w : World) (e : Ending) (w' : World) : Prop := e = .returned (.tuple #[.int .i64 (if R = [] then 0 else 1), .bool (decide (R ≠ []))]) ∧ Below w.heap.size w w'
set_option maxRecDepth 100000 in
set_option maxHeartbeats 4000000 in
theorem stray_zero {b gw : Nat} {M : M2} {X R : List Rat} {w : World} (h : Wk w b gw M) (ht : M.tiny) (h0 : M.a ≠ []) (hD : Pq.IsD M.d M.a X R) :
  Calls Tryz.prog 206 #[.pointer (some ⟨gw, 0, none⟩), .int .i64 0] w (RetSt R w) := by
 obtain ⟨W1, HW1⟩ : ∃ W, W = w.alloc (.cells #[.pointer (some ⟨gw, 0, none⟩)] 188) := ⟨_, rfl⟩
 obtain ⟨W2, HW2⟩ : ∃ W, W = W1.alloc (.cells #[.int .i64 0] 3) := ⟨_, rfl⟩
 have hb1 : Below w.heap.size w W1 := by rw [HW1]; exact (Below.refl _ _).alloc (Nat.le_refl _) _
 have hb2 : Below W1.heap.size W1 W2 := by rw [HW2]; exact (Below.refl _ _).alloc (Nat.le_refl _) _
 have hb02 := hb1.trans (hb2.mono hb1.size)
 have hs : W1.heap.size = w.heap.size + 1 := by rw [HW1]; simp
 obtain ⟨ga, hga⟩ : ∃ g, g = w.heap.size := ⟨_, rfl⟩
 obtain ⟨gb, hgb⟩ : ∃ g, g = w.heap.size + 1 := ⟨_, rfl⟩
 have h2 : PX W2 ga 188 [.pointer (some ⟨gw, 0, none⟩)] := by
  have : PX W1 ga 188 [.pointer (some ⟨gw, 0, none⟩)] := by rw [HW1, hga]; exact PX.new w _ [.pointer (some ⟨gw, 0, none⟩)]
  exact this.next hb2
 have h3 : PX W2 gb 3 [.int .i64 0] := by rw [HW2, hgb, ← hs]; exact PX.new W1 _ [.int .i64 0]
 have HK := Lib.hid (And.intro (h.next hb02) (And.intro h2 (And.intro h3 (And.intro ht (And.intro h0 hD)))))
 obtain ⟨t, h1, _, gr, cr, g0, c0, g1, c1, x, y, z, ⟨ua, un, uc⟩, h⟩ := h.next hb02
 have HT := Lib.hid h
 have k0 := h1.cell (i := 0) rfl
 have k1 := h.hd.cell (i := 0) rfl
 have k4 := h.hd.cell (i := 1) rfl
 have k5 := h.rw.cell (i := 1) rfl
 have k6 : W2.cell? ⟨g1, 1, none⟩ = some (.slice ua un uc) := h.r1.cell rfl
 have k2 := h2.cell (i := 0) rfl
 have k3 := h3.cell (i := 0) rfl
 have HB := Lib.hid hb02
 have k3' : (w.alloc (.cells #[.pointer (some ⟨gw, 0, none⟩)] 188)).heap.size = gb := by rw [← HW1, hs, hgb]
 have HWW : ((w.alloc (.cells #[.pointer (some ⟨gw, 0, none⟩)] 188)).alloc (.cells #[.int .i64 0] 3)) = W2 := by rw [HW2, HW1]
 have HW := Lib.hid HWW
 have HG := Lib.hid (And.intro hga hgb)
 have HF0 : ((w.alloc (.cells #[.pointer (some ⟨gw, 0, none⟩)] 188)).alloc (.cells #[.int .i64 0] 3)).cell? ⟨w.heap.size + 1, 0, none⟩ = some (.int .i64 0) := by rw [HWW, ← hgb]; exact k3
 clear h1 h h2 h3 hb1 hb2 hb02 hs HW1 HW2 HWW ht h0 hD k3'
 go_enter Tryz.func206, Tryz.ntmps206
 go_wp2_with fail
 rw [HW.out, ← HG.out.2, ← HG.out.1]
 clear HF0 hga hgb
 clear HG HW
 refine wp_loop_rounds 2 ?_
 rw [rounds_succ]
 go_wp2_with fail
 refine wp_loop_rounds 2 ?_
 rw [rounds_succ]
 go_wp2_with fail
 refine (stray1_any HK.out.1 HT.out.ed HK.out.2.1 HK.out.2.2.1 HK.out.2.2.2.1.1 HK.out.2.2.2.1.2.2.2 HK.out.2.2.2.2.1 HK.out.2.2.2.2.2).mono ?_
 rintro _ W3 ⟨rfl, hb3⟩
 have HB3 := Lib.hid (HB.out.trans (hb3.mono HB.out.size))
 obtain ⟨t3, h1, _, gr3, cr3, g03, c03, g13, c13, x3, y3, z3, u3, h⟩ := HK.out.1.next hb3
 have j0 := h1.cell (i := 0) rfl
 have j1 := h.hd.cell (i := 0) rfl
 have j4 := h.hd.cell (i := 1) rfl
 have j2 := (HK.out.2.1.next hb3).cell (i := 0) rfl
 have j3 := (HK.out.2.2.1.next hb3).cell (i := 0) rfl
 clear h1 h hb3 k0 k1 k2 k3 k4 k5 k6
 by_cases hR : R = []
 ·have HRR := Lib.hid hR
  rw [decide_eq_true hR]
  clear hR
  go_wp2_with fail
  rw [rounds_succ]
  go_wp2_with fail
  rw [rounds_succ]
  go_wp2
  go_ret2
  refine ⟨?_, HB3.out⟩
  rw [if_pos HRR.out, decide_eq_false (fun e => e HRR.out)]
  rfl
 ·have HRR := Lib.hid hR
  rw [decide_eq_false hR]
  clear hR
  go_wp2
  go_ret2
  refine ⟨?_, HB3.out⟩
  rw [if_neg HRR.out, decide_eq_true HRR.out]
  rfl
end Go.Proofs.YtjnklbfhelbjgaaGreat

/- smith: the run to the Smith form, on its ways through the example. -/
namespace Go.Proofs.YtjnklbfhelbjgaaGreat
open Go.RowKit Go.IntWalk
attribute [local go_sem ↓] Go.wp_at_zero Go.wp_at_succ
theorem swap_self (M : M2) (i : Int) : M.swap i i = M := if_pos rfl
def M2.cols (M : M2) : M2 := (M.flip.swap 0 1).flip
def lead (L : List Rat) : Rat := Pq.co L (L.length - 1)
structure RdOK (M N : M2) (X R Y S Z T : List Rat) : Prop where
 cl : ClOK M X R Y S
 eq : (M.cl1 X).cl2 Y = N
 z1 : (M.cl1 X).c = []
 z2 : N.b = []
 tn : N.tiny
 na : N.a ≠ []
 dv : Pq.IsD N.d N.a Z T
structure LdOK (L : List Rat) : Prop where
 t : Tiny L
 ne : L ≠ []
 iq : Qs 1 (lead L)⁻¹
theorem LdOK.nz {L : List Rat} (h : LdOK L) : lead L ≠ 0 := Pq.nz_top h.t.nz (List.length_pos_iff.2 h.ne)
def RetRn (b gw : Nat) (M : M2) (w : World) (e : Ending) (w' : World) : Prop := e = .returned (.int .i64 2) ∧ Wk w' b gw M ∧ Below b w w'
set_option maxRecDepth 100000 in
set_option maxHeartbeats 16000000 in
theorem run_one {b gw : Nat} {M N K E : M2} {X R Y S Z : List Rat} {w : World} (h : Wk w b gw M) (hb : b ≤ w.heap.size) (ha : M.a.length = 2) (hB : M.b.length = 0) (hc : M.c.length = 0) (hd : M.d.length = 2)
  (r1 : RdOK M N X R Y S Z []) (l1 : LdOK N.a) (hK : N.scale 0 (lead N.a)⁻¹ = K) (tK : K.tiny) (l2 : LdOK K.d) (hE : K.scale 1 (lead K.d)⁻¹ = E) :
  Calls Tryz.prog 163 #[.pointer (some ⟨gw, 0, none⟩)] w (RetRn b gw E w) := by
 have HA := Lib.hid (And.intro r1 (And.intro l1 (And.intro hK (And.intro tK (And.intro l2 hE)))))
 have HL := Lib.hid (And.intro ha (And.intro hB (And.intro hc hd)))
 have HWw := Lib.hid h
 have HVw := Lib.hid (show b ≤ w.heap.size ∧ Below b w w from ⟨hb, Below.refl _ _⟩)
 clear r1 l1 hK tK l2 hE ha hB hc hd h hb
 go_enter Tryz.func163, Tryz.ntmps163
 go_wp2
 go_step3
 go_wp2
 go_step3
 go_wp2
 refine wp_loop_rounds 4 ?_
 rw [rounds_succ]
 go_wp2_with fail
 refine (least_one HWw.out HL.out.1 HL.out.2.1 HL.out.2.2.1 HL.out.2.2.2).mono ?_
 rintro _ W1 ⟨rfl, hb⟩
 have HWW1 := Lib.hid (HWw.out.next hb)
 have HVW1 := Lib.hid (show b ≤ W1.heap.size ∧ Below b w W1 from ⟨Nat.le_trans HVw.out.1 hb.size, HVw.out.2.trans (hb.mono HVw.out.1)⟩)
 clear hb
 go_wp2_with fail
 refine (row_swap (i := 0) (j := 0) HWW1.out HVW1.out.1 (.inl ⟨rfl, rfl⟩)).mono ?_
 rintro _ W2 ⟨rfl, hw, hb⟩
 rw [swap_self] at hw
 have HWW2 := Lib.hid hw
 have HVW2 := Lib.hid (show b ≤ W2.heap.size ∧ Below b w W2 from ⟨Nat.le_trans HVW1.out.1 hb.size, HVW1.out.2.trans hb⟩)
 clear hw hb
 go_wp2_with fail
 refine (column_swap (i := 0) (j := 0) HWW2.out HVW2.out.1 (.inl ⟨rfl, rfl⟩)).mono ?_
 rintro _ W3 ⟨rfl, hw, hb⟩
 rw [show ((M).flip.swap 0 0).flip = M by rw [swap_self]; rfl] at hw
 have HWW3 := Lib.hid hw
 have HVW3 := Lib.hid (show b ≤ W3.heap.size ∧ Below b w W3 from ⟨Nat.le_trans HVW2.out.1 hb.size, HVW2.out.2.trans hb⟩)
 clear hw hb
 go_wp2_with fail
 refine (clear_zero HWW3.out HVW3.out.1 HA.out.1.cl).mono ?_
 rintro _ W4 ⟨he, hw, hb⟩
 rw [decide_eq_true ⟨HA.out.1.z1, by rw [HA.out.1.eq]; exact HA.out.1.z2⟩] at he
 subst he
 rw [HA.out.1.eq] at hw
 have HWW4 := Lib.hid hw
 have HVW4 := Lib.hid (show b ≤ W4.heap.size ∧ Below b w W4 from ⟨Nat.le_trans HVW3.out.1 hb.size, HVW3.out.2.trans hb⟩)
 clear hw hb
 go_wp2_with fail
 refine (stray_zero HWW4.out HA.out.1.tn HA.out.1.na HA.out.1.dv).mono ?_
 rintro _ W5 ⟨he, hb⟩
 rw [if_pos rfl, decide_eq_false (fun e => e rfl)] at he
 subst he
 have HWW5 := Lib.hid (HWW4.out.next hb)
 have HVW5 := Lib.hid (show b ≤ W5.heap.size ∧ Below b w W5 from ⟨Nat.le_trans HVW4.out.1 hb.size, HVW4.out.2.trans (hb.mono HVW4.out.1)⟩)
 clear hb
 obtain ⟨t5, hx5, hg5, gr5, cr5, ga5, ca5, gc5, cc5, ⟨xa5, xn5, xc5⟩, y5, z5, ⟨ua5, un5, uc5⟩, hT5⟩ := HWW5.out
 have k0 := hx5.cell (i := 0) rfl
 have k1 := hT5.hd.cell (i := 0) rfl
 have k3 := hT5.rw.cell (i := 0) rfl
 have k5 : W5.cell? ⟨ga5, 0, none⟩ = some (.slice xa5 xn5 xc5) := hT5.r0.cell rfl
 have hln : (N).a.length = xn5 := hT5.ea.len
 have hl0 : 0 < xn5 := by rw [← hln]; exact List.length_pos_iff.2 HA.out.2.1.ne
 have h16 : xn5 ≤ 16 := by rw [← hln]; exact HA.out.2.1.t.2.1
 obtain ⟨ad5, s5, A5, m5, l5, s'5, A'5, m'5, l'5, q5, rfl, hbk, j0, j1, j2, j3, hq, hqx⟩ := op_at hT5.ea (show xn5 - 1 < xn5 by omega)
 obtain rfl : q5 = lead (N).a := by unfold lead; rw [hln]; exact (Pq.co_get hqx.out).symm
 have HQ5 := Lib.hid hq
 have HL5 := Lib.hid (show Qs 1 (lead (N).a) from HA.out.2.1.t.qs _ (List.mem_of_getElem? hqx.out))
 obtain ⟨jj, hjj⟩ : ∃ j, j = xn5 - 1 := ⟨_, rfl⟩
 have hwr : IntKind.i64.wrap ((xn5 : Int) - 1) = (jj : Int) := by rw [IntWalk.i64_in _ (by omega)]; omega
 have hr0 : (0 : Int) ≤ (jj : Int) := by omega
 have hr1 : (jj : Int) < (xn5 : Int) := by omega
 rw [← hjj] at j0 j1 j2 j3
 clear hx5 hT5 hg5 hln hl0 h16 hq hqx hjj hbk
 go_wp2_with fail
 refine (qinvq_any (N := 1) HQ5.out.num.rd HQ5.out.den.rd ⟨by rw [HQ5.out.num.len]; exact HL5.out.1, by rw [HQ5.out.den.len]; exact HL5.out.2⟩ (by decide) (by decide) HA.out.2.1.nz).mono ?_
 rintro _ W6 ⟨s5, A5, n5, l5, s6, A6, n6, l6, y5, rfl, ho5, hy5, hb⟩
 obtain rfl := hy5.out
 have HWW6 := Lib.hid (HWW5.out.next hb)
 have HVW6 := Lib.hid (show b ≤ W6.heap.size ∧ Below b w W6 from ⟨Nat.le_trans HVW5.out.1 hb.size, HVW5.out.2.trans (hb.mono HVW5.out.1)⟩)
 clear hb hy5 k0 k1 k3 k5 j0 j1 j2 j3 hwr hr0 hr1
 obtain ⟨W7, HBW7⟩ : ∃ W, W = W6.alloc (.cells #[.bool s5, .slice A5 n5 l5, .bool s6, .slice A6 n6 l6] 47) := ⟨_, rfl⟩
 have hb : Below W6.heap.size W6 W7 := by rw [HBW7]; exact (Below.refl _ _).alloc (Nat.le_refl _) _
 have HOW7 := Lib.hid (ho5.next hb)
 have HWW7 := Lib.hid (HWW6.out.next hb)
 have HVW7 := Lib.hid (show b ≤ W7.heap.size ∧ Below b w W7 from ⟨Nat.le_trans HVW6.out.1 hb.size, HVW6.out.2.trans (hb.mono HVW6.out.1)⟩)
 clear hb
 have HBW7 := Lib.hid HBW7
 clear ho5
 go_wp2_with fail
 rw [← HBW7.out]
 clear HBW7
 clear HBW7
 refine (row_scale (i := 0) HWW7.out HVW7.out.1 HOW7.out ⟨HA.out.1.tn, HA.out.2.1.iq⟩ (.inl rfl)).mono ?_
 rintro _ W8 ⟨rfl, hw, hb⟩
 rw [HA.out.2.2.1] at hw
 have HWW8 := Lib.hid hw
 have HVW8 := Lib.hid (show b ≤ W8.heap.size ∧ Below b w W8 from ⟨Nat.le_trans HVW7.out.1 hb.size, HVW7.out.2.trans hb⟩)
 clear hw hb
 go_wp2_with fail
 rw [rounds_succ]
 go_wp2_with fail
 refine (least_three HWW8.out ⟨List.length_pos_iff.2 HA.out.2.2.2.2.1.ne, HA.out.2.2.2.2.1.t.2.1⟩).mono ?_
 rintro _ W9 ⟨rfl, hb⟩
 have HWW9 := Lib.hid (HWW8.out.next hb)
 have HVW9 := Lib.hid (show b ≤ W9.heap.size ∧ Below b w W9 from ⟨Nat.le_trans HVW8.out.1 hb.size, HVW8.out.2.trans (hb.mono HVW8.out.1)⟩)
 clear hb
 go_wp2_with fail
 refine (row_swap (i := 1) (j := 1) HWW9.out HVW9.out.1 (.inr ⟨rfl, rfl⟩)).mono ?_
 rintro _ W10 ⟨rfl, hw, hb⟩
 rw [swap_self] at hw
 have HWW10 := Lib.hid hw
 have HVW10 := Lib.hid (show b ≤ W10.heap.size ∧ Below b w W10 from ⟨Nat.le_trans HVW9.out.1 hb.size, HVW9.out.2.trans hb⟩)
 clear hw hb
 go_wp2_with fail
 refine (column_swap (i := 1) (j := 1) HWW10.out HVW10.out.1 (.inr ⟨rfl, rfl⟩)).mono ?_
 rintro _ W11 ⟨rfl, hw, hb⟩
 rw [show ((K).flip.swap 1 1).flip = K by rw [swap_self]; rfl] at hw
 have HWW11 := Lib.hid hw
 have HVW11 := Lib.hid (show b ≤ W11.heap.size ∧ Below b w W11 from ⟨Nat.le_trans HVW10.out.1 hb.size, HVW10.out.2.trans hb⟩)
 clear hw hb
 go_wp2_with fail
 refine (clear_one HWW11.out).mono ?_
 rintro _ W12 ⟨rfl, hb⟩
 have HWW12 := Lib.hid (HWW11.out.next hb)
 have HVW12 := Lib.hid (show b ≤ W12.heap.size ∧ Below b w W12 from ⟨Nat.le_trans HVW11.out.1 hb.size, HVW11.out.2.trans (hb.mono HVW11.out.1)⟩)
 clear hb
 go_wp2_with fail
 refine (stray_one HWW12.out).mono ?_
 rintro _ W13 ⟨rfl, hb⟩
 have HWW13 := Lib.hid (HWW12.out.next hb)
 have HVW13 := Lib.hid (show b ≤ W13.heap.size ∧ Below b w W13 from ⟨Nat.le_trans HVW12.out.1 hb.size, HVW12.out.2.trans (hb.mono HVW12.out.1)⟩)
 clear hb
 obtain ⟨t13, hx13, hg13, gr13, cr13, ga13, ca13, gc13, cc13, ⟨xa13, xn13, xc13⟩, y13, z13, ⟨ua13, un13, uc13⟩, hT13⟩ := HWW13.out
 have k0 := hx13.cell (i := 0) rfl
 have k1 := hT13.hd.cell (i := 0) rfl
 have k3 := hT13.rw.cell (i := 1) rfl
 have k5 : W13.cell? ⟨gc13, 1, none⟩ = some (.slice ua13 un13 uc13) := hT13.r1.cell rfl
 have hln : (K).d.length = un13 := hT13.ed.len
 have hl0 : 0 < un13 := by rw [← hln]; exact List.length_pos_iff.2 HA.out.2.2.2.2.1.ne
 have h16 : un13 ≤ 16 := by rw [← hln]; exact HA.out.2.2.2.2.1.t.2.1
 obtain ⟨ad13, s13, A13, m13, l13, s'13, A'13, m'13, l'13, q13, rfl, hbk, j0, j1, j2, j3, hq, hqx⟩ := op_at hT13.ed (show un13 - 1 < un13 by omega)
 obtain rfl : q13 = lead (K).d := by unfold lead; rw [hln]; exact (Pq.co_get hqx.out).symm
 have HQ13 := Lib.hid hq
 have HL13 := Lib.hid (show Qs 1 (lead (K).d) from HA.out.2.2.2.2.1.t.qs _ (List.mem_of_getElem? hqx.out))
 obtain ⟨jj, hjj⟩ : ∃ j, j = un13 - 1 := ⟨_, rfl⟩
 have hwr : IntKind.i64.wrap ((un13 : Int) - 1) = (jj : Int) := by rw [IntWalk.i64_in _ (by omega)]; omega
 have hr0 : (0 : Int) ≤ (jj : Int) := by omega
 have hr1 : (jj : Int) < (un13 : Int) := by omega
 rw [← hjj] at j0 j1 j2 j3
 clear hx13 hT13 hg13 hln hl0 h16 hq hqx hjj hbk
 go_wp2_with fail
 refine (qinvq_any (N := 1) HQ13.out.num.rd HQ13.out.den.rd ⟨by rw [HQ13.out.num.len]; exact HL13.out.1, by rw [HQ13.out.den.len]; exact HL13.out.2⟩ (by decide) (by decide) HA.out.2.2.2.2.1.nz).mono ?_
 rintro _ W14 ⟨s5, A5, n5, l5, s6, A6, n6, l6, y5, rfl, ho5, hy5, hb⟩
 obtain rfl := hy5.out
 have HWW14 := Lib.hid (HWW13.out.next hb)
 have HVW14 := Lib.hid (show b ≤ W14.heap.size ∧ Below b w W14 from ⟨Nat.le_trans HVW13.out.1 hb.size, HVW13.out.2.trans (hb.mono HVW13.out.1)⟩)
 clear hb hy5 k0 k1 k3 k5 j0 j1 j2 j3 hwr hr0 hr1
 obtain ⟨W15, HBW15⟩ : ∃ W, W = W14.alloc (.cells #[.bool s5, .slice A5 n5 l5, .bool s6, .slice A6 n6 l6] 47) := ⟨_, rfl⟩
 have hb : Below W14.heap.size W14 W15 := by rw [HBW15]; exact (Below.refl _ _).alloc (Nat.le_refl _) _
 have HOW15 := Lib.hid (ho5.next hb)
 have HWW15 := Lib.hid (HWW14.out.next hb)
 have HVW15 := Lib.hid (show b ≤ W15.heap.size ∧ Below b w W15 from ⟨Nat.le_trans HVW14.out.1 hb.size, HVW14.out.2.trans (hb.mono HVW14.out.1)⟩)
 clear hb
 have HBW15 := Lib.hid HBW15
 clear ho5
 go_wp2_with fail
 rw [← HBW15.out]
 clear HBW15
 clear HBW15
 refine (row_scale (i := 1) HWW15.out HVW15.out.1 HOW15.out ⟨HA.out.2.2.2.1, HA.out.2.2.2.2.1.iq⟩ (.inr rfl)).mono ?_
 rintro _ W16 ⟨rfl, hw, hb⟩
 rw [HA.out.2.2.2.2.2] at hw
 have HWW16 := Lib.hid hw
 have HVW16 := Lib.hid (show b ≤ W16.heap.size ∧ Below b w W16 from ⟨Nat.le_trans HVW15.out.1 hb.size, HVW15.out.2.trans hb⟩)
 clear hw hb
 go_wp2_with fail
 rw [rounds_succ]
 go_wp2_with fail
 refine (least_none HWW16.out).mono ?_
 rintro _ Wz ⟨rfl, hb⟩
 have HWWz := Lib.hid (HWW16.out.next hb)
 have HVWz := Lib.hid (show b ≤ Wz.heap.size ∧ Below b w Wz from ⟨Nat.le_trans HVW16.out.1 hb.size, HVW16.out.2.trans (hb.mono HVW16.out.1)⟩)
 clear hb
 go_wp2
 try rw [Exit.noGoto_ret]
 go_ret
 exact ⟨rfl, HWWz.out, HVWz.out.2⟩
set_option maxRecDepth 100000 in
set_option maxHeartbeats 16000000 in
theorem run_two {b gw : Nat} {M N N1 N2 N3 N4 K E : M2} {X R Y S Z T X2 R2 Y2 S2 X3 R3 Y3 S3 Z3 : List Rat} {w : World} (h : Wk w b gw M) (hb : b ≤ w.heap.size) (ha : M.a.length = 2) (hB : M.b.length = 0) (hc : M.c.length = 0) (hd : M.d.length = 2)
  (r1 : RdOK M N X R Y S Z T) (hT : T ≠ []) (ok : N.addOK 0 [1]) (h1 : N.add 0 [1] = N1) (c2 : ClOK N1 X2 R2 Y2 S2) (h2 : (N1.cl1 X2).cl2 Y2 = N2)
  (ja : N2.a.length = 2) (jB : N2.b.length = 1) (jc : N2.c.length = 0) (jd : N2.d.length = 2) (h3 : N2.cols = N3)
  (r3 : RdOK N3 N4 X3 R3 Y3 S3 Z3 []) (l1 : LdOK N4.a) (hK : N4.scale 0 (lead N4.a)⁻¹ = K) (tK : K.tiny) (l2 : LdOK K.d) (hE : K.scale 1 (lead K.d)⁻¹ = E) :
  Calls Tryz.prog 163 #[.pointer (some ⟨gw, 0, none⟩)] w (RetRn b gw E w) := by
 have HR := Lib.hid (And.intro r1 (And.intro hT (And.intro ok (And.intro h1 (And.intro c2 h2)))))
 have HA := Lib.hid (And.intro r3 (And.intro l1 (And.intro hK (And.intro tK (And.intro l2 hE)))))
 have HL := Lib.hid (And.intro ha (And.intro hB (And.intro hc hd)))
 have HJ := Lib.hid (And.intro ja (And.intro jB (And.intro jc jd)))
 have H3 := Lib.hid h3
 have HWw := Lib.hid h
 have HVw := Lib.hid (show b ≤ w.heap.size ∧ Below b w w from ⟨hb, Below.refl _ _⟩)
 clear r1 hT ok h1 c2 h2 r3 l1 hK tK l2 hE ha hB hc hd ja jB jc jd h3 h hb
 go_enter Tryz.func163, Tryz.ntmps163
 go_wp2
 go_step3
 go_wp2
 go_step3
 go_wp2
 refine wp_loop_rounds 5 ?_
 rw [rounds_succ]
 go_wp2_with fail
 refine (least_one HWw.out HL.out.1 HL.out.2.1 HL.out.2.2.1 HL.out.2.2.2).mono ?_
 rintro _ W1 ⟨rfl, hb⟩
 have HWW1 := Lib.hid (HWw.out.next hb)
 have HVW1 := Lib.hid (show b ≤ W1.heap.size ∧ Below b w W1 from ⟨Nat.le_trans HVw.out.1 hb.size, HVw.out.2.trans (hb.mono HVw.out.1)⟩)
 clear hb
 go_wp2_with fail
 refine (row_swap (i := 0) (j := 0) HWW1.out HVW1.out.1 (.inl ⟨rfl, rfl⟩)).mono ?_
 rintro _ W2 ⟨rfl, hw, hb⟩
 rw [swap_self] at hw
 have HWW2 := Lib.hid hw
 have HVW2 := Lib.hid (show b ≤ W2.heap.size ∧ Below b w W2 from ⟨Nat.le_trans HVW1.out.1 hb.size, HVW1.out.2.trans hb⟩)
 clear hw hb
 go_wp2_with fail
 refine (column_swap (i := 0) (j := 0) HWW2.out HVW2.out.1 (.inl ⟨rfl, rfl⟩)).mono ?_
 rintro _ W3 ⟨rfl, hw, hb⟩
 rw [show ((M).flip.swap 0 0).flip = M by rw [swap_self]; rfl] at hw
 have HWW3 := Lib.hid hw
 have HVW3 := Lib.hid (show b ≤ W3.heap.size ∧ Below b w W3 from ⟨Nat.le_trans HVW2.out.1 hb.size, HVW2.out.2.trans hb⟩)
 clear hw hb
 go_wp2_with fail
 refine (clear_zero HWW3.out HVW3.out.1 HR.out.1.cl).mono ?_
 rintro _ W4 ⟨he, hw, hb⟩
 rw [decide_eq_true ⟨HR.out.1.z1, by rw [HR.out.1.eq]; exact HR.out.1.z2⟩] at he
 subst he
 rw [HR.out.1.eq] at hw
 have HWW4 := Lib.hid hw
 have HVW4 := Lib.hid (show b ≤ W4.heap.size ∧ Below b w W4 from ⟨Nat.le_trans HVW3.out.1 hb.size, HVW3.out.2.trans hb⟩)
 clear hw hb
 go_wp2_with fail
 refine (stray_zero HWW4.out HR.out.1.tn HR.out.1.na HR.out.1.dv).mono ?_
 rintro _ W5 ⟨he, hb⟩
 rw [if_neg HR.out.2.1, decide_eq_true HR.out.2.1] at he
 subst he
 have HWW5 := Lib.hid (HWW4.out.next hb)
 have HVW5 := Lib.hid (show b ≤ W5.heap.size ∧ Below b w W5 from ⟨Nat.le_trans HVW4.out.1 hb.size, HVW4.out.2.trans (hb.mono HVW4.out.1)⟩)
 clear hb
 go_wp2_with fail
 refine (constant_any W5).mono ?_
 rintro _ W6 ⟨A1, n1, l1, rfl, ho, hb⟩
 have HO := Lib.hid ho
 clear ho
 have HWW6 := Lib.hid (HWW5.out.next hb)
 have HVW6 := Lib.hid (show b ≤ W6.heap.size ∧ Below b w W6 from ⟨Nat.le_trans HVW5.out.1 hb.size, HVW5.out.2.trans (hb.mono HVW5.out.1)⟩)
 clear hb
 go_wp2_with fail
 refine (row_add (i := 0) (j := 1) HWW6.out HVW6.out.1 HO.out HR.out.2.2.1 (.inl ⟨rfl, rfl⟩)).mono ?_
 rintro _ W7 ⟨rfl, hw, hb⟩
 rw [HR.out.2.2.2.1] at hw
 have HWW7 := Lib.hid hw
 have HVW7 := Lib.hid (show b ≤ W7.heap.size ∧ Below b w W7 from ⟨Nat.le_trans HVW6.out.1 hb.size, HVW6.out.2.trans hb⟩)
 clear hw hb
 go_wp2_with fail
 refine (clear_zero HWW7.out HVW7.out.1 HR.out.2.2.2.2.1).mono ?_
 rintro _ W8 ⟨rfl, hw, hb⟩
 rw [HR.out.2.2.2.2.2] at hw
 have HWW8 := Lib.hid hw
 have HVW8 := Lib.hid (show b ≤ W8.heap.size ∧ Below b w W8 from ⟨Nat.le_trans HVW7.out.1 hb.size, HVW7.out.2.trans hb⟩)
 clear hw hb
 go_wp2_with fail
 rw [rounds_succ]
 go_wp2_with fail
 refine (least_two HWW8.out HJ.out.1 HJ.out.2.1 HJ.out.2.2.1 HJ.out.2.2.2).mono ?_
 rintro _ W9 ⟨rfl, hb⟩
 have HWW9 := Lib.hid (HWW8.out.next hb)
 have HVW9 := Lib.hid (show b ≤ W9.heap.size ∧ Below b w W9 from ⟨Nat.le_trans HVW8.out.1 hb.size, HVW8.out.2.trans (hb.mono HVW8.out.1)⟩)
 clear hb
 go_wp2_with fail
 refine (row_swap (i := 0) (j := 0) HWW9.out HVW9.out.1 (.inl ⟨rfl, rfl⟩)).mono ?_
 rintro _ W10 ⟨rfl, hw, hb⟩
 rw [swap_self] at hw
 have HWW10 := Lib.hid hw
 have HVW10 := Lib.hid (show b ≤ W10.heap.size ∧ Below b w W10 from ⟨Nat.le_trans HVW9.out.1 hb.size, HVW9.out.2.trans hb⟩)
 clear hw hb
 go_wp2_with fail
 refine (column_swap01 HWW10.out HVW10.out.1).mono ?_
 rintro _ W11 ⟨rfl, hw, hb⟩
 rw [show (N2.flip.swap 0 1).flip = N3 from H3.out] at hw
 have HWW11 := Lib.hid hw
 have HVW11 := Lib.hid (show b ≤ W11.heap.size ∧ Below b w W11 from ⟨Nat.le_trans HVW10.out.1 hb.size, HVW10.out.2.trans hb⟩)
 clear hw hb
 go_wp2_with fail
 refine (clear_zero HWW11.out HVW11.out.1 HA.out.1.cl).mono ?_
 rintro _ W12 ⟨he, hw, hb⟩
 rw [decide_eq_true ⟨HA.out.1.z1, by rw [HA.out.1.eq]; exact HA.out.1.z2⟩] at he
 subst he
 rw [HA.out.1.eq] at hw
 have HWW12 := Lib.hid hw
 have HVW12 := Lib.hid (show b ≤ W12.heap.size ∧ Below b w W12 from ⟨Nat.le_trans HVW11.out.1 hb.size, HVW11.out.2.trans hb⟩)
 clear hw hb
 go_wp2_with fail
 refine (stray_zero HWW12.out HA.out.1.tn HA.out.1.na HA.out.1.dv).mono ?_
 rintro _ W13 ⟨he, hb⟩
 rw [if_pos rfl, decide_eq_false (fun e => e rfl)] at he
 subst he
 have HWW13 := Lib.hid (HWW12.out.next hb)
 have HVW13 := Lib.hid (show b ≤ W13.heap.size ∧ Below b w W13 from ⟨Nat.le_trans HVW12.out.1 hb.size, HVW12.out.2.trans (hb.mono HVW12.out.1)⟩)
 clear hb
 obtain ⟨t13, hx13, hg13, gr13, cr13, ga13, ca13, gc13, cc13, ⟨xa13, xn13, xc13⟩, y13, z13, ⟨ua13, un13, uc13⟩, hT13⟩ := HWW13.out
 have k0 := hx13.cell (i := 0) rfl
 have k1 := hT13.hd.cell (i := 0) rfl
 have k3 := hT13.rw.cell (i := 0) rfl
 have k5 : W13.cell? ⟨ga13, 0, none⟩ = some (.slice xa13 xn13 xc13) := hT13.r0.cell rfl
 have hln : (N4).a.length = xn13 := hT13.ea.len
 have hl0 : 0 < xn13 := by rw [← hln]; exact List.length_pos_iff.2 HA.out.2.1.ne
 have h16 : xn13 ≤ 16 := by rw [← hln]; exact HA.out.2.1.t.2.1
 obtain ⟨ad13, s13, A13, m13, l13, s'13, A'13, m'13, l'13, q13, rfl, hbk, j0, j1, j2, j3, hq, hqx⟩ := op_at hT13.ea (show xn13 - 1 < xn13 by omega)
 obtain rfl : q13 = lead (N4).a := by unfold lead; rw [hln]; exact (Pq.co_get hqx.out).symm
 have HQ13 := Lib.hid hq
 have HL13 := Lib.hid (show Qs 1 (lead (N4).a) from HA.out.2.1.t.qs _ (List.mem_of_getElem? hqx.out))
 obtain ⟨jj, hjj⟩ : ∃ j, j = xn13 - 1 := ⟨_, rfl⟩
 have hwr : IntKind.i64.wrap ((xn13 : Int) - 1) = (jj : Int) := by rw [IntWalk.i64_in _ (by omega)]; omega
 have hr0 : (0 : Int) ≤ (jj : Int) := by omega
 have hr1 : (jj : Int) < (xn13 : Int) := by omega
 rw [← hjj] at j0 j1 j2 j3
 clear hx13 hT13 hg13 hln hl0 h16 hq hqx hjj hbk
 go_wp2_with fail
 refine (qinvq_any (N := 1) HQ13.out.num.rd HQ13.out.den.rd ⟨by rw [HQ13.out.num.len]; exact HL13.out.1, by rw [HQ13.out.den.len]; exact HL13.out.2⟩ (by decide) (by decide) HA.out.2.1.nz).mono ?_
 rintro _ W14 ⟨s5, A5, n5, l5, s6, A6, n6, l6, y5, rfl, ho5, hy5, hb⟩
 obtain rfl := hy5.out
 have HWW14 := Lib.hid (HWW13.out.next hb)
 have HVW14 := Lib.hid (show b ≤ W14.heap.size ∧ Below b w W14 from ⟨Nat.le_trans HVW13.out.1 hb.size, HVW13.out.2.trans (hb.mono HVW13.out.1)⟩)
 clear hb hy5 k0 k1 k3 k5 j0 j1 j2 j3 hwr hr0 hr1
 obtain ⟨W15, HBW15⟩ : ∃ W, W = W14.alloc (.cells #[.bool s5, .slice A5 n5 l5, .bool s6, .slice A6 n6 l6] 47) := ⟨_, rfl⟩
 have hb : Below W14.heap.size W14 W15 := by rw [HBW15]; exact (Below.refl _ _).alloc (Nat.le_refl _) _
 have HOW15 := Lib.hid (ho5.next hb)
 have HWW15 := Lib.hid (HWW14.out.next hb)
 have HVW15 := Lib.hid (show b ≤ W15.heap.size ∧ Below b w W15 from ⟨Nat.le_trans HVW14.out.1 hb.size, HVW14.out.2.trans (hb.mono HVW14.out.1)⟩)
 clear hb
 have HBW15 := Lib.hid HBW15
 clear ho5
 go_wp2_with fail
 rw [← HBW15.out]
 clear HBW15
 clear HBW15
 refine (row_scale (i := 0) HWW15.out HVW15.out.1 HOW15.out ⟨HA.out.1.tn, HA.out.2.1.iq⟩ (.inl rfl)).mono ?_
 rintro _ W16 ⟨rfl, hw, hb⟩
 rw [HA.out.2.2.1] at hw
 have HWW16 := Lib.hid hw
 have HVW16 := Lib.hid (show b ≤ W16.heap.size ∧ Below b w W16 from ⟨Nat.le_trans HVW15.out.1 hb.size, HVW15.out.2.trans hb⟩)
 clear hw hb
 go_wp2_with fail
 rw [rounds_succ]
 go_wp2_with fail
 refine (least_three HWW16.out ⟨List.length_pos_iff.2 HA.out.2.2.2.2.1.ne, HA.out.2.2.2.2.1.t.2.1⟩).mono ?_
 rintro _ W17 ⟨rfl, hb⟩
 have HWW17 := Lib.hid (HWW16.out.next hb)
 have HVW17 := Lib.hid (show b ≤ W17.heap.size ∧ Below b w W17 from ⟨Nat.le_trans HVW16.out.1 hb.size, HVW16.out.2.trans (hb.mono HVW16.out.1)⟩)
 clear hb
 go_wp2_with fail
 refine (row_swap (i := 1) (j := 1) HWW17.out HVW17.out.1 (.inr ⟨rfl, rfl⟩)).mono ?_
 rintro _ W18 ⟨rfl, hw, hb⟩
 rw [swap_self] at hw
 have HWW18 := Lib.hid hw
 have HVW18 := Lib.hid (show b ≤ W18.heap.size ∧ Below b w W18 from ⟨Nat.le_trans HVW17.out.1 hb.size, HVW17.out.2.trans hb⟩)
 clear hw hb
 go_wp2_with fail
 refine (column_swap (i := 1) (j := 1) HWW18.out HVW18.out.1 (.inr ⟨rfl, rfl⟩)).mono ?_
 rintro _ W19 ⟨rfl, hw, hb⟩
 rw [show ((K).flip.swap 1 1).flip = K by rw [swap_self]; rfl] at hw
 have HWW19 := Lib.hid hw
 have HVW19 := Lib.hid (show b ≤ W19.heap.size ∧ Below b w W19 from ⟨Nat.le_trans HVW18.out.1 hb.size, HVW18.out.2.trans hb⟩)
 clear hw hb
 go_wp2_with fail
 refine (clear_one HWW19.out).mono ?_
 rintro _ W20 ⟨rfl, hb⟩
 have HWW20 := Lib.hid (HWW19.out.next hb)
 have HVW20 := Lib.hid (show b ≤ W20.heap.size ∧ Below b w W20 from ⟨Nat.le_trans HVW19.out.1 hb.size, HVW19.out.2.trans (hb.mono HVW19.out.1)⟩)
 clear hb
 go_wp2_with fail
 refine (stray_one HWW20.out).mono ?_
 rintro _ W21 ⟨rfl, hb⟩
 have HWW21 := Lib.hid (HWW20.out.next hb)
 have HVW21 := Lib.hid (show b ≤ W21.heap.size ∧ Below b w W21 from ⟨Nat.le_trans HVW20.out.1 hb.size, HVW20.out.2.trans (hb.mono HVW20.out.1)⟩)
 clear hb
 obtain ⟨t21, hx21, hg21, gr21, cr21, ga21, ca21, gc21, cc21, ⟨xa21, xn21, xc21⟩, y21, z21, ⟨ua21, un21, uc21⟩, hT21⟩ := HWW21.out
 have k0 := hx21.cell (i := 0) rfl
 have k1 := hT21.hd.cell (i := 0) rfl
 have k3 := hT21.rw.cell (i := 1) rfl
 have k5 : W21.cell? ⟨gc21, 1, none⟩ = some (.slice ua21 un21 uc21) := hT21.r1.cell rfl
 have hln : (K).d.length = un21 := hT21.ed.len
 have hl0 : 0 < un21 := by rw [← hln]; exact List.length_pos_iff.2 HA.out.2.2.2.2.1.ne
 have h16 : un21 ≤ 16 := by rw [← hln]; exact HA.out.2.2.2.2.1.t.2.1
 obtain ⟨ad21, s21, A21, m21, l21, s'21, A'21, m'21, l'21, q21, rfl, hbk, j0, j1, j2, j3, hq, hqx⟩ := op_at hT21.ed (show un21 - 1 < un21 by omega)
 obtain rfl : q21 = lead (K).d := by unfold lead; rw [hln]; exact (Pq.co_get hqx.out).symm
 have HQ21 := Lib.hid hq
 have HL21 := Lib.hid (show Qs 1 (lead (K).d) from HA.out.2.2.2.2.1.t.qs _ (List.mem_of_getElem? hqx.out))
 obtain ⟨jj, hjj⟩ : ∃ j, j = un21 - 1 := ⟨_, rfl⟩
 have hwr : IntKind.i64.wrap ((un21 : Int) - 1) = (jj : Int) := by rw [IntWalk.i64_in _ (by omega)]; omega
 have hr0 : (0 : Int) ≤ (jj : Int) := by omega
 have hr1 : (jj : Int) < (un21 : Int) := by omega
 rw [← hjj] at j0 j1 j2 j3
 clear hx21 hT21 hg21 hln hl0 h16 hq hqx hjj hbk
 go_wp2_with fail
 refine (qinvq_any (N := 1) HQ21.out.num.rd HQ21.out.den.rd ⟨by rw [HQ21.out.num.len]; exact HL21.out.1, by rw [HQ21.out.den.len]; exact HL21.out.2⟩ (by decide) (by decide) HA.out.2.2.2.2.1.nz).mono ?_
 rintro _ W22 ⟨s5, A5, n5, l5, s6, A6, n6, l6, y5, rfl, ho5, hy5, hb⟩
 obtain rfl := hy5.out
 have HWW22 := Lib.hid (HWW21.out.next hb)
 have HVW22 := Lib.hid (show b ≤ W22.heap.size ∧ Below b w W22 from ⟨Nat.le_trans HVW21.out.1 hb.size, HVW21.out.2.trans (hb.mono HVW21.out.1)⟩)
 clear hb hy5 k0 k1 k3 k5 j0 j1 j2 j3 hwr hr0 hr1
 obtain ⟨W23, HBW23⟩ : ∃ W, W = W22.alloc (.cells #[.bool s5, .slice A5 n5 l5, .bool s6, .slice A6 n6 l6] 47) := ⟨_, rfl⟩
 have hb : Below W22.heap.size W22 W23 := by rw [HBW23]; exact (Below.refl _ _).alloc (Nat.le_refl _) _
 have HOW23 := Lib.hid (ho5.next hb)
 have HWW23 := Lib.hid (HWW22.out.next hb)
 have HVW23 := Lib.hid (show b ≤ W23.heap.size ∧ Below b w W23 from ⟨Nat.le_trans HVW22.out.1 hb.size, HVW22.out.2.trans (hb.mono HVW22.out.1)⟩)
 clear hb
 have HBW23 := Lib.hid HBW23
 clear ho5
 go_wp2_with fail
 rw [← HBW23.out]
 clear HBW23
 clear HBW23
 refine (row_scale (i := 1) HWW23.out HVW23.out.1 HOW23.out ⟨HA.out.2.2.2.1, HA.out.2.2.2.2.1.iq⟩ (.inr rfl)).mono ?_
 rintro _ W24 ⟨rfl, hw, hb⟩
 rw [HA.out.2.2.2.2.2] at hw
 have HWW24 := Lib.hid hw
 have HVW24 := Lib.hid (show b ≤ W24.heap.size ∧ Below b w W24 from ⟨Nat.le_trans HVW23.out.1 hb.size, HVW23.out.2.trans hb⟩)
 clear hw hb
 go_wp2_with fail
 rw [rounds_succ]
 go_wp2_with fail
 refine (least_none HWW24.out).mono ?_
 rintro _ Wz ⟨rfl, hb⟩
 have HWWz := Lib.hid (HWW24.out.next hb)
 have HVWz := Lib.hid (show b ≤ Wz.heap.size ∧ Below b w Wz from ⟨Nat.le_trans HVW24.out.1 hb.size, HVW24.out.2.trans (hb.mono HVW24.out.1)⟩)
 clear hb
 go_wp2
 try rw [Exit.noGoto_ret]
 go_ret
 exact ⟨rfl, HWWz.out, HVWz.out.2⟩
end Go.Proofs.YtjnklbfhelbjgaaGreat
