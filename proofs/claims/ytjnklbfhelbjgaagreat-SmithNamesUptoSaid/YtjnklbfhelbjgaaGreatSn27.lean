/- smith: steps of rows and of columns. -/
import Derived.Test.YtjnklbfhelbjgaaGreatSn15
import Derived.Test.YtjnklbfhelbjgaaGreatSn25
import Derived.Test.YtjnklbfhelbjgaaGreatSn26
import Derived.Deep.QuietTactic
import Derived.BigQuiet
import Derived.Deep.RegionHeld3
import Derived.Deep.DrawnRows
import Derived.Test.YtjnklbfhelbjgaaGreatRows
namespace Go.Proofs.YtjnklbfhelbjgaaGreat
open Go.RowKit Go.IntWalk
attribute [local go_sem ↓] Go.wp_at_zero Go.wp_at_succ
set_option maxRecDepth 100000 in
set_option maxHeartbeats 4000000 in
theorem row_add {b gw : Nat} {b1 : Nat} {i j : Int} {f : List Rat} {Af : Option Addr} {nf cf : Nat} {M : M2} {w : World} (h : Wk w b gw M) (hb : b ≤ w.heap.size) (hf : OwQp w b1 Af nf cf f) (hok : (M).addOK i f) (hij : (i = 0 ∧ j = 1) ∨ (i = 1 ∧ j = 0)) :
  Calls Tryz.prog 203 #[.pointer (some ⟨gw, 0, none⟩), .iface 226 (.agg #[.int .i64 i, .int .i64 j, .slice Af nf cf])] w (RetWk b gw ((M).add i f) w) := by
 have HH := Lib.hid (And.intro hf (And.intro hok hij))
 obtain ⟨t, h1, h2, h3⟩ := h
 have HX := Lib.hid h1
 have HT := Lib.hid h3
 have HG := Lib.hid h2
 have HBB := Lib.hid hb
 have k0 := h1.cell (i := 0) rfl
 have HC := Lib.hid k0
 have HBD := Lib.hid (Below.refl w.heap.size w).drew
 have hna : ∀ W : World, Sem.run Tryz.prog (nilAhead 381 226 (.agg #[.int .i64 i, .int .i64 j, .slice Af nf cf]) "simile/smith.to") W = .ok (some false) W := fun W => by kernel_rfl
 clear h1 h2 h3 hb
 clear hf hok hij
 go_enter Tryz.func203, Tryz.ntmps203
 go_wp2_with fail
 go_region_held3 (fun W => W.cell? ⟨gw, 0, none⟩ = some (.pointer (some ⟨t, 0, none⟩)))
  (first | exact HC.out | exact ((HX.out.next HBD.out).cell (i := 0) rfl) | exact (HX2.out.cell (i := 0) rfl))
  (first
   | (go_at_call 279; refine (add_to (HT.out.next HBD.out) (Nat.le_trans HBB.out HBD.out.size) (HH.out.1.next (HBD.out)) HH.out.2.1 HH.out.2.2).mono ?_; rintro _ W2 ⟨rfl, ht2, hb2, hk2⟩; have HX2 := Lib.hid ((HX.out.next HBD.out).keep hk2 (by decide) (by decide)); have HT2 := Lib.hid ht2; have HB2 := Lib.hid ((HBD.out.mono HBB.out).trans hb2); clear ht2 hb2 hk2))
 all_goals
  have k1 := HX2.out.cell (i := 1) rfl
  go_wp2
  go_returns
  exact ⟨rfl, ⟨_, HX2.out, HG.out, HT2.out⟩, HB2.out⟩
set_option maxRecDepth 100000 in
set_option maxHeartbeats 4000000 in
theorem row_scale {b gw : Nat} {b1 : Nat} {i : Int} {s s' : Bool} {A A' : Option Addr} {n c n' c' : Nat} {x : Rat} {M : M2} {w : World} (h : Wk w b gw M) (hb : b ≤ w.heap.size) (hf : OwQ w b1 s A n c s' A' n' c' x) (hok : (M).tiny ∧ Qs 1 x) (hij : i = 0 ∨ i = 1) :
  Calls Tryz.prog 203 #[.pointer (some ⟨gw, 0, none⟩), .iface 228 (.agg #[.int .i64 i, .bool s, .slice A n c, .bool s', .slice A' n' c'])] w (RetWk b gw ((M).scale i x) w) := by
 have HH := Lib.hid (And.intro hf (And.intro hok hij))
 obtain ⟨t, h1, h2, h3⟩ := h
 have HX := Lib.hid h1
 have HT := Lib.hid h3
 have HG := Lib.hid h2
 have HBB := Lib.hid hb
 have k0 := h1.cell (i := 0) rfl
 have HC := Lib.hid k0
 have HBD := Lib.hid (Below.refl w.heap.size w).drew
 have hna : ∀ W : World, Sem.run Tryz.prog (nilAhead 381 228 (.agg #[.int .i64 i, .bool s, .slice A n c, .bool s', .slice A' n' c']) "simile/smith.to") W = .ok (some false) W := fun W => by kernel_rfl
 clear h1 h2 h3 hb
 clear hf hok hij
 go_enter Tryz.func203, Tryz.ntmps203
 go_wp2_with fail
 go_region_held3 (fun W => W.cell? ⟨gw, 0, none⟩ = some (.pointer (some ⟨t, 0, none⟩)))
  (first | exact HC.out | exact ((HX.out.next HBD.out).cell (i := 0) rfl) | exact (HX2.out.cell (i := 0) rfl))
  (first
   | (go_at_call 280; refine (scale_to (HT.out.next HBD.out) (Nat.le_trans HBB.out HBD.out.size) (HH.out.1.next (HBD.out)) HH.out.2.1 HH.out.2.2).mono ?_; rintro _ W2 ⟨rfl, ht2, hb2, hk2⟩; have HX2 := Lib.hid ((HX.out.next HBD.out).keep hk2 (by decide) (by decide)); have HT2 := Lib.hid ht2; have HB2 := Lib.hid ((HBD.out.mono HBB.out).trans hb2); clear ht2 hb2 hk2))
 all_goals
  have k1 := HX2.out.cell (i := 1) rfl
  go_wp2
  go_returns
  exact ⟨rfl, ⟨_, HX2.out, HG.out, HT2.out⟩, HB2.out⟩
set_option maxRecDepth 100000 in
set_option maxHeartbeats 4000000 in
theorem column_swap01 {b gw : Nat} {M : M2} {w : World} (h : Wk w b gw M) (hb : b ≤ w.heap.size) :
  Calls Tryz.prog 204 #[.pointer (some ⟨gw, 0, none⟩), .iface 221 (.agg #[.int .i64 0, .int .i64 1])] w (RetWk b gw (((M.flip).swap 0 1).flip) w) := by
 have HH := Lib.hid (True.intro)
 obtain ⟨t, h1, h2, h3⟩ := h
 have HX := Lib.hid h1
 have HT := Lib.hid h3
 have HG := Lib.hid h2
 have HBB := Lib.hid hb
 have k0 := h1.cell (i := 0) rfl
 obtain ⟨At, ct, k1, k2⟩ := h3.keepT
 clear h1 h2 h3 hb
 go_enter Tryz.func204, Tryz.ntmps204
 go_wp2_with fail
 refine (flip_any HT.out HBB.out).mono ?_
 rintro _ W1 ⟨t1, rfl, ht1, hb1⟩
 have HT1 := Lib.hid ht1
 have HB1 := Lib.hid hb1
 have HX1 := Lib.hid (HX.out.next hb1)
 clear ht1 hb1 k0 k1 k2
 go_wp2_with fail
 refine (swap_to01 (HT1.out) (Nat.le_trans HBB.out HB1.out.size)).mono ?_
 rintro _ W2 ⟨rfl, ht2, hb2, hk2⟩
 have HX2 := Lib.hid (HX1.out.keep hk2 (by decide) (by decide))
 have HT2 := Lib.hid ht2
 have HB2 := Lib.hid ((HB1.out.mono HBB.out).trans hb2)
 clear ht2 hb2 hk2
 go_wp2_with fail
 refine (flip_any HT2.out (Nat.le_trans HBB.out HB2.out.size)).mono ?_
 rintro _ W3 ⟨t3, rfl, ht3, hb3⟩
 have hx3 := HX2.out.next hb3
 have k0 := hx3.cell (i := 0) rfl
 have f0 := hx3.frozen 0
 have HT4 := Lib.hid (ht3.other hx3 (by decide) 0 (.pointer (some ⟨t3, 0, none⟩)))
 have HX4 := Lib.hid (hx3.store 0 (.pointer (some ⟨t3, 0, none⟩)))
 have HB4 := Lib.hid ((HB2.out.trans (hb3.mono (Nat.le_trans HBB.out HB2.out.size))).setCell (p := ⟨gw, 0, none⟩) HG.out (.pointer (some ⟨t3, 0, none⟩)))
 have k2 := HX4.out.cell (i := 2) rfl
 clear ht3 hb3 hx3
 go_wp2
 go_returns
 exact ⟨rfl, ⟨_, HX4.out, HG.out, HT4.out⟩, HB4.out⟩
set_option maxRecDepth 100000 in
set_option maxHeartbeats 4000000 in
theorem column_add {b gw : Nat} {b1 : Nat} {i j : Int} {f : List Rat} {Af : Option Addr} {nf cf : Nat} {M : M2} {w : World} (h : Wk w b gw M) (hb : b ≤ w.heap.size) (hf : OwQp w b1 Af nf cf f) (hok : (M.flip).addOK i f) (hij : (i = 0 ∧ j = 1) ∨ (i = 1 ∧ j = 0)) :
  Calls Tryz.prog 204 #[.pointer (some ⟨gw, 0, none⟩), .iface 226 (.agg #[.int .i64 i, .int .i64 j, .slice Af nf cf])] w (RetWk b gw (((M.flip).add i f).flip) w) := by
 have HH := Lib.hid (And.intro hf (And.intro hok hij))
 obtain ⟨t, h1, h2, h3⟩ := h
 have HX := Lib.hid h1
 have HT := Lib.hid h3
 have HG := Lib.hid h2
 have HBB := Lib.hid hb
 have k0 := h1.cell (i := 0) rfl
 obtain ⟨At, ct, k1, k2⟩ := h3.keepT
 clear h1 h2 h3 hb
 clear hf hok hij
 go_enter Tryz.func204, Tryz.ntmps204
 go_wp2_with fail
 refine (flip_any HT.out HBB.out).mono ?_
 rintro _ W1 ⟨t1, rfl, ht1, hb1⟩
 have HT1 := Lib.hid ht1
 have HB1 := Lib.hid hb1
 have HX1 := Lib.hid (HX.out.next hb1)
 clear ht1 hb1 k0 k1 k2
 go_wp2_with fail
 refine (add_to (HT1.out) (Nat.le_trans HBB.out HB1.out.size) (HH.out.1.next (HB1.out)) HH.out.2.1 HH.out.2.2).mono ?_
 rintro _ W2 ⟨rfl, ht2, hb2, hk2⟩
 have HX2 := Lib.hid (HX1.out.keep hk2 (by decide) (by decide))
 have HT2 := Lib.hid ht2
 have HB2 := Lib.hid ((HB1.out.mono HBB.out).trans hb2)
 clear ht2 hb2 hk2
 go_wp2_with fail
 refine (flip_any HT2.out (Nat.le_trans HBB.out HB2.out.size)).mono ?_
 rintro _ W3 ⟨t3, rfl, ht3, hb3⟩
 have hx3 := HX2.out.next hb3
 have k0 := hx3.cell (i := 0) rfl
 have f0 := hx3.frozen 0
 have HT4 := Lib.hid (ht3.other hx3 (by decide) 0 (.pointer (some ⟨t3, 0, none⟩)))
 have HX4 := Lib.hid (hx3.store 0 (.pointer (some ⟨t3, 0, none⟩)))
 have HB4 := Lib.hid ((HB2.out.trans (hb3.mono (Nat.le_trans HBB.out HB2.out.size))).setCell (p := ⟨gw, 0, none⟩) HG.out (.pointer (some ⟨t3, 0, none⟩)))
 have k2 := HX4.out.cell (i := 2) rfl
 clear ht3 hb3 hx3
 go_wp2
 go_returns
 exact ⟨rfl, ⟨_, HX4.out, HG.out, HT4.out⟩, HB4.out⟩
end Go.Proofs.YtjnklbfhelbjgaaGreat

/- smith: the place of a polynomial of least degree, for the tables of the example. -/
namespace Go.Proofs.YtjnklbfhelbjgaaGreat
open Go.RowKit Go.IntWalk
attribute [local go_sem ↓] Go.wp_at_zero Go.wp_at_succ
set_option maxHeartbeats 4000000 in
theorem deg_any {A : Option Addr} {n c : Nat} {w : World} (hn : n ≤ 1048576) : Calls Tryz.prog 109 #[.slice A n c] w (fun e w' => e = .returned (.int .i64 ((n : Int) - 1)) ∧ w' = w) := by
 go_enter Tryz.func109, Tryz.ntmps109
 go_wp2
 go_ret
 exact ⟨rfl, rfl⟩
theorem below_drawn (w : World) (d : Nat) : Below w.heap.size w (w.drewN d) := by
 induction d with
 | zero => exact Below.refl _ _
 | succ d ih => exact ih.drew
def RetLs (r c : Int) (ok : Bool) (w : World) (e : Ending) (w' : World) : Prop := e = .returned (.tuple #[.int .i64 r, .int .i64 c, .bool ok]) ∧ Below w.heap.size w w'
set_option maxRecDepth 100000 in
set_option maxHeartbeats 8000000 in
theorem least_one {b gw : Nat} {M : M2} {w : World} (h : Wk w b gw M) (ha : M.a.length = 2) (hb : M.b.length = 0) (hc : M.c.length = 0) (hd : M.d.length = 2) :
  Calls Tryz.prog 202 #[.pointer (some ⟨gw, 0, none⟩), .int .i64 0] w (RetLs 0 0 true w) := by
 obtain ⟨t, h1, _, gr, cr, g0, c0, g1, c1, ⟨xa, xn, xc⟩, ⟨ya, yn, yc⟩, ⟨za, zn, zc⟩, ⟨ua, un, uc⟩, h⟩ := h
 obtain rfl : xn = 2 := by rw [← ha]; exact h.ea.len.symm
 obtain rfl : yn = 0 := by rw [← hb]; exact h.eb.len.symm
 obtain rfl : zn = 0 := by rw [← hc]; exact h.ec.len.symm
 obtain rfl : un = 2 := by rw [← hd]; exact h.ed.len.symm
 have k0 := h1.cell (i := 0) rfl
 have k1 := h.hd.cell (i := 0) rfl
 have k2 := h.hd.cell (i := 1) rfl
 have k3 := h.rw.cell (i := 0) rfl
 have k4 := h.rw.cell (i := 1) rfl
 have k5 : w.cell? ⟨g0, 0, none⟩ = some (.slice xa 2 xc) := h.r0.cell rfl
 have k6 : w.cell? ⟨g0, 1, none⟩ = some (.slice ya 0 yc) := h.r0.cell rfl
 have k7 : w.cell? ⟨g1, 0, none⟩ = some (.slice za 0 zc) := h.r1.cell rfl
 have k8 : w.cell? ⟨g1, 1, none⟩ = some (.slice ua 2 uc) := h.r1.cell rfl
 clear h1 h ha hb hc hd
 go_enter Tryz.func202, Tryz.ntmps202
 go_wp2_with fail
 refine wp_loop_rounds 3 ?_
 rw [rounds_succ]
 go_wp2_with fail
 refine wp_loop_rounds 3 ?_
 rw [rounds_succ]
 go_upto_region 9 with fail
 go_quiet ((first | (go_at_call 109; exact (deg_any (by decide)).mono (fun _ _ h => ⟨h.1, _, h.2⟩))))
 go_wp2_with fail
 rw [rounds_succ]
 go_upto_region 9 with fail
 go_quiet ((first | (go_at_call 109; exact (deg_any (by decide)).mono (fun _ _ h => ⟨h.1, _, h.2⟩))))
 go_wp2_with fail
 rw [rounds_succ]
 go_wp2_with fail
 rw [rounds_succ]
 go_wp2_with fail
 refine wp_loop_rounds 3 ?_
 rw [rounds_succ]
 go_upto_region 9 with fail
 go_quiet ((first | (go_at_call 109; exact (deg_any (by decide)).mono (fun _ _ h => ⟨h.1, _, h.2⟩))))
 go_wp2_with fail
 rw [rounds_succ]
 go_upto_region 9 with fail
 go_quiet ((first | (go_at_call 109; exact (deg_any (by decide)).mono (fun _ _ h => ⟨h.1, _, h.2⟩))))
 go_wp2_with fail
 rw [rounds_succ]
 go_wp2_with fail
 rw [rounds_succ]
 go_wp2
 go_ret3
 exact ⟨rfl, below_drawn _ _⟩
set_option maxRecDepth 100000 in
set_option maxHeartbeats 8000000 in
theorem least_two {b gw : Nat} {M : M2} {w : World} (h : Wk w b gw M) (ha : M.a.length = 2) (hb : M.b.length = 1) (hc : M.c.length = 0) (hd : M.d.length = 2) :
  Calls Tryz.prog 202 #[.pointer (some ⟨gw, 0, none⟩), .int .i64 0] w (RetLs 0 1 true w) := by
 obtain ⟨t, h1, _, gr, cr, g0, c0, g1, c1, ⟨xa, xn, xc⟩, ⟨ya, yn, yc⟩, ⟨za, zn, zc⟩, ⟨ua, un, uc⟩, h⟩ := h
 obtain rfl : xn = 2 := by rw [← ha]; exact h.ea.len.symm
 obtain rfl : yn = 1 := by rw [← hb]; exact h.eb.len.symm
 obtain rfl : zn = 0 := by rw [← hc]; exact h.ec.len.symm
 obtain rfl : un = 2 := by rw [← hd]; exact h.ed.len.symm
 have k0 := h1.cell (i := 0) rfl
 have k1 := h.hd.cell (i := 0) rfl
 have k2 := h.hd.cell (i := 1) rfl
 have k3 := h.rw.cell (i := 0) rfl
 have k4 := h.rw.cell (i := 1) rfl
 have k5 : w.cell? ⟨g0, 0, none⟩ = some (.slice xa 2 xc) := h.r0.cell rfl
 have k6 : w.cell? ⟨g0, 1, none⟩ = some (.slice ya 1 yc) := h.r0.cell rfl
 have k7 : w.cell? ⟨g1, 0, none⟩ = some (.slice za 0 zc) := h.r1.cell rfl
 have k8 : w.cell? ⟨g1, 1, none⟩ = some (.slice ua 2 uc) := h.r1.cell rfl
 clear h1 h ha hb hc hd
 go_enter Tryz.func202, Tryz.ntmps202
 go_wp2_with fail
 refine wp_loop_rounds 3 ?_
 rw [rounds_succ]
 go_wp2_with fail
 refine wp_loop_rounds 3 ?_
 rw [rounds_succ]
 go_upto_region 9 with fail
 go_quiet ((first | (go_at_call 109; exact (deg_any (by decide)).mono (fun _ _ h => ⟨h.1, _, h.2⟩))))
 go_wp2_with fail
 rw [rounds_succ]
 go_upto_region 9 with fail
 go_quiet ((first | (go_at_call 109; exact (deg_any (by decide)).mono (fun _ _ h => ⟨h.1, _, h.2⟩))))
 go_wp2_with fail
 rw [rounds_succ]
 go_wp2_with fail
 rw [rounds_succ]
 go_wp2_with fail
 refine wp_loop_rounds 3 ?_
 rw [rounds_succ]
 go_upto_region 9 with fail
 go_quiet ((first | (go_at_call 109; exact (deg_any (by decide)).mono (fun _ _ h => ⟨h.1, _, h.2⟩))))
 go_wp2_with fail
 rw [rounds_succ]
 go_upto_region 9 with fail
 go_quiet ((first | (go_at_call 109; exact (deg_any (by decide)).mono (fun _ _ h => ⟨h.1, _, h.2⟩))))
 go_wp2_with fail
 rw [rounds_succ]
 go_wp2_with fail
 rw [rounds_succ]
 go_wp2
 go_ret3
 exact ⟨rfl, below_drawn _ _⟩
set_option maxRecDepth 100000 in
set_option maxHeartbeats 8000000 in
theorem least_three {b gw : Nat} {M : M2} {w : World} (h : Wk w b gw M) (hp : 0 < M.d.length ∧ M.d.length ≤ 16) :
  Calls Tryz.prog 202 #[.pointer (some ⟨gw, 0, none⟩), .int .i64 1] w (RetLs 1 1 true w) := by
 obtain ⟨t, h1, _, gr, cr, g0, c0, g1, c1, ⟨xa, xn, xc⟩, ⟨ya, yn, yc⟩, ⟨za, zn, zc⟩, ⟨ua, un, uc⟩, h⟩ := h
 have hu : (0 : Int) < (un : Int) := by have := h.ed.len; simp only at this; omega
 have hu2 : 0 < un := by omega
 have hu3 : un ≤ 16 := by have := h.ed.len; simp only at this; omega
 have k0 := h1.cell (i := 0) rfl
 have k1 := h.hd.cell (i := 0) rfl
 have k2 := h.hd.cell (i := 1) rfl
 have k3 := h.rw.cell (i := 0) rfl
 have k4 := h.rw.cell (i := 1) rfl
 have k5 : w.cell? ⟨g0, 0, none⟩ = some (.slice xa xn xc) := h.r0.cell rfl
 have k6 : w.cell? ⟨g0, 1, none⟩ = some (.slice ya yn yc) := h.r0.cell rfl
 have k7 : w.cell? ⟨g1, 0, none⟩ = some (.slice za zn zc) := h.r1.cell rfl
 have k8 : w.cell? ⟨g1, 1, none⟩ = some (.slice ua un uc) := h.r1.cell rfl
 clear h1 h  hp
 go_enter Tryz.func202, Tryz.ntmps202
 go_wp2_with fail
 refine wp_loop_rounds 3 ?_
 rw [rounds_succ]
 go_wp2_with fail
 refine wp_loop_rounds 3 ?_
 rw [rounds_succ]
 go_upto_region 9 with fail
 go_quiet ((first | (go_at_call 109; exact (deg_any (by decide)).mono (fun _ _ h => ⟨h.1, _, h.2⟩))))
 go_wp2_with fail
 rw [rounds_succ]
 go_wp2_with fail
 rw [rounds_succ]
 go_wp2
 go_ret3
 exact ⟨rfl, below_drawn _ _⟩
set_option maxRecDepth 100000 in
set_option maxHeartbeats 8000000 in
theorem least_none {b gw : Nat} {M : M2} {w : World} (h : Wk w b gw M)  :
  Calls Tryz.prog 202 #[.pointer (some ⟨gw, 0, none⟩), .int .i64 2] w (RetLs 0 0 false w) := by
 obtain ⟨t, h1, _, gr, cr, g0, c0, g1, c1, ⟨xa, xn, xc⟩, ⟨ya, yn, yc⟩, ⟨za, zn, zc⟩, ⟨ua, un, uc⟩, h⟩ := h
 have k0 := h1.cell (i := 0) rfl
 have k1 := h.hd.cell (i := 0) rfl
 have k2 := h.hd.cell (i := 1) rfl
 have k3 := h.rw.cell (i := 0) rfl
 have k4 := h.rw.cell (i := 1) rfl
 have k5 : w.cell? ⟨g0, 0, none⟩ = some (.slice xa xn xc) := h.r0.cell rfl
 have k6 : w.cell? ⟨g0, 1, none⟩ = some (.slice ya yn yc) := h.r0.cell rfl
 have k7 : w.cell? ⟨g1, 0, none⟩ = some (.slice za zn zc) := h.r1.cell rfl
 have k8 : w.cell? ⟨g1, 1, none⟩ = some (.slice ua un uc) := h.r1.cell rfl
 clear h1 h
 go_enter Tryz.func202, Tryz.ntmps202
 go_wp2_with fail
 refine wp_loop_rounds 3 ?_
 rw [rounds_succ]
 go_wp2
 go_ret3
 exact ⟨rfl, Below.refl _ _⟩
end Go.Proofs.YtjnklbfhelbjgaaGreat

/- A region that draws its order: a condition on the world that is asked for only until one of its last operations is carried out. -/
namespace Go.Proofs.YtjnklbfhelbjgaaGreat
open Go
section
variable {P : Program} {ops : Array Oper} {Q : Exit → Act → World → Prop} {md : Region.Mode} {F : List Nat} {S T : World → Prop}
def Dm (F : List Nat) (S : World → Prop) (listed : Array Bool) (w : World) : Prop := (∀ f ∈ F, listed.getD f false = false) → S w
def WA (P : Program) (md : Region.Mode) (ops : Array Oper) (Q : Exit → Act → World → Prop) (F : List Nat) (S : World → Prop) : Nat → Array Bool → Act → World → Prop
 | 0, listed, a, w => Region.ready md ops listed = [] ∧ Q .normal a w
 | k + 1, listed, a, w => (Region.ready md ops listed = [] → Q .normal a w) ∧
   ∀ i ∈ Region.ready md ops listed, wpOp P ops Q i (fun a' w' => Dm F S (listed.setIfInBounds i true) w' ∧ WA P md ops Q F S k (listed.setIfInBounds i true) a' w') a w
theorem WA.any : ∀ (k : Nat) (listed : Array Bool) (a : Act) (w : World), WA P md ops Q F S k listed a w → wpAny P md ops Q k listed a w
 | 0, _, _, _, h => h
 | k + 1, _, _, _, h => ⟨h.1, fun i hi => wpOp_mono (fun a' w' h' => WA.any k _ a' w' h'.2) (h.2 i hi)⟩
def Cl (md : Region.Mode) (ops : Array Oper) (listed : Array Bool) : Prop := ∀ (j : Nat) (o : Oper), ops[j]? = some o → listed.getD j false = true → ∀ e ∈ o.after, Region.binds md e = true → listed.getD e.on false = true
def waits (md : Region.Mode) (ops : Array Oper) : Nat → Nat → Nat → Bool
 | 0, _, _ => false
 | k + 1, f, i => match ops[f]? with
   | none => false
   | some o => o.after.toList.any fun e => Region.binds md e && (e.on == i || waits md ops k e.on i)
theorem waits_spec {listed : Array Bool} (hc : Cl md ops listed) {i : Nat} : ∀ (k f : Nat), (f ∈ Region.ready md ops listed ∨ listed.getD f false = true) → waits md ops k f i = true → listed.getD i false = true
 | 0, _, _, h => by cases h
 | k + 1, f, hf, h => by
   unfold waits at h
   cases ho : ops[f]? with
   | none => rw [ho] at h; cases h
   | some o =>
     rw [ho] at h
     obtain ⟨e, he, hb⟩ := List.any_eq_true.1 h
     rw [Bool.and_eq_true, Bool.or_eq_true, beq_iff_eq] at hb
     have h1 : listed.getD e.on false = true := by
      rcases hf with hf | hf
      ·obtain ⟨_, o', ho', hall⟩ := mem_ready.1 hf
       rw [ho] at ho'
       injection ho' with ho'
       subst ho'
       exact hall e (Array.mem_toList_iff.1 he) hb.1
      ·exact hc f o ho hf e (Array.mem_toList_iff.1 he) hb.1
     rcases hb.2 with h2 | h2
     ·rw [← h2]; exact h1
     ·exact waits_spec hc k e.on (.inr h1) h2
theorem getD_un {listed : Array Bool} {i : Nat} (h : listed.getD i true = false) : listed.getD i false = false := by
 rcases Nat.lt_or_ge i listed.size with h' | h'
 ·simp [h'] at h ⊢; exact h
 ·simp [Array.getElem?_eq_none h'] at h
theorem Cl.set {listed : Array Bool} {i : Nat} (hc : Cl md ops listed) (hi : i ∈ Region.ready md ops listed) : Cl md ops (listed.setIfInBounds i true) := fun j o ho hj e he hb => by
 apply getD_set_true
 by_cases hij : i = j
 ·subst hij
  obtain ⟨_, o', ho', hall⟩ := mem_ready.1 hi
  rw [ho] at ho'
  injection ho' with ho'
  subst ho'
  exact hall e he hb
 ·rw [getD_set_ne false hij] at hj
  exact hc j o ho hj e he hb
theorem WA.first {i K : Nat} {oi : Oper} {v : Value} (hi : ops[i]? = some oi) (hsel : ∀ (j : Nat) (o : Oper) cs b, ops[j]? = some o → o.op ≠ .select cs b)
  (hQ : ∀ c a w, Q (.panic c) (a.put oi.dst v) w → Q (.panic c) a w) (hF : ∀ f ∈ F, f ≠ i ∧ waits md ops K f i = true) :
  ∀ (k : Nat) (listed : Array Bool) (a : Act) (w : World), Cl md ops listed →
   (∀ j oj, ops[j]? = some oj → j ≠ i → listed.getD j true = false → (∀ e ∈ oj.after, Region.binds md e = true → e.on ≠ i) → oi.apart ops oj = true) →
   i ∈ Region.ready md ops listed → YieldsIf P ops S oi v a → S w →
   WA P md ops Q F S k (listed.setIfInBounds i true) (a.put oi.dst v) w → WA P md ops Q F S (k + 1) listed a w := by
 intro k
 induction k with
 | zero =>
   intro listed a w _ _ hr hy ht H
   refine ⟨fun h => (by rw [h] at hr; cases hr), fun j hj => ?_⟩
   by_cases hji : j = i
   ·subst hji; exact hy.wpOp hi ht ⟨fun _ => ht, H⟩
   ·have := ready_mono hj hji
    rw [H.1] at this
    cases this
 | succ k ih =>
   intro listed a w hc hfree hr hy ht H
   refine ⟨fun h => (by rw [h] at hr; cases hr), fun j hj => ?_⟩
   by_cases hji : j = i
   ·subst hji; exact hy.wpOp hi ht ⟨fun _ => ht, H⟩
   ·have h1 := H.2 j (ready_mono hj hji)
    obtain ⟨hjun, oj, hoj, hall⟩ := mem_ready.1 hj
    have hun := (mem_ready.1 hr).1
    have hunF := getD_un hun
    have hnot : ∀ e ∈ oj.after, Region.binds md e = true → e.on ≠ i := fun e he hb heq => by
     have h2 := hall e he hb
     rw [heq, hunF] at h2
     cases h2
    have h2 := wpOp_putIf hoj (hfree j oj hoj hji hjun hnot) (fun cs b => hsel i oi cs b hi) (fun cs b => hsel j oj cs b hoj) hQ hy h1
    have hfree' : ∀ m om, ops[m]? = some om → m ≠ i → (listed.setIfInBounds j true).getD m true = false →
      (∀ e ∈ om.after, Region.binds md e = true → e.on ≠ i) → oi.apart ops om = true := fun m om hm hmi hmu hno => by
     refine hfree m om hm hmi ?_ hno
     by_cases hjm : j = m
     ·subst hjm; exact hjun
     ·rwa [getD_set_ne true hjm] at hmu
    have hlast : ∀ f ∈ F, ((listed.setIfInBounds i true).setIfInBounds j true).getD f false = false := fun f hf => by
     obtain ⟨hfi, hw⟩ := hF f hf
     have hfj : f ≠ j := by
      rintro rfl
      have := waits_spec hc K f (.inl hj) hw
      rw [hunF] at this
      cases this
     rw [getD_set_ne false (Ne.symm hfj), getD_set_ne false (Ne.symm hfi)]
     cases hb : listed.getD f false with
     | false => rfl
     | true =>
       have := waits_spec hc K f (.inr hb) hw
       rw [hunF] at this
       cases this
    refine wpOp_mono (fun a' w' h3 => ⟨fun _ => h3.2.1 hlast, ih (listed.setIfInBounds j true) a' w' (hc.set hj) hfree' (ready_mono hr (Ne.symm hji)) h3.1 (h3.2.1 hlast) ?_⟩) h2
    rw [Array.setIfInBounds_comm _ _ hji]
    exact h3.2.2
def clB (md : Region.Mode) (ops : Array Oper) (listed : Array Bool) : Bool := (List.range ops.size).all fun j => match ops[j]? with
 | none => true
 | some o => !(listed.getD j false) || o.after.toList.all fun e => !(Region.binds md e) || listed.getD e.on false
theorem clB_spec {listed : Array Bool} (h : clB md ops listed = true) : Cl md ops listed := fun j o ho hj e he hb => by
 have h1 := List.all_eq_true.1 h j (List.mem_range.2 (Array.getElem?_eq_some_iff.1 ho).1)
 simp only [ho, hj, Bool.not_true, Bool.false_or] at h1
 have h2 := List.all_eq_true.1 h1 e (Array.mem_toList_iff.2 he)
 simpa [hb] using h2
theorem WA.take {i : Nat} (K : Nat) {oi : Oper} {v : Value} {k : Nat} {listed : Array Bool} {a : Act} {w : World} (hi : ops[i]? = some oi)
  (hs : Region.noSelect ops = true) (hc : clB md ops listed = true) (hf : Region.free md ops listed i = true) (hr : (Region.ready md ops listed).contains i = true) (hF : (F.all fun f => f != i && waits md ops K f i) = true)
  (hQ : ∀ c a w, Q (.panic c) (a.put oi.dst v) w → Q (.panic c) a w) (hy : YieldsIf P ops S oi v a) (hS : S w)
  (h : WA P md ops Q F S k (listed.setIfInBounds i true) (a.put oi.dst v) w) : WA P md ops Q F S (k + 1) listed a w :=
 WA.first hi (Region.noSelect_spec hs) hQ (fun f hf' => by simpa using List.all_eq_true.1 hF f hf') k listed a w (clB_spec hc) (Region.free_spec hi hf) (by simpa using hr) hy hS h
theorem WA.one {i : Nat} {o : Oper} {k : Nat} {listed : Array Bool} {a : Act} {w : World} (hr : Region.ready md ops listed = [i]) (ho : ops[i]? = some o)
  (h : ∀ K' : Act → World → Prop, Shut (∀ a w, Dm F S (listed.setIfInBounds i true) w → WA P md ops Q F S k (listed.setIfInBounds i true) a w → K' a w) → if Region.wanted o (yielded ops a.tmps) = true then Oper.wp P o a w K' Q else K' (a.put o.dst undef) w) :
  WA P md ops Q F S (k + 1) listed a w := by
 refine ⟨fun h0 => (by rw [hr] at h0; cases h0), fun j hj => ?_⟩
 rw [hr] at hj
 obtain rfl := List.mem_singleton.1 hj
 exact wpOp_step ho fun K' hK => h K' fun a w h1 h2 => hK a w ⟨h1, h2⟩
theorem WA.done {listed : Array Bool} {a : Act} {w : World} (hr : Region.ready md ops listed = []) (h : Q .normal a w) : ∀ k, WA P md ops Q F S k listed a w
 | 0 => ⟨hr, h⟩
 | _ + 1 => ⟨fun _ => h, by rw [hr]; simp⟩
theorem WA.begin (F : List Nat) {id : Nat} {a : Act} {w : World} (hm : P.follows .mixedOrders = true) (hS : S w.drew)
  (h : S w.drew → WA P .any ops Q F S ops.size (Array.replicate ops.size false) a w.drew) : (Code.region id ops true).wp P Q a w :=
 wp_region_any hm (WA.any _ _ _ _ (h hS))
end
end Go.Proofs.YtjnklbfhelbjgaaGreat
