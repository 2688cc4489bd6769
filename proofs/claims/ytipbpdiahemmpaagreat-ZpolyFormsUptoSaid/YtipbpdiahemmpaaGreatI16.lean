/- zint: in normal form, the product. -/
import Derived.Test.YtipbpdiahemmpaaGreatI3
import Derived.Test.YtipbpdiahemmpaaGreatN23
namespace Go.Proofs.YtipbpdiahemmpaaGreat
open Go.RowKit Go.IntWalk
attribute [local go_sem ↓] Go.wp_at_zero Go.wp_at_succ

set_option maxHeartbeats 1000000 in
theorem inorm_any {s : Bool} {A : Option Addr} {n c : Nat} {z : Int} {w : World} (h : RdZ w w.heap.size s A n c z) (hn : n ≤ 17592186044416) :
    Calls Tryz.prog 83 #[.agg #[.bool s, .slice A n c]] w (RetI z w) := by
  obtain ⟨hZ, hR, hB⟩ := boxed1 w s A n c
  have h1 := h.next hB
  obtain ⟨M, h, hz⟩ := h1.raw
  have HSZ := Lib.hid (Nat.lt_trans (Nat.lt_succ_self _) hR.lt)
  go_enter Tryz.func83, Tryz.ntmps83
  go_wp2_with fail
  generalize (w.alloc (.cells #[.bool s, .slice A n c] 28)).alloc (.cells #[.bool false, .slice none 0 0] 28) = W1 at *
  have HBD := Lib.hid (Below.refl W1.heap.size W1).drew
  have HNO := Lib.hid (norm_any (h.next HBD.out) hn)
  have hc0 := hZ.c0
  have hc1 := hZ.c1
  have HZ := Lib.hid hZ
  go_region_held3 (fun w' => w'.cell? ⟨w.heap.size, 0, none⟩ = some (.bool s) ∧ w'.cell? ⟨w.heap.size, 1, none⟩ = some (.slice A n c)) (go_keep)
    (first
      | (go_at_call 186; refine HNO.out.mono ?_; rintro _ W3 ⟨A3, m3, c3, x3, rfl, ho3, hx3, hb3⟩; have HB3 := Lib.hid (HBD.out.trans hb3); have he0 := (HZ.out.next HB3.out).c0; have he1 := (HZ.out.next HB3.out).c1)
      | (go_at_call 185; refine (make1_any _ ho3).mono ?_; rintro _ W4 ⟨s4, rfl, ho4, hb4⟩; have HB4 := Lib.hid (HB3.out.trans (hb4.mono HB3.out.size)); have hf0 := (HZ.out.next HB4.out).c0; have hf1 := (HZ.out.next HB4.out).c1; have hg0 := (hR.next HB4.out).c0; have hg1 := (hR.next HB4.out).c1; have hh0 := (hR.next HB4.out).fz 0; have hh1 := (hR.next HB4.out).fz 1))
  have HS1 := Lib.hid hR.lt
  have hp := put_int (hR.next HB4.out) (hB.trans (HB4.out.mono hB.size)) (Nat.le_succ _) ho4 (Nat.lt_of_lt_of_le HS1.out HBD.out.size)
  generalize (W4.setCell ⟨w.heap.size + 1, 0, none⟩ (.bool s4)).setCell ⟨w.heap.size + 1, 1, none⟩ (.slice A3 m3 c3) = W5 at hp ⊢
  obtain ⟨hZ5, ho5, hB5⟩ := hp
  clear hf0 hf1 hg0 hg1 hh0 hh1 hc0 hc1 he0 he1 hb3 hb4
  go_wp2
  exact bodyPost_ret (by simp [results, Tryz.results83, go_sem, hZ5.c0, hZ5.c1]) rfl ⟨_, _, _, _, _, rfl, ho5.base (Nat.le_trans (Nat.le_of_lt HSZ.out) HBD.out.size), Lib.hid (by rw [hx3.out, hz.out]), hB5⟩

set_option maxRecDepth 100000 in
set_option maxHeartbeats 2000000 in
theorem imul_any {s s' : Bool} {A A' : Option Addr} {n c n' c' : Nat} {z z' : Int} {w : World} (h : RdZ w w.heap.size s A n c z) (h' : RdZ w w.heap.size s' A' n' c' z') (hn : n ≤ 4398046511103) (hn' : n' ≤ 4398046511103) :
    Calls Tryz.prog 216 #[.agg #[.bool s, .slice A n c], .agg #[.bool s', .slice A' n' c']] w (RetI (z * z') w) := by
  obtain ⟨hZ, hY, hR, hB⟩ := boxed2 w s A n c s' A' n' c'
  obtain ⟨M, h1, hz⟩ := (h.next hB).raw
  obtain ⟨M', h1', hz'⟩ := (h'.next hB).raw
  have HSZ := Lib.hid (show w.heap.size < _ from Nat.lt_trans (Nat.lt_succ_self _) (Nat.lt_trans (Nat.lt_succ_self _) hR.lt))
  go_enter Tryz.func216, Tryz.ntmps216
  go_wp2_with fail
  generalize ((w.alloc (.cells #[.bool s, .slice A n c] 28)).alloc (.cells #[.bool s', .slice A' n' c'] 28)).alloc (.cells #[.bool false, .slice none 0 0] 28) = W1 at *
  have HBD := Lib.hid (Below.refl W1.heap.size W1).drew
  have HMU := Lib.hid (nMul_any (h1.next HBD.out) (h1'.next HBD.out) hn hn')
  have hc0 := hZ.c0
  have hc1 := hZ.c1
  have hd0 := hY.c0
  have hd1 := hY.c1
  have HZ := Lib.hid hZ
  have HY := Lib.hid hY
  have HR := Lib.hid hR
  have hq1 : ¬ (w.heap.size + 1 + 1 = w.heap.size) := by omega
  have hq2 : ¬ (w.heap.size = w.heap.size + 1 + 1) := by omega
  go_region_held3 (fun w' => w'.cell? ⟨w.heap.size, 0, none⟩ = some (.bool s) ∧ w'.cell? ⟨w.heap.size, 1, none⟩ = some (.slice A n c) ∧ w'.cell? ⟨w.heap.size + 1, 0, none⟩ = some (.bool s') ∧ w'.cell? ⟨w.heap.size + 1, 1, none⟩ = some (.slice A' n' c')) (go_keep)
    (first
      | (go_at_call 254; refine HMU.out.mono ?_; rintro _ W2 ⟨A2, m2, c2, x2, rfl, ho2, hx2, hb2⟩; have HB2 := Lib.hid (HBD.out.trans hb2); have hd0 := (HZ.out.next HB2.out).c0; have hd1 := (HZ.out.next HB2.out).c1; have hd2 := (HY.out.next HB2.out).c0; have hd3 := (HY.out.next HB2.out).c1)
      | (go_at_call 185; refine (make1_any (s != s') ho2).mono ?_; rintro _ W4 ⟨s4, rfl, ho4, hb4⟩; have HB4 := Lib.hid (HB2.out.trans (hb4.mono HB2.out.size)); have hf0 := (HZ.out.next HB4.out).c0; have hf1 := (HZ.out.next HB4.out).c1; have hf2 := (HY.out.next HB4.out).c0; have hf3 := (HY.out.next HB4.out).c1; have hg0 := (HR.out.next HB4.out).c0; have hg1 := (HR.out.next HB4.out).c1; have hh0 := (HR.out.next HB4.out).fz 0; have hh1 := (HR.out.next HB4.out).fz 1))
  have HS1 := Lib.hid hR.lt
  have HFA := Lib.hid (show Zz.sg (s != s') x2 = z * z' by rw [hx2.out, hz.out, hz'.out, Zz.sg_mul])
  clear hf0 hf1 hf2 hf3 hg0 hg1 hh0 hh1 hc0 hc1 hd0 hd1 hd2 hd3 hb2 hb4 hq1 hq2
  have hR4 := hR.next HB4.out
  have hB4 := hB.trans (HB4.out.mono hB.size)
  have hp := put_int hR4 hB4 (by omega) ho4 (Nat.lt_of_lt_of_le HS1.out HBD.out.size)
  generalize (W4.setCell ⟨w.heap.size + 1 + 1, 0, none⟩ (.bool s4)).setCell ⟨w.heap.size + 1 + 1, 1, none⟩ (.slice A2 m2 c2) = W9 at hp ⊢
  obtain ⟨hZ9, ho9, hB9⟩ := hp
  go_wp2
  exact bodyPost_ret (by simp [results, Tryz.results216, go_sem, hZ9.c0, hZ9.c1]) rfl ⟨_, _, _, _, _, rfl, ho9.base (Nat.le_trans (Nat.le_of_lt HSZ.out) HBD.out.size), HFA, hB9⟩
end Go.Proofs.YtipbpdiahemmpaaGreat
