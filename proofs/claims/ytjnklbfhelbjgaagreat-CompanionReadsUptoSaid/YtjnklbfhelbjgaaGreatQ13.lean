/- Reference 09: sum, product with a number, difference. -/
import Derived.Test.YtjnklbfhelbjgaaGreatQ11
import Derived.Test.YtjnklbfhelbjgaaGreatQ12
import Derived.Test.YtjnklbfhelbjgaaGreatQ10
import Derived.Test.YtjnklbfhelbjgaaGreatQ07
namespace Go.Proofs.YtjnklbfhelbjgaaGreat
open Go.RowKit Go.IntWalk
attribute [local go_sem ↓] Go.wp_at_zero Go.wp_at_succ
theorem map_qval_pr (M : List Rat) : (M.map pr).map qval = M := by rw [List.map_map, show (qval ∘ pr) = id from funext qval_pr, List.map_id]
theorem rqnorm_own {N : Nat} {A : Option Addr} {n c : Nat} {M : List Rat} {w : World} (h : RdQs w w.heap.size N A n c (M.map pr)) (hn : n ≤ 1048576) (hN : N ≤ 1000000000000) :
  Calls Tryz.prog 54 #[.slice A n c] w (RetPq (Pq.co M) w) := by
 have := rqnorm_any h (fun p hp => by
  obtain ⟨x, _, rfl⟩ := List.mem_map.1 hp
  exact pr_ne x) hn hN
 rwa [map_qval_pr] at this
theorem RdQs.wide {w : World} {B N N' : Nat} {A : Option Addr} {n c : Nat} {L : List (Int × Int)} (h : RdQs w B N A n c L) (hN : N ≤ N') : RdQs w B N' A n c L :=
 ⟨h.len, h.le, h.mx, fun j p hp => by
  obtain ⟨ad, s, A1, n1, c1, s', A1', n1', c1', h1, h2, h3, h4, h5, h6, h7, h8, h9, h10⟩ := h.at_ j p hp
  exact ⟨ad, s, A1, n1, c1, s', A1', n1', c1', h1, h2, h3, h4, h5, h6, h7, h8, Nat.le_trans h9 hN, Nat.le_trans h10 hN⟩⟩
theorem range_co {f : Nat → Rat} {m : Nat} (h : ∀ i, m ≤ i → f i = 0) (i : Nat) : Pq.co ((List.range m).map f) i = f i := by
 rw [Pq.co_range]
 split
 ·rfl
 ·exact (h i (by omega)).symm
set_option maxRecDepth 100000 in
set_option maxHeartbeats 8000000 in
theorem rqAdd_any {N : Nat} {A A' : Option Addr} {n c n' c' : Nat} {L L' : List (Int × Int)} {w : World} (h : RdQs w w.heap.size N A n c L) (h' : RdQs w w.heap.size N A' n' c' L') (hd : ∀ p ∈ L, p.2 ≠ 0) (hd' : ∀ p ∈ L', p.2 ≠ 0) (hn : n ≤ 1048576) (hn' : n' ≤ 1048576) (hN : N ≤ 200000000000) (h1N : 1 ≤ N) :
  Calls Tryz.prog 78 #[.slice A n c, .slice A' n' c'] w (RetPq (fun i => Pq.co (L.map qval) i + Pq.co (L'.map qval) i) w) := by
 have HSZ := Lib.hid (show ∀ i, Qs (N + N + 1) (Pq.co (L.map qval) i + Pq.co (L'.map qval) i) from fun i => (h.sz hd h1N i).add (h'.sz hd' h1N i))
 have HL := Lib.hid (And.intro h.len h'.len)
 have HD := Lib.hid (And.intro (cop_ne hd) (cop_ne hd'))
 clear hd hd'
 go_enter Tryz.func78, Tryz.ntmps78
 by_cases hlt : n < n'
 ·have hlti : (n : Int) < (n' : Int) := by omega
  have HM := Lib.hid (show n ≤ n' ∧ n' ≤ n' by omega)
  clear hlt
  have hmk := make_qs Tryz.underlying73 n' (by omega)
  have hZ0 := QB.made w n'
  have hB0 := (Below.refl w.heap.size w).alloc (Nat.le_refl _) (.cells (qcs (List.replicate n' zq)).toArray 47)
  go_wp2_with fail
  generalize w.alloc (.cells (qcs (List.replicate n' zq)).toArray 47) = W1 at *
  obtain ⟨g, hg⟩ : ∃ g, g = w.heap.size := ⟨_, rfl⟩
  rw [← hg] at hZ0 ⊢
  have HG := Lib.hid (show w.heap.size ≤ g by rw [hg]; exact Nat.le_refl _)
  clear hmk hg
  go_loopw [20] (fun iv wr => ∃ (j : Nat) (E : List (Ent × Ent)), iv = .int .i64 j ∧ j ≤ n' ∧ QB wr g E ∧ Hid (E.length = n') ∧ EntJ wr w.heap.size E (fun i => Pq.co (L.map qval) i + Pq.co (L'.map qval) i) j ∧ Below w.heap.size w wr) (fun iv _ => n' - (intOf iv).toNat)
  case atStart => exact ⟨0, _, rfl, Nat.zero_le _, hZ0, Lib.hid (by simp), EntJ.zero _ _ _ _, hB0⟩
  case round =>
   clear hZ0 hB0
   obtain ⟨j, E, rfl, hj, hZ, hEl, hE, hB⟩ := hrel
   by_cases hjm : j = n'
   ·have hmj := hjm.symm
    subst hmj
    clear hjm
    have ho := hZ.own hE HG.out hEl.out (by unfold maxLen; omega)
    have hrd := ho.rd (N := N + N + 1) (fun x hx => by
     obtain ⟨i, _, rfl⟩ := List.mem_map.1 hx
     exact HSZ.out i)
    go_wp2_with fail
    refine (rqnorm_own hrd (by omega) (by omega)).mono ?_
    rintro _ W4 ⟨A4, n4, c4, M4, rfl, ho4, hM4, hb4⟩
    go_wp2
    go_ret
    exact ⟨_, _, _, M4, rfl, ho4.base hB.size, Lib.hid (hM4.out.congr (range_co fun i hi => by rw [Pq.co_ge (L := L.map qval) (by rw [List.length_map, HL.out.1]; have := HM.out; omega), Pq.co_ge (L := L'.map qval) (by rw [List.length_map, HL.out.2]; have := HM.out; omega), Rat.add_zero])), hB.trans (hb4.mono hB.size)⟩
   ·have hjl : j < n' := by omega
    have hjli : (j : Int) < (n' : Int) := by omega
    clear hjm
    have HZ := Lib.hid hZ
    have HE := Lib.hid hE
    clear hZ hE
    go_wp2_with fail
    refine (rqat_any j (h.next hB) h1N).mono ?_
    rintro _ W2 ⟨s1, A1, n1, c1, s2, A2, n2, c2, rfl, hr1, hr2, hn1, hn2, hb2⟩
    have hB2 := hB.trans (hb2.mono hB.size)
    go_wp2_with fail
    refine (rqat_any j (h'.next hB2) h1N).mono ?_
    rintro _ W3 ⟨s3, A3, n3, c3, s4, A4, n4, c4, rfl, hr3, hr4, hn3, hn4, hb3⟩
    have hB3 := hB2.trans (hb3.mono hB2.size)
    go_wp2_with fail
    refine (rQAdd_any (N := N) (hr1.next hb3) (hr2.next hb3) hr3 hr4 ⟨hn1, hn2, hn3, hn4⟩ hN (HD.out.1 j) (HD.out.2 j)).mono ?_
    rintro _ W5 ⟨s5, A5, n5, c5, s6, A6, n6, c6, q, rfl, ho5, hq, hb5⟩
    have hb25 := hb2.trans ((hb3.trans (hb5.mono hb3.size)).mono hb2.size)
    have hB5 := hB.trans (hb25.mono hB.size)
    have hZ4 := HZ.out.next hb25
    have hE4 := HE.out.next hb25
    obtain ⟨e, he⟩ : ∃ e, E[j]? = some e := ⟨E[j]'(by rw [hEl.out]; exact hjl), List.getElem?_eq_getElem _⟩
    obtain ⟨k0, k1, k2, k3⟩ := hZ4.cells he
    have f0 := hZ4.frozen (j * 4)
    have f1 := hZ4.frozen (j * 4 + 1)
    have f2 := hZ4.frozen (j * 4 + 2)
    have f3 := hZ4.frozen (j * 4 + 3)
    have HZ5 := Lib.hid (hZ4.store j ((s5, A5, n5, c5), (s6, A6, n6, c6)))
    have HE5 := Lib.hid (hE4.store (e := ((s5, A5, n5, c5), (s6, A6, n6, c6))) hZ4 (by have := ho5.base (b' := w.heap.size) hB3.size; rw [hq.out] at this; show OwQ W5 w.heap.size s5 A5 n5 c5 s6 A6 n6 c6 (Pq.co (L.map qval) j + Pq.co (L'.map qval) j); rw [← qval_cop, ← qval_cop]; exact this))
    have HB5 := Lib.hid (below_setQ hB5 HG.out j ((s5, A5, n5, c5), (s6, A6, n6, c6)))
    unfold setQ at HZ5 HE5 HB5
    clear hb2 hb3 hb5 hb25 hB hB2 hB3 hB5 hZ4 hE4 he ho5 hr1 hr2 hr3 hr4 hq
    go_wp2_with fail
    go_roundw
    case rel => exact ⟨j + 1, E.set j ((s5, A5, n5, c5), (s6, A6, n6, c6)), by go_num, by omega, HZ5.out, Lib.hid (by rw [List.length_set]; exact hEl.out), HE5.out, HB5.out⟩
    case measure => simp [intOf]; omega
 ·have hlti : decide (n < n') = false := by simp; omega
  have HM := Lib.hid (show n ≤ n ∧ n' ≤ n by omega)
  clear hlt
  have hmk := make_qs Tryz.underlying73 n (by omega)
  have hZ0 := QB.made w n
  have hB0 := (Below.refl w.heap.size w).alloc (Nat.le_refl _) (.cells (qcs (List.replicate n zq)).toArray 47)
  go_wp2_with fail
  generalize w.alloc (.cells (qcs (List.replicate n zq)).toArray 47) = W1 at *
  obtain ⟨g, hg⟩ : ∃ g, g = w.heap.size := ⟨_, rfl⟩
  rw [← hg] at hZ0 ⊢
  have HG := Lib.hid (show w.heap.size ≤ g by rw [hg]; exact Nat.le_refl _)
  clear hmk hg
  go_loopw [20] (fun iv wr => ∃ (j : Nat) (E : List (Ent × Ent)), iv = .int .i64 j ∧ j ≤ n ∧ QB wr g E ∧ Hid (E.length = n) ∧ EntJ wr w.heap.size E (fun i => Pq.co (L.map qval) i + Pq.co (L'.map qval) i) j ∧ Below w.heap.size w wr) (fun iv _ => n - (intOf iv).toNat)
  case atStart => exact ⟨0, _, rfl, Nat.zero_le _, hZ0, Lib.hid (by simp), EntJ.zero _ _ _ _, hB0⟩
  case round =>
   clear hZ0 hB0
   obtain ⟨j, E, rfl, hj, hZ, hEl, hE, hB⟩ := hrel
   by_cases hjm : j = n
   ·have hmj := hjm.symm
    subst hmj
    clear hjm
    have ho := hZ.own hE HG.out hEl.out (by unfold maxLen; omega)
    have hrd := ho.rd (N := N + N + 1) (fun x hx => by
     obtain ⟨i, _, rfl⟩ := List.mem_map.1 hx
     exact HSZ.out i)
    go_wp2_with fail
    refine (rqnorm_own hrd (by omega) (by omega)).mono ?_
    rintro _ W4 ⟨A4, n4, c4, M4, rfl, ho4, hM4, hb4⟩
    go_wp2
    go_ret
    exact ⟨_, _, _, M4, rfl, ho4.base hB.size, Lib.hid (hM4.out.congr (range_co fun i hi => by rw [Pq.co_ge (L := L.map qval) (by rw [List.length_map, HL.out.1]; have := HM.out; omega), Pq.co_ge (L := L'.map qval) (by rw [List.length_map, HL.out.2]; have := HM.out; omega), Rat.add_zero])), hB.trans (hb4.mono hB.size)⟩
   ·have hjl : j < n := by omega
    have hjli : (j : Int) < (n : Int) := by omega
    clear hjm
    have HZ := Lib.hid hZ
    have HE := Lib.hid hE
    clear hZ hE
    go_wp2_with fail
    refine (rqat_any j (h.next hB) h1N).mono ?_
    rintro _ W2 ⟨s1, A1, n1, c1, s2, A2, n2, c2, rfl, hr1, hr2, hn1, hn2, hb2⟩
    have hB2 := hB.trans (hb2.mono hB.size)
    go_wp2_with fail
    refine (rqat_any j (h'.next hB2) h1N).mono ?_
    rintro _ W3 ⟨s3, A3, n3, c3, s4, A4, n4, c4, rfl, hr3, hr4, hn3, hn4, hb3⟩
    have hB3 := hB2.trans (hb3.mono hB2.size)
    go_wp2_with fail
    refine (rQAdd_any (N := N) (hr1.next hb3) (hr2.next hb3) hr3 hr4 ⟨hn1, hn2, hn3, hn4⟩ hN (HD.out.1 j) (HD.out.2 j)).mono ?_
    rintro _ W5 ⟨s5, A5, n5, c5, s6, A6, n6, c6, q, rfl, ho5, hq, hb5⟩
    have hb25 := hb2.trans ((hb3.trans (hb5.mono hb3.size)).mono hb2.size)
    have hB5 := hB.trans (hb25.mono hB.size)
    have hZ4 := HZ.out.next hb25
    have hE4 := HE.out.next hb25
    obtain ⟨e, he⟩ : ∃ e, E[j]? = some e := ⟨E[j]'(by rw [hEl.out]; exact hjl), List.getElem?_eq_getElem _⟩
    obtain ⟨k0, k1, k2, k3⟩ := hZ4.cells he
    have f0 := hZ4.frozen (j * 4)
    have f1 := hZ4.frozen (j * 4 + 1)
    have f2 := hZ4.frozen (j * 4 + 2)
    have f3 := hZ4.frozen (j * 4 + 3)
    have HZ5 := Lib.hid (hZ4.store j ((s5, A5, n5, c5), (s6, A6, n6, c6)))
    have HE5 := Lib.hid (hE4.store (e := ((s5, A5, n5, c5), (s6, A6, n6, c6))) hZ4 (by have := ho5.base (b' := w.heap.size) hB3.size; rw [hq.out] at this; show OwQ W5 w.heap.size s5 A5 n5 c5 s6 A6 n6 c6 (Pq.co (L.map qval) j + Pq.co (L'.map qval) j); rw [← qval_cop, ← qval_cop]; exact this))
    have HB5 := Lib.hid (below_setQ hB5 HG.out j ((s5, A5, n5, c5), (s6, A6, n6, c6)))
    unfold setQ at HZ5 HE5 HB5
    clear hb2 hb3 hb5 hb25 hB hB2 hB3 hB5 hZ4 hE4 he ho5 hr1 hr2 hr3 hr4 hq
    go_wp2_with fail
    go_roundw
    case rel => exact ⟨j + 1, E.set j ((s5, A5, n5, c5), (s6, A6, n6, c6)), by go_num, by omega, HZ5.out, Lib.hid (by rw [List.length_set]; exact hEl.out), HE5.out, HB5.out⟩
    case measure => simp [intOf]; omega
set_option maxRecDepth 100000 in
set_option maxHeartbeats 8000000 in
theorem rqScale_any {N : Nat} {s s' : Bool} {A A' A'' : Option Addr} {n c n' c' n'' c'' : Nat} {L : List (Int × Int)} {z d : Int} {w : World} (h : RdQs w w.heap.size N A n c L) (h' : RdZ w w.heap.size s A' n' c' z) (h'' : RdZ w w.heap.size s' A'' n'' c'' d) (hd : ∀ p ∈ L, p.2 ≠ 0) (hd0 : d ≠ 0) (hn : n ≤ 1048576) (hn' : n' ≤ N) (hn'' : n'' ≤ N) (hN : N ≤ 200000000000) (h1N : 1 ≤ N) :
  Calls Tryz.prog 133 #[.slice A n c, .agg #[.bool s, .slice A' n' c', .bool s', .slice A'' n'' c'']] w (RetPq (fun i => Pq.co (L.map qval) i * Rat.divInt z d) w) := by
 have HSZ := Lib.hid (show ∀ i, Qs (N + N) (Pq.co (L.map qval) i * Rat.divInt z d) from fun i => (h.sz hd h1N i).mul (Qs.divInt hd0 (Nat.le_trans h'.len hn') (Nat.le_trans h''.len hn'')))
 have HLEN := Lib.hid h.len
 have HD := Lib.hid (And.intro hd hd0)
 obtain ⟨W1, HW1⟩ : ∃ W, W = w.alloc (.cells #[.bool s, .slice A' n' c', .bool s', .slice A'' n'' c''] 47) := ⟨_, rfl⟩
 have hX : QC W1 w.heap.size s A' n' c' s' A'' n'' c'' := by rw [HW1]; exact QC.new w s A' n' c' s' A'' n'' c''
 have hB : Below w.heap.size w W1 := by rw [HW1]; exact (Below.refl _ _).alloc (Nat.le_refl _) _
 obtain ⟨W2, HW2⟩ : ∃ W, W = W1.alloc (.cells (qcs (List.replicate n zq)).toArray 47) := ⟨_, rfl⟩
 have hmk := make_qs Tryz.underlying73 n (by omega)
 have hZ0 := QB.made W1 n
 rw [← HW2] at hZ0
 have hb2 : Below W1.heap.size W1 W2 := by rw [HW2]; exact (Below.refl _ _).alloc (Nat.le_refl _) _
 have hB2 := hB.trans (hb2.mono hB.size)
 have hX2 := hX.next hb2
 have e0 : W1.heap.size = w.heap.size + 1 := by rw [HW1]; simp
 rw [e0] at hZ0
 rw [HW1] at HW2
 have HW2 := Lib.hid HW2
 have HH := Lib.hid (show ∀ W : World, Below w.heap.size w W → RdQs W W.heap.size N A n c L ∧ RdZ W W.heap.size s A' n' c' z ∧ RdZ W W.heap.size s' A'' n'' c'' d from fun W hb => ⟨h.next hb, h'.next hb, h''.next hb⟩)
 clear hX hB hb2 h' h'' h hd hd0 HW1 e0
 go_enter Tryz.func133, Tryz.ntmps133
 go_wp2_with fail
 rw [← HW2.out]
 clear HW2
 clear HW2
 clear hmk
 go_loopw [12] (fun iv wr => ∃ (j : Nat) (E : List (Ent × Ent)), iv = .int .i64 j ∧ j ≤ n ∧ QB wr (w.heap.size + 1) E ∧ Hid (E.length = n) ∧ EntJ wr w.heap.size E (fun i => Pq.co (L.map qval) i * Rat.divInt z d) j ∧ Below w.heap.size w wr ∧ QC wr w.heap.size s A' n' c' s' A'' n'' c'') (fun iv _ => n - (intOf iv).toNat)
 case atStart => exact ⟨0, _, rfl, Nat.zero_le _, hZ0, Lib.hid (by simp), EntJ.zero _ _ _ _, hB2, hX2⟩
 case round =>
  clear hZ0 hB2 hX2
  obtain ⟨j, E, rfl, hj, hZ, hEl, hE, hB, hX⟩ := hrel
  by_cases hjm : j = n
  ·have hmj := hjm.symm
   subst hmj
   clear hjm
   have ho := hZ.own hE (Nat.le_succ _) hEl.out (by unfold maxLen; omega)
   have hrd := ho.rd (N := N + N) (fun x hx => by
    obtain ⟨i, _, rfl⟩ := List.mem_map.1 hx
    exact HSZ.out i)
   go_wp2_with fail
   refine (rqnorm_own hrd (by omega) (by omega)).mono ?_
   rintro _ W4 ⟨A4, n4, c4, M4, rfl, ho4, hM4, hb4⟩
   go_wp2
   go_ret
   exact ⟨_, _, _, M4, rfl, ho4.base hB.size, Lib.hid (hM4.out.congr (range_co fun i hi => by rw [Pq.co_ge (L := L.map qval) (by rw [List.length_map, HLEN.out]; exact hi), Rat.zero_mul])), hB.trans (hb4.mono hB.size)⟩
  ·have hjl : j < n := by omega
   have hjli : (j : Int) < (n : Int) := by omega
   clear hjm
   obtain ⟨hl, hr3, hr4⟩ := HH.out wr hB
   obtain ⟨ad, s1, A1, n1, c1, s2, A2, n2, c2, z1, d1, rfl, hbk, hx0, hx1, hx2, hx3, hr1, hr2, hn1, hn2, hp⟩ := qs_at hl hjl
   have HV := Lib.hid (show Pq.co (L.map qval) j = Rat.divInt z1 d1 from Pq.co_get (by rw [List.getElem?_map, hp.out]; rfl))
   have HBD := Lib.hid (Below.refl wr.heap.size wr).drew
   have HMU := Lib.hid (rQMul_any (N := N) (hr1.next HBD.out) (hr2.next HBD.out) (hr3.next HBD.out) (hr4.next HBD.out) ⟨hn1, hn2, hn', hn''⟩ hN (HD.out.1 _ (List.mem_of_getElem? hp.out)) HD.out.2)
   have a0 := hX.c0
   have a1 := hX.c1
   have a2 := hX.c2
   have a3 := hX.c3
   obtain ⟨e, he⟩ : ∃ e, E[j]? = some e := ⟨E[j]'(by rw [hEl.out]; exact hjl), List.getElem?_eq_getElem _⟩
   have HE := Lib.hid he
   have HZ := Lib.hid hZ
   have HEF := Lib.hid hE
   have HX := Lib.hid hX
   clear hl hr1 hr2 hr3 hr4 he hZ hE hX hp
   go_upto_region 5 with fail
   go_region_with (first
    | (go_at_call 124; refine HMU.out.mono ?_; rintro _ W7 ⟨s5, A5, n5, c5, s6, A6, n6, c6, q, rfl, ho7, hq, hb7⟩; have HB7 := Lib.hid (HBD.out.trans hb7); have lb0 := ((HZ.out.next HB7.out).cells HE.out).1; have lb1 := ((HZ.out.next HB7.out).cells HE.out).2.1; have lb2 := ((HZ.out.next HB7.out).cells HE.out).2.2.1; have lb3 := ((HZ.out.next HB7.out).cells HE.out).2.2.2; have lf0 := (HZ.out.next HB7.out).frozen (j * 4); have lf1 := (HZ.out.next HB7.out).frozen (j * 4 + 1); have lf2 := (HZ.out.next HB7.out).frozen (j * 4 + 2); have lf3 := (HZ.out.next HB7.out).frozen (j * 4 + 3)))
   all_goals
    have HZ7 := Lib.hid ((HZ.out.next HB7.out).store j ((s5, A5, n5, c5), (s6, A6, n6, c6)))
    have HE7 := Lib.hid ((HEF.out.next HB7.out).store (e := ((s5, A5, n5, c5), (s6, A6, n6, c6))) (HZ.out.next HB7.out) (by have := ho7.base (b' := w.heap.size) (Nat.le_trans hB.size HBD.out.size); rw [hq.out, ← HV.out] at this; exact this))
    have HX7 := Lib.hid (((((HX.out.next HB7.out).far (p := ⟨w.heap.size + 1, j * 4, none⟩) (by simp) (.bool s5)).far (p := ⟨w.heap.size + 1, j * 4 + 1, none⟩) (by simp) (.slice A5 n5 c5)).far (p := ⟨w.heap.size + 1, j * 4 + 2, none⟩) (by simp) (.bool s6)).far (p := ⟨w.heap.size + 1, j * 4 + 3, none⟩) (by simp) (.slice A6 n6 c6))
    have HBF := Lib.hid (below_setQ (hB.trans (HB7.out.mono hB.size)) (Nat.le_succ w.heap.size) j ((s5, A5, n5, c5), (s6, A6, n6, c6)))
    unfold setQ at HZ7 HE7 HBF
    clear hx0 hx1 hx2 hx3 a0 a1 a2 a3 lb0 lb1 lb2 lb3 lf0 lf1 lf2 lf3 hb7 ho7
    go_wp2
    go_roundw
    case rel => exact ⟨j + 1, E.set j ((s5, A5, n5, c5), (s6, A6, n6, c6)), by go_num, by omega, HZ7.out, Lib.hid (by rw [List.length_set]; exact hEl.out), HE7.out, HBF.out, HX7.out⟩
    case measure => simp [intOf]; omega
set_option maxHeartbeats 1000000 in
theorem rqSub_any {N : Nat} {A A' : Option Addr} {n c n' c' : Nat} {L L' : List (Int × Int)} {w : World} (h : RdQs w w.heap.size N A n c L) (h' : RdQs w w.heap.size N A' n' c' L') (hd : ∀ p ∈ L, p.2 ≠ 0) (hd' : ∀ p ∈ L', p.2 ≠ 0) (hn : n ≤ 1048576) (hn' : n' ≤ 1048576) (hN : N ≤ 90000000000) (h1N : 1 ≤ N) :
  Calls Tryz.prog 159 #[.slice A n c, .slice A' n' c'] w (RetPq (fun i => Pq.co (L.map qval) i - Pq.co (L'.map qval) i) w) := by
 have HSZ := Lib.hid (And.intro (h.sz hd h1N) (h'.sz hd' h1N))
 have HD := Lib.hid (And.intro hd hd')
 have HL := Lib.hid h'.len
 go_enter Tryz.func159, Tryz.ntmps159
 go_wp2_with fail
 refine (rQOf_any (-1) (by decide) (by decide) w).mono ?_
 rintro _ W2 ⟨s2, A2, n2, c2, s3, A3, n3, c3, y2, rfl, ho2, hy2, hb2⟩
 obtain rfl : y2 = ((-1 : Int) : Rat) := hy2.out
 have HQ1 := Lib.hid (show Qs N ((-1 : Int) : Rat) from Qs.int (Nat.le_trans (Zz.zl_small (by decide)) h1N) h1N)
 go_wp2_with fail
 refine (rqScale_any (N := N) (h'.next hb2) ho2.num.rd ho2.den.rd hd' (qden_ne _) hn' (by rw [ho2.num.len]; exact HQ1.out.1) (by rw [ho2.den.len]; exact HQ1.out.2) (by omega) h1N).mono ?_
 rintro _ W3 ⟨A4, n4, c4, M4, rfl, ho4, hM4, hb3⟩
 have hB3 := hb2.trans (hb3.mono hb2.size)
 have hn4 : n4 ≤ 1048576 := by
  rw [← ho4.len]
  exact Nat.le_trans (Pq.nz_len hM4.out.1 (k := n') fun i hi => by
   rw [hM4.out.2]
   show Pq.co (L'.map qval) i * _ = 0
   rw [Pq.co_ge (L := L'.map qval) (by rw [List.length_map, HL.out]; exact hi), Rat.zero_mul]) hn'
 have hrd := ho4.rd (N := N + N) (fun x hx => by
  obtain ⟨i, _, rfl⟩ := Pq.mem_co hx
  rw [hM4.out.2]
  show Qs (N + N) (Pq.co (L'.map qval) i * Rat.divInt _ _)
  rw [Rat.num_divInt_den]
  exact (HSZ.out.2 i).mul HQ1.out)
 go_wp2_with fail
 refine (rqAdd_any (N := N + N) ((h.next hB3).wide (Nat.le_add_right _ _)) hrd hd (fun p hp => by
  obtain ⟨x, _, rfl⟩ := List.mem_map.1 hp
  exact pr_ne x) hn hn4 (by omega) (by omega)).mono ?_
 rintro _ W4 ⟨A5, n5, c5, M5, rfl, ho5, hM5, hb4⟩
 go_wp2
 go_ret
 exact ⟨_, _, _, M5, rfl, ho5.base hB3.size, Lib.hid (hM5.out.congr fun i => by
  rw [map_qval_pr, hM4.out.2]
  show Pq.co (L.map qval) i + Pq.co (L'.map qval) i * Rat.divInt _ _ = _
  rw [Rat.num_divInt_den, show ((-1 : Int) : Rat) = -1 from rfl]
  grind), hB3.trans (hb4.mono hB3.size)⟩
end Go.Proofs.YtjnklbfhelbjgaaGreat

/- rat.Neg; reference 05: Neg. -/
namespace Go.Proofs.YtjnklbfhelbjgaaGreat
open Go.RowKit Go.IntWalk
attribute [local go_sem ↓] Go.wp_at_zero Go.wp_at_succ
set_option maxRecDepth 100000 in
set_option maxHeartbeats 4000000 in
theorem qneg_any {N : Nat} {s s' : Bool} {A A' : Option Addr} {n c n' c' : Nat} {z d : Int} {w : World} (h : RdZ w w.heap.size s A n c z) (h' : RdZ w w.heap.size s' A' n' c' d) (hn : n ≤ N ∧ n' ≤ N) (hN : N ≤ 200000000000) :
  Calls Tryz.prog 37 #[.agg #[.bool s, .slice A n c, .bool s', .slice A' n' c']] w (RetQE (d ≠ 0) (-(Rat.divInt z d)) w) := by
 have heg := enters_of Tryz.func86 (by kernel_rfl) rfl
 obtain ⟨W1, HW1⟩ : ∃ W, W = (w.alloc (.cells #[.bool s, .slice A n c, .bool s', .slice A' n' c'] 47)).alloc (.cells #[.bool false, .slice none 0 0, .bool false, .slice none 0 0] 47) := ⟨_, rfl⟩
 obtain ⟨hX, hR, hB⟩ := q_box1 w s A n c s' A' n' c' W1 HW1
 obtain ⟨W2, HW2⟩ : ∃ W, W = W1.alloc (.cells #[.bool s, .slice A n c, .bool s', .slice A' n' c'] 47) := ⟨_, rfl⟩
 have hq := qs_one (h.next hB) (h'.next hB) hn.1 hn.2 HW2
 have hb2 : Below W1.heap.size W1 W2 := by rw [HW2]; exact (Below.refl _ _).alloc (Nat.le_refl _) _
 have a0 := hX.c0
 have a1 := hX.c1
 have a2 := hX.c2
 have a3 := hX.c3
 have hs1 : W1.heap.size = w.heap.size + 1 + 1 := by rw [HW1]; simp
 rw [hs1] at hq
 rw [HW1] at a0 a1 a2 a3 HW2
 have HQ := Lib.hid hq
 have HR2 := Lib.hid (hR.next hb2)
 have HB2 := Lib.hid (hB.trans (hb2.mono hB.size))
 have HSW := Lib.hid (show w.heap.size ≤ W2.heap.size from Nat.le_trans hB.size hb2.size)
 have HLZ := Lib.hid (show Zz.zl z ≤ N ∧ Zz.zl d ≤ N from ⟨Nat.le_trans h.len hn.1, Nat.le_trans h'.len hn.2⟩)
 have HW2 := Lib.hid HW2
 clear hX hR hB hq hb2 hs1 HW1 h h'
 go_enter Tryz.func37, Tryz.ntmps37
 go_wp2_with fail
 rw [← HW2.out]
 clear HW2 a0 a1 a2 a3
 clear HW2
 refine (made_base (N := N) (z := (-(Rat.divInt z d)).num) (d := (-(Rat.divInt z d)).den) (k := 0) HQ.out (by decide) (by omega) heg (fun hne W A' c' b hb hwb hbb ho => by
  have e1 : d ≠ 0 := hne (z, d) (by simp)
  have h5 := qnegIn_any (N := N) (x := Rat.divInt z d) ho hbb ⟨Nat.le_trans (zl_qnum e1) HLZ.out.1, Nat.le_trans (zl_qden e1) HLZ.out.2⟩ (by omega)
  exact h5.mono fun e w' ⟨s5, A5, n5, c5, y5, s6, A6, n6, c6, y6, kk, k1, k2, k3, k4, k5⟩ => ⟨s5, A5, n5, c5, y5, s6, A6, n6, c6, y6, kk, k1, k2.base hwb, k3.base hwb, k4, k5⟩)).mono ?_
 intro e3 W3 hpost
 obtain ⟨s5, A5, n5, c5, y5, s6, A6, n6, c6, y6, kk, rfl, ho5, ho6, hy, hb3⟩ : RetQE (d ≠ 0) (-(Rat.divInt z d)) W2 e3 W3 := by
  rcases hpost with ⟨hall, s5, A5, n5, c5, y5, s6, A6, n6, c6, y6, kk, k1, k2, k3, k4, k5⟩ | ⟨⟨p, hp, hp0⟩, k1, k2⟩
  ·exact ⟨s5, A5, n5, c5, y5, s6, A6, n6, c6, y6, kk, k1, k2, k3, Lib.hid (.inl ⟨hall (z, d) (by simp), k4.out⟩), k5⟩
  ·refine ⟨false, none, 0, 0, 0, false, none, 0, 0, 0, 6, k1, OwZ.zero _ _, OwZ.zero _ _, Lib.hid (.inr ⟨?_, rfl, rfl, rfl⟩), k2⟩
   intro e1
   obtain rfl := List.mem_singleton.1 hp
   exact e1 hp0
 have hR5 := HR2.out.next hb3
 have r0 := hR5.c0
 have r1 := hR5.c1
 have r2 := hR5.c2
 have r3 := hR5.c3
 have f0 := hR5.fz 0
 have f1 := hR5.fz 1
 have f2 := hR5.fz 2
 have f3 := hR5.fz 3
 have HR9 := Lib.hid (hR5.store s5 A5 n5 c5 s6 A6 n6 c6)
 have HO9 := Lib.hid (And.intro ((ho5.base (b' := w.heap.size) HSW.out).keep (keep_putQ hR5 s5 A5 n5 c5 s6 A6 n6 c6)) ((ho6.base (b' := w.heap.size) HSW.out).keep (keep_putQ hR5 s5 A5 n5 c5 s6 A6 n6 c6)))
 have HB9 := Lib.hid (below_putQ (HB2.out.trans (hb3.mono HB2.out.size)) (show w.heap.size ≤ w.heap.size + 1 by omega) s5 A5 n5 c5 s6 A6 n6 c6)
 unfold putQ at HR9 HB9 HO9
 clear ho5 ho6 hb3 hR5 hpost
 go_wp2_with fail
 generalize (((W3.setCell ⟨w.heap.size + 1, 0, none⟩ (.bool s5)).setCell ⟨w.heap.size + 1, 1, none⟩ (.slice A5 n5 c5)).setCell ⟨w.heap.size + 1, 2, none⟩ (.bool s6)).setCell ⟨w.heap.size + 1, 3, none⟩ (.slice A6 n6 c6) = W9 at *
 have z0 := HR9.out.c0
 have z1 := HR9.out.c1
 have z2 := HR9.out.c2
 have z3 := HR9.out.c3
 exact bodyPost_ret (by simp [results, Tryz.results37, go_sem, z0, z1, z2, z3]) rfl ⟨_, _, _, _, _, _, _, _, _, _, _, rfl, HO9.out.1, HO9.out.2, hy, HB9.out⟩
set_option maxRecDepth 100000 in
set_option maxHeartbeats 4000000 in
theorem rQNeg_any {N : Nat} {s s' : Bool} {A A' : Option Addr} {n c n' c' : Nat} {z d : Int} {w : World} (h : RdZ w w.heap.size s A n c z) (h' : RdZ w w.heap.size s' A' n' c' d) (hn : n ≤ N ∧ n' ≤ N) (hN : N ≤ 200000000000) (hd : d ≠ 0) :
  Calls Tryz.prog 53 #[.agg #[.bool s, .slice A n c, .bool s', .slice A' n' c']] w (RetV4 (-(Rat.divInt z d)) w) := by
 obtain ⟨W1, HW1⟩ : ∃ W, W = (w.alloc (.cells #[.bool s, .slice A n c, .bool s', .slice A' n' c'] 47)).alloc (.cells #[.bool false, .slice none 0 0, .bool false, .slice none 0 0] 47) := ⟨_, rfl⟩
 obtain ⟨hX, hR, hB⟩ := q_box1 w s A n c s' A' n' c' W1 HW1
 have HCE := Lib.hid (show ∀ W : World, Below W1.heap.size W1 W → (W.cell? ⟨w.heap.size, 0, none⟩ = some (.bool s) ∧ W.cell? ⟨w.heap.size, 1, none⟩ = some (.slice A n c) ∧ W.cell? ⟨w.heap.size, 2, none⟩ = some (.bool s') ∧ W.cell? ⟨w.heap.size, 3, none⟩ = some (.slice A' n' c')) from fun W hb => ⟨(hX.next hb).c0, (hX.next hb).c1, (hX.next hb).c2, (hX.next hb).c3⟩)
 have HRD := Lib.hid (show ∀ W : World, Below W1.heap.size W1 W → RdZ W W.heap.size s A n c z ∧ RdZ W W.heap.size s' A' n' c' d from fun W hb => ⟨(h.next hB).next hb, (h'.next hB).next hb⟩)
 have HRR := Lib.hid (show ∀ W : World, Below W1.heap.size W1 W → QC W (w.heap.size + 1) false none 0 0 false none 0 0 from fun W hb => hR.next hb)
 have HCP := Lib.hid (show ∀ (W : World) (t : Bool) (D : Option Addr) (k m : Nat) (t' : Bool) (D' : Option Addr) (k' m' : Nat), Below W1.heap.size W1 W → ((putQ W (w.heap.size + 1) t D k m t' D' k' m').cell? ⟨w.heap.size, 0, none⟩ = some (.bool s) ∧ (putQ W (w.heap.size + 1) t D k m t' D' k' m').cell? ⟨w.heap.size, 1, none⟩ = some (.slice A n c) ∧ (putQ W (w.heap.size + 1) t D k m t' D' k' m').cell? ⟨w.heap.size, 2, none⟩ = some (.bool s') ∧ (putQ W (w.heap.size + 1) t D k m t' D' k' m').cell? ⟨w.heap.size, 3, none⟩ = some (.slice A' n' c')) from fun W t D k m t' D' k' m' hb => by
  have hP := below_putQ (Below.refl (w.heap.size + 1) W) (Nat.le_refl (w.heap.size + 1)) t D k m t' D' k' m'
  obtain ⟨e0, e1, e2, e3⟩ := HCE.out W hb
  have hg : w.heap.size < w.heap.size + 1 := Nat.lt_succ_self _
  exact ⟨(hP.cell (p := ⟨w.heap.size, 0, none⟩) hg).trans e0, (hP.cell (p := ⟨w.heap.size, 1, none⟩) hg).trans e1, (hP.cell (p := ⟨w.heap.size, 2, none⟩) hg).trans e2, (hP.cell (p := ⟨w.heap.size, 3, none⟩) hg).trans e3⟩)
 unfold putQ at HCP
 have HD := Lib.hid (Below.refl W1.heap.size W1).drew
 have HB := Lib.hid hB
 have HZN := Lib.hid (show Zz.zl z ≤ N from Nat.le_trans h.len hn.1)
 have HDN := Lib.hid hd
 have HW1 := Lib.hid HW1
 clear hX hR hB h h' hd
 obtain ⟨a0, a1, a2, a3⟩ := HCE.out W1 (Below.refl _ _)
 go_enter Tryz.func53, Tryz.ntmps53
 go_upto_region 1 with fail
 rw [← HW1.out]
 clear HW1
 clear HW1
 go_region_held3 (fun w' => w'.cell? ⟨w.heap.size, 0, none⟩ = some (.bool s) ∧ w'.cell? ⟨w.heap.size, 1, none⟩ = some (.slice A n c) ∧ w'.cell? ⟨w.heap.size, 2, none⟩ = some (.bool s') ∧ w'.cell? ⟨w.heap.size, 3, none⟩ = some (.slice A' n' c'))
  (first | exact HCE.out _ HB3.out | exact HCE.out _ HB2.out | exact HCE.out _ HD.out | exact HCP.out _ _ _ _ _ _ _ _ _ HB3.out)
  (first
   | (go_at_call 98; refine (rQMake_any HO2.out.rd (HRD.out _ HB2.out).2 HN2.out (by omega) HDN.out).mono ?_; rintro _ W3 ⟨s5, A5, n5, c5, s6, A6, n6, c6, y, rfl, ho5, hy, hb3⟩; have HB3 := Lib.hid (HB2.out.trans (hb3.mono HB2.out.size)); have hR4 := HRR.out _ HB3.out; have r0 := hR4.c0; have r1 := hR4.c1; have r2 := hR4.c2; have r3 := hR4.c3; have f0 := hR4.fz 0; have f1 := hR4.fz 1; have f2 := hR4.fz 2; have f3 := hR4.fz 3)
   | (go_at_call 99; refine (rINeg_any (HRD.out _ HD.out).1 (by omega)).mono ?_; rintro _ W2 ⟨s2, A2, n2, c2, y2, rfl, ho2, hy2, hb2⟩; have HB2 := Lib.hid (HD.out.trans hb2); have HO2 := Lib.hid ho2; have HN2 := Lib.hid (show n2 ≤ 1000000000000 by { rw [ho2.len, hy2.out, Zz.zl_neg]; have := HZN.out; omega })))
 all_goals
  have hR4' := HRR.out _ HB3.out
  have HR9 := Lib.hid (hR4'.store s5 A5 n5 c5 s6 A6 n6 c6)
  have HO9 := Lib.hid ((ho5.base (b' := w.heap.size) (Nat.le_trans HB.out.size HB2.out.size)).keep (keep_putQ hR4' s5 A5 n5 c5 s6 A6 n6 c6))
  have HB9 := Lib.hid (below_putQ (HB.out.trans (HB3.out.mono HB.out.size)) (Nat.le_succ w.heap.size) s5 A5 n5 c5 s6 A6 n6 c6)
  have HV := Lib.hid (show y = -(Rat.divInt z d) by rw [hy.out, hy2.out, Rat.neg_divInt])
  unfold putQ at HR9 HO9 HB9
  clear a0 a1 a2 a3 r0 r1 r2 r3 f0 f1 f2 f3 hR4 hR4' ho2 ho5 hb2 hb3 hy
  generalize (((W3.setCell ⟨w.heap.size + 1, 0, none⟩ (.bool s5)).setCell ⟨w.heap.size + 1, 1, none⟩ (.slice A5 n5 c5)).setCell ⟨w.heap.size + 1, 2, none⟩ (.bool s6)).setCell ⟨w.heap.size + 1, 3, none⟩ (.slice A6 n6 c6) = W9 at *
  have z0 := HR9.out.c0
  have z1 := HR9.out.c1
  have z2 := HR9.out.c2
  have z3 := HR9.out.c3
  go_wp2
  exact bodyPost_ret (by simp [results, Tryz.results53, go_sem, z0, z1, z2, z3]) rfl ⟨_, _, _, _, _, _, _, _, _, rfl, HO9.out, HV, HB9.out⟩
end Go.Proofs.YtjnklbfhelbjgaaGreat

/- Rows of integers that came in, word by word; are the rows equally long? -/
namespace Go.Proofs.YtjnklbfhelbjgaaGreat
open Go.RowKit Go.IntWalk
attribute [local go_sem ↓] Go.wp_at_zero Go.wp_at_succ
abbrev RawRow := List (Bool × List Nat)
structure RdRss (w : World) (B N K : Nat) (A : Option Addr) (n c : Nat) (RR : List RawRow) : Prop where
 len : RR.length = n
 le : n ≤ c
 mx : c ≤ maxLen
 at_ : ∀ (j : Nat) (R : RawRow), RR[j]? = some R → ∃ (ad : Addr) (A1 : Option Addr) (n1 c1 : Nat), A = some ad ∧ ad.block < B ∧ w.cell? (ad.add j) = some (.slice A1 n1 c1) ∧ RdRs w B N A1 n1 c1 R ∧ n1 ≤ K
section
variable {w w' : World} {B B' N K : Nat} {A : Option Addr} {n c : Nat} {RR : List RawRow}
theorem RdRss.below (h : RdRss w B N K A n c RR) (hb : Below B w w') : RdRss w' B N K A n c RR :=
 ⟨h.len, h.le, h.mx, fun j L hp => by
  obtain ⟨ad, A1, n1, c1, h1, h2, h3, h4, h5⟩ := h.at_ j L hp
  exact ⟨ad, A1, n1, c1, h1, h2, (hb.cell (p := ad.add j) (by rw [add_blk]; exact h2)).trans h3, h4.below hb, h5⟩⟩
theorem RdRss.more (h : RdRss w B N K A n c RR) (hB : B ≤ B') : RdRss w B' N K A n c RR :=
 ⟨h.len, h.le, h.mx, fun j L hp => by
  obtain ⟨ad, A1, n1, c1, h1, h2, h3, h4, h5⟩ := h.at_ j L hp
  exact ⟨ad, A1, n1, c1, h1, Nat.lt_of_lt_of_le h2 hB, h3, h4.more hB, h5⟩⟩
theorem RdRss.next (h : RdRss w w.heap.size N K A n c RR) (hb : Below w.heap.size w w') : RdRss w' w'.heap.size N K A n c RR := (h.below hb).more hb.size
theorem rss_at (h : RdRss w B N K A n c RR) {j : Nat} (hj : j < n) :
  ∃ (ad : Addr) (A1 : Option Addr) (n1 c1 : Nat) (R : RawRow), A = some ad ∧ ad.block < B ∧ w.cell? (ad.add j) = some (.slice A1 n1 c1) ∧ RdRs w B N A1 n1 c1 R ∧ n1 ≤ K ∧ Hid (RR[j]? = some R) := by
 have hl : j < RR.length := by rw [h.len]; exact hj
 obtain ⟨ad, A1, n1, c1, h1, h2, h3, h4, h5⟩ := h.at_ j RR[j] (List.getElem?_eq_getElem hl)
 exact ⟨ad, A1, n1, c1, _, h1, h2, h3, h4, h5, Lib.hid (List.getElem?_eq_getElem hl)⟩
end
def colsOf (RR : List RawRow) : Nat := (RR.headD []).length
def Evn (RR : List RawRow) : Prop := ∀ R ∈ RR, R.length = colsOf RR
set_option maxRecDepth 100000 in
set_option maxHeartbeats 2000000 in
theorem even_any {N K : Nat} {A : Option Addr} {n c : Nat} {RR : List RawRow} {w : World} (h : RdRss w w.heap.size N K A n c RR) (hn : n ≤ 1048576) :
  Calls Tryz.prog 136 #[.slice A n c] w (RetBo (Evn RR) w) := by
 have H := Lib.hid h
 clear h
 go_enter Tryz.func136, Tryz.ntmps136
 go_wp2_with fail
 go_loopw [7] (fun iv wr => ∃ (j : Nat), iv = .int .i64 (j : Int) ∧ j ≤ n ∧ Hid (∀ (i : Nat) (R : RawRow), i < j → RR[i]? = some R → R.length = colsOf RR) ∧ Below w.heap.size w wr) (fun iv _ => n - (intOf iv).toNat)
 case atStart => exact ⟨0, rfl, Nat.zero_le _, Lib.hid fun i R hi => absurd hi (Nat.not_lt_zero _), Below.refl _ _⟩
 case round =>
  obtain ⟨j, rfl, hj, hall, hB⟩ := hrel
  by_cases hjn : j = n
  ·have HE := Lib.hid (show Evn RR from fun R hR => by
    obtain ⟨i, hi, e⟩ := List.mem_iff_getElem.1 hR
    exact hall.out i R (by rw [hjn, ← H.out.len]; exact hi) (by rw [List.getElem?_eq_getElem hi, e]))
   subst hjn
   have HB := Lib.hid hB
   clear hB hall
   go_wp2
   go_ret
   exact ⟨true, rfl, Lib.hid ⟨fun _ => HE.out, fun _ => rfl⟩, HB.out⟩
  ·have hjl : j < n := by omega
   have hjli : (j : Int) < (n : Int) := by omega
   have hn0 : (0 : Int) < (n : Int) := by omega
   have h0n : 0 < n := by omega
   clear hjn
   have h' := H.out.next hB
   obtain ⟨ad, A1, n1, c1, R, rfl, hbk, hx, hr, hn1, hp⟩ := rss_at h' hjl
   obtain ⟨ad', A2, n2, c2, R0, e, _, hy, hr0, hn2, hp0⟩ := rss_at h' h0n
   injection e with e
   subst e
   have HC := Lib.hid (show colsOf RR = n2 from by
    unfold colsOf
    have e1 := hp0.out
    cases RR with
    | nil => simp at e1
    | cons a t => simp at e1; subst e1; exact hr0.len)
   have HR := Lib.hid (show R.length = n1 from hr.len)
   have hy' : wr.cell? ad = some (.slice A2 n2 c2) := by
    have : ad.add 0 = ad := by simp [Addr.add]
    rw [← this]; exact hy
   have HB := Lib.hid hB
   clear hr hr0 hB h'
   by_cases hne : n1 = n2
   ·have hb : decide ((n1 : Int) = (n2 : Int)) = true := by simp [hne]
    have hb2 : ((n1 : Int) == (n2 : Int)) = true := by simp [hne]
    have hb3 : (n1 : Int) = (n2 : Int) := by omega
    have HA := Lib.hid (show ∀ (i : Nat) (R : RawRow), i < j + 1 → RR[i]? = some R → R.length = colsOf RR from fun i R' hi hq => by
     rcases Nat.lt_or_ge i j with h1 | h1
     ·exact hall.out i R' h1 hq
     ·rw [show i = j by omega, hp.out] at hq
      injection hq with hq
      rw [← hq, HR.out, HC.out, hne])
    clear hne hall
    go_wp2
    go_roundw
    case rel => exact ⟨j + 1, by go_num, by omega, HA, HB.out⟩
    case measure => simp [intOf]; omega
   ·have hb2 : ((n1 : Int) == (n2 : Int)) = false := by simp; omega
    have hb3 : ¬(n1 : Int) = (n2 : Int) := by omega
    have HA := Lib.hid (show ¬Evn RR from fun e => hne (by rw [← HR.out, ← HC.out]; exact e R (List.mem_of_getElem? hp.out)))
    clear hne hall
    go_wp2
    go_ret
    exact ⟨false, rfl, Lib.hid ⟨fun e => by simp at e, fun e => absurd e HA.out⟩, HB.out⟩
set_option maxRecDepth 100000 in
set_option maxHeartbeats 2000000 in
theorem cols_any {N K : Nat} {A : Option Addr} {n c : Nat} {RR : List RawRow} {w : World} (h : RdRss w w.heap.size N K A n c RR) (hn : n ≤ 1048576) :
  Calls Tryz.prog 174 #[.slice A n c] w (RetK (colsOf RR : Int) w) := by
 have HB := Lib.hid (Below.refl w.heap.size w)
 have HL := Lib.hid h.len
 go_enter Tryz.func174, Tryz.ntmps174
 by_cases h0 : n = 0
 ·have HC := Lib.hid (show colsOf RR = 0 from by
   have e := HL.out
   unfold colsOf
   cases RR with
   | nil => rfl
   | cons a t => simp at e; omega)
  subst h0
  go_wp2
  go_ret
  exact ⟨0, rfl, Lib.hid (by rw [HC.out]; rfl), HB.out⟩
 ·have h0n : 0 < n := by omega
  have hn0 : (0 : Int) < (n : Int) := by omega
  have hnz : ((n : Int) == 0) = false := by simp; omega
  have hnz2 : ¬(n : Int) = 0 := by omega
  clear h0
  obtain ⟨ad, A2, n2, c2, R0, rfl, _, hy, hr0, hn2, hp0⟩ := rss_at h h0n
  have HC := Lib.hid (show colsOf RR = n2 from by
   unfold colsOf
   have e1 := hp0.out
   cases RR with
   | nil => simp at e1
   | cons a t => simp at e1; subst e1; exact hr0.len)
  have hy' : w.cell? ad = some (.slice A2 n2 c2) := by
   have : ad.add 0 = ad := by simp [Addr.add]
   rw [← this]; exact hy
  clear hr0 h hp0
  go_wp2
  go_ret
  exact ⟨_, rfl, Lib.hid (by rw [HC.out]), HB.out⟩
end Go.Proofs.YtjnklbfhelbjgaaGreat

/- A matrix's cells; qmat: Check, size, Size. -/
namespace Go.Proofs.YtjnklbfhelbjgaaGreat
open Go.RowKit Go.IntWalk
attribute [local go_sem ↓] Go.wp_at_zero Go.wp_at_succ
def MC (w : World) (g : Nat) (s : Bool) (A : Option Addr) (n c : Nat) (G : Option Addr) (r k : Nat) : Prop := w.heap[g]? = some (.cells #[.bool s, .slice A n c, .slice G r k] 28 (0, 0))
section
variable {w w' : World} {g : Nat} {s : Bool} {A G : Option Addr} {n c r k : Nat}
theorem MC.lt (h : MC w g s A n c G r k) : g < w.heap.size := (Array.getElem?_eq_some_iff.1 h).1
theorem MC.c0 (h : MC w g s A n c G r k) : w.cell? ⟨g, 0, none⟩ = some (.bool s) := by rw [cell_of_row w g 0 _ _ _ h]; rfl
theorem MC.c1 (h : MC w g s A n c G r k) : w.cell? ⟨g, 1, none⟩ = some (.slice A n c) := by rw [cell_of_row w g 1 _ _ _ h]; rfl
theorem MC.c2 (h : MC w g s A n c G r k) : w.cell? ⟨g, 2, none⟩ = some (.slice G r k) := by rw [cell_of_row w g 2 _ _ _ h]; rfl
theorem MC.fz (h : MC w g s A n c G r k) (j : Nat) : w.frozen? ⟨g, j, none⟩ = false := frozen_of_row w g j _ _ h
theorem MC.next (h : MC w g s A n c G r k) (hb : Below w.heap.size w w') : MC w' g s A n c G r k := (hb.block g h.lt).trans h
theorem MC.new (w : World) (s : Bool) (A : Option Addr) (n c : Nat) (G : Option Addr) (r k : Nat) : MC (w.alloc (.cells #[.bool s, .slice A n c, .slice G r k] 28)) w.heap.size s A n c G r k := heap_alloc_new w _
end
instance (RR : List RawRow) : Decidable (Evn RR) := by unfold Evn; infer_instance
def chk (d : Int) (RR : List RawRow) : Int := if d = 0 then 6 else if Evn RR then 0 else 2
set_option maxRecDepth 100000 in
set_option maxHeartbeats 2000000 in
theorem mcheck_any {N K : Nat} {s : Bool} {A G : Option Addr} {n c r k : Nat} {d : Int} {RR : List RawRow} {w : World} (h : RdZ w w.heap.size s A n c d) (h' : RdRss w w.heap.size N K G r k RR) (hn : n ≤ 17592186044416) (hr : r ≤ 1048576) :
  Calls Tryz.prog 82 #[.agg #[.bool s, .slice A n c, .slice G r k]] w (RetK (chk d RR) w) := by
 obtain ⟨W1, HW1⟩ : ∃ W, W = w.alloc (.cells #[.bool s, .slice A n c, .slice G r k] 28) := ⟨_, rfl⟩
 have hM : MC W1 w.heap.size s A n c G r k := by rw [HW1]; exact MC.new w s A n c G r k
 have hB : Below w.heap.size w W1 := by rw [HW1]; exact (Below.refl _ _).alloc (Nat.le_refl _) _
 have HM := Lib.hid hM
 have HB := Lib.hid hB
 have HX := Lib.hid (And.intro (h.next hB) (h'.next hB))
 have HW1 := Lib.hid HW1
 clear h h' hM hB
 go_enter Tryz.func82, Tryz.ntmps82
 go_wp2_with fail
 rw [← HW1.out]
 clear HW1
 clear HW1
 refine (sign_any HX.out.1 hn).mono ?_
 rintro _ W2 ⟨v, rfl, hv, hb2⟩
 have HB2 := Lib.hid (HB.out.trans (hb2.mono HB.out.size))
 have hR2 := HX.out.2.next hb2
 have m2 := (HM.out.next hb2).c2
 by_cases h0 : v = 0
 ·have HC := Lib.hid (show chk d RR = 6 from if_pos (Int.sign_eq_zero_iff_zero.1 (by rw [← hv.out]; exact h0)))
  subst h0
  clear hv hb2 hR2
  go_wp2
  go_ret
  exact ⟨6, rfl, Lib.hid HC.out.symm, HB2.out⟩
 ·have hvb : (v == 0) = false := by simp [h0]
  have HD := Lib.hid (show d ≠ 0 from fun e => h0 (by rw [hv.out, e]; rfl))
  clear hv
  go_wp2_with fail
  refine (even_any hR2 hr).mono ?_
  rintro _ W3 ⟨b, rfl, hb, hb3⟩
  have HB3 := Lib.hid (HB2.out.trans (hb3.mono HB2.out.size))
  have HBB := Lib.hid hb.out
  clear hb hb2 hb3 hR2 m2
  cases b
  case true =>
   have HC := Lib.hid (show chk d RR = 0 from by unfold chk; rw [if_neg HD.out, if_pos (HBB.out.1 (by first | rfl | trivial))])
   clear HBB
   go_wp2
   go_ret
   exact ⟨0, rfl, Lib.hid HC.out.symm, HB3.out⟩
  case false =>
   have HC := Lib.hid (show chk d RR = 2 from by unfold chk; rw [if_neg HD.out, if_neg (fun e => by have := HBB.out.2 e; simp at this)])
   clear HBB
   go_wp2
   go_ret
   exact ⟨2, rfl, Lib.hid HC.out.symm, HB3.out⟩
end Go.Proofs.YtjnklbfhelbjgaaGreat

/- qmat: size, Size; reference 11: Check, Size. -/
namespace Go.Proofs.YtjnklbfhelbjgaaGreat
open Go.RowKit Go.IntWalk
attribute [local go_sem ↓] Go.wp_at_zero Go.wp_at_succ
def RetKK (a b : Int) (w : World) (e : Ending) (w' : World) : Prop := ∃ x y : Int, e = .returned (.tuple #[.int .i64 x, .int .i64 y]) ∧ Hid (x = a ∧ y = b) ∧ Below w.heap.size w w'
def SizV (d : Int) (RR : List RawRow) (x y z : Int) : Prop := (chk d RR = 0 ∧ x = RR.length ∧ y = colsOf RR ∧ z = 0) ∨ (chk d RR ≠ 0 ∧ x = 0 ∧ y = 0 ∧ z = chk d RR)
def RetSz (d : Int) (RR : List RawRow) (w : World) (e : Ending) (w' : World) : Prop := ∃ x y z : Int, e = .returned (.tuple #[.int .i64 x, .int .i64 y, .int .i64 z]) ∧ Hid (SizV d RR x y z) ∧ Below w.heap.size w w'
set_option maxRecDepth 100000 in
set_option maxHeartbeats 2000000 in
theorem msize_any {N K : Nat} {s : Bool} {A G : Option Addr} {n c r k : Nat} {RR : List RawRow} {w : World} (h' : RdRss w w.heap.size N K G r k RR) (hr : r ≤ 1048576) :
  Calls Tryz.prog 134 #[.agg #[.bool s, .slice A n c, .slice G r k]] w (RetKK RR.length (colsOf RR) w) := by
 obtain ⟨W1, HW1⟩ : ∃ W, W = w.alloc (.cells #[.bool s, .slice A n c, .slice G r k] 28) := ⟨_, rfl⟩
 have hM : MC W1 w.heap.size s A n c G r k := by rw [HW1]; exact MC.new w s A n c G r k
 have hB : Below w.heap.size w W1 := by rw [HW1]; exact (Below.refl _ _).alloc (Nat.le_refl _) _
 have HM := Lib.hid (show ∀ W, Below W1.heap.size W1 W → W.cell? ⟨w.heap.size, 2, none⟩ = some (.slice G r k) from fun W hb => (hM.next hb).c2)
 have HB := Lib.hid hB
 have HX := Lib.hid (h'.next hB)
 have HL := Lib.hid h'.len
 have HD := Lib.hid (Below.refl W1.heap.size W1).drew
 have HW1 := Lib.hid HW1
 clear h' hM hB
 go_enter Tryz.func134, Tryz.ntmps134
 go_upto_region 1 with fail
 rw [← HW1.out]
 clear HW1
 clear HW1
 have m2 := HM.out W1 (Below.refl _ _)
 go_region_held3 (fun w' => w'.cell? ⟨w.heap.size, 2, none⟩ = some (.slice G r k))
  (first | exact HM.out _ HB2.out | exact HM.out _ HD.out)
  (first
   | (go_at_call 174; refine (cols_any (HX.out.next HD.out) hr).mono ?_; rintro _ W2 ⟨v, rfl, hv, hb2⟩; have HB2 := Lib.hid (HD.out.trans hb2)))
 all_goals
  have HF := Lib.hid (HB.out.trans (HB2.out.mono HB.out.size))
  clear m2 hb2
  go_wp2
  go_ret2
  exact ⟨_, _, rfl, Lib.hid ⟨by rw [HL.out], hv.out⟩, HF.out⟩
set_option maxRecDepth 100000 in
set_option maxHeartbeats 2000000 in
theorem mSize_any {N K : Nat} {s : Bool} {A G : Option Addr} {n c r k : Nat} {d : Int} {RR : List RawRow} {w : World} (h : RdZ w w.heap.size s A n c d) (h' : RdRss w w.heap.size N K G r k RR) (hn : n ≤ 17592186044416) (hr : r ≤ 1048576) :
  Calls Tryz.prog 80 #[.agg #[.bool s, .slice A n c, .slice G r k]] w (RetSz d RR w) := by
 obtain ⟨W1, HW1⟩ : ∃ W, W = w.alloc (.cells #[.bool s, .slice A n c, .slice G r k] 28) := ⟨_, rfl⟩
 have hM : MC W1 w.heap.size s A n c G r k := by rw [HW1]; exact MC.new w s A n c G r k
 have hB : Below w.heap.size w W1 := by rw [HW1]; exact (Below.refl _ _).alloc (Nat.le_refl _) _
 have HM := Lib.hid hM
 have HB := Lib.hid hB
 have HX := Lib.hid (And.intro (h.next hB) (h'.next hB))
 have m0 := hM.c0
 have m1 := hM.c1
 have m2 := hM.c2
 rw [HW1] at m0 m1 m2
 have HW1 := Lib.hid HW1
 clear h h' hM hB
 go_enter Tryz.func80, Tryz.ntmps80
 go_wp2_with fail
 rw [← HW1.out]
 clear HW1
 clear HW1
 refine (mcheck_any HX.out.1 HX.out.2 hn hr).mono ?_
 rintro _ W2 ⟨v, rfl, hv, hb2⟩
 have HB2 := Lib.hid (HB.out.trans (hb2.mono HB.out.size))
 have HR2 := Lib.hid (HX.out.2.next hb2)
 have q0 := (HM.out.next hb2).c0
 have q1 := (HM.out.next hb2).c1
 have q2 := (HM.out.next hb2).c2
 clear m0 m1 m2 hb2
 by_cases h0 : v = 0
 ·have HC := Lib.hid (show chk d RR = 0 from by rw [← hv.out]; exact h0)
  subst h0
  clear hv
  go_wp2_with fail
  refine (msize_any HR2.out hr).mono ?_
  rintro _ W3 ⟨x, y, rfl, hxy, hb3⟩
  have HB3 := Lib.hid (HB2.out.trans (hb3.mono HB2.out.size))
  clear hb3 q0 q1 q2
  go_wp2
  go_ret3
  exact ⟨x, y, 0, rfl, Lib.hid (.inl ⟨HC.out, hxy.out.1, hxy.out.2, rfl⟩), HB3.out⟩
 ·have hvb : (v == 0) = false := by simp [h0]
  have HC := Lib.hid (show chk d RR ≠ 0 from by rw [← hv.out]; exact h0)
  clear q0 q1 q2
  go_wp2
  go_ret3
  exact ⟨0, 0, v, rfl, Lib.hid (.inr ⟨HC.out, rfl, rfl, hv.out⟩), HB2.out⟩
set_option maxRecDepth 100000 in
set_option maxHeartbeats 4000000 in
theorem rMSize_any {N K : Nat} {s : Bool} {A G : Option Addr} {n c r k : Nat} {RR : List RawRow} {w : World} (h' : RdRss w w.heap.size N K G r k RR) (hr : r ≤ 1048576) :
  Calls Tryz.prog 45 #[.agg #[.bool s, .slice A n c, .slice G r k]] w (RetKK RR.length (colsOf RR) w) := by
 obtain ⟨W1, HW1⟩ : ∃ W, W = w.alloc (.cells #[.bool s, .slice A n c, .slice G r k] 28) := ⟨_, rfl⟩
 have hM : MC W1 w.heap.size s A n c G r k := by rw [HW1]; exact MC.new w s A n c G r k
 have hB : Below w.heap.size w W1 := by rw [HW1]; exact (Below.refl _ _).alloc (Nat.le_refl _) _
 have HB := Lib.hid hB
 have HBd := Lib.hid hB.drew
 have HX := Lib.hid (h'.next hB)
 have HL := Lib.hid h'.len
 have HM := Lib.hid hM
 have m2 := hM.c2
 rw [HW1] at m2
 have HW1 := Lib.hid HW1
 clear h' hM hB
 go_enter Tryz.func45, Tryz.ntmps45
 by_cases h0 : r = 0
 ·have HC := Lib.hid (show RR = [] from List.eq_nil_of_length_eq_zero (by rw [HL.out]; exact h0))
  subst h0
  go_wp2
  rw [← HW1.out]
  clear HW1 m2
  clear HW1
  go_ret2
  exact ⟨0, 0, rfl, Lib.hid (by rw [HC.out]; exact ⟨rfl, rfl⟩), HB.out⟩
 ·have h0n : 0 < r := by omega
  have hn0 : (0 : Int) < (r : Int) := by omega
  have hnz : ((r : Int) == 0) = false := by simp; omega
  have hnz2 : ¬(r : Int) = 0 := by omega
  clear h0
  go_upto_region 3 with fail
  rw [← HW1.out]
  clear HW1 m2
  clear HW1
  obtain ⟨ad, A2, n2, c2, R0, rfl, hbk, hy, hr0, hn2, hp0⟩ := rss_at HX.out h0n
  have HC := Lib.hid (show colsOf RR = n2 from by
   unfold colsOf
   have e1 := hp0.out
   cases RR with
   | nil => simp at e1
   | cons a t => simp at e1; subst e1; exact hr0.len)
  have hy' : W1.cell? ad = some (.slice A2 n2 c2) := by
   have : ad.add 0 = ad := by simp [Addr.add]
   rw [← this]; exact hy
  have m2 := HM.out.c2
  clear hr0 hp0
  go_region_held3 (fun w' => w'.cell? ⟨w.heap.size, 2, none⟩ = some (.slice (some ad) r k) ∧ w'.cell? (ad.add 0) = some (.slice A2 n2 c2) ∧ w'.cell? ad = some (.slice A2 n2 c2))
   (exact ⟨m2, hy, hy'⟩)
   (fail)
  all_goals
   clear m2 hy hy'
   go_wp2
   go_ret2
   exact ⟨_, _, rfl, Lib.hid ⟨by rw [HL.out], by rw [HC.out]⟩, HBd.out⟩
end Go.Proofs.YtjnklbfhelbjgaaGreat

/- Reference 11: Check. -/
namespace Go.Proofs.YtjnklbfhelbjgaaGreat
open Go.RowKit Go.IntWalk
attribute [local go_sem ↓] Go.wp_at_zero Go.wp_at_succ
set_option maxRecDepth 100000 in
set_option maxHeartbeats 4000000 in
theorem rMCheck_any {N K : Nat} {s : Bool} {A G : Option Addr} {n c r k : Nat} {d : Int} {RR : List RawRow} {w : World} (h : RdZ w w.heap.size s A n c d) (h' : RdRss w w.heap.size N K G r k RR) (hn : n ≤ 17592186044416) (hr : r ≤ 1048576) :
  Calls Tryz.prog 44 #[.agg #[.bool s, .slice A n c, .slice G r k]] w (RetK (chk d RR) w) := by
 obtain ⟨W1, HW1⟩ : ∃ W, W = w.alloc (.cells #[.bool s, .slice A n c, .slice G r k] 28) := ⟨_, rfl⟩
 have hM : MC W1 w.heap.size s A n c G r k := by rw [HW1]; exact MC.new w s A n c G r k
 have hB : Below w.heap.size w W1 := by rw [HW1]; exact (Below.refl _ _).alloc (Nat.le_refl _) _
 have HM := Lib.hid hM
 have HB := Lib.hid hB
 have HX := Lib.hid (And.intro (h.next hB) (h'.next hB))
 have m0 := hM.c0
 have m1 := hM.c1
 rw [HW1] at m0 m1
 have HW1 := Lib.hid HW1
 clear h h' hM hB
 go_enter Tryz.func44, Tryz.ntmps44
 go_wp2_with fail
 rw [← HW1.out]
 clear HW1
 clear HW1
 refine (rISign_any HX.out.1 hn).mono ?_
 rintro _ W2 ⟨v, rfl, hv, hb2⟩
 have HB2 := Lib.hid (HB.out.trans (hb2.mono HB.out.size))
 have HR2 := Lib.hid (HX.out.2.next hb2)
 have HM2 := Lib.hid (HM.out.next hb2)
 clear m0 m1
 by_cases h0 : v = 0
 ·have HC := Lib.hid (show chk d RR = 6 from if_pos (Int.sign_eq_zero_iff_zero.1 (by rw [← hv.out]; exact h0)))
  subst h0
  clear hv hb2
  go_wp2
  go_ret
  exact ⟨6, rfl, Lib.hid HC.out.symm, HB2.out⟩
 ·have hvb : (v == 0) = false := by simp [h0]
  have HD := Lib.hid (show d ≠ 0 from fun e => h0 (by rw [hv.out, e]; rfl))
  have m2 := HM2.out.c2
  clear hv hb2
  go_wp2_with fail
  clear m2
  go_loopw [12] (fun iv wr => ∃ (j : Nat), iv = .int .i64 (j : Int) ∧ j ≤ r ∧ Hid (∀ (i : Nat) (R : RawRow), i < j → RR[i]? = some R → R.length = colsOf RR) ∧ Below W2.heap.size W2 wr) (fun iv _ => r - (intOf iv).toNat)
  case atStart => exact ⟨0, rfl, Nat.zero_le _, Lib.hid fun i R hi => absurd hi (Nat.not_lt_zero _), Below.refl _ _⟩
  case round =>
   obtain ⟨j, rfl, hj, hall, hB⟩ := hrel
   by_cases hjn : j = r
   ·have HE := Lib.hid (show chk d RR = 0 from by
     unfold chk
     rw [if_neg HD.out, if_pos]
     intro R hR
     obtain ⟨i, hi, e⟩ := List.mem_iff_getElem.1 hR
     exact hall.out i R (by rw [hjn, ← HR2.out.len]; exact hi) (by rw [List.getElem?_eq_getElem hi, e]))
    subst hjn
    have HF := Lib.hid (HB2.out.trans (hB.mono HB2.out.size))
    clear hB hall
    go_wp2
    go_ret
    exact ⟨0, rfl, Lib.hid HE.out.symm, HF.out⟩
   ·have hjl : j < r := by omega
    have hjli : (j : Int) < (r : Int) := by omega
    have hn0 : (0 : Int) < (r : Int) := by omega
    have h0n : 0 < r := by omega
    clear hjn
    have h' := HR2.out.next hB
    obtain ⟨ad, A1, n1, c1, R, rfl, hbk, hx, hr, hn1, hp⟩ := rss_at h' hjl
    obtain ⟨ad', A2, n2, c2, R0, e, _, hy, hr0, hn2, hp0⟩ := rss_at h' h0n
    injection e with e
    subst e
    have HC := Lib.hid (show colsOf RR = n2 from by
     unfold colsOf
     have e1 := hp0.out
     cases RR with
     | nil => simp at e1
     | cons a t => simp at e1; subst e1; exact hr0.len)
    have HR := Lib.hid (show R.length = n1 from hr.len)
    have hy' : wr.cell? ad = some (.slice A2 n2 c2) := by
     have : ad.add 0 = ad := by simp [Addr.add]
     rw [← this]; exact hy
    have HBF := Lib.hid hB
    have m2 := (HM2.out.next hB).c2
    clear hr hr0 hB h'
    by_cases hne : n1 = n2
    ·have hb2 : ((n1 : Int) == (n2 : Int)) = true := by simp [hne]
     have hb3 : (n1 : Int) = (n2 : Int) := by omega
     have HA := Lib.hid (show ∀ (i : Nat) (R : RawRow), i < j + 1 → RR[i]? = some R → R.length = colsOf RR from fun i R' hi hq => by
      rcases Nat.lt_or_ge i j with h1 | h1
      ·exact hall.out i R' h1 hq
      ·rw [show i = j by omega, hp.out] at hq
       injection hq with hq
       rw [← hq, HR.out, HC.out, hne])
     clear hne hall
     go_wp2
     go_roundw
     case rel => exact ⟨j + 1, by go_num, by omega, HA, HBF.out⟩
     case measure => simp [intOf]; omega
    ·have hb2 : ((n1 : Int) == (n2 : Int)) = false := by simp; omega
     have hb3 : ¬(n1 : Int) = (n2 : Int) := by omega
     have HA := Lib.hid (show chk d RR = 2 from by
      unfold chk
      rw [if_neg HD.out, if_neg]
      exact fun e => hne (by rw [← HR.out, ← HC.out]; exact e R (List.mem_of_getElem? hp.out)))
     have HF := Lib.hid (HB2.out.trans (HBF.out.mono HB2.out.size))
     clear hne hall
     go_wp2
     go_ret
     exact ⟨2, rfl, Lib.hid HA.out.symm, HF.out⟩
end Go.Proofs.YtjnklbfhelbjgaaGreat

/- Reference 11: Same. -/
namespace Go.Proofs.YtjnklbfhelbjgaaGreat
open Go.RowKit Go.IntWalk
attribute [local go_sem ↓] Go.wp_at_zero Go.wp_at_succ
theorem ext_rows {RR RR' : List RawRow} {n : Nat} (h : RR.length = n) (h' : RR'.length = n) (e : ∀ (i : Nat) (R R' : RawRow), i < n → RR[i]? = some R → RR'[i]? = some R' → R = R') : RR = RR' := by
 refine List.ext_getElem (by rw [h, h']) fun i h1 h2 => ?_
 exact e i _ _ (by omega) (List.getElem?_eq_getElem h1) (List.getElem?_eq_getElem h2)
set_option maxRecDepth 100000 in
set_option maxHeartbeats 4000000 in
theorem rMSame_any {N K N' K' : Nat} {s s' : Bool} {A G A' G' : Option Addr} {n c r k n' c' r' k' : Nat} {M M' : List Nat} {RR RR' : List RawRow} {w : World} (h : RdU w w.heap.size A n c M) (h' : RdRss w w.heap.size N K G r k RR) (g : RdU w w.heap.size A' n' c' M') (g' : RdRss w w.heap.size N' K' G' r' k' RR') (hr : r ≤ 1048576) :
  Calls Tryz.prog 10 #[.agg #[.bool s, .slice A n c, .slice G r k], .agg #[.bool s', .slice A' n' c', .slice G' r' k']] w (RetBo ((s, M) = (s', M') ∧ RR = RR') w) := by
 obtain ⟨W1, HW1⟩ : ∃ W, W = (w.alloc (.cells #[.bool s, .slice A n c, .slice G r k] 28)).alloc (.cells #[.bool s', .slice A' n' c', .slice G' r' k'] 28) := ⟨_, rfl⟩
 have hb0 : Below w.heap.size w (w.alloc (.cells #[.bool s, .slice A n c, .slice G r k] 28)) := (Below.refl _ _).alloc (Nat.le_refl _) _
 have hM : MC W1 w.heap.size s A n c G r k := by rw [HW1]; exact (MC.new w s A n c G r k).next ((Below.refl _ _).alloc (Nat.le_refl _) _)
 have hM' : MC W1 (w.heap.size + 1) s' A' n' c' G' r' k' := by rw [HW1]; have := MC.new (w.alloc (.cells #[.bool s, .slice A n c, .slice G r k] 28)) s' A' n' c' G' r' k'; simpa using this
 have hB : Below w.heap.size w W1 := by rw [HW1]; exact hb0.alloc hb0.size _
 have HM := Lib.hid (And.intro hM hM')
 have HB := Lib.hid hB
 have HX := Lib.hid (And.intro (h.next hB) (And.intro (h'.next hB) (And.intro (g.next hB) (g'.next hB))))
 have HL := Lib.hid (And.intro h'.len g'.len)
 have m0 := hM.c0
 have m1 := hM.c1
 have q0 := hM'.c0
 have q1 := hM'.c1
 rw [HW1] at m0 m1 q0 q1
 have HW1 := Lib.hid HW1
 clear h h' g g' hM hM' hB hb0
 go_enter Tryz.func10, Tryz.ntmps10
 go_wp2_with fail
 rw [← HW1.out]
 clear HW1
 clear HW1
 clear m0 m1 q0 q1
 refine (same03_any HX.out.1 HX.out.2.2.1).mono ?_
 rintro _ W2 ⟨b, rfl, hb, hb2⟩
 have HB2 := Lib.hid (HB.out.trans (hb2.mono HB.out.size))
 have HR2 := Lib.hid (And.intro (HX.out.2.1.next hb2) (HX.out.2.2.2.next hb2))
 have HM2 := Lib.hid (And.intro (HM.out.1.next hb2) (HM.out.2.next hb2))
 by_cases he : (s, M) = (s', M')
 ·have HE := Lib.hid he
  obtain rfl : b = true := hb.out.2 he
  have m2 := HM2.out.1.c2
  have q2 := HM2.out.2.c2
  clear hb hb2 he
  by_cases hrr : r = r'
  ·subst hrr
   have hrb : ((r : Int) == (r : Int)) = true := by simp
   go_wp2_with fail
   clear m2 q2
   go_loopw [24] (fun iv wr => ∃ (j : Nat), iv = .int .i64 (j : Int) ∧ j ≤ r ∧ Hid (∀ (i : Nat) (R R' : RawRow), i < j → RR[i]? = some R → RR'[i]? = some R' → R = R') ∧ Below W2.heap.size W2 wr) (fun iv _ => r - (intOf iv).toNat)
   case atStart => exact ⟨0, rfl, Nat.zero_le _, Lib.hid fun i R R' hi => absurd hi (Nat.not_lt_zero _), Below.refl _ _⟩
   case round =>
    obtain ⟨j, rfl, hj, hall, hB⟩ := hrel
    by_cases hjn : j = r
    ·have HF := Lib.hid (HB2.out.trans (hB.mono HB2.out.size))
     have HEQ := Lib.hid (show RR = RR' from ext_rows HL.out.1 HL.out.2 (fun i R R' hi => hall.out i R R' (by rw [hjn]; exact hi)))
     subst hjn
     clear hB hall
     go_wp2
     go_ret
     exact ⟨true, rfl, Lib.hid ⟨fun _ => ⟨HE.out, HEQ.out⟩, fun _ => rfl⟩, HF.out⟩
    ·have hjl : j < r := by omega
     have hjli : (j : Int) < (r : Int) := by omega
     clear hjn
     obtain ⟨ad, A1, n1, c1, R, rfl, hbk, hx, hr1, hn1, hp⟩ := rss_at (HR2.out.1.next hB) hjl
     obtain ⟨ad', A2, n2, c2, R', rfl, hbk', hy, hr2, hn2, hp'⟩ := rss_at (HR2.out.2.next hB) hjl
     have m2 := (HM2.out.1.next hB).c2
     have q2 := (HM2.out.2.next hB).c2
     have HBF := Lib.hid hB
     have HD := Lib.hid (Below.refl wr.heap.size wr).drew
     have HS := Lib.hid (show ∀ W, Below wr.heap.size wr W → RdRs W W.heap.size N A1 n1 c1 R ∧ RdRs W W.heap.size N' A2 n2 c2 R' from fun W hb => ⟨hr1.next hb, hr2.next hb⟩)
     have HCC := Lib.hid (show ∀ W, Below wr.heap.size wr W → W.cell? ⟨w.heap.size, 2, none⟩ = some (.slice (some ad) r k) ∧ W.cell? ⟨w.heap.size + 1, 2, none⟩ = some (.slice (some ad') r k') ∧ W.cell? (ad.add j) = some (.slice A1 n1 c1) ∧ W.cell? (ad'.add j) = some (.slice A2 n2 c2) from fun W hb => ⟨((HM2.out.1.next HBF.out).next hb).c2, ((HM2.out.2.next HBF.out).next hb).c2, (hb.cell (p := ad.add j) (by rw [add_blk]; exact hbk)).trans hx, (hb.cell (p := ad'.add j) (by rw [add_blk]; exact hbk')).trans hy⟩)
     clear hr1 hr2 hB
     go_upto_region 6 with fail
     go_region_held3 (fun w' => w'.cell? ⟨w.heap.size, 2, none⟩ = some (.slice (some ad) r k) ∧ w'.cell? ⟨w.heap.size + 1, 2, none⟩ = some (.slice (some ad') r k') ∧ w'.cell? (ad.add j) = some (.slice A1 n1 c1) ∧ w'.cell? (ad'.add j) = some (.slice A2 n2 c2))
      (first | exact HCC.out _ HB3.out | exact HCC.out _ HD.out)
      (first
       | (go_at_call 43; refine (sameAll_any (HS.out _ HD.out).1 (HS.out _ HD.out).2).mono ?_; rintro _ W3 ⟨b3, rfl, hb3, hl3⟩; have HB3 := Lib.hid (HD.out.trans hl3)))
     all_goals
      have HF := Lib.hid (HBF.out.trans (HB3.out.mono HBF.out.size))
      have HBB := Lib.hid hb3.out
      clear m2 q2 hx hy hl3 hb3
      by_cases hRR : R = R'
      ·obtain rfl : b3 = true := HBB.out.2 hRR
       have HA := Lib.hid (show ∀ (i : Nat) (S S' : RawRow), i < j + 1 → RR[i]? = some S → RR'[i]? = some S' → S = S' from fun i S S' hi e1 e2 => by
        rcases Nat.lt_or_ge i j with h1 | h1
        ·exact hall.out i S S' h1 e1 e2
        ·have hij : i = j := by omega
         rw [hij, hp.out] at e1
         rw [hij, hp'.out] at e2
         injection e1 with e1
         injection e2 with e2
         rw [← e1, ← e2, hRR])
       clear hall HBB
       go_wp2
       go_roundw
       case rel => exact ⟨j + 1, by go_num, by omega, HA, HF.out⟩
       case measure => simp [intOf]; omega
      ·obtain rfl : b3 = false := by
        cases b3
        ·rfl
        ·exact absurd (HBB.out.1 rfl) hRR
       have HG := Lib.hid (HB2.out.trans (HF.out.mono HB2.out.size))
       have HN := Lib.hid (show ¬((s, M) = (s', M') ∧ RR = RR') from fun e => hRR (by
        have e1 := hp.out
        rw [e.2, hp'.out] at e1
        injection e1 with e1
        exact e1.symm))
       clear hall HBB
       go_wp2
       go_ret
       exact ⟨false, rfl, Lib.hid ⟨fun e => by simp at e, fun e => absurd e HN.out⟩, HG.out⟩
  ·have hrb : ((r : Int) == (r' : Int)) = false := by simp; omega
   have hrb3 : ¬(r : Int) = (r' : Int) := by omega
   have HN := Lib.hid (show ¬((s, M) = (s', M') ∧ RR = RR') from fun e => hrr (by rw [← HL.out.1, ← HL.out.2, e.2]))
   clear hrr
   go_wp2
   go_ret
   exact ⟨false, rfl, Lib.hid ⟨fun e => by simp at e, fun e => absurd e HN.out⟩, HB2.out⟩
 ·obtain rfl : b = false := by
   cases b
   ·rfl
   ·exact absurd (hb.out.1 rfl) he
  have HN := Lib.hid (show ¬((s, M) = (s', M') ∧ RR = RR') from fun e => he e.1)
  clear hb hb2
  go_wp2
  go_ret
  exact ⟨false, rfl, Lib.hid ⟨fun e => by simp at e, fun e => absurd e HN.out⟩, HB2.out⟩
end Go.Proofs.YtjnklbfhelbjgaaGreat
