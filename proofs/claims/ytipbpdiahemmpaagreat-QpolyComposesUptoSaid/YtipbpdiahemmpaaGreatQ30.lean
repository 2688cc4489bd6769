/- Reference 09: sum, product with a number, difference. -/
import Derived.Test.YtipbpdiahemmpaaGreatQ29
import Derived.Test.YtipbpdiahemmpaaGreatQ26
import Derived.Test.YtipbpdiahemmpaaGreatQ27
namespace Go.Proofs.YtipbpdiahemmpaaGreat
open Go.RowKit Go.IntWalk
attribute [local go_sem ↓] Go.wp_at_zero Go.wp_at_succ

theorem map_qval_pr (M : List Rat) : (M.map pr).map qval = M := by rw [List.map_map, show (qval ∘ pr) = id from funext qval_pr, List.map_id]
theorem rqnorm_own {N : Nat} {A : Option Addr} {n c : Nat} {M : List Rat} {w : World} (h : RdQs w w.heap.size N A n c (M.map pr)) (hn : n ≤ 1048576) (hN : N ≤ 1000000000000) :
    Calls Tryz.prog 44 #[.slice A n c] w (RetPq (Pq.co M) w) := by
  have := rqnorm_any h (fun p hp => by
    obtain ⟨x, _, rfl⟩ := List.mem_map.1 hp
    exact pr_ne x) hn hN
  rwa [map_qval_pr] at this
theorem RdQs.wide {w : World} {B N N' : Nat} {A : Option Addr} {n c : Nat} {L : List (Int × Int)} (h : RdQs w B N A n c L) (hN : N ≤ N') : RdQs w B N' A n c L :=
  ⟨h.len, h.le, h.mx, fun j p hp => by
    obtain ⟨ad, s, A1, n1, c1, s', A1', n1', c1', h1, h2, h3, h4, h5, h6, h7, h8, h9, h10⟩ := h.at_ j p hp
    exact ⟨ad, s, A1, n1, c1, s', A1', n1', c1', h1, h2, h3, h4, h5, h6, h7, h8, Nat.le_trans h9 hN, Nat.le_trans h10 hN⟩⟩
theorem range_co {f : Nat → Rat} {m : Nat} (h : ∀ i, m ≤ i → f i = 0) (i : Nat) : Pq.co ((List.range m).map f) i = f i := by
  rw [Pq.co_range]
  split
  · rfl
  · exact (h i (by omega)).symm

set_option maxRecDepth 100000 in
set_option maxHeartbeats 8000000 in
theorem rqAdd_any {N : Nat} {A A' : Option Addr} {n c n' c' : Nat} {L L' : List (Int × Int)} {w : World} (h : RdQs w w.heap.size N A n c L) (h' : RdQs w w.heap.size N A' n' c' L') (hd : ∀ p ∈ L, p.2 ≠ 0) (hd' : ∀ p ∈ L', p.2 ≠ 0) (hn : n ≤ 1048576) (hn' : n' ≤ 1048576) (hN : N ≤ 200000000000) (h1N : 1 ≤ N) :
    Calls Tryz.prog 56 #[.slice A n c, .slice A' n' c'] w (RetPq (fun i => Pq.co (L.map qval) i + Pq.co (L'.map qval) i) w) := by
  have HSZ := Lib.hid (show ∀ i, Qs (N + N + 1) (Pq.co (L.map qval) i + Pq.co (L'.map qval) i) from fun i => (h.sz hd h1N i).add (h'.sz hd' h1N i))
  have HL := Lib.hid (And.intro h.len h'.len)
  have HD := Lib.hid (And.intro (cop_ne hd) (cop_ne hd'))
  clear hd hd'
  go_enter Tryz.func56, Tryz.ntmps56
  by_cases hlt : n < n'
  · have hlti : (n : Int) < (n' : Int) := by omega
    have HM := Lib.hid (show n ≤ n' ∧ n' ≤ n' by omega)
    clear hlt
    have hmk := make_qs Tryz.underlying38 n' (by omega)
    have hZ0 := QB.made w n'
    have hB0 := (Below.refl w.heap.size w).alloc (Nat.le_refl _) (.cells (qcs (List.replicate n' zq)).toArray 56)
    go_wp2_with fail
    generalize w.alloc (.cells (qcs (List.replicate n' zq)).toArray 56) = W1 at *
    obtain ⟨g, hg⟩ : ∃ g, g = w.heap.size := ⟨_, rfl⟩
    rw [← hg] at hZ0 ⊢
    have HG := Lib.hid (show w.heap.size ≤ g by rw [hg]; exact Nat.le_refl _)
    clear hmk hg
    go_loopw [20] (fun iv wr => ∃ (j : Nat) (E : List (Ent × Ent)), iv = .int .i64 j ∧ j ≤ n' ∧ QB wr g E ∧ Hid (E.length = n') ∧ EntJ wr w.heap.size E (fun i => Pq.co (L.map qval) i + Pq.co (L'.map qval) i) j ∧ Below w.heap.size w wr) (fun iv _ => n' - (intOf iv).toNat)
    case atStart => exact ⟨0, _, rfl, Nat.zero_le _, hZ0, Lib.hid (by simp), EntJ.zero _ _ _ _, hB0⟩
    case round =>
      clear hZ0 hB0
      obtain ⟨j, E, rfl, hj, hZ, hEl, hE, hB⟩ := hrel
      by_cases hjm : j = n'
      · have hmj := hjm.symm
        subst hmj
        clear hjm
        have ho := hZ.own hE HG.out hEl.out (by unfold maxLen; omega)
        have hrd := ho.rd (N := N + N + 1) (fun x hx => by
          obtain ⟨i, _, rfl⟩ := List.mem_map.1 hx
          exact HSZ.out i)
        go_wp2_with fail
        refine (rqnorm_own hrd (by omega) (by omega)).mono ?_
        rintro _ W4 ⟨A4, n4, c4, M4, rfl, ho4, hM4, hb4⟩
        go_wp2
        go_ret
        exact ⟨_, _, _, M4, rfl, ho4.base hB.size, Lib.hid (hM4.out.congr (range_co fun i hi => by rw [Pq.co_ge (L := L.map qval) (by rw [List.length_map, HL.out.1]; have := HM.out; omega), Pq.co_ge (L := L'.map qval) (by rw [List.length_map, HL.out.2]; have := HM.out; omega), Rat.add_zero])), hB.trans (hb4.mono hB.size)⟩
      · have hjl : j < n' := by omega
        have hjli : (j : Int) < (n' : Int) := by omega
        clear hjm
        have HZ := Lib.hid hZ
        have HE := Lib.hid hE
        clear hZ hE
        go_wp2_with fail
        refine (rqat_any j (h.next hB) h1N).mono ?_
        rintro _ W2 ⟨s1, A1, n1, c1, s2, A2, n2, c2, rfl, hr1, hr2, hn1, hn2, hb2⟩
        have hB2 := hB.trans (hb2.mono hB.size)
        go_wp2_with fail
        refine (rqat_any j (h'.next hB2) h1N).mono ?_
        rintro _ W3 ⟨s3, A3, n3, c3, s4, A4, n4, c4, rfl, hr3, hr4, hn3, hn4, hb3⟩
        have hB3 := hB2.trans (hb3.mono hB2.size)
        go_wp2_with fail
        refine (rQAdd_any (N := N) (hr1.next hb3) (hr2.next hb3) hr3 hr4 ⟨hn1, hn2, hn3, hn4⟩ hN (HD.out.1 j) (HD.out.2 j)).mono ?_
        rintro _ W5 ⟨s5, A5, n5, c5, s6, A6, n6, c6, q, rfl, ho5, hq, hb5⟩
        have hb25 := hb2.trans ((hb3.trans (hb5.mono hb3.size)).mono hb2.size)
        have hB5 := hB.trans (hb25.mono hB.size)
        have hZ4 := HZ.out.next hb25
        have hE4 := HE.out.next hb25
        obtain ⟨e, he⟩ : ∃ e, E[j]? = some e := ⟨E[j]'(by rw [hEl.out]; exact hjl), List.getElem?_eq_getElem _⟩
        obtain ⟨k0, k1, k2, k3⟩ := hZ4.cells he
        have f0 := hZ4.frozen (j * 4)
        have f1 := hZ4.frozen (j * 4 + 1)
        have f2 := hZ4.frozen (j * 4 + 2)
        have f3 := hZ4.frozen (j * 4 + 3)
        have HZ5 := Lib.hid (hZ4.store j ((s5, A5, n5, c5), (s6, A6, n6, c6)))
        have HE5 := Lib.hid (hE4.store (e := ((s5, A5, n5, c5), (s6, A6, n6, c6))) hZ4 (by have := ho5.base (b' := w.heap.size) hB3.size; rw [hq.out] at this; show OwQ W5 w.heap.size s5 A5 n5 c5 s6 A6 n6 c6 (Pq.co (L.map qval) j + Pq.co (L'.map qval) j); rw [← qval_cop, ← qval_cop]; exact this))
        have HB5 := Lib.hid (below_setQ hB5 HG.out j ((s5, A5, n5, c5), (s6, A6, n6, c6)))
        unfold setQ at HZ5 HE5 HB5
        clear hb2 hb3 hb5 hb25 hB hB2 hB3 hB5 hZ4 hE4 he ho5 hr1 hr2 hr3 hr4 hq
        go_wp2_with fail
        go_roundw
        case rel => exact ⟨j + 1, E.set j ((s5, A5, n5, c5), (s6, A6, n6, c6)), by go_num, by omega, HZ5.out, Lib.hid (by rw [List.length_set]; exact hEl.out), HE5.out, HB5.out⟩
        case measure => simp [intOf]; omega
  · have hlti : decide (n < n') = false := by simp; omega
    have HM := Lib.hid (show n ≤ n ∧ n' ≤ n by omega)
    clear hlt
    have hmk := make_qs Tryz.underlying38 n (by omega)
    have hZ0 := QB.made w n
    have hB0 := (Below.refl w.heap.size w).alloc (Nat.le_refl _) (.cells (qcs (List.replicate n zq)).toArray 56)
    go_wp2_with fail
    generalize w.alloc (.cells (qcs (List.replicate n zq)).toArray 56) = W1 at *
    obtain ⟨g, hg⟩ : ∃ g, g = w.heap.size := ⟨_, rfl⟩
    rw [← hg] at hZ0 ⊢
    have HG := Lib.hid (show w.heap.size ≤ g by rw [hg]; exact Nat.le_refl _)
    clear hmk hg
    go_loopw [20] (fun iv wr => ∃ (j : Nat) (E : List (Ent × Ent)), iv = .int .i64 j ∧ j ≤ n ∧ QB wr g E ∧ Hid (E.length = n) ∧ EntJ wr w.heap.size E (fun i => Pq.co (L.map qval) i + Pq.co (L'.map qval) i) j ∧ Below w.heap.size w wr) (fun iv _ => n - (intOf iv).toNat)
    case atStart => exact ⟨0, _, rfl, Nat.zero_le _, hZ0, Lib.hid (by simp), EntJ.zero _ _ _ _, hB0⟩
    case round =>
      clear hZ0 hB0
      obtain ⟨j, E, rfl, hj, hZ, hEl, hE, hB⟩ := hrel
      by_cases hjm : j = n
      · have hmj := hjm.symm
        subst hmj
        clear hjm
        have ho := hZ.own hE HG.out hEl.out (by unfold maxLen; omega)
        have hrd := ho.rd (N := N + N + 1) (fun x hx => by
          obtain ⟨i, _, rfl⟩ := List.mem_map.1 hx
          exact HSZ.out i)
        go_wp2_with fail
        refine (rqnorm_own hrd (by omega) (by omega)).mono ?_
        rintro _ W4 ⟨A4, n4, c4, M4, rfl, ho4, hM4, hb4⟩
        go_wp2
        go_ret
        exact ⟨_, _, _, M4, rfl, ho4.base hB.size, Lib.hid (hM4.out.congr (range_co fun i hi => by rw [Pq.co_ge (L := L.map qval) (by rw [List.length_map, HL.out.1]; have := HM.out; omega), Pq.co_ge (L := L'.map qval) (by rw [List.length_map, HL.out.2]; have := HM.out; omega), Rat.add_zero])), hB.trans (hb4.mono hB.size)⟩
      · have hjl : j < n := by omega
        have hjli : (j : Int) < (n : Int) := by omega
        clear hjm
        have HZ := Lib.hid hZ
        have HE := Lib.hid hE
        clear hZ hE
        go_wp2_with fail
        refine (rqat_any j (h.next hB) h1N).mono ?_
        rintro _ W2 ⟨s1, A1, n1, c1, s2, A2, n2, c2, rfl, hr1, hr2, hn1, hn2, hb2⟩
        have hB2 := hB.trans (hb2.mono hB.size)
        go_wp2_with fail
        refine (rqat_any j (h'.next hB2) h1N).mono ?_
        rintro _ W3 ⟨s3, A3, n3, c3, s4, A4, n4, c4, rfl, hr3, hr4, hn3, hn4, hb3⟩
        have hB3 := hB2.trans (hb3.mono hB2.size)
        go_wp2_with fail
        refine (rQAdd_any (N := N) (hr1.next hb3) (hr2.next hb3) hr3 hr4 ⟨hn1, hn2, hn3, hn4⟩ hN (HD.out.1 j) (HD.out.2 j)).mono ?_
        rintro _ W5 ⟨s5, A5, n5, c5, s6, A6, n6, c6, q, rfl, ho5, hq, hb5⟩
        have hb25 := hb2.trans ((hb3.trans (hb5.mono hb3.size)).mono hb2.size)
        have hB5 := hB.trans (hb25.mono hB.size)
        have hZ4 := HZ.out.next hb25
        have hE4 := HE.out.next hb25
        obtain ⟨e, he⟩ : ∃ e, E[j]? = some e := ⟨E[j]'(by rw [hEl.out]; exact hjl), List.getElem?_eq_getElem _⟩
        obtain ⟨k0, k1, k2, k3⟩ := hZ4.cells he
        have f0 := hZ4.frozen (j * 4)
        have f1 := hZ4.frozen (j * 4 + 1)
        have f2 := hZ4.frozen (j * 4 + 2)
        have f3 := hZ4.frozen (j * 4 + 3)
        have HZ5 := Lib.hid (hZ4.store j ((s5, A5, n5, c5), (s6, A6, n6, c6)))
        have HE5 := Lib.hid (hE4.store (e := ((s5, A5, n5, c5), (s6, A6, n6, c6))) hZ4 (by have := ho5.base (b' := w.heap.size) hB3.size; rw [hq.out] at this; show OwQ W5 w.heap.size s5 A5 n5 c5 s6 A6 n6 c6 (Pq.co (L.map qval) j + Pq.co (L'.map qval) j); rw [← qval_cop, ← qval_cop]; exact this))
        have HB5 := Lib.hid (below_setQ hB5 HG.out j ((s5, A5, n5, c5), (s6, A6, n6, c6)))
        unfold setQ at HZ5 HE5 HB5
        clear hb2 hb3 hb5 hb25 hB hB2 hB3 hB5 hZ4 hE4 he ho5 hr1 hr2 hr3 hr4 hq
        go_wp2_with fail
        go_roundw
        case rel => exact ⟨j + 1, E.set j ((s5, A5, n5, c5), (s6, A6, n6, c6)), by go_num, by omega, HZ5.out, Lib.hid (by rw [List.length_set]; exact hEl.out), HE5.out, HB5.out⟩
        case measure => simp [intOf]; omega

set_option maxRecDepth 100000 in
set_option maxHeartbeats 8000000 in
theorem rqScale_any {N : Nat} {s s' : Bool} {A A' A'' : Option Addr} {n c n' c' n'' c'' : Nat} {L : List (Int × Int)} {z d : Int} {w : World} (h : RdQs w w.heap.size N A n c L) (h' : RdZ w w.heap.size s A' n' c' z) (h'' : RdZ w w.heap.size s' A'' n'' c'' d) (hd : ∀ p ∈ L, p.2 ≠ 0) (hd0 : d ≠ 0) (hn : n ≤ 1048576) (hn' : n' ≤ N) (hn'' : n'' ≤ N) (hN : N ≤ 200000000000) (h1N : 1 ≤ N) :
    Calls Tryz.prog 54 #[.slice A n c, .agg #[.bool s, .slice A' n' c', .bool s', .slice A'' n'' c'']] w (RetPq (fun i => Pq.co (L.map qval) i * Rat.divInt z d) w) := by
  have HSZ := Lib.hid (show ∀ i, Qs (N + N) (Pq.co (L.map qval) i * Rat.divInt z d) from fun i => (h.sz hd h1N i).mul (Qs.divInt hd0 (Nat.le_trans h'.len hn') (Nat.le_trans h''.len hn'')))
  have HLEN := Lib.hid h.len
  have HD := Lib.hid (And.intro hd hd0)
  obtain ⟨W1, HW1⟩ : ∃ W, W = w.alloc (.cells #[.bool s, .slice A' n' c', .bool s', .slice A'' n'' c''] 56) := ⟨_, rfl⟩
  have hX : QC W1 w.heap.size s A' n' c' s' A'' n'' c'' := by rw [HW1]; exact QC.new w s A' n' c' s' A'' n'' c''
  have hB : Below w.heap.size w W1 := by rw [HW1]; exact (Below.refl _ _).alloc (Nat.le_refl _) _
  obtain ⟨W2, HW2⟩ : ∃ W, W = W1.alloc (.cells (qcs (List.replicate n zq)).toArray 56) := ⟨_, rfl⟩
  have hmk := make_qs Tryz.underlying38 n (by omega)
  have hZ0 := QB.made W1 n
  rw [← HW2] at hZ0
  have hb2 : Below W1.heap.size W1 W2 := by rw [HW2]; exact (Below.refl _ _).alloc (Nat.le_refl _) _
  have hB2 := hB.trans (hb2.mono hB.size)
  have hX2 := hX.next hb2
  have e0 : W1.heap.size = w.heap.size + 1 := by rw [HW1]; simp
  rw [e0] at hZ0
  rw [HW1] at HW2
  have HW2 := Lib.hid HW2
  have HH := Lib.hid (show ∀ W : World, Below w.heap.size w W → RdQs W W.heap.size N A n c L ∧ RdZ W W.heap.size s A' n' c' z ∧ RdZ W W.heap.size s' A'' n'' c'' d from fun W hb => ⟨h.next hb, h'.next hb, h''.next hb⟩)
  clear hX hB hb2 h' h'' h hd hd0 HW1 e0
  go_enter Tryz.func54, Tryz.ntmps54
  go_wp2_with fail
  rw [← HW2.out]
  clear HW2
  clear HW2
  clear hmk
  go_loopw [12] (fun iv wr => ∃ (j : Nat) (E : List (Ent × Ent)), iv = .int .i64 j ∧ j ≤ n ∧ QB wr (w.heap.size + 1) E ∧ Hid (E.length = n) ∧ EntJ wr w.heap.size E (fun i => Pq.co (L.map qval) i * Rat.divInt z d) j ∧ Below w.heap.size w wr ∧ QC wr w.heap.size s A' n' c' s' A'' n'' c'') (fun iv _ => n - (intOf iv).toNat)
  case atStart => exact ⟨0, _, rfl, Nat.zero_le _, hZ0, Lib.hid (by simp), EntJ.zero _ _ _ _, hB2, hX2⟩
  case round =>
    clear hZ0 hB2 hX2
    obtain ⟨j, E, rfl, hj, hZ, hEl, hE, hB, hX⟩ := hrel
    by_cases hjm : j = n
    · have hmj := hjm.symm
      subst hmj
      clear hjm
      have ho := hZ.own hE (Nat.le_succ _) hEl.out (by unfold maxLen; omega)
      have hrd := ho.rd (N := N + N) (fun x hx => by
        obtain ⟨i, _, rfl⟩ := List.mem_map.1 hx
        exact HSZ.out i)
      go_wp2_with fail
      refine (rqnorm_own hrd (by omega) (by omega)).mono ?_
      rintro _ W4 ⟨A4, n4, c4, M4, rfl, ho4, hM4, hb4⟩
      go_wp2
      go_ret
      exact ⟨_, _, _, M4, rfl, ho4.base hB.size, Lib.hid (hM4.out.congr (range_co fun i hi => by rw [Pq.co_ge (L := L.map qval) (by rw [List.length_map, HLEN.out]; exact hi), Rat.zero_mul])), hB.trans (hb4.mono hB.size)⟩
    · have hjl : j < n := by omega
      have hjli : (j : Int) < (n : Int) := by omega
      clear hjm
      obtain ⟨hl, hr3, hr4⟩ := HH.out wr hB
      obtain ⟨ad, s1, A1, n1, c1, s2, A2, n2, c2, z1, d1, rfl, hbk, hx0, hx1, hx2, hx3, hr1, hr2, hn1, hn2, hp⟩ := qs_at hl hjl
      have HV := Lib.hid (show Pq.co (L.map qval) j = Rat.divInt z1 d1 from Pq.co_get (by rw [List.getElem?_map, hp.out]; rfl))
      have HBD := Lib.hid (Below.refl wr.heap.size wr).drew
      have HMU := Lib.hid (rQMul_any (N := N) (hr1.next HBD.out) (hr2.next HBD.out) (hr3.next HBD.out) (hr4.next HBD.out) ⟨hn1, hn2, hn', hn''⟩ hN (HD.out.1 _ (List.mem_of_getElem? hp.out)) HD.out.2)
      have a0 := hX.c0
      have a1 := hX.c1
      have a2 := hX.c2
      have a3 := hX.c3
      obtain ⟨e, he⟩ : ∃ e, E[j]? = some e := ⟨E[j]'(by rw [hEl.out]; exact hjl), List.getElem?_eq_getElem _⟩
      have HE := Lib.hid he
      have HZ := Lib.hid hZ
      have HEF := Lib.hid hE
      have HX := Lib.hid hX
      clear hl hr1 hr2 hr3 hr4 he hZ hE hX hp
      go_upto_region 5 with fail
      go_region_with (first
        | (go_at_call 79; refine HMU.out.mono ?_; rintro _ W7 ⟨s5, A5, n5, c5, s6, A6, n6, c6, q, rfl, ho7, hq, hb7⟩; have HB7 := Lib.hid (HBD.out.trans hb7); have lb0 := ((HZ.out.next HB7.out).cells HE.out).1; have lb1 := ((HZ.out.next HB7.out).cells HE.out).2.1; have lb2 := ((HZ.out.next HB7.out).cells HE.out).2.2.1; have lb3 := ((HZ.out.next HB7.out).cells HE.out).2.2.2; have lf0 := (HZ.out.next HB7.out).frozen (j * 4); have lf1 := (HZ.out.next HB7.out).frozen (j * 4 + 1); have lf2 := (HZ.out.next HB7.out).frozen (j * 4 + 2); have lf3 := (HZ.out.next HB7.out).frozen (j * 4 + 3)))
      all_goals
        have HZ7 := Lib.hid ((HZ.out.next HB7.out).store j ((s5, A5, n5, c5), (s6, A6, n6, c6)))
        have HE7 := Lib.hid ((HEF.out.next HB7.out).store (e := ((s5, A5, n5, c5), (s6, A6, n6, c6))) (HZ.out.next HB7.out) (by have := ho7.base (b' := w.heap.size) (Nat.le_trans hB.size HBD.out.size); rw [hq.out, ← HV.out] at this; exact this))
        have HX7 := Lib.hid (((((HX.out.next HB7.out).far (p := ⟨w.heap.size + 1, j * 4, none⟩) (by simp) (.bool s5)).far (p := ⟨w.heap.size + 1, j * 4 + 1, none⟩) (by simp) (.slice A5 n5 c5)).far (p := ⟨w.heap.size + 1, j * 4 + 2, none⟩) (by simp) (.bool s6)).far (p := ⟨w.heap.size + 1, j * 4 + 3, none⟩) (by simp) (.slice A6 n6 c6))
        have HBF := Lib.hid (below_setQ (hB.trans (HB7.out.mono hB.size)) (Nat.le_succ w.heap.size) j ((s5, A5, n5, c5), (s6, A6, n6, c6)))
        unfold setQ at HZ7 HE7 HBF
        clear hx0 hx1 hx2 hx3 a0 a1 a2 a3 lb0 lb1 lb2 lb3 lf0 lf1 lf2 lf3 hb7 ho7
        go_wp2
        go_roundw
        case rel => exact ⟨j + 1, E.set j ((s5, A5, n5, c5), (s6, A6, n6, c6)), by go_num, by omega, HZ7.out, Lib.hid (by rw [List.length_set]; exact hEl.out), HE7.out, HBF.out, HX7.out⟩
        case measure => simp [intOf]; omega

set_option maxHeartbeats 1000000 in
theorem rqSub_any {N : Nat} {A A' : Option Addr} {n c n' c' : Nat} {L L' : List (Int × Int)} {w : World} (h : RdQs w w.heap.size N A n c L) (h' : RdQs w w.heap.size N A' n' c' L') (hd : ∀ p ∈ L, p.2 ≠ 0) (hd' : ∀ p ∈ L', p.2 ≠ 0) (hn : n ≤ 1048576) (hn' : n' ≤ 1048576) (hN : N ≤ 90000000000) (h1N : 1 ≤ N) :
    Calls Tryz.prog 57 #[.slice A n c, .slice A' n' c'] w (RetPq (fun i => Pq.co (L.map qval) i - Pq.co (L'.map qval) i) w) := by
  have HSZ := Lib.hid (And.intro (h.sz hd h1N) (h'.sz hd' h1N))
  have HD := Lib.hid (And.intro hd hd')
  have HL := Lib.hid h'.len
  go_enter Tryz.func57, Tryz.ntmps57
  go_wp2_with fail
  refine (rQOf_any (-1) (by decide) (by decide) w).mono ?_
  rintro _ W2 ⟨s2, A2, n2, c2, s3, A3, n3, c3, y2, rfl, ho2, hy2, hb2⟩
  obtain rfl : y2 = ((-1 : Int) : Rat) := hy2.out
  have HQ1 := Lib.hid (show Qs N ((-1 : Int) : Rat) from Qs.int (Nat.le_trans (Zz.zl_small (by decide)) h1N) h1N)
  go_wp2_with fail
  refine (rqScale_any (N := N) (h'.next hb2) ho2.num.rd ho2.den.rd hd' (qden_ne _) hn' (by rw [ho2.num.len]; exact HQ1.out.1) (by rw [ho2.den.len]; exact HQ1.out.2) (by omega) h1N).mono ?_
  rintro _ W3 ⟨A4, n4, c4, M4, rfl, ho4, hM4, hb3⟩
  have hB3 := hb2.trans (hb3.mono hb2.size)
  have hn4 : n4 ≤ 1048576 := by
    rw [← ho4.len]
    exact Nat.le_trans (Pq.nz_len hM4.out.1 (k := n') fun i hi => by
      rw [hM4.out.2]
      show Pq.co (L'.map qval) i * _ = 0
      rw [Pq.co_ge (L := L'.map qval) (by rw [List.length_map, HL.out]; exact hi), Rat.zero_mul]) hn'
  have hrd := ho4.rd (N := N + N) (fun x hx => by
    obtain ⟨i, _, rfl⟩ := Pq.mem_co hx
    rw [hM4.out.2]
    show Qs (N + N) (Pq.co (L'.map qval) i * Rat.divInt _ _)
    rw [Rat.num_divInt_den]
    exact (HSZ.out.2 i).mul HQ1.out)
  go_wp2_with fail
  refine (rqAdd_any (N := N + N) ((h.next hB3).wide (Nat.le_add_right _ _)) hrd hd (fun p hp => by
    obtain ⟨x, _, rfl⟩ := List.mem_map.1 hp
    exact pr_ne x) hn hn4 (by omega) (by omega)).mono ?_
  rintro _ W4 ⟨A5, n5, c5, M5, rfl, ho5, hM5, hb4⟩
  go_wp2
  go_ret
  exact ⟨_, _, _, M5, rfl, ho5.base hB3.size, Lib.hid (hM5.out.congr fun i => by
    rw [map_qval_pr, hM4.out.2]
    show Pq.co (L.map qval) i + Pq.co (L'.map qval) i * Rat.divInt _ _ = _
    rw [Rat.num_divInt_den, show ((-1 : Int) : Rat) = -1 from rfl]
    grind), hB3.trans (hb4.mono hB3.size)⟩
end Go.Proofs.YtipbpdiahemmpaaGreat

/- rat.Common; qpoly.parts. -/
namespace Go.Proofs.YtipbpdiahemmpaaGreat
open Go.RowKit Go.IntWalk
attribute [local go_sem ↓] Go.wp_at_zero Go.wp_at_succ

set_option maxRecDepth 100000 in
set_option maxHeartbeats 4000000 in
theorem common_any {N M : Nat} {A : Option Addr} {n c : Nat} {L : List Rat} {w : World} (h : RdQs w w.heap.size N A n c (L.map pr)) (hS : ∀ j, Zz.zl (denF 1 (L.take j)) ≤ M) (hn : n ≤ 1048576) (hN : N ≤ 200000000000) (hM : M ≤ 200000000000) (h1N : 1 ≤ N) :
    Calls Tryz.prog 260 #[.slice A n c] w fun e w' => ∃ (s : Bool) (A : Option Addr) (n c : Nat) (y : Int) (A' : Option Addr) (n' c' : Nat) (P : List Int) (kk : Int), e = .returned (.tuple #[.agg #[.bool s, .slice A n c], .slice A' n' c', .int .i64 kk]) ∧ OwZ w' w.heap.size s A n c y ∧ OwZs w' w.heap.size A' n' c' P ∧ Hid (y = denL L ∧ P = numL L ∧ kk = 0) ∧ Below w.heap.size w w' := by
  have heg := enters_of Tryz.func284 (by kernel_rfl) rfl
  have HSL := Lib.hid (h.szp h1N)
  have HS := Lib.hid hS
  obtain ⟨W1, HW1⟩ : ∃ W, W = w.alloc (.cells #[.bool false, .slice none 0 0] 28) := ⟨_, rfl⟩
  have hR : ZC W1 w.heap.size false none 0 0 := by rw [HW1]; exact ZC.new w false none 0 0
  have hB : Below w.heap.size w W1 := by rw [HW1]; exact (Below.refl w.heap.size w).alloc (Nat.le_refl _) _
  have HW1 := Lib.hid HW1
  have h1 := h.next hB
  clear hS
  go_enter Tryz.func260, Tryz.ntmps260
  go_wp2_with fail
  rw [← HW1.out]
  clear HW1
  clear HW1
  refine (made_common (d := denL L) (P := numL L) h1 hn (by omega) (fun p hp => by
    obtain ⟨x, _, rfl⟩ := List.mem_map.1 hp
    exact pr_ne x) heg (fun W A' c' b hb _ ho => by
    rw [map_qval_pr] at ho
    exact common_in ho HSL.out.mem HS.out hn hN hM h1N)).mono ?_
  rintro _ W2 ⟨s2, A2, n2, c2, y, A3, n3, c3, P, kk, rfl, ho, hoz, hy, hb2⟩
  obtain ⟨W3, HW3⟩ : ∃ W, W = W2.alloc (.cells #[.bool s2, .slice A2 n2 c2, .slice A3 n3 c3] 240) := ⟨_, rfl⟩
  have hb3 : Below W2.heap.size W2 W3 := by rw [HW3]; exact (Below.refl _ _).alloc (Nat.le_refl _) _
  have hC : CC W3 W2.heap.size s2 A2 n2 c2 A3 n3 c3 := by rw [HW3]; exact CC.new W2 s2 A2 n2 c2 A3 n3 c3
  have hb13 := hb2.trans (hb3.mono hb2.size)
  have hR3 := hR.next hb13
  have HB3 := Lib.hid (hB.trans (hb13.mono hB.size))
  have HLT := Lib.hid (show w.heap.size < W1.heap.size ∧ W1.heap.size ≤ W2.heap.size from ⟨hR.lt, hb2.size⟩)
  have HO3 := Lib.hid (And.intro (ho.next hb3) (hoz.next hb3))
  have q0 := hC.c0
  have q1 := hC.c1
  have q2 := hC.c2
  have HC := Lib.hid hC
  have HR := Lib.hid hR3
  have HW3 := Lib.hid HW3
  clear ho hoz hb2 hb3 hb13 hR hB h1 h hC hR3
  go_upto_region 2 with fail
  rw [← HW3.out]
  clear HW3
  clear HW3
  generalize W2.heap.size = gc at *
  have r0 := HR.out.c0
  have r1 := HR.out.c1
  have f0 := HR.out.fz 0
  have f1 := HR.out.fz 1
  have HD := Lib.hid (And.intro (HC.out.next (Below.refl W3.heap.size W3).drew) (HR.out.next (Below.refl W3.heap.size W3).drew))
  have d0 := HD.out.1.c0
  have d1 := HD.out.1.c1
  have d2 := HD.out.1.c2
  have d3 := HD.out.2.c0
  have d4 := HD.out.2.c1
  have d5 := HD.out.2.fz 0
  have d6 := HD.out.2.fz 1
  have hF := (HD.out.1.far (p := ⟨w.heap.size, 0, none⟩) (by have := HLT.out; simp; omega) (.bool s2)).far (p := ⟨w.heap.size, 1, none⟩) (by have := HLT.out; simp; omega) (.slice A2 n2 c2)
  have e2 := hF.c2
  have hlt : w.heap.size < W1.heap.size := HLT.out.1
  have HO9 := Lib.hid (And.intro (((HO3.out.1.keep (keep_set2 HR.out (.bool s2) (.slice A2 n2 c2))).next (Below.refl _ _).drew).base (Nat.le_of_lt hlt)) ((((HO3.out.2.far (p := ⟨w.heap.size, 0, none⟩) hlt (.bool s2)).far (p := ⟨w.heap.size, 1, none⟩) hlt (.slice A2 n2 c2)).next (Below.refl _ _).drew).base (Nat.le_of_lt hlt)))
  have HR9 := Lib.hid ((HR.out.store s2 A2 n2 c2).next (Below.refl _ _).drew)
  have hB9 := below_put2 HB3.out (Nat.le_refl w.heap.size) (.bool s2) (.slice A2 n2 c2)
  have HB9 := Lib.hid (hB9.trans ((Below.refl _ _).drew.mono hB9.size))
  clear hB9
  clear hF hlt
  go_region_with (fail)
  all_goals
    clear q0 q1 q2 r0 r1 f0 f1 d0 d1 d2 d3 d4 d5 d6 e2
    go_wp2
    generalize ((W3.setCell ⟨w.heap.size, 0, none⟩ (.bool s2)).setCell ⟨w.heap.size, 1, none⟩ (.slice A2 n2 c2)).drew = W9 at *
    have z0 := HR9.out.c0
    have z1 := HR9.out.c1
    exact bodyPost_ret (by simp [results, Tryz.results260, go_sem, z0, z1]) rfl ⟨s2, A2, n2, c2, y, A3, n3, c3, P, kk, rfl, HO9.out.1, HO9.out.2, hy, HB9.out⟩

/-- A denominator and numerators come back. -/
def RetPt (d : Int) (P : List Int) (w : World) (e : Ending) (w' : World) : Prop :=
  ∃ (s : Bool) (A : Option Addr) (n c : Nat) (y : Int) (A' : Option Addr) (n' c' : Nat) (Q : List Int), e = .returned (.tuple #[.agg #[.bool s, .slice A n c], .slice A' n' c']) ∧ OwZ w' w.heap.size s A n c y ∧ OwZs w' w.heap.size A' n' c' Q ∧ Hid (y = d ∧ Q = P) ∧ Below w.heap.size w w'
set_option maxRecDepth 100000 in
set_option maxHeartbeats 4000000 in
theorem parts_any {N M : Nat} {A : Option Addr} {n c : Nat} {L : List Rat} {w : World} (h : RdQs w w.heap.size N A n c (L.map pr)) (hS : ∀ j, Zz.zl (denF 1 (L.take j)) ≤ M) (hn : n ≤ 1048576) (hN : N ≤ 200000000000) (hM : M ≤ 200000000000) (h1N : 1 ≤ N) :
    Calls Tryz.prog 220 #[.slice A n c] w (RetPt (denL L) (numL L) w) := by
  obtain ⟨W1, HW1⟩ : ∃ W, W = w.alloc (.cells #[.bool false, .slice none 0 0] 28) := ⟨_, rfl⟩
  have hR : ZC W1 w.heap.size false none 0 0 := by rw [HW1]; exact ZC.new w false none 0 0
  have hB : Below w.heap.size w W1 := by rw [HW1]; exact (Below.refl w.heap.size w).alloc (Nat.le_refl _) _
  have HW1 := Lib.hid HW1
  have h1 := h.next hB
  go_enter Tryz.func220, Tryz.ntmps220
  go_wp2_with fail
  rw [← HW1.out]
  clear HW1
  clear HW1
  refine (common_any h1 hS hn hN hM h1N).mono ?_
  rintro _ W2 ⟨s2, A2, n2, c2, y, A3, n3, c3, P, kk, rfl, ho, hoz, hy, hb2⟩
  obtain ⟨W3, HW3⟩ : ∃ W, W = W2.alloc (.cells #[.bool s2, .slice A2 n2 c2] 28) := ⟨_, rfl⟩
  have hb3 : Below W2.heap.size W2 W3 := by rw [HW3]; exact (Below.refl _ _).alloc (Nat.le_refl _) _
  have hC : ZC W3 W2.heap.size s2 A2 n2 c2 := by rw [HW3]; exact ZC.new W2 s2 A2 n2 c2
  have hb13 := hb2.trans (hb3.mono hb2.size)
  have hR3 := hR.next hb13
  have hB3 := hB.trans (hb13.mono hB.size)
  have hlt : w.heap.size < W1.heap.size := hR.lt
  have HV := Lib.hid (And.intro hy.out.1 hy.out.2.1)
  have HO9 := Lib.hid (And.intro (((ho.next hb3).keep (keep_set2 hR3 (.bool s2) (.slice A2 n2 c2))).base (Nat.le_of_lt hlt)) ((((hoz.next hb3).far (p := ⟨w.heap.size, 0, none⟩) hlt (.bool s2)).far (p := ⟨w.heap.size, 1, none⟩) hlt (.slice A2 n2 c2)).base (Nat.le_of_lt hlt)))
  have HR9 := Lib.hid (hR3.store s2 A2 n2 c2)
  have HB9 := Lib.hid (below_put2 hB3 (Nat.le_refl w.heap.size) (.bool s2) (.slice A2 n2 c2))
  have q0 := hC.c0
  have q1 := hC.c1
  have r0 := hR3.c0
  have r1 := hR3.c1
  have f0 := hR3.fz 0
  have f1 := hR3.fz 1
  rw [HW3] at q0 q1 r0 r1 f0 f1
  have HW3 := Lib.hid HW3
  clear ho hoz hb2 hb3 hb13 hR hB h1 h hC hR3 hB3 hlt hy
  go_wp2_with fail
  rw [← HW3.out]
  clear HW3 q0 q1 r0 r1 f0 f1
  clear HW3
  generalize (W3.setCell ⟨w.heap.size, 0, none⟩ (.bool s2)).setCell ⟨w.heap.size, 1, none⟩ (.slice A2 n2 c2) = W9 at *
  have z0 := HR9.out.c0
  have z1 := HR9.out.c1
  exact bodyPost_ret (by simp [results, Tryz.results220, go_sem, z0, z1]) rfl ⟨s2, A2, n2, c2, y, A3, n3, c3, P, rfl, HO9.out.1, HO9.out.2, HV, HB9.out⟩
end Go.Proofs.YtipbpdiahemmpaaGreat

/- qpoly: by the lead; an integer polynomial by a number. -/
namespace Go.Proofs.YtipbpdiahemmpaaGreat
open Go.RowKit Go.IntWalk
attribute [local go_sem ↓] Go.wp_at_zero Go.wp_at_succ

set_option maxRecDepth 100000 in
set_option maxHeartbeats 4000000 in
theorem qmonic_any {N : Nat} {A : Option Addr} {n c : Nat} {L : List Rat} {w : World} (h : RdQs w w.heap.size N A n c (L.map pr)) (hz : Pq.Nz L) (hn : n ≤ 1048576) (hN : N ≤ 200000000000) (h1N : 1 ≤ N) :
    Calls Tryz.prog 125 #[.slice A n c] w (RetPq (fun i => Pq.co L i * (Pq.co L (L.length - 1))⁻¹) w) := by
  have HLEN := Lib.hid h.lenp
  have HNZ := Lib.hid hz
  have HSL := Lib.hid (h.szp h1N)
  have H := Lib.hid h
  clear h hz
  go_enter Tryz.func125, Tryz.ntmps125
  rcases Nat.eq_zero_or_pos n with h0 | h0
  · subst h0
    have HL := Lib.hid (List.eq_nil_of_length_eq_zero HLEN.out)
    go_wp2
    go_ret
    exact ⟨_, _, _, [], rfl, OwQp.nil _ _ _, Lib.hid ⟨Pq.nz_nil, fun i => by rw [HL.out, Pq.co_nil]; show (0 : Rat) = Pq.co [] i * _; rw [Pq.co_nil, Rat.zero_mul]⟩, Below.refl _ _⟩
  · obtain ⟨m, rfl⟩ : ∃ m, n = m + 1 := ⟨n - 1, by omega⟩
    obtain ⟨ad, s1, A1, n1, c1, s2, A2, n2, c2, x, hA, hbk, hx0, hx1, hx2, hx3, hr1, hr2, hn1, hn2, hp⟩ := qp_at H.out (show m < m + 1 by omega)
    subst hA
    have HX := Lib.hid (show x = Pq.co L (L.length - 1) ∧ x ≠ 0 by
      have e : L.length - 1 = m := by rw [HLEN.out]; rfl
      have e2 := Pq.nz_top HNZ.out (by rw [HLEN.out]; omega)
      rw [e] at e2 ⊢
      rw [Pq.co_get hp.out] at e2 ⊢
      exact ⟨rfl, e2⟩)
    go_wp2_with fail
    refine (qinvq_any (N := N) hr1 hr2 ⟨hn1, hn2⟩ hN h1N HX.out.2).mono ?_
    rintro _ W2 ⟨s3, A3, n3, c3, s4, A4, n4, c4, q, rfl, ho, hq, hb2⟩
    obtain ⟨W3, HW3⟩ : ∃ W, W = W2.alloc (.cells #[.bool s3, .slice A3 n3 c3, .bool s4, .slice A4 n4 c4] 56) := ⟨_, rfl⟩
    have hb3 : Below W2.heap.size W2 W3 := by rw [HW3]; exact (Below.refl _ _).alloc (Nat.le_refl _) _
    have hB3 := hb2.trans (hb3.mono hb2.size)
    have hQ : QC W3 W2.heap.size s3 A3 n3 c3 s4 A4 n4 c4 := by rw [HW3]; exact QC.new W2 s3 A3 n3 c3 s4 A4 n4 c4
    have a0 := hQ.c0
    have a1 := hQ.c1
    have a2 := hQ.c2
    have a3 := hQ.c3
    rw [HW3] at a0 a1 a2 a3
    have HO := Lib.hid (ho.next hb3)
    have HB3 := Lib.hid hB3
    have HQ := Lib.hid (show Qs N q by
      rw [hq.out]
      have e : Qs N x := ⟨Nat.le_trans hr1.len hn1, Nat.le_trans hr2.len hn2⟩
      exact e.inv HX.out.2)
    have HN := Lib.hid (show n3 ≤ N ∧ n4 ≤ N from ⟨by rw [ho.num.len]; exact HQ.out.1, by rw [ho.den.len]; exact HQ.out.2⟩)
    have HW3 := Lib.hid HW3
    clear ho hb2 hb3 hB3 hQ hx0 hx1 hx2 hx3 hr1 hr2
    go_wp2_with fail
    rw [← HW3.out]
    clear HW3 a0 a1 a2 a3
    clear HW3
    refine (qscale_any (N := N) (H.out.next HB3.out) HO.out.num.rd HO.out.den.rd HN.out.1 HN.out.2 hn hN h1N).mono ?_
    rintro _ W4 ⟨A5, n5, c5, M5, rfl, ho5, hM5, hb4⟩
    go_wp2
    go_ret
    exact ⟨_, _, _, M5, rfl, ho5.base HB3.out.size, Lib.hid (by rw [← HX.out.1, ← hq.out]; exact hM5.out), HB3.out.trans (hb4.mono HB3.out.size)⟩

set_option maxRecDepth 100000 in
set_option maxHeartbeats 8000000 in
theorem qover_any {N : Nat} {A : Option Addr} {n c : Nat} {L : List Int} {s5 : Bool} {A5 : Option Addr} {n5 c5 : Nat} {d : Int} {w : World} (h : RdZs w w.heap.size N A n c L) (h5 : RdZ w w.heap.size s5 A5 n5 c5 d) (hn5 : n5 ≤ N) (hn : n ≤ 1048576) (hN : N ≤ 200000000000) (hd : d ≠ 0) :
    Calls Tryz.prog 126 #[.slice A n c, .agg #[.bool s5, .slice A5 n5 c5]] w (RetPq (fun i => Rat.divInt (Pz.co L i) d) w) := by
  have HLEN := Lib.hid h.len
  have HSY := Lib.hid (show Zz.zl d ≤ N from Nat.le_trans h5.len hn5)
  have HSL := Lib.hid (zl_co h)
  have HD := Lib.hid hd
  obtain ⟨i0, hi, hz0, hz1, hz2⟩ := info_parts infoQ
  obtain ⟨W1, HW1⟩ : ∃ W, W = w.alloc (.cells #[.bool s5, .slice A5 n5 c5] 28) := ⟨_, rfl⟩
  have hC : ZC W1 w.heap.size s5 A5 n5 c5 := by rw [HW1]; exact ZC.new w s5 A5 n5 c5
  have hB1 : Below w.heap.size w W1 := by rw [HW1]; exact (Below.refl _ _).alloc (Nat.le_refl _) _
  have HCY := Lib.hid (show ∀ W : World, Below W1.heap.size W1 W → ZC W w.heap.size s5 A5 n5 c5 ∧ RdZ W W.heap.size s5 A5 n5 c5 d ∧ RdZs W W.heap.size N A n c L from fun W hb => ⟨hC.next hb, (h5.next hB1).next hb, (h.next hB1).next hb⟩)
  have HB1 := Lib.hid hB1
  have HW1 := Lib.hid HW1
  clear hC hB1 h h5 hd
  go_enter Tryz.func126, Tryz.ntmps126
  go_wp2_with fail
  rw [← HW1.out]
  clear HW1
  clear HW1
  go_loopw [5, 12] (fun ov iv wr => ∃ (j c' : Nat) (A' : Option Addr) (M : List Rat), ov = .slice A' j c' ∧ iv = .int .i64 j ∧ j ≤ n ∧ OwQs wr W1.heap.size A' j c' M ∧ Hid (M = (List.range j).map fun i => Rat.divInt (Pz.co L i) d) ∧ Below W1.heap.size W1 wr) (fun _ iv _ => n - (intOf iv).toNat)
  case atStart => exact ⟨0, 0, none, [], rfl, rfl, Nat.zero_le _, OwQs.nil _ _, Lib.hid rfl, Below.refl _ _⟩
  case round =>
    obtain ⟨j, c', A', M, rfl, rfl, hj, ho, hM, hB⟩ := hrel
    by_cases hjn : j = n
    · subst hjn
      have HSM := Lib.hid (show ∀ x ∈ M, Qs N x by
        rw [hM.out]
        intro x hx
        obtain ⟨u, hu, rfl⟩ := List.mem_map.1 hx
        exact Qs.divInt HD.out (HSL.out u) HSY.out)
      go_wp2_with fail
      refine (qtrim_any ho.p HSM.out (by omega) (by omega)).mono ?_
      rintro _ W4 ⟨A4, n4, c4, M4, rfl, ho4, hM4, hb4⟩
      go_wp2
      go_ret
      refine ⟨_, _, _, M4, rfl, ho4.base HB1.out.size, Lib.hid (hM4.out.congr fun i => ?_), HB1.out.trans ((hB.trans (hb4.mono hB.size)).mono HB1.out.size)⟩
      rw [hM.out, Pq.co_range]
      rcases Nat.lt_or_ge i j with h1 | h1
      · rw [if_pos h1]
      · rw [if_neg (by omega), Pz.co_ge (by rw [HLEN.out]; exact h1), Rat.zero_divInt]
    · have hjl : j < n := by omega
      clear hjn
      have hjli : (j : Int) < (n : Int) := by omega
      obtain ⟨hC, hr5, hl⟩ := HCY.out wr hB
      obtain ⟨ad, s1, A1, n1, c1, x, rfl, hbk, hx0, hx1, hr1, hn1, hp⟩ := zs_at hl hjl
      obtain ⟨W2, HW2⟩ : ∃ W, W = wr.alloc (.cells #[.bool s1, .slice A1 n1 c1] 28) := ⟨_, rfl⟩
      have hb2 : Below wr.heap.size wr W2 := by rw [HW2]; exact (Below.refl _ _).alloc (Nat.le_refl _) _
      have hX2 : ZC W2 wr.heap.size s1 A1 n1 c1 := by rw [HW2]; exact ZC.new wr s1 A1 n1 c1
      have hB2 := hB.trans (hb2.mono hB.size)
      have a0 := hX2.c0
      have a1 := hX2.c1
      have b0 := (hC.next hb2).c0
      have b1 := (hC.next hb2).c1
      rw [HW2] at a0 a1 b0 b1
      have HO := Lib.hid (ho.next hb2)
      have HRD := Lib.hid (And.intro (hr1.next hb2) (hr5.next hb2))
      have HB2 := Lib.hid hB2
      have HW2 := Lib.hid HW2
      clear ho hB hb2 hB2 hr1 hr5 hl hC hX2
      go_wp2_with fail
      rw [← HW2.out]
      clear HW2 hx0 hx1 a0 a1 b0 b1
      clear HW2
      refine (qmake_any HRD.out.1 HRD.out.2 (by omega) (by omega) HD.out).mono ?_
      rintro _ W3 ⟨s3, A3, n3, c3, s4, A4, n4, c4, q, rfl, ho3, hq, hb3⟩
      have hB3 := HB2.out.trans (hb3.mono HB2.out.size)
      obtain ⟨W4, HW4⟩ : ∃ W, W = W3.alloc (.cells #[.bool s3, .slice A3 n3 c3, .bool s4, .slice A4 n4 c4] 56) := ⟨_, rfl⟩
      have hb4 : Below W3.heap.size W3 W4 := by rw [HW4]; exact (Below.refl _ _).alloc (Nat.le_refl _) _
      have hB4 := hB3.trans (hb4.mono hB3.size)
      obtain ⟨E, hE, hEl, hEn⟩ := (HO.out.next hb3).next hb4
      have HO4 := Lib.hid ((ho3.base HB2.out.size).next hb4)
      rw [HW4] at hE hB4 hEn
      rw [HW4] at HO4
      have HE := Lib.hid hE
      have HEN := Lib.hid (And.intro hEl hEn)
      have HM2 := Lib.hid (show M ++ [q] = (List.range (j + 1)).map (fun i => Rat.divInt (Pz.co L i) d) by rw [hM.out, hq.out, ← Pz.co_get hp.out, List.range_succ, List.map_append]; rfl)
      have HB4 := Lib.hid hB4
      clear hE hEl hEn hb3 ho3 hb4 hB3 hB4 hq HO hM
      clear HW4
      go_wp2_with (at_builtin; refine wpList_append_own _ rfl _ _ 38 rfl W1.heap.size 56 i0 (.agg #[.bool false, .slice none 0 0, .bool false, .slice none 0 0]) 4 64 Tryz.underlying38 hi hz0 hz1 hz2 rfl (by decide) _ _ _ rfl (HE.out.alloc _) ⟨W3.heap.size + 1, 0, none⟩ 1 1 [.bool s3, .slice A3 n3 c3, .bool s4, .slice A4 n4 c4] rfl rfl (by simpa using qcell_new (W3.alloc (.cells #[.bool s3, .slice A3 n3 c3, .bool s4, .slice A4 n4 c4] 56)) (.bool s3) (.slice A3 n3 c3) (.bool s4) (.slice A4 n4 c4) 56) (by simp [Value.oneCell']) (by unfold maxLen; omega) (by omega) (by have := HB4.out.size; simp at this ⊢; omega) ?_; intro v' w1 hown' hgrow _)
      have hmore := qs_more (e := ((s3, A3, n3, c3), (s4, A4, n4, c4))) (x := q) HO4.out rfl (HE.out.alloc _) HEN.out.1 HEN.out.2 hown' hgrow
      have HB5 := Lib.hid ((HB4.out.alloc HB4.out.size (.cells #[.bool s3, .slice A3 n3 c3, .bool s4, .slice A4 n4 c4] 56)).grown hgrow (by have := HB4.out.size; simp at this ⊢; omega) (own_block HE.out))
      obtain ⟨A9, c9, rfl, ho9⟩ := hmore
      clear hown' hgrow HE HEN HO4
      go_wp2
      go_roundw
      case rel => exact ⟨j + 1, c9, A9, M ++ [q], rfl, by go_num, by omega, ho9, HM2, HB5.out⟩
      case measure => simp [intOf]; omega
end Go.Proofs.YtipbpdiahemmpaaGreat
