/- Integer polynomials as fractions; reference 09: degree, lead, by the lead. -/
import Derived.Test.YtipbpdiahemmpaaGreatQDa
import Derived.Test.YtipbpdiahemmpaaGreatQ41
import Derived.Test.YtipbpdiahemmpaaGreatQ12
import Derived.Test.YtipbpdiahemmpaaGreatQ34
import Derived.Test.YtipbpdiahemmpaaGreatQ13
import Derived.Test.YtipbpdiahemmpaaGreatQ42
namespace Go.Proofs.YtipbpdiahemmpaaGreat
open Go.RowKit Go.IntWalk
attribute [local go_sem ↓] Go.wp_at_zero Go.wp_at_succ

set_option maxRecDepth 100000 in
set_option maxHeartbeats 2000000 in
theorem qFromInt_any {N : Nat} {A : Option Addr} {n c : Nat} {L : List Int} {w : World} (h : RdZs w w.heap.size N A n c L) (hn : n ≤ 1048576) (hN : N ≤ 200000000000) (h1N : 1 ≤ N) :
    Calls Tryz.prog 42 #[.slice A n c] w (RetPq (fun i => ((Pz.co L i : Int) : Rat)) w) := by
  have HC := Lib.hid (zl_co h)
  have HLEN := Lib.hid h.len
  go_enter Tryz.func42, Tryz.ntmps42
  go_wp2_with fail
  refine (znorm_any h (by omega) (by omega)).mono ?_
  rintro _ W2 ⟨A2, n2, c2, M2, rfl, ho2, hM2, hb2⟩
  have hn2 : n2 ≤ 1048576 := by
    rw [← ho2.len]
    exact Nat.le_trans (Pz.nz_len hM2.out.1 (k := n) fun i hi => by rw [hM2.out.2]; exact Pz.co_ge (by rw [HLEN.out]; exact hi)) hn
  go_wp2_with fail
  refine (of_any 1 (by decide) (by decide) W2).mono ?_
  rintro _ W3 ⟨s3, A3, n3, c3, y, rfl, ho3, hy, hb3⟩
  obtain rfl : y = 1 := hy.out
  have hrd := rd_of' (ho2.next hb3) hM2.out.2 HC.out
  have hn3 : n3 ≤ N := by rw [ho3.len]; exact Nat.le_trans (Zz.zl_small (by decide)) h1N
  have hb23 := hb2.trans (hb3.mono hb2.size)
  go_wp2_with fail
  refine (qover_any hrd ho3.rd hn3 hn2 hN (by decide)).mono ?_
  rintro _ W4 ⟨A4, n4, c4, M4, rfl, ho4, hM4, hb4⟩
  go_wp2
  go_ret
  exact ⟨_, _, _, M4, rfl, ho4.base hb23.size, Lib.hid (hM4.out.congr fun i => by rw [hM2.out.2]; exact Rat.num_divInt_den ((Pz.co L i : Int) : Rat)), hb23.trans (hb4.mono hb23.size)⟩

set_option maxRecDepth 100000 in
set_option maxHeartbeats 2000000 in
theorem rQInt_any {s : Bool} {A : Option Addr} {n c : Nat} {z : Int} {w : World} (h : RdZ w w.heap.size s A n c z) (hn : n ≤ 17592186044416) :
    Calls Tryz.prog 128 #[.agg #[.bool s, .slice A n c]] w (RetV4 (z : Rat) w) := by
  obtain ⟨W1, HW1⟩ : ∃ W, W = (w.alloc (.cells #[.bool s, .slice A n c] 28)).alloc (.cells #[.bool false, .slice none 0 0, .bool false, .slice none 0 0] 56) := ⟨_, rfl⟩
  have hb0 : Below w.heap.size w (w.alloc (.cells #[.bool s, .slice A n c] 28)) := (Below.refl _ _).alloc (Nat.le_refl _) _
  have hZ : ZC W1 w.heap.size s A n c := by rw [HW1]; exact (ZC.new w s A n c).alloc _
  have hR : QC W1 (w.heap.size + 1) false none 0 0 false none 0 0 := by rw [HW1]; simpa using QC.new (w.alloc (.cells #[.bool s, .slice A n c] 28)) false none 0 0 false none 0 0
  have hB : Below w.heap.size w W1 := by rw [HW1]; exact hb0.alloc hb0.size _
  have h1 := h.next hB
  have a0 := hZ.c0
  have a1 := hZ.c1
  rw [HW1] at a0 a1
  have HW1 := Lib.hid HW1
  clear hb0 hZ
  go_enter Tryz.func128, Tryz.ntmps128
  go_wp2_with fail
  rw [← HW1.out]
  clear HW1 a0 a1
  clear HW1
  refine (rINorm_any h1 hn).mono ?_
  rintro _ W2 ⟨s2, A2, n2, c2, y2, rfl, ho2, hy2, hb2⟩
  go_wp2_with fail
  refine (rIOf_any 1 (by decide) (by decide) W2).mono ?_
  rintro _ W3 ⟨s3, A3, n3, c3, y3, rfl, ho3, hy3, hb3⟩
  have hb13 := hb2.trans (hb3.mono hb2.size)
  have hR3 := hR.next hb13
  have hB3 := hB.trans (hb13.mono hB.size)
  have ho : OwQ W3 w.heap.size s2 A2 n2 c2 s3 A3 n3 c3 (z : Rat) := ⟨by have := (ho2.next hb3).base hB.size; rw [hy2.out] at this; exact this, by have := ho3.base (b' := w.heap.size) (Nat.le_trans hB.size hb2.size); rw [hy3.out] at this; exact this⟩
  have r0 := hR3.c0
  have r1 := hR3.c1
  have r2 := hR3.c2
  have r3 := hR3.c3
  have f0 := hR3.fz 0
  have f1 := hR3.fz 1
  have f2 := hR3.fz 2
  have f3 := hR3.fz 3
  have HR9 := Lib.hid (hR3.store s2 A2 n2 c2 s3 A3 n3 c3)
  have HO9 := Lib.hid (ho.keep (keep_putQ hR3 s2 A2 n2 c2 s3 A3 n3 c3))
  have HB9 := Lib.hid (below_putQ hB3 (Nat.le_succ w.heap.size) s2 A2 n2 c2 s3 A3 n3 c3)
  unfold putQ at HR9 HB9 HO9
  clear hR hR3 hB hB3 hb2 hb3 hb13 h1 h ho ho2 ho3 hy2 hy3
  go_wp2_with fail
  generalize (((W3.setCell ⟨w.heap.size + 1, 0, none⟩ (.bool s2)).setCell ⟨w.heap.size + 1, 1, none⟩ (.slice A2 n2 c2)).setCell ⟨w.heap.size + 1, 2, none⟩ (.bool s3)).setCell ⟨w.heap.size + 1, 3, none⟩ (.slice A3 n3 c3) = W9 at *
  have z0 := HR9.out.c0
  have z1 := HR9.out.c1
  have z2 := HR9.out.c2
  have z3 := HR9.out.c3
  exact bodyPost_ret (by simp [results, Tryz.results128, go_sem, z0, z1, z2, z3]) rfl ⟨_, _, _, _, _, _, _, _, (z : Rat), rfl, HO9.out, Lib.hid rfl, HB9.out⟩
theorem mapz_snoc {L : List Int} {j : Nat} {z : Int} (h : L[j]? = some z) : (L.take j).map (fun z : Int => (z : Rat)) ++ [(z : Rat)] = (L.take (j + 1)).map (fun z : Int => (z : Rat)) := by
  rw [List.take_add_one, h]
  simp

set_option maxRecDepth 100000 in
set_option maxHeartbeats 4000000 in
theorem rqFromInt_any {N : Nat} {A : Option Addr} {n c : Nat} {L : List Int} {w : World} (h : RdZs w w.heap.size N A n c L) (hn : n ≤ 1048576) (hN : N ≤ 200000000000) (h1N : 1 ≤ N) :
    Calls Tryz.prog 43 #[.slice A n c] w (RetPq (fun i => ((Pz.co L i : Int) : Rat)) w) := by
  have HC := Lib.hid (show ∀ z ∈ L, Zz.zl z ≤ N from fun z hz => by
    obtain ⟨j, hj⟩ := List.getElem?_of_mem hz
    have e := zl_co h j
    rwa [Pz.co_get hj] at e)
  have HLEN := Lib.hid h.len
  obtain ⟨i0, hi, hz0, hz1, hz2⟩ := info_parts infoQ
  go_enter Tryz.func43, Tryz.ntmps43
  go_wp2_with fail
  go_loopw [3, 8] (fun ov iv wr => ∃ (j c' : Nat) (A' : Option Addr) (M : List Rat), ov = .slice A' j c' ∧ iv = .int .i64 (j : Int) ∧ j ≤ n ∧ OwQs wr w.heap.size A' j c' M ∧ Hid (M = (L.take j).map (fun z : Int => (z : Rat))) ∧ Below w.heap.size w wr) (fun _ iv _ => n - (intOf iv).toNat)
  case atStart => exact ⟨0, 0, none, [], rfl, rfl, Nat.zero_le _, OwQs.nil _ _, Lib.hid rfl, Below.refl _ _⟩
  case round =>
    obtain ⟨j, c', A', M, rfl, rfl, hj, ho, hM, hB⟩ := hrel
    by_cases hjn : j = n
    · subst hjn
      have HM := Lib.hid (show M = L.map (fun z : Int => (z : Rat)) by rw [hM.out, List.take_of_length_le (by rw [HLEN.out]; exact Nat.le_refl _)])
      have HSM := Lib.hid (show ∀ y ∈ M, Qs N y by
        rw [HM.out]
        intro y hy
        obtain ⟨z, hz, rfl⟩ := List.mem_map.1 hy
        exact Qs.int (HC.out z hz) h1N)
      have hrd := ho.p.rd HSM.out
      go_wp2_with fail
      refine (rqnorm_own hrd (by omega) (by omega)).mono ?_
      rintro _ W4 ⟨A4, n4, c4, M4, rfl, ho4, hM4, hb4⟩
      go_wp2
      go_ret
      refine ⟨_, _, _, M4, rfl, ho4.base hB.size, Lib.hid (hM4.out.congr fun i => ?_), hB.trans (hb4.mono hB.size)⟩
      rw [HM.out]
      rcases Nat.lt_or_ge i L.length with h1 | h1
      · rw [Pq.co_get (by rw [List.getElem?_map, Pz.get_co h1]; rfl)]
      · rw [Pq.co_ge (by rw [List.length_map]; exact h1), Pz.co_ge h1]; rfl
    · have hjl : j < n := by omega
      clear hjn
      have hjli : (j : Int) < (n : Int) := by omega
      obtain ⟨ad, s1, A1, n1, c1, z, rfl, hbk, hx0, hx1, hrz, hn1, hz⟩ := zs_at h hjl
      obtain ⟨hy0, hy1⟩ := zs_cells hB hbk hx0 hx1
      obtain ⟨W2, HW2⟩ : ∃ W, W = wr.alloc (.cells #[.bool s1, .slice A1 n1 c1] 28) := ⟨_, rfl⟩
      have hb2 : Below wr.heap.size wr W2 := by rw [HW2]; exact (Below.refl _ _).alloc (Nat.le_refl _) _
      have hB2 := hB.trans (hb2.mono hB.size)
      have HO := Lib.hid (ho.next hb2)
      have HRD := Lib.hid (hrz.next hB2)
      have HB2 := Lib.hid hB2
      have HNN := Lib.hid hn1
      have HW2 := Lib.hid HW2
      clear ho hB hb2 hB2 hrz hx0 hx1
      go_wp2_with fail
      rw [← HW2.out]
      clear HW2 hy0 hy1
      clear HW2
      refine (rQInt_any HRD.out (by have := HNN.out; omega)).mono ?_
      rintro _ W3 ⟨s3, A3, n3, c3, s4, A4, n4, c4, y, rfl, ho3, hy, hb3⟩
      have hB3 := HB2.out.trans (hb3.mono HB2.out.size)
      obtain ⟨E, hE, hEl, hEn⟩ := HO.out.next hb3
      have HO4 := Lib.hid (ho3.base (b' := w.heap.size) HB2.out.size)
      have HE := Lib.hid hE
      have HEN := Lib.hid (And.intro hEl hEn)
      have HM2 := Lib.hid (show M ++ [y] = (L.take (j + 1)).map (fun z : Int => (z : Rat)) by rw [hM.out, hy.out]; exact mapz_snoc hz.out)
      have HB4 := Lib.hid hB3
      clear hE hEl hEn hb3 ho3 hB3 hy HO hM
      go_wp2_with (at_builtin; refine wpList_append_own _ rfl _ _ 38 rfl w.heap.size 56 i0 (.agg #[.bool false, .slice none 0 0, .bool false, .slice none 0 0]) 4 64 Tryz.underlying38 hi hz0 hz1 hz2 rfl (by decide) _ _ _ rfl (HE.out.alloc _) ⟨W3.heap.size, 0, none⟩ 1 1 [.bool s3, .slice A3 n3 c3, .bool s4, .slice A4 n4 c4] rfl rfl (qcell_new _ _ _ _ _ _) (by simp [Value.oneCell']) (by unfold maxLen; omega) (by omega) (by have := HB4.out.size; simp at this ⊢; omega) ?_; intro v' w1 hown' hgrow _)
      have hmore := qs_more (e := ((s3, A3, n3, c3), (s4, A4, n4, c4))) (x := y) HO4.out rfl (HE.out.alloc _) HEN.out.1 HEN.out.2 hown' hgrow
      have HB5 := Lib.hid ((HB4.out.alloc HB4.out.size (.cells #[.bool s3, .slice A3 n3 c3, .bool s4, .slice A4 n4 c4] 56)).grown hgrow (by have := HB4.out.size; simp at this ⊢; omega) (own_block HE.out))
      obtain ⟨A5, c5, rfl, ho5⟩ := hmore
      clear hown' hgrow HE HEN HO4
      go_wp2
      go_roundw
      case rel => exact ⟨j + 1, c5, A5, M ++ [y], rfl, by go_num, by omega, ho5, HM2, HB5.out⟩
      case measure => simp [intOf]; omega

set_option maxHeartbeats 400000 in
theorem rqDegree_any {N : Nat} {A : Option Addr} {n c : Nat} {L : List (Int × Int)} {w : World} (h : RdQs w w.heap.size N A n c L) (hd : ∀ p ∈ L, p.2 ≠ 0) (hn : n ≤ 1048576) (hN : N ≤ 1000000000000) :
    Calls Tryz.prog 34 #[.slice A n c] w (RetK (((nq L).length : Int) - 1) w) := by
  have HLEN := Lib.hid h.len
  go_enter Tryz.func34, Tryz.ntmps34
  go_wp2_with fail
  refine (rqnorm_any h hd hn hN).mono ?_
  rintro _ W2 ⟨A2, n2, c2, M2, rfl, ho2, hM2, hb2⟩
  have HM := Lib.hid (show M2 = nq L from hM2.out.nrm)
  have hl := ho2.len
  have hn2 : n2 ≤ 1048576 := by rw [← hl, HM.out]; exact Nat.le_trans (nq_len L) (by rw [HLEN.out]; exact hn)
  have HL := Lib.hid (show ((nq L).length : Int) - 1 = (n2 : Int) - 1 by rw [← HM.out, hl])
  have hw : IntKind.i64.wrap ((n2 : Int) - 1) = (n2 : Int) - 1 := by rw [IntWalk.i64_in _ (by omega)]
  clear hl
  go_wp2
  go_ret
  exact ⟨_, rfl, Lib.hid HL.out.symm, hb2⟩

set_option maxRecDepth 100000 in
set_option maxHeartbeats 2000000 in
theorem rqLead_any {N : Nat} {A : Option Addr} {n c : Nat} {L : List (Int × Int)} {w : World} (h : RdQs w w.heap.size N A n c L) (hd : ∀ p ∈ L, p.2 ≠ 0) (hn : n ≤ 1048576) (hN : N ≤ 1000000000000) (h0 : 0 < (nq L).length) :
    Calls Tryz.prog 113 #[.slice A n c] w (RetV4 (Pq.co (L.map qval) ((nq L).length - 1)) w) := by
  obtain ⟨W1, HW1⟩ : ∃ W, W = w.alloc (.cells #[.bool false, .slice none 0 0, .bool false, .slice none 0 0] 56) := ⟨_, rfl⟩
  have hR : QC W1 w.heap.size false none 0 0 false none 0 0 := by rw [HW1]; exact QC.new w false none 0 0 false none 0 0
  have hB : Below w.heap.size w W1 := by rw [HW1]; exact (Below.refl _ _).alloc (Nat.le_refl _) _
  have HLEN := Lib.hid h.len
  have HW1 := Lib.hid HW1
  have h1 := h.next hB
  go_enter Tryz.func113, Tryz.ntmps113
  go_wp2_with fail
  rw [← HW1.out]
  clear HW1
  clear HW1
  refine (rqnorm_any h1 hd hn hN).mono ?_
  rintro _ W2 ⟨A2, n2, c2, M2, rfl, ho2, hM2, hb2⟩
  have HM := Lib.hid (show M2 = nq L from hM2.out.nrm)
  have hl := ho2.len
  obtain ⟨m, hm⟩ : ∃ m, n2 = m + 1 := ⟨n2 - 1, by rw [← hl, HM.out]; omega⟩
  have hm1 : m ≤ 1048576 := by
    have : n2 ≤ 1048576 := by rw [← hl, HM.out]; exact Nat.le_trans (nq_len L) (by rw [HLEN.out]; exact hn)
    omega
  have HLM := Lib.hid (show (nq L).length - 1 = m by rw [← HM.out, hl, hm]; rfl)
  have hw : IntKind.i64.wrap (((m + 1 : Nat) : Int) - 1) = (m : Int) := by rw [IntWalk.i64_in _ (by omega)]; omega
  have hidx : ((m + 1 : Nat) : Int) - 1 = (m : Int) := by omega
  have hmi : (m : Int) < ((m + 1 : Nat) : Int) := by omega
  clear hl
  subst hm
  obtain ⟨ad, s3, A3, n3, c3, s4, A4, n4, c4, x, rfl, hbk, hx0, hx1, hx2, hx3, ho3, hx⟩ := op_at ho2 (show m < m + 1 by omega)
  have HX := Lib.hid (show x = Pq.co (L.map qval) ((nq L).length - 1) by
    rw [HLM.out, ← co_nq, ← HM.out, Pq.co_get hx.out])
  have hR2 := hR.next hb2
  have hB2 := hB.trans (hb2.mono hB.size)
  have r0 := hR2.c0
  have r1 := hR2.c1
  have r2 := hR2.c2
  have r3 := hR2.c3
  have f0 := hR2.fz 0
  have f1 := hR2.fz 1
  have f2 := hR2.fz 2
  have f3 := hR2.fz 3
  have HR9 := Lib.hid (hR2.store s3 A3 n3 c3 s4 A4 n4 c4)
  have HO9 := Lib.hid ((ho3.base (b' := w.heap.size) hB.size).keep (keep_putQ hR2 s3 A3 n3 c3 s4 A4 n4 c4))
  have HB9 := Lib.hid (below_putQ hB2 (Nat.le_refl w.heap.size) s3 A3 n3 c3 s4 A4 n4 c4)
  unfold putQ at HR9 HB9 HO9
  clear hR hR2 hB hB2 hb2 h1 h ho2 ho3
  go_wp2_with fail
  generalize (((W2.setCell ⟨w.heap.size, 0, none⟩ (.bool s3)).setCell ⟨w.heap.size, 1, none⟩ (.slice A3 n3 c3)).setCell ⟨w.heap.size, 2, none⟩ (.bool s4)).setCell ⟨w.heap.size, 3, none⟩ (.slice A4 n4 c4) = W9 at *
  have z0 := HR9.out.c0
  have z1 := HR9.out.c1
  have z2 := HR9.out.c2
  have z3 := HR9.out.c3
  exact bodyPost_ret (by simp [results, Tryz.results113, go_sem, z0, z1, z2, z3]) rfl ⟨_, _, _, _, _, _, _, _, x, rfl, HO9.out, HX, HB9.out⟩

set_option maxRecDepth 100000 in
set_option maxHeartbeats 2000000 in
theorem rQInv_any {s s' : Bool} {A A' : Option Addr} {n c n' c' : Nat} {x : Rat} {w : World} (h : RdZ w w.heap.size s A n c x.num) (h' : RdZ w w.heap.size s' A' n' c' (x.den : Int)) (hn : n ≤ 1000000000000) (hn' : n' ≤ 1000000000000) (h0 : x ≠ 0) :
    Calls Tryz.prog 131 #[.agg #[.bool s, .slice A n c, .bool s', .slice A' n' c']] w (RetV4 x⁻¹ w) := by
  obtain ⟨W1, HW1⟩ : ∃ W, W = (w.alloc (.cells #[.bool s, .slice A n c, .bool s', .slice A' n' c'] 56)).alloc (.cells #[.bool false, .slice none 0 0, .bool false, .slice none 0 0] 56) := ⟨_, rfl⟩
  obtain ⟨hX, hR, hB⟩ := q_box1 w s A n c s' A' n' c' W1 HW1
  have a0 := hX.c0
  have a1 := hX.c1
  have a2 := hX.c2
  have a3 := hX.c3
  rw [HW1] at a0 a1 a2 a3
  have h1 := h.next hB
  have h2 := h'.next hB
  have HW1 := Lib.hid HW1
  have HIV := Lib.hid (show x⁻¹ = Rat.divInt x.den x.num by conv => lhs; rw [← Rat.num_divInt_den x, Rat.inv_divInt])
  go_enter Tryz.func131, Tryz.ntmps131
  go_wp2_with fail
  rw [← HW1.out]
  clear HW1 a0 a1 a2 a3
  clear HW1
  refine (rQMake_any h2 h1 hn' hn (fun e => h0 (Rat.num_eq_zero.1 e))).mono ?_
  rintro _ W2 ⟨s2, A2, n2, c2, s3, A3, n3, c3, y, rfl, ho, hy, hb2⟩
  have hR2 := hR.next hb2
  have hB2 := hB.trans (hb2.mono hB.size)
  have r0 := hR2.c0
  have r1 := hR2.c1
  have r2 := hR2.c2
  have r3 := hR2.c3
  have f0 := hR2.fz 0
  have f1 := hR2.fz 1
  have f2 := hR2.fz 2
  have f3 := hR2.fz 3
  have HR9 := Lib.hid (hR2.store s2 A2 n2 c2 s3 A3 n3 c3)
  have HO9 := Lib.hid ((ho.base (b' := w.heap.size) hB.size).keep (keep_putQ hR2 s2 A2 n2 c2 s3 A3 n3 c3))
  have HB9 := Lib.hid (below_putQ hB2 (show w.heap.size ≤ w.heap.size + 1 by omega) s2 A2 n2 c2 s3 A3 n3 c3)
  unfold putQ at HR9 HB9 HO9
  clear hX hR hR2 hB hB2 hb2 h1 h2 h h' ho
  go_wp2_with fail
  generalize (((W2.setCell ⟨w.heap.size + 1, 0, none⟩ (.bool s2)).setCell ⟨w.heap.size + 1, 1, none⟩ (.slice A2 n2 c2)).setCell ⟨w.heap.size + 1, 2, none⟩ (.bool s3)).setCell ⟨w.heap.size + 1, 3, none⟩ (.slice A3 n3 c3) = W9 at *
  have z0 := HR9.out.c0
  have z1 := HR9.out.c1
  have z2 := HR9.out.c2
  have z3 := HR9.out.c3
  exact bodyPost_ret (by simp [results, Tryz.results131, go_sem, z0, z1, z2, z3]) rfl ⟨_, _, _, _, _, _, _, _, y, rfl, HO9.out, Lib.hid (by rw [hy.out, HIV.out]), HB9.out⟩

set_option maxRecDepth 100000 in
set_option maxHeartbeats 2000000 in
theorem rqMonic_any {N : Nat} {A : Option Addr} {n c : Nat} {L : List (Int × Int)} {w : World} (h : RdQs w w.heap.size N A n c L) (hd : ∀ p ∈ L, p.2 ≠ 0) (hn : n ≤ 1048576) (hN : N ≤ 200000000000) (h1N : 1 ≤ N) :
    Calls Tryz.prog 45 #[.slice A n c] w (RetPq (fun i => Pq.co (L.map qval) i * (Pq.co (L.map qval) ((nq L).length - 1))⁻¹) w) := by
  have H := Lib.hid h
  have HD := Lib.hid hd
  have HSZ := Lib.hid (h.sz hd h1N)
  clear hd
  go_enter Tryz.func45, Tryz.ntmps45
  go_wp2_with fail
  refine (rqDegree_any h HD.out hn (by omega)).mono ?_
  rintro _ W2 ⟨v, rfl, hv, hb2⟩
  by_cases h0 : (nq L).length = 0
  · have hv1 : v < 0 := by rw [hv.out, h0]; decide
    have HZ := Lib.hid (show ∀ i, Pq.co (L.map qval) i = 0 from fun i => by rw [← co_nq, List.eq_nil_of_length_eq_zero h0, Pq.co_nil])
    have HB2 := Lib.hid hb2
    clear h0 hb2
    go_wp2
    go_ret
    refine ⟨_, _, _, [], rfl, ⟨[], rfl, ⟨rfl, fun j e z he _ => by simp at he⟩, Nat.le_refl _, by unfold maxLen; omega, .inl rfl⟩, Lib.hid ⟨Pq.nz_nil, fun i => by show _ = Pq.co (L.map qval) i * _; rw [Pq.co_nil, HZ.out i, Rat.zero_mul]⟩, ?_⟩
    exact HB2.out.alloc HB2.out.size _
  · have hv1 : decide (v < 0) = false := by simp only [decide_eq_false_iff_not]; rw [hv.out]; omega
    have HL0 := Lib.hid (show 0 < (nq L).length by omega)
    have HN0 := Lib.hid (show Pq.co (L.map qval) ((nq L).length - 1) ≠ 0 by
      rw [← co_nq]
      exact Pq.nz_top (Pq.nz_nrm _) HL0.out)
    have h2 := H.out.next hb2
    clear h0
    go_wp2_with fail
    refine (rqLead_any h2 HD.out hn (by omega) HL0.out).mono ?_
    rintro _ W3 ⟨s3, A3, n3, c3, s4, A4, n4, c4, x, rfl, ho3, hx, hb3⟩
    have HXS := Lib.hid (show Qs N x by rw [hx.out]; exact HSZ.out _)
    have hb23 := hb2.trans (hb3.mono hb2.size)
    go_wp2_with fail
    refine (rQInv_any ho3.num.rd ho3.den.rd (by rw [ho3.num.len]; have := HXS.out.1; omega) (by rw [ho3.den.len]; have := HXS.out.2; omega) (by rw [hx.out]; exact HN0.out)).mono ?_
    rintro _ W4 ⟨s5, A5, n5, c5, s6, A6, n6, c6, y, rfl, ho5, hy, hb5⟩
    have HYS := Lib.hid (show Qs N y by rw [hy.out]; exact HXS.out.inv (by rw [hx.out]; exact HN0.out))
    have hb25 := hb23.trans (hb5.mono hb23.size)
    have h4 := H.out.next hb25
    go_wp2_with fail
    refine (rqScale_any h4 ho5.num.rd ho5.den.rd HD.out (by simpa using y.den_nz) hn (by rw [ho5.num.len]; exact HYS.out.1) (by rw [ho5.den.len]; exact HYS.out.2) hN h1N).mono ?_
    rintro _ W5 ⟨A7, n7, c7, M7, rfl, ho7, hM7, hb7⟩
    go_wp2
    go_ret
    exact ⟨_, _, _, M7, rfl, ho7.base hb25.size, Lib.hid (hM7.out.congr fun i => by rw [Rat.num_divInt_den, hy.out, hx.out]), hb25.trans (hb7.mono hb25.size)⟩
end Go.Proofs.YtipbpdiahemmpaaGreat

/- qpoly.div of what is shorter; of any two. -/
namespace Go.Proofs.YtipbpdiahemmpaaGreat
open Go.RowKit Go.IntWalk
attribute [local go_sem ↓] Go.wp_at_zero Go.wp_at_succ

theorem wpList_append_sl {P : Program} {w : World} {ops : Array Oper} {rest : List Oper} {o : Oper} {a : Act} {Q : Exit → Act → World → Prop} (hgd : o.guard = none) (s x : Operand) (t : TypeId)
    (ho : o.op = .call { callee := .builtin .append, args := #[s, x], argTypes := #[t, t] })
    (base : Nat) (e : TypeId) (i : TypeInfo) (z : Value) (size bytes : Nat) (ht : P.underlying t = some (.slice e)) (hi : P.info? e = some i) (hz : i.zero = some z)
    (hsize : i.size = size) (hby : i.bytes = bytes) (hzs : z.cells.size = size) (hsz : 0 < size)
    (v : Value) (n : Nat) (xs : List Value) (hs : a.eval s = v) (hown : w.ownsRow base e size v n xs)
    (X : Option Addr) (m c : Nat) (news : List Value) (hx : a.eval x = .slice X m c) (hl : news.length = m * size) (hnil : X = none → m = 0) (hnews : ∀ ad, X = some ad → ∀ j u, news[j]? = some u → w.cell? (ad.add j) = some u) (h1 : ∀ u ∈ news, u.oneCell' = true)
    (h63 : n + m ≤ maxLen) (hbytes : (n + m) * bytes ≤ 140737488355328) (hbase : base ≤ w.heap.size)
    (h : ∀ A' c' w', w'.ownsRow base e size (.slice A' (n + m) c') (n + m) (xs ++ news) → w.grownBy w' v.ownBlock → wpList P ops Q rest (a.put o.dst (.slice A' (n + m) c')) w') : wpList P ops Q (o :: rest) a w :=
  wpList_plain hgd fun _ hK => wp_append_sl s x t ho base e i z size bytes ht hi hz hsize hby hzs hsz v n xs hs hown X m c news hx hl hnil hnews h1 h63 hbytes hbase fun A' c' w' h2 h3 => hK _ _ (h A' c' w' h2 h3)
/-- As an append reads it. -/
theorem OwQp.news {w : World} {b : Nat} {A : Option Addr} {n c : Nat} {L : List Rat} (h : OwQp w b A n c L) : ∃ E : List (Ent × Ent), E.length = n ∧ EntQ w b E L ∧ (qcs E).length = n * 4 ∧ (A = none → n = 0) ∧ ∀ ad, A = some ad → ∀ j u, (qcs E)[j]? = some u → w.cell? (ad.add j) = some u := by
  obtain ⟨E, h1, h2, h3, h4, h5⟩ := h
  refine ⟨E, h1, h2, by rw [qcs_len, h1], ?_, ?_⟩
  · intro e
    rcases h5 with h5 | ⟨g, cs, e2, _⟩
    · exact h5
    · rw [e] at e2; cases e2
  · intro ad e j u hu
    rcases h5 with h5 | ⟨g, cs, e2, k2, k3, k4⟩
    · rw [List.eq_nil_of_length_eq_zero (h1.trans h5)] at hu
      simp [qcs] at hu
    · rw [e] at e2
      injection e2 with e2
      subst e2
      rw [add_base, cell_of_row w g j _ _ _ k3]
      exact k4 j u hu

set_option maxRecDepth 100000 in
set_option maxHeartbeats 4000000 in
theorem qdiv_lt {b N : Nat} {A A' : Option Addr} {n c n' c' : Nat} {La Lb : List Rat} {w : World} (h : OwQp w b A n c La) (h' : RdQs w w.heap.size N A' n' c' (Lb.map pr)) (hza : Pq.Nz La) (hlt : La.length < Lb.length) (hb : b ≤ w.heap.size) (hS : ∀ x ∈ La, Qs N x) (hn : n ≤ 1048576) (hN : N ≤ 60000000000) :
    Calls Tryz.prog 104 #[.slice A n c, .slice A' n' c'] w (RetDv b La Lb w) := by
  have hla : La.length = n := h.len
  have hlb : Lb.length = n' := h'.lenp
  have hnn : (n : Int) < (n' : Int) := by omega
  obtain ⟨E, hE, hEn, hEl, hnil, hcell⟩ := h.news
  have HEN := Lib.hid (And.intro hEn (And.intro hEl (And.intro hnil hcell)))
  have HE := Lib.hid hE
  have HS := Lib.hid hS
  have HLT := Lib.hid (And.intro hza (And.intro hlt hb))
  obtain ⟨i0, hi0, hz0, hz1, hz2⟩ := info_parts infoQ
  clear h h' hEn hE hEl hnil hcell hS hza hlt hb
  go_enter Tryz.func104, Tryz.ntmps104
  go_wp2_with (at_builtin; refine wpList_append_sl rfl _ _ 38 rfl w.heap.size 56 i0 (.agg #[.bool false, .slice none 0 0, .bool false, .slice none 0 0]) 4 64 Tryz.underlying38 hi0 hz0 hz1 hz2 rfl (by decide) (.slice none 0 0) 0 [] rfl (World.ownsRow_nil _ _ _ _) A n c (qcs E) rfl HEN.out.2.1 HEN.out.2.2.1 HEN.out.2.2.2 (qcs_one' E) (by unfold maxLen; omega) (by omega) (Nat.le_refl _) ?_; intro A1 c1 w1 hown1 hgrow)
  have hb1 : Below w.heap.size w w1 := (Below.refl _ _).grown hgrow (Nat.le_refl _) (fun k hk => by cases hk)
  have hO1 : OwQs w1 b A1 n c1 La := ⟨E, by have h1 := row_base hown1 HLT.out.2.2; rw [Nat.zero_add, List.nil_append] at h1; exact h1, HE.out, HEN.out.1.next hb1⟩
  have HO := Lib.hid hO1.p
  have HB1 := Lib.hid hb1
  clear hown1 hgrow hO1 hb1
  go_loopw [0] (fun av wr => av = .slice A1 n c1 ∧ wr = w1) (fun av _ => lenOf av)
  case atStart => exact ⟨rfl, rfl⟩
  case round =>
    obtain ⟨rfl, rfl⟩ := hrel
    go_wp2_with fail
    refine (qtrim_any (b := b) (N := N) (OwQp.nil _ _ none) (fun x hx => by cases hx) (by decide) (by omega)).mono ?_
    rintro _ W2 ⟨A2, n2, c2, M2, rfl, ho2, hM2, hb2⟩
    have HO2 := Lib.hid (HO.out.next hb2)
    go_wp2_with fail
    refine (qtrim_any (b := b) (N := N) HO2.out HS.out (by omega) (by omega)).mono ?_
    rintro _ W3 ⟨A3, n3, c3, M3, rfl, ho3, hM3, hb3⟩
    have ho2 := ho2.next hb3
    have HB3 := Lib.hid (HB1.out.trans ((hb2.trans (hb3.mono hb2.size)).mono HB1.out.size))
    have HM := Lib.hid (show Pq.IsD La Lb M2 M3 from by
      have e2 : M2 = [] := hM2.out.unique (Pq.IsP.self Pq.nz_nil)
      have e3 : M3 = La := hM3.out.unique (Pq.IsP.self HLT.out.1)
      rw [e2, e3]
      exact ⟨Pq.nz_nil, HLT.out.1, HLT.out.2.1, fun i => by rw [show Pq.co [] = fun _ => 0 from funext Pq.co_nil, Pq.cv_zero_left, Rat.zero_add]⟩)
    clear hb2 hb3
    go_wp2
    go_ret2
    exact ⟨_, _, _, M2, _, _, _, M3, rfl, ho2, ho3, HM, HB3.out⟩

/-- Of any two, the second not nought. -/
theorem qdiv_all {b N : Nat} {A A' : Option Addr} {n c n' c' : Nat} {La Lb : List Rat} {w : World} (h : OwQp w b A n c La) (h' : RdQs w w.heap.size N A' n' c' (Lb.map pr)) (hza : Pq.Nz La) (hzb : Pq.Nz Lb) (h0 : 0 < Lb.length) (hb : b ≤ w.heap.size) (hS : ∀ j, SzQ N (Pq.drest Lb j La)) (hn : n ≤ 1048576) (hN : N ≤ 60000000000) (h1N : 1 ≤ N) :
    Calls Tryz.prog 104 #[.slice A n c, .slice A' n' c'] w (RetDv b La Lb w) := by
  rcases Nat.lt_or_ge La.length Lb.length with hlt | hge
  · exact qdiv_lt h h' hza hlt hb (hS 0).mem hn hN
  · exact qdiv_run h h' hza hzb h0 hge hb hS hn hN h1N
end Go.Proofs.YtipbpdiahemmpaaGreat

/- qpoly: does one divide the other?; Divides as exported. -/
namespace Go.Proofs.YtipbpdiahemmpaaGreat
open Go.RowKit Go.IntWalk
attribute [local go_sem ↓] Go.wp_at_zero Go.wp_at_succ

/-- Does a divide b? -/
def Dvd (a b : List Rat) : Prop := (a = [] ∧ b = []) ∨ (a ≠ [] ∧ ∀ Q R, Pq.IsD b a Q R → R = [])
theorem dvd_nil {b : List Rat} : Dvd [] b ↔ b = [] := by
  constructor
  · rintro (h | h)
    · exact h.2
    · exact absurd rfl h.1
  · intro h; exact .inl ⟨rfl, h⟩
theorem dvd_of {a b Q R : List Rat} (ha : a ≠ []) (hz : Pq.Nz a) (h : Pq.IsD b a Q R) : Dvd a b ↔ R = [] := by
  constructor
  · rintro (h1 | h1)
    · exact absurd h1.1 ha
    · exact h1.2 Q R h
  · intro e
    refine .inr ⟨ha, fun Q' R' h' => ?_⟩
    rw [(Pq.IsD.unique hz h' h).2, e]

set_option maxRecDepth 100000 in
set_option maxHeartbeats 4000000 in
theorem qdivides_any {b N : Nat} {A A' : Option Addr} {n c n' c' : Nat} {La Lb : List Rat} {w : World} (ha : RdQs w w.heap.size N A n c (La.map pr)) (hb : OwQp w b A' n' c' Lb) (hza : Pq.Nz La) (hzb : Pq.Nz Lb) (hw : b ≤ w.heap.size) (hS : 0 < La.length → ∀ j, SzQ N (Pq.drest La j Lb)) (hn : n' ≤ 1048576) (hN : N ≤ 60000000000) (h1N : 1 ≤ N) :
    Calls Tryz.prog 107 #[.slice A n c, .slice A' n' c'] w (RetBo (Dvd La Lb) w) := by
  have hla : La.length = n := ha.lenp
  have hlb : Lb.length = n' := hb.len
  go_enter Tryz.func107, Tryz.ntmps107
  by_cases h0 : n = 0
  · have HL := Lib.hid (show La = [] from List.eq_nil_of_length_eq_zero (by omega))
    have HLB := Lib.hid hlb
    subst h0
    clear ha hb hza hzb hS hla hlb
    by_cases h1 : n' = 0
    · have HB := Lib.hid (show Lb = [] from List.eq_nil_of_length_eq_zero (by rw [HLB.out]; exact h1))
      subst h1
      go_wp2
      go_ret
      exact ⟨true, rfl, Lib.hid ⟨fun _ => by rw [HL.out, dvd_nil]; exact HB.out, fun _ => rfl⟩, Below.refl _ _⟩
    · have hbb : ((n' : Int) == 0) = false := by simp; omega
      have HB := Lib.hid (show Lb ≠ [] from fun e => h1 (by rw [← HLB.out, e]; rfl))
      clear h1
      go_wp2
      go_ret
      exact ⟨false, rfl, Lib.hid ⟨fun e => by simp at e, fun e => absurd (dvd_nil.1 (by rw [← HL.out]; exact e)) HB.out⟩, Below.refl _ _⟩
  · have hbb : ((n : Int) == 0) = false := by simp; omega
    have HL := Lib.hid (show La ≠ [] from fun e => h0 (by rw [← hla, e]; rfl))
    have h0l : 0 < La.length := by omega
    have HZ := Lib.hid hza
    clear h0
    go_wp2_with fail
    refine (qdiv_all hb ha hzb hza h0l hw (hS h0l) hn hN h1N).mono ?_
    rintro _ W2 ⟨A2, n2, c2, Q, A3, n3, c3, R, rfl, ho2, ho3, hD, hb2⟩
    have HD := Lib.hid (dvd_of HL.out HZ.out hD.out)
    have HR := Lib.hid ho3.len
    clear ho2 ho3 hS ha hb hza hzb hla hlb
    by_cases h3 : n3 = 0
    · have HN3 := Lib.hid (show R = [] from List.eq_nil_of_length_eq_zero (by rw [HR.out]; exact h3))
      subst h3
      go_wp2
      go_ret
      exact ⟨true, rfl, Lib.hid ⟨fun _ => HD.out.2 HN3.out, fun _ => rfl⟩, hb2⟩
    · have hb3 : ((n3 : Int) == 0) = false := by simp; omega
      have HN3 := Lib.hid (show R ≠ [] from fun e => h3 (by rw [← HR.out, e]; rfl))
      clear h3
      go_wp2
      go_ret
      exact ⟨false, rfl, Lib.hid ⟨fun e => by simp at e, fun e => absurd (HD.out.1 e) HN3.out⟩, hb2⟩

set_option maxRecDepth 100000 in
set_option maxHeartbeats 4000000 in
theorem qDividesIn_any {b N c : Nat} {A : Option Addr} {P Q : List Rat} {w : World} (h : OwPs w b A 2 c [P, Q]) (hP : ∀ x ∈ P, Qs N x) (hzp : Pq.Nz P) (hzq : Pq.Nz Q) (hw : b ≤ w.heap.size) (hS : 0 < P.length → ∀ j, SzQ N (Pq.drest P j Q)) (hq : Q.length ≤ 1048576) (hN : N ≤ 60000000000) (h1N : 1 ≤ N) :
    Calls Tryz.prog 106 #[.slice A 2 c] w (RetBE (fun v kk => (v = true ↔ Dvd P Q) ∧ kk = 0) w) := by
  obtain ⟨g, A1, n1, c1, L1, rfl, hbk, hx, ho1, hL1⟩ := opl_at h (show 0 < 2 by decide)
  obtain ⟨g', A2, n2, c2, L2, e, _, hy, ho2, hL2⟩ := opl_at h (show 1 < 2 by decide)
  injection e with e
  injection e with e
  subst e
  obtain rfl : P = L1 := by simpa using hL1.out
  obtain rfl : Q = L2 := by simpa using hL2.out
  have hn2 : n2 ≤ 1048576 := by rw [← ho2.len]; exact hq
  have HX := Lib.hid (show ∀ W, Below w.heap.size w W → (W.cell? ⟨g, 0, none⟩ = some (.slice A1 n1 c1) ∧ W.cell? ⟨g, 1, none⟩ = some (.slice A2 n2 c2)) ∧ RdQs W W.heap.size N A1 n1 c1 (P.map pr) ∧ OwQp W b A2 n2 c2 Q ∧ b ≤ W.heap.size from fun W hb => ⟨⟨(hb.cell (p := ⟨g, 0, none⟩) hbk).trans hx, (hb.cell (p := ⟨g, 1, none⟩) hbk).trans hy⟩, (ho1.next hb).rd hP, ho2.next hb, Nat.le_trans hw hb.size⟩)
  have HBD := Lib.hid (Below.refl w.heap.size w).drew
  have HCX := Lib.hid (show ∀ W, Below w.heap.size w W → _ from fun W hb => (HX.out W hb).1)
  clear h hL1 hL2 ho1 ho2 hP
  go_enter Tryz.func106, Tryz.ntmps106
  go_wp2_with fail
  go_region_held3 (fun w' => w'.cell? ⟨g, 0, none⟩ = some (.slice A1 n1 c1) ∧ w'.cell? ⟨g, 1, none⟩ = some (.slice A2 n2 c2))
    (first | exact HCX.out _ HB3.out | exact HCX.out _ HBD.out)
    (first
      | (go_at_call 107; refine (qdivides_any (HX.out _ HBD.out).2.1 (HX.out _ HBD.out).2.2.1 hzp hzq (HX.out _ HBD.out).2.2.2 hS hn2 hN h1N).mono ?_; rintro _ W3 ⟨v, rfl, hv, hb3⟩; have HB3 := Lib.hid (HBD.out.trans (hb3.mono HBD.out.size))))
  all_goals
    go_wp2
    go_ret2
    exact ⟨v, 0, rfl, Lib.hid ⟨hv.out, rfl⟩, HB3.out⟩

set_option maxRecDepth 100000 in
set_option maxHeartbeats 4000000 in
theorem qDivides_any {N N' : Nat} {A A' : Option Addr} {n c n' c' : Nat} {L L' : List (Int × Int)} {w : World} (h : RdQs w w.heap.size N A n c L) (h' : RdQs w w.heap.size N A' n' c' L') (hn : n ≤ 1048576) (hn' : n' ≤ 1048576) (hN : N ≤ N') (hN' : N' ≤ 60000000000) (h1N : 1 ≤ N) (hS : okD L → okD L' → 0 < (nq L).length → ∀ j, SzQ N' (Pq.drest (nq L) j (nq L'))) :
    Calls Tryz.prog 29 #[.slice A n c, .slice A' n' c'] w (RetOb (okD L ∧ okD L') (Dvd (nq L) (nq L')) w) := by
  have HEG := Lib.hid (enters_of Tryz.func106 (by kernel_rfl) rfl)
  have HH := Lib.hid (And.intro h h')
  have HSS := Lib.hid hS
  obtain ⟨W2, HW2⟩ : ∃ W, W = w.alloc (.cells #[.slice A n c, .slice A' n' c'] 38) := ⟨_, rfl⟩
  have hps := Lib.hid (ps_two (K := 1048576) h h' hn hn' HW2)
  have HB2 := Lib.hid (show Below w.heap.size w W2 by rw [HW2]; exact (Below.refl _ _).alloc (Nat.le_refl _) _)
  have HW2 := Lib.hid HW2
  clear h h' hS
  go_enter Tryz.func29, Tryz.ntmps29
  go_wp2_with fail
  rw [← HW2.out]
  clear HW2
  clear HW2
  refine (norms_bool (f := 106) (Φ := fun v kk => (v = true ↔ Dvd (nq L) (nq L')) ∧ kk = 0) hps.out (by decide) (by decide) (by omega) h1N HEG.out (fun hall W A' c' hb ho => qDividesIn_any (N := N') (P := nq L) (Q := nq L') ho (fun x hx => (nq_qs HH.out.1 (hall L (by simp)) h1N x hx).mono hN) (Pq.nz_nrm _) (Pq.nz_nrm _) hb.size (HSS.out (hall L (by simp)) (hall L' (by simp))) (Nat.le_trans (nq_len L') (by rw [HH.out.2.len]; exact hn')) hN' (Nat.le_trans h1N hN))).mono ?_
  intro e W3 hpost
  rcases hpost with ⟨hall, v, kk, rfl, hM2, hb2⟩ | ⟨hex, rfl, hb2⟩
  · have HOK := Lib.hid (show (((okD L ∧ okD L') ∧ (v = true ↔ Dvd (nq L) (nq L')) ∧ kk = 0) ∨ (¬(okD L ∧ okD L') ∧ v = false ∧ kk = 6)) from .inl ⟨⟨hall L (by simp), hall L' (by simp)⟩, hM2.out⟩)
    have HB4 := Lib.hid (HB2.out.trans (hb2.mono HB2.out.size))
    clear hall hb2 hM2
    go_wp2
    go_ret2
    exact ⟨v, kk, rfl, HOK, HB4.out⟩
  · have HOK := Lib.hid (show ¬(okD L ∧ okD L') from fun ⟨h1, h2⟩ => by
      obtain ⟨L0, hL0, p, hp, hp0⟩ := hex
      rcases List.mem_cons.1 hL0 with rfl | h3
      · exact h1 p hp hp0
      · obtain rfl := List.mem_singleton.1 h3
        exact h2 p hp hp0)
    have HB4 := Lib.hid (HB2.out.trans (hb2.mono HB2.out.size))
    clear hex hb2
    go_wp2
    go_ret2
    exact ⟨false, 6, rfl, Lib.hid (.inr ⟨HOK.out, rfl, rfl⟩), HB4.out⟩
end Go.Proofs.YtipbpdiahemmpaaGreat
