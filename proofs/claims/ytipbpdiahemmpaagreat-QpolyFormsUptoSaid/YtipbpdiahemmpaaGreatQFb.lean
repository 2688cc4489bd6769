/- Integer polynomials as fractions; reference 09: degree, lead, by the lead. -/
import Derived.Test.YtipbpdiahemmpaaGreatQSa
import Derived.Test.YtipbpdiahemmpaaGreatQ41
import Derived.Test.YtipbpdiahemmpaaGreatQ12
import Derived.Test.YtipbpdiahemmpaaGreatQSc
import Derived.Test.YtipbpdiahemmpaaGreatQFa
namespace Go.Proofs.YtipbpdiahemmpaaGreat
open Go.RowKit Go.IntWalk
attribute [local go_sem ↓] Go.wp_at_zero Go.wp_at_succ

set_option maxRecDepth 100000 in
set_option maxHeartbeats 2000000 in
theorem qFromInt_any {N : Nat} {A : Option Addr} {n c : Nat} {L : List Int} {w : World} (h : RdZs w w.heap.size N A n c L) (hn : n ≤ 1048576) (hN : N ≤ 200000000000) (h1N : 1 ≤ N) :
    Calls Tryz.prog 42 #[.slice A n c] w (RetPq (fun i => ((Pz.co L i : Int) : Rat)) w) := by
  have HC := Lib.hid (zl_co h)
  have HLEN := Lib.hid h.len
  go_enter Tryz.func42, Tryz.ntmps42
  go_wp2_with fail
  refine (znorm_any h (by omega) (by omega)).mono ?_
  rintro _ W2 ⟨A2, n2, c2, M2, rfl, ho2, hM2, hb2⟩
  have hn2 : n2 ≤ 1048576 := by
    rw [← ho2.len]
    exact Nat.le_trans (Pz.nz_len hM2.out.1 (k := n) fun i hi => by rw [hM2.out.2]; exact Pz.co_ge (by rw [HLEN.out]; exact hi)) hn
  go_wp2_with fail
  refine (of_any 1 (by decide) (by decide) W2).mono ?_
  rintro _ W3 ⟨s3, A3, n3, c3, y, rfl, ho3, hy, hb3⟩
  obtain rfl : y = 1 := hy.out
  have hrd := rd_of' (ho2.next hb3) hM2.out.2 HC.out
  have hn3 : n3 ≤ N := by rw [ho3.len]; exact Nat.le_trans (Zz.zl_small (by decide)) h1N
  have hb23 := hb2.trans (hb3.mono hb2.size)
  go_wp2_with fail
  refine (qover_any hrd ho3.rd hn3 hn2 hN (by decide)).mono ?_
  rintro _ W4 ⟨A4, n4, c4, M4, rfl, ho4, hM4, hb4⟩
  go_wp2
  go_ret
  exact ⟨_, _, _, M4, rfl, ho4.base hb23.size, Lib.hid (hM4.out.congr fun i => by rw [hM2.out.2]; exact Rat.num_divInt_den ((Pz.co L i : Int) : Rat)), hb23.trans (hb4.mono hb23.size)⟩

set_option maxRecDepth 100000 in
set_option maxHeartbeats 2000000 in
theorem rQInt_any {s : Bool} {A : Option Addr} {n c : Nat} {z : Int} {w : World} (h : RdZ w w.heap.size s A n c z) (hn : n ≤ 17592186044416) :
    Calls Tryz.prog 128 #[.agg #[.bool s, .slice A n c]] w (RetV4 (z : Rat) w) := by
  obtain ⟨W1, HW1⟩ : ∃ W, W = (w.alloc (.cells #[.bool s, .slice A n c] 28)).alloc (.cells #[.bool false, .slice none 0 0, .bool false, .slice none 0 0] 56) := ⟨_, rfl⟩
  have hb0 : Below w.heap.size w (w.alloc (.cells #[.bool s, .slice A n c] 28)) := (Below.refl _ _).alloc (Nat.le_refl _) _
  have hZ : ZC W1 w.heap.size s A n c := by rw [HW1]; exact (ZC.new w s A n c).alloc _
  have hR : QC W1 (w.heap.size + 1) false none 0 0 false none 0 0 := by rw [HW1]; simpa using QC.new (w.alloc (.cells #[.bool s, .slice A n c] 28)) false none 0 0 false none 0 0
  have hB : Below w.heap.size w W1 := by rw [HW1]; exact hb0.alloc hb0.size _
  have h1 := h.next hB
  have a0 := hZ.c0
  have a1 := hZ.c1
  rw [HW1] at a0 a1
  have HW1 := Lib.hid HW1
  clear hb0 hZ
  go_enter Tryz.func128, Tryz.ntmps128
  go_wp2_with fail
  rw [← HW1.out]
  clear HW1 a0 a1
  clear HW1
  refine (rINorm_any h1 hn).mono ?_
  rintro _ W2 ⟨s2, A2, n2, c2, y2, rfl, ho2, hy2, hb2⟩
  go_wp2_with fail
  refine (rIOf_any 1 (by decide) (by decide) W2).mono ?_
  rintro _ W3 ⟨s3, A3, n3, c3, y3, rfl, ho3, hy3, hb3⟩
  have hb13 := hb2.trans (hb3.mono hb2.size)
  have hR3 := hR.next hb13
  have hB3 := hB.trans (hb13.mono hB.size)
  have ho : OwQ W3 w.heap.size s2 A2 n2 c2 s3 A3 n3 c3 (z : Rat) := ⟨by have := (ho2.next hb3).base hB.size; rw [hy2.out] at this; exact this, by have := ho3.base (b' := w.heap.size) (Nat.le_trans hB.size hb2.size); rw [hy3.out] at this; exact this⟩
  have r0 := hR3.c0
  have r1 := hR3.c1
  have r2 := hR3.c2
  have r3 := hR3.c3
  have f0 := hR3.fz 0
  have f1 := hR3.fz 1
  have f2 := hR3.fz 2
  have f3 := hR3.fz 3
  have HR9 := Lib.hid (hR3.store s2 A2 n2 c2 s3 A3 n3 c3)
  have HO9 := Lib.hid (ho.keep (keep_putQ hR3 s2 A2 n2 c2 s3 A3 n3 c3))
  have HB9 := Lib.hid (below_putQ hB3 (Nat.le_succ w.heap.size) s2 A2 n2 c2 s3 A3 n3 c3)
  unfold putQ at HR9 HB9 HO9
  clear hR hR3 hB hB3 hb2 hb3 hb13 h1 h ho ho2 ho3 hy2 hy3
  go_wp2_with fail
  generalize (((W3.setCell ⟨w.heap.size + 1, 0, none⟩ (.bool s2)).setCell ⟨w.heap.size + 1, 1, none⟩ (.slice A2 n2 c2)).setCell ⟨w.heap.size + 1, 2, none⟩ (.bool s3)).setCell ⟨w.heap.size + 1, 3, none⟩ (.slice A3 n3 c3) = W9 at *
  have z0 := HR9.out.c0
  have z1 := HR9.out.c1
  have z2 := HR9.out.c2
  have z3 := HR9.out.c3
  exact bodyPost_ret (by simp [results, Tryz.results128, go_sem, z0, z1, z2, z3]) rfl ⟨_, _, _, _, _, _, _, _, (z : Rat), rfl, HO9.out, Lib.hid rfl, HB9.out⟩
theorem mapz_snoc {L : List Int} {j : Nat} {z : Int} (h : L[j]? = some z) : (L.take j).map (fun z : Int => (z : Rat)) ++ [(z : Rat)] = (L.take (j + 1)).map (fun z : Int => (z : Rat)) := by
  rw [List.take_add_one, h]
  simp

set_option maxRecDepth 100000 in
set_option maxHeartbeats 4000000 in
theorem rqFromInt_any {N : Nat} {A : Option Addr} {n c : Nat} {L : List Int} {w : World} (h : RdZs w w.heap.size N A n c L) (hn : n ≤ 1048576) (hN : N ≤ 200000000000) (h1N : 1 ≤ N) :
    Calls Tryz.prog 43 #[.slice A n c] w (RetPq (fun i => ((Pz.co L i : Int) : Rat)) w) := by
  have HC := Lib.hid (show ∀ z ∈ L, Zz.zl z ≤ N from fun z hz => by
    obtain ⟨j, hj⟩ := List.getElem?_of_mem hz
    have e := zl_co h j
    rwa [Pz.co_get hj] at e)
  have HLEN := Lib.hid h.len
  obtain ⟨i0, hi, hz0, hz1, hz2⟩ := info_parts infoQ
  go_enter Tryz.func43, Tryz.ntmps43
  go_wp2_with fail
  go_loopw [3, 8] (fun ov iv wr => ∃ (j c' : Nat) (A' : Option Addr) (M : List Rat), ov = .slice A' j c' ∧ iv = .int .i64 (j : Int) ∧ j ≤ n ∧ OwQs wr w.heap.size A' j c' M ∧ Hid (M = (L.take j).map (fun z : Int => (z : Rat))) ∧ Below w.heap.size w wr) (fun _ iv _ => n - (intOf iv).toNat)
  case atStart => exact ⟨0, 0, none, [], rfl, rfl, Nat.zero_le _, OwQs.nil _ _, Lib.hid rfl, Below.refl _ _⟩
  case round =>
    obtain ⟨j, c', A', M, rfl, rfl, hj, ho, hM, hB⟩ := hrel
    by_cases hjn : j = n
    · subst hjn
      have HM := Lib.hid (show M = L.map (fun z : Int => (z : Rat)) by rw [hM.out, List.take_of_length_le (by rw [HLEN.out]; exact Nat.le_refl _)])
      have HSM := Lib.hid (show ∀ y ∈ M, Qs N y by
        rw [HM.out]
        intro y hy
        obtain ⟨z, hz, rfl⟩ := List.mem_map.1 hy
        exact Qs.int (HC.out z hz) h1N)
      have hrd := ho.p.rd HSM.out
      go_wp2_with fail
      refine (rqnorm_own hrd (by omega) (by omega)).mono ?_
      rintro _ W4 ⟨A4, n4, c4, M4, rfl, ho4, hM4, hb4⟩
      go_wp2
      go_ret
      refine ⟨_, _, _, M4, rfl, ho4.base hB.size, Lib.hid (hM4.out.congr fun i => ?_), hB.trans (hb4.mono hB.size)⟩
      rw [HM.out]
      rcases Nat.lt_or_ge i L.length with h1 | h1
      · rw [Pq.co_get (by rw [List.getElem?_map, Pz.get_co h1]; rfl)]
      · rw [Pq.co_ge (by rw [List.length_map]; exact h1), Pz.co_ge h1]; rfl
    · have hjl : j < n := by omega
      clear hjn
      have hjli : (j : Int) < (n : Int) := by omega
      obtain ⟨ad, s1, A1, n1, c1, z, rfl, hbk, hx0, hx1, hrz, hn1, hz⟩ := zs_at h hjl
      obtain ⟨hy0, hy1⟩ := zs_cells hB hbk hx0 hx1
      obtain ⟨W2, HW2⟩ : ∃ W, W = wr.alloc (.cells #[.bool s1, .slice A1 n1 c1] 28) := ⟨_, rfl⟩
      have hb2 : Below wr.heap.size wr W2 := by rw [HW2]; exact (Below.refl _ _).alloc (Nat.le_refl _) _
      have hB2 := hB.trans (hb2.mono hB.size)
      have HO := Lib.hid (ho.next hb2)
      have HRD := Lib.hid (hrz.next hB2)
      have HB2 := Lib.hid hB2
      have HNN := Lib.hid hn1
      have HW2 := Lib.hid HW2
      clear ho hB hb2 hB2 hrz hx0 hx1
      go_wp2_with fail
      rw [← HW2.out]
      clear HW2 hy0 hy1
      clear HW2
      refine (rQInt_any HRD.out (by have := HNN.out; omega)).mono ?_
      rintro _ W3 ⟨s3, A3, n3, c3, s4, A4, n4, c4, y, rfl, ho3, hy, hb3⟩
      have hB3 := HB2.out.trans (hb3.mono HB2.out.size)
      obtain ⟨E, hE, hEl, hEn⟩ := HO.out.next hb3
      have HO4 := Lib.hid (ho3.base (b' := w.heap.size) HB2.out.size)
      have HE := Lib.hid hE
      have HEN := Lib.hid (And.intro hEl hEn)
      have HM2 := Lib.hid (show M ++ [y] = (L.take (j + 1)).map (fun z : Int => (z : Rat)) by rw [hM.out, hy.out]; exact mapz_snoc hz.out)
      have HB4 := Lib.hid hB3
      clear hE hEl hEn hb3 ho3 hB3 hy HO hM
      go_wp2_with (at_builtin; refine wpList_append_own _ rfl _ _ 38 rfl w.heap.size 56 i0 (.agg #[.bool false, .slice none 0 0, .bool false, .slice none 0 0]) 4 64 Tryz.underlying38 hi hz0 hz1 hz2 rfl (by decide) _ _ _ rfl (HE.out.alloc _) ⟨W3.heap.size, 0, none⟩ 1 1 [.bool s3, .slice A3 n3 c3, .bool s4, .slice A4 n4 c4] rfl rfl (qcell_new _ _ _ _ _ _) (by simp [Value.oneCell']) (by unfold maxLen; omega) (by omega) (by have := HB4.out.size; simp at this ⊢; omega) ?_; intro v' w1 hown' hgrow _)
      have hmore := qs_more (e := ((s3, A3, n3, c3), (s4, A4, n4, c4))) (x := y) HO4.out rfl (HE.out.alloc _) HEN.out.1 HEN.out.2 hown' hgrow
      have HB5 := Lib.hid ((HB4.out.alloc HB4.out.size (.cells #[.bool s3, .slice A3 n3 c3, .bool s4, .slice A4 n4 c4] 56)).grown hgrow (by have := HB4.out.size; simp at this ⊢; omega) (own_block HE.out))
      obtain ⟨A5, c5, rfl, ho5⟩ := hmore
      clear hown' hgrow HE HEN HO4
      go_wp2
      go_roundw
      case rel => exact ⟨j + 1, c5, A5, M ++ [y], rfl, by go_num, by omega, ho5, HM2, HB5.out⟩
      case measure => simp [intOf]; omega

set_option maxHeartbeats 400000 in
theorem rqDegree_any {N : Nat} {A : Option Addr} {n c : Nat} {L : List (Int × Int)} {w : World} (h : RdQs w w.heap.size N A n c L) (hd : ∀ p ∈ L, p.2 ≠ 0) (hn : n ≤ 1048576) (hN : N ≤ 1000000000000) :
    Calls Tryz.prog 34 #[.slice A n c] w (RetK (((nq L).length : Int) - 1) w) := by
  have HLEN := Lib.hid h.len
  go_enter Tryz.func34, Tryz.ntmps34
  go_wp2_with fail
  refine (rqnorm_any h hd hn hN).mono ?_
  rintro _ W2 ⟨A2, n2, c2, M2, rfl, ho2, hM2, hb2⟩
  have HM := Lib.hid (show M2 = nq L from hM2.out.nrm)
  have hl := ho2.len
  have hn2 : n2 ≤ 1048576 := by rw [← hl, HM.out]; exact Nat.le_trans (nq_len L) (by rw [HLEN.out]; exact hn)
  have HL := Lib.hid (show ((nq L).length : Int) - 1 = (n2 : Int) - 1 by rw [← HM.out, hl])
  have hw : IntKind.i64.wrap ((n2 : Int) - 1) = (n2 : Int) - 1 := by rw [IntWalk.i64_in _ (by omega)]
  clear hl
  go_wp2
  go_ret
  exact ⟨_, rfl, Lib.hid HL.out.symm, hb2⟩

set_option maxRecDepth 100000 in
set_option maxHeartbeats 2000000 in
theorem rqLead_any {N : Nat} {A : Option Addr} {n c : Nat} {L : List (Int × Int)} {w : World} (h : RdQs w w.heap.size N A n c L) (hd : ∀ p ∈ L, p.2 ≠ 0) (hn : n ≤ 1048576) (hN : N ≤ 1000000000000) (h0 : 0 < (nq L).length) :
    Calls Tryz.prog 113 #[.slice A n c] w (RetV4 (Pq.co (L.map qval) ((nq L).length - 1)) w) := by
  obtain ⟨W1, HW1⟩ : ∃ W, W = w.alloc (.cells #[.bool false, .slice none 0 0, .bool false, .slice none 0 0] 56) := ⟨_, rfl⟩
  have hR : QC W1 w.heap.size false none 0 0 false none 0 0 := by rw [HW1]; exact QC.new w false none 0 0 false none 0 0
  have hB : Below w.heap.size w W1 := by rw [HW1]; exact (Below.refl _ _).alloc (Nat.le_refl _) _
  have HLEN := Lib.hid h.len
  have HW1 := Lib.hid HW1
  have h1 := h.next hB
  go_enter Tryz.func113, Tryz.ntmps113
  go_wp2_with fail
  rw [← HW1.out]
  clear HW1
  clear HW1
  refine (rqnorm_any h1 hd hn hN).mono ?_
  rintro _ W2 ⟨A2, n2, c2, M2, rfl, ho2, hM2, hb2⟩
  have HM := Lib.hid (show M2 = nq L from hM2.out.nrm)
  have hl := ho2.len
  obtain ⟨m, hm⟩ : ∃ m, n2 = m + 1 := ⟨n2 - 1, by rw [← hl, HM.out]; omega⟩
  have hm1 : m ≤ 1048576 := by
    have : n2 ≤ 1048576 := by rw [← hl, HM.out]; exact Nat.le_trans (nq_len L) (by rw [HLEN.out]; exact hn)
    omega
  have HLM := Lib.hid (show (nq L).length - 1 = m by rw [← HM.out, hl, hm]; rfl)
  have hw : IntKind.i64.wrap (((m + 1 : Nat) : Int) - 1) = (m : Int) := by rw [IntWalk.i64_in _ (by omega)]; omega
  have hidx : ((m + 1 : Nat) : Int) - 1 = (m : Int) := by omega
  have hmi : (m : Int) < ((m + 1 : Nat) : Int) := by omega
  clear hl
  subst hm
  obtain ⟨ad, s3, A3, n3, c3, s4, A4, n4, c4, x, rfl, hbk, hx0, hx1, hx2, hx3, ho3, hx⟩ := op_at ho2 (show m < m + 1 by omega)
  have HX := Lib.hid (show x = Pq.co (L.map qval) ((nq L).length - 1) by
    rw [HLM.out, ← co_nq, ← HM.out, Pq.co_get hx.out])
  have hR2 := hR.next hb2
  have hB2 := hB.trans (hb2.mono hB.size)
  have r0 := hR2.c0
  have r1 := hR2.c1
  have r2 := hR2.c2
  have r3 := hR2.c3
  have f0 := hR2.fz 0
  have f1 := hR2.fz 1
  have f2 := hR2.fz 2
  have f3 := hR2.fz 3
  have HR9 := Lib.hid (hR2.store s3 A3 n3 c3 s4 A4 n4 c4)
  have HO9 := Lib.hid ((ho3.base (b' := w.heap.size) hB.size).keep (keep_putQ hR2 s3 A3 n3 c3 s4 A4 n4 c4))
  have HB9 := Lib.hid (below_putQ hB2 (Nat.le_refl w.heap.size) s3 A3 n3 c3 s4 A4 n4 c4)
  unfold putQ at HR9 HB9 HO9
  clear hR hR2 hB hB2 hb2 h1 h ho2 ho3
  go_wp2_with fail
  generalize (((W2.setCell ⟨w.heap.size, 0, none⟩ (.bool s3)).setCell ⟨w.heap.size, 1, none⟩ (.slice A3 n3 c3)).setCell ⟨w.heap.size, 2, none⟩ (.bool s4)).setCell ⟨w.heap.size, 3, none⟩ (.slice A4 n4 c4) = W9 at *
  have z0 := HR9.out.c0
  have z1 := HR9.out.c1
  have z2 := HR9.out.c2
  have z3 := HR9.out.c3
  exact bodyPost_ret (by simp [results, Tryz.results113, go_sem, z0, z1, z2, z3]) rfl ⟨_, _, _, _, _, _, _, _, x, rfl, HO9.out, HX, HB9.out⟩

set_option maxRecDepth 100000 in
set_option maxHeartbeats 2000000 in
theorem rQInv_any {s s' : Bool} {A A' : Option Addr} {n c n' c' : Nat} {x : Rat} {w : World} (h : RdZ w w.heap.size s A n c x.num) (h' : RdZ w w.heap.size s' A' n' c' (x.den : Int)) (hn : n ≤ 1000000000000) (hn' : n' ≤ 1000000000000) (h0 : x ≠ 0) :
    Calls Tryz.prog 131 #[.agg #[.bool s, .slice A n c, .bool s', .slice A' n' c']] w (RetV4 x⁻¹ w) := by
  obtain ⟨W1, HW1⟩ : ∃ W, W = (w.alloc (.cells #[.bool s, .slice A n c, .bool s', .slice A' n' c'] 56)).alloc (.cells #[.bool false, .slice none 0 0, .bool false, .slice none 0 0] 56) := ⟨_, rfl⟩
  obtain ⟨hX, hR, hB⟩ := q_box1 w s A n c s' A' n' c' W1 HW1
  have a0 := hX.c0
  have a1 := hX.c1
  have a2 := hX.c2
  have a3 := hX.c3
  rw [HW1] at a0 a1 a2 a3
  have h1 := h.next hB
  have h2 := h'.next hB
  have HW1 := Lib.hid HW1
  have HIV := Lib.hid (show x⁻¹ = Rat.divInt x.den x.num by conv => lhs; rw [← Rat.num_divInt_den x, Rat.inv_divInt])
  go_enter Tryz.func131, Tryz.ntmps131
  go_wp2_with fail
  rw [← HW1.out]
  clear HW1 a0 a1 a2 a3
  clear HW1
  refine (rQMake_any h2 h1 hn' hn (fun e => h0 (Rat.num_eq_zero.1 e))).mono ?_
  rintro _ W2 ⟨s2, A2, n2, c2, s3, A3, n3, c3, y, rfl, ho, hy, hb2⟩
  have hR2 := hR.next hb2
  have hB2 := hB.trans (hb2.mono hB.size)
  have r0 := hR2.c0
  have r1 := hR2.c1
  have r2 := hR2.c2
  have r3 := hR2.c3
  have f0 := hR2.fz 0
  have f1 := hR2.fz 1
  have f2 := hR2.fz 2
  have f3 := hR2.fz 3
  have HR9 := Lib.hid (hR2.store s2 A2 n2 c2 s3 A3 n3 c3)
  have HO9 := Lib.hid ((ho.base (b' := w.heap.size) hB.size).keep (keep_putQ hR2 s2 A2 n2 c2 s3 A3 n3 c3))
  have HB9 := Lib.hid (below_putQ hB2 (show w.heap.size ≤ w.heap.size + 1 by omega) s2 A2 n2 c2 s3 A3 n3 c3)
  unfold putQ at HR9 HB9 HO9
  clear hX hR hR2 hB hB2 hb2 h1 h2 h h' ho
  go_wp2_with fail
  generalize (((W2.setCell ⟨w.heap.size + 1, 0, none⟩ (.bool s2)).setCell ⟨w.heap.size + 1, 1, none⟩ (.slice A2 n2 c2)).setCell ⟨w.heap.size + 1, 2, none⟩ (.bool s3)).setCell ⟨w.heap.size + 1, 3, none⟩ (.slice A3 n3 c3) = W9 at *
  have z0 := HR9.out.c0
  have z1 := HR9.out.c1
  have z2 := HR9.out.c2
  have z3 := HR9.out.c3
  exact bodyPost_ret (by simp [results, Tryz.results131, go_sem, z0, z1, z2, z3]) rfl ⟨_, _, _, _, _, _, _, _, y, rfl, HO9.out, Lib.hid (by rw [hy.out, HIV.out]), HB9.out⟩

set_option maxRecDepth 100000 in
set_option maxHeartbeats 2000000 in
theorem rqMonic_any {N : Nat} {A : Option Addr} {n c : Nat} {L : List (Int × Int)} {w : World} (h : RdQs w w.heap.size N A n c L) (hd : ∀ p ∈ L, p.2 ≠ 0) (hn : n ≤ 1048576) (hN : N ≤ 200000000000) (h1N : 1 ≤ N) :
    Calls Tryz.prog 45 #[.slice A n c] w (RetPq (fun i => Pq.co (L.map qval) i * (Pq.co (L.map qval) ((nq L).length - 1))⁻¹) w) := by
  have H := Lib.hid h
  have HD := Lib.hid hd
  have HSZ := Lib.hid (h.sz hd h1N)
  clear hd
  go_enter Tryz.func45, Tryz.ntmps45
  go_wp2_with fail
  refine (rqDegree_any h HD.out hn (by omega)).mono ?_
  rintro _ W2 ⟨v, rfl, hv, hb2⟩
  by_cases h0 : (nq L).length = 0
  · have hv1 : v < 0 := by rw [hv.out, h0]; decide
    have HZ := Lib.hid (show ∀ i, Pq.co (L.map qval) i = 0 from fun i => by rw [← co_nq, List.eq_nil_of_length_eq_zero h0, Pq.co_nil])
    have HB2 := Lib.hid hb2
    clear h0 hb2
    go_wp2
    go_ret
    refine ⟨_, _, _, [], rfl, ⟨[], rfl, ⟨rfl, fun j e z he _ => by simp at he⟩, Nat.le_refl _, by unfold maxLen; omega, .inl rfl⟩, Lib.hid ⟨Pq.nz_nil, fun i => by show _ = Pq.co (L.map qval) i * _; rw [Pq.co_nil, HZ.out i, Rat.zero_mul]⟩, ?_⟩
    exact HB2.out.alloc HB2.out.size _
  · have hv1 : decide (v < 0) = false := by simp only [decide_eq_false_iff_not]; rw [hv.out]; omega
    have HL0 := Lib.hid (show 0 < (nq L).length by omega)
    have HN0 := Lib.hid (show Pq.co (L.map qval) ((nq L).length - 1) ≠ 0 by
      rw [← co_nq]
      exact Pq.nz_top (Pq.nz_nrm _) HL0.out)
    have h2 := H.out.next hb2
    clear h0
    go_wp2_with fail
    refine (rqLead_any h2 HD.out hn (by omega) HL0.out).mono ?_
    rintro _ W3 ⟨s3, A3, n3, c3, s4, A4, n4, c4, x, rfl, ho3, hx, hb3⟩
    have HXS := Lib.hid (show Qs N x by rw [hx.out]; exact HSZ.out _)
    have hb23 := hb2.trans (hb3.mono hb2.size)
    go_wp2_with fail
    refine (rQInv_any ho3.num.rd ho3.den.rd (by rw [ho3.num.len]; have := HXS.out.1; omega) (by rw [ho3.den.len]; have := HXS.out.2; omega) (by rw [hx.out]; exact HN0.out)).mono ?_
    rintro _ W4 ⟨s5, A5, n5, c5, s6, A6, n6, c6, y, rfl, ho5, hy, hb5⟩
    have HYS := Lib.hid (show Qs N y by rw [hy.out]; exact HXS.out.inv (by rw [hx.out]; exact HN0.out))
    have hb25 := hb23.trans (hb5.mono hb23.size)
    have h4 := H.out.next hb25
    go_wp2_with fail
    refine (rqScale_any h4 ho5.num.rd ho5.den.rd HD.out (by simpa using y.den_nz) hn (by rw [ho5.num.len]; exact HYS.out.1) (by rw [ho5.den.len]; exact HYS.out.2) hN h1N).mono ?_
    rintro _ W5 ⟨A7, n7, c7, M7, rfl, ho7, hM7, hb7⟩
    go_wp2
    go_ret
    exact ⟨_, _, _, M7, rfl, ho7.base hb25.size, Lib.hid (hM7.out.congr fun i => by rw [Rat.num_divInt_den, hy.out, hx.out]), hb25.trans (hb7.mono hb25.size)⟩
end Go.Proofs.YtipbpdiahemmpaaGreat

/- A list of fractions that is written over: its shape, and what is left as it was. -/
namespace Go.Proofs.YtipbpdiahemmpaaGreat
open Go.RowKit Go.IntWalk

/-- A row of fractions in block g of [b, B), each numerator's words in it, too. -/
structure ShpQ (w : World) (b B g : Nat) (cs : Array Value) (n : Nat) : Prop where
  lo : b ≤ g
  hi : g < B
  row : w.heap[g]? = some (.cells cs 56 (0, 0))
  ent : ∀ j, j < n → j * 4 < cs.size ∧ ∃ (A' : Option Addr) (n' c' : Nat), cs[j * 4 + 1]? = some (.slice A' n' c') ∧ n' ≤ 1048576 ∧ Wr w b B A' n'
section
variable {b B b' g i n c : Nat} {w w' : World} {A : Option Addr}
theorem Wr.rat {cs : Array Value} (h : Wr w b B A n) (hg : w.heap[g]? = some (.cells cs 56 (0, 0))) (u : Value) : Wr (w.setCell ⟨g, i, none⟩ u) b B A n := by
  rcases h with h0 | ⟨g', ds, h1, h2, h3, h4, h5⟩
  · exact .inl h0
  · refine .inr ⟨g', ds, h1, h2, h3, ?_, h5⟩
    have hne : g' ≠ g := by
      rintro rfl
      rw [hg] at h4
      simp at h4
    exact (Below.heap_setCell w ⟨g, i, none⟩ u g' hne).trans h4
theorem Wr.next {w'' : World} (h : Wr w b B A n) (hb : Below B w w'') : Wr w'' b B A n := by
  rcases h with h0 | ⟨g, ds, h1, h2, h3, h4, h5⟩
  · exact .inl h0
  · exact .inr ⟨g, ds, h1, h2, h3, (hb.block g h3).trans h4, h5⟩
theorem ShpQ.below {cs : Array Value} (h : ShpQ w b B g cs n) (hb : Below B w w') : ShpQ w' b B g cs n :=
  ⟨h.lo, h.hi, (hb.block g h.hi).trans h.row, fun j hj => by
    obtain ⟨h0, A', n', c', h1, h2, h3⟩ := h.ent j hj
    exact ⟨h0, A', n', c', h1, h2, h3.next hb⟩⟩
theorem ShpQ.neg {cs : Array Value} (h : ShpQ w b B g cs n) (j : Nat) (u : Value) : ShpQ (w.setCell ⟨g, j * 4, none⟩ u) b B g (cs.setIfInBounds (j * 4) u) n :=
  ⟨h.lo, h.hi, heap_setCell_same w g _ cs _ u h.row, fun k hk => by
    obtain ⟨h0, A', n', c', h1, h2, h3⟩ := h.ent k hk
    refine ⟨by simpa using h0, A', n', c', ?_, h2, h3.rat h.row u⟩
    rw [Array.getElem?_setIfInBounds_ne (by omega)]
    exact h1⟩
theorem ShpQ.word {cs ds : Array Value} {g' : Nat} (h : ShpQ w b B g cs n) (hg : w.heap[g']? = some (.cells ds 35 (0, 0))) (i : Nat) (u : Value) : ShpQ (w.setCell ⟨g', i, none⟩ u) b B g cs n := by
  have hne : g ≠ g' := by
    rintro rfl
    have h1 := h.row
    rw [hg] at h1
    simp at h1
  exact ⟨h.lo, h.hi, (Below.heap_setCell w ⟨g', i, none⟩ u g hne).trans h.row, fun k hk => by
    obtain ⟨h0, A', n', c', h1, h2, h3⟩ := h.ent k hk
    exact ⟨h0, A', n', c', h1, h2, h3.word hg u⟩⟩
theorem ShpQ.of {L : List Rat} (h : OwQp w b A n c L) (hN : ∀ x ∈ L, Zz.zl x.num ≤ 1048576) : n = 0 ∨ ∃ (g : Nat) (cs : Array Value), A = some ⟨g, 0, none⟩ ∧ ShpQ w b w.heap.size g cs n := by
  have hl := h.len
  obtain ⟨E, hE, hel, hnc, hcm, hor⟩ := h
  rcases hor with h0 | ⟨g, cs, h1, h2, h3, h4⟩
  · exact .inl h0
  · refine .inr ⟨g, cs, h1, h2, (Array.getElem?_eq_some_iff.1 h3).1, h3, fun j hj => ?_⟩
    have hjE : j < E.length := by omega
    have hjL : j < L.length := by omega
    have he := List.getElem?_eq_getElem hjE
    have hz := hel.2 j _ _ he (List.getElem?_eq_getElem hjL)
    have q0 := qcs_at E j _ he 0 (by omega)
    have q1 := qcs_at E j _ he 1 (by omega)
    have e0 := h4 (j * 4 + 0) _ (q0.trans rfl)
    have e1 := h4 (j * 4 + 1) _ (q1.trans rfl)
    refine ⟨by have := (Array.getElem?_eq_some_iff.1 e0).1; omega, _, _, _, e1, by rw [hz.num.len]; exact hN _ (List.getElem_mem hjL), ?_⟩
    rcases hz.num.own.own.2 with ⟨_, k0⟩ | ⟨g', cap', cur', k1, k2, k3, k4, k5, k6, _⟩
    · exact .inl k0
    · injection k1 with k1 _ _
      exact .inr ⟨g', cur', k1, k2, (Array.getElem?_eq_some_iff.1 k3).1, k3, by omega⟩
theorem Spd.z (h : Spd b B w w') {s : Bool} {z : Int} (ho : OwZ w b' s A n c z) (hB : B ≤ b') : OwZ w' b' s A n c z := ⟨⟨h.row ho.own.own hB, ho.own.wd⟩, ho.sgn⟩
theorem Spd.qp (h : Spd b B w w') {L : List Rat} (ho : OwQp w b' A n c L) (hB : B ≤ b') : OwQp w' b' A n c L := by
  obtain ⟨E, hE, hel, hnc, hcm, hor⟩ := ho
  refine ⟨E, hE, ⟨hel.1, fun j e x he hx => ⟨h.z (hel.2 j e x he hx).num hB, h.z (hel.2 j e x he hx).den hB⟩⟩, hnc, hcm, ?_⟩
  rcases hor with h0 | ⟨g, cs, h1, h2, h3, h4⟩
  · exact .inl h0
  · exact .inr ⟨g, cs, h1, h2, (h.far g (by omega)).trans h3, h4⟩
end
/-- The normal form's answer, of both kinds. -/
theorem qpnorm_all {N : Nat} {A : Option Addr} {n c : Nat} {L : List (Int × Int)} {w : World} (h : RdQs w w.heap.size N A n c L) (hn : n ≤ 1048576) (hN : N ≤ 1000000000000) (h1N : 1 ≤ N) :
    Calls Tryz.prog 38 #[.slice A n c] w (fun e w' => ∃ (A : Option Addr) (n c : Nat) (M : List Rat) (kk : Int), e = .returned (.tuple #[.slice A n c, .int .i64 kk]) ∧ OwQp w' w.heap.size A n c M ∧ Hid ((okD L ∧ M = nq L ∧ kk = 0) ∨ (¬okD L ∧ M = [] ∧ kk = 6)) ∧ Below w.heap.size w w') :=
  (qpnorm_any h hn hN h1N).mono fun e w' hh => by
    rcases hh with ⟨h1, A', n', c', M, h2, h3, h4, h5⟩ | ⟨⟨p, hp, hp0⟩, h2, h3⟩
    · exact ⟨A', n', c', M, 0, h2, h3, Lib.hid (.inl ⟨h1, h4.out, rfl⟩), h5⟩
    · exact ⟨none, 0, 0, [], 6, h2, OwQp.nil _ _ _, Lib.hid (.inr ⟨fun h => h p hp hp0, rfl, rfl⟩), h3⟩
theorem bool_same {b b' : Bool} {P Q : Prop} (h : b = true ↔ P) (h' : b' = true ↔ Q) (e : P ↔ Q) : b = b' := by
  cases b <;> cases b' <;> simp_all
theorem ofQ_map {L M : List Rat} : L.map ofQ = M.map ofQ ↔ L = M := ⟨ofQ_list, fun e => by rw [e]⟩
end Go.Proofs.YtipbpdiahemmpaaGreat
