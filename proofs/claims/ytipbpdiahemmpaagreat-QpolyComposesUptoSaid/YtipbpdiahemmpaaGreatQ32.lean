/- qpoly: a coefficient; two lists coefficient by coefficient; sum, difference. -/
import Derived.Test.YtipbpdiahemmpaaGreatQ26
namespace Go.Proofs.YtipbpdiahemmpaaGreat
open Go.RowKit Go.IntWalk
attribute [local go_sem ↓] Go.wp_at_zero Go.wp_at_succ

/-- A fraction comes back that others hold too. -/
def RetSQ (x : Rat) (N : Nat) (w : World) (e : Ending) (w' : World) : Prop :=
  ∃ (s : Bool) (A : Option Addr) (n c : Nat) (s' : Bool) (A' : Option Addr) (n' c' : Nat), e = .returned (.agg #[.bool s, .slice A n c, .bool s', .slice A' n' c']) ∧ RdZ w' w'.heap.size s A n c x.num ∧ RdZ w' w'.heap.size s' A' n' c' (x.den : Int) ∧ n ≤ N ∧ n' ≤ N ∧ Below w.heap.size w w'

set_option maxRecDepth 100000 in
set_option maxHeartbeats 2000000 in
theorem qat_any {N : Nat} {A : Option Addr} {n c : Nat} {L : List Rat} {w : World} (i : Nat) (h : RdQs w w.heap.size N A n c (L.map pr)) (h1N : 1 ≤ N) :
    Calls Tryz.prog 138 #[.slice A n c, .int .i64 i] w (RetSQ (Pq.co L i) N w) := by
  have HLEN := Lib.hid h.lenp
  by_cases hin : i < n
  · obtain ⟨ad, s1, A1, n1, c1, s2, A2, n2, c2, x, rfl, hbk, hx0, hx1, hx2, hx3, hr1, hr2, hn1, hn2, hp⟩ := qp_at h hin
    have hini : (i : Int) < (n : Int) := by omega
    have hB1 : Below w.heap.size w (w.alloc (.cells #[.bool false, .slice none 0 0, .bool false, .slice none 0 0] 56)) := (Below.refl w.heap.size w).alloc (Nat.le_refl _) _
    have hZ3 := QC.new w s1 A1 n1 c1 s2 A2 n2 c2
    have hB3 : Below w.heap.size w (w.alloc (.cells #[.bool s1, .slice A1 n1 c1, .bool s2, .slice A2 n2 c2] 56)) := (Below.refl w.heap.size w).alloc (Nat.le_refl _) _
    have HR3 := Lib.hid (And.intro (hr1.next hB3) (hr2.next hB3))
    have HV := Lib.hid (Pq.co_get hp.out)
    obtain ⟨hy0, hy1, hy2, hy3⟩ := qs_cells hB1 hbk hx0 hx1 hx2 hx3
    clear hin hB1
    go_enter Tryz.func138, Tryz.ntmps138
    go_wp2
    generalize w.alloc (.cells #[.bool s1, .slice A1 n1 c1, .bool s2, .slice A2 n2 c2] 56) = W3 at *
    exact bodyPost_ret (by simp [results, Tryz.results138, go_sem, hZ3.c0, hZ3.c1, hZ3.c2, hZ3.c3]) rfl ⟨s1, A1, n1, c1, s2, A2, n2, c2, rfl, by rw [HV.out]; exact HR3.out.1, by rw [HV.out]; exact HR3.out.2, hn1, hn2, hB3⟩
  · have hini : (n : Int) ≤ (i : Int) := by omega
    have HZ := Lib.hid (show Pq.co L i = 0 from Pq.co_ge (by rw [HLEN.out]; omega))
    obtain ⟨W1, HW1⟩ : ∃ W, W = w.alloc (.cells #[.bool false, .slice none 0 0, .bool false, .slice none 0 0] 56) := ⟨_, rfl⟩
    have hR : QC W1 w.heap.size false none 0 0 false none 0 0 := by rw [HW1]; exact QC.new w false none 0 0 false none 0 0
    have hB : Below w.heap.size w W1 := by rw [HW1]; exact (Below.refl _ _).alloc (Nat.le_refl _) _
    have HW1 := Lib.hid HW1
    clear hin
    go_enter Tryz.func138, Tryz.ntmps138
    go_wp2_with fail
    rw [← HW1.out]
    clear HW1
    clear HW1
    refine (qof_any 0 (by decide) (by decide) W1).mono ?_
    rintro _ W2 ⟨s2, A2, n2, c2, s3, A3, n3, c3, y2, rfl, ho2, hy2, hb2⟩
    obtain rfl : y2 = 0 := hy2.out
    have hR3 := hR.next hb2
    have hB3 := hB.trans (hb2.mono hB.size)
    have HN := Lib.hid (show n2 ≤ N ∧ n3 ≤ N from ⟨by rw [ho2.num.len]; exact (Qs.zero h1N).1, by rw [ho2.den.len]; exact (Qs.zero h1N).2⟩)
    have r0 := hR3.c0
    have r1 := hR3.c1
    have r2 := hR3.c2
    have r3 := hR3.c3
    have f0 := hR3.fz 0
    have f1 := hR3.fz 1
    have f2 := hR3.fz 2
    have f3 := hR3.fz 3
    have HR9 := Lib.hid (hR3.store s2 A2 n2 c2 s3 A3 n3 c3)
    have HO9 := Lib.hid (ho2.keep (keep_putQ hR3 s2 A2 n2 c2 s3 A3 n3 c3))
    have HB9 := Lib.hid (below_putQ hB3 (Nat.le_refl w.heap.size) s2 A2 n2 c2 s3 A3 n3 c3)
    unfold putQ at HR9 HB9 HO9
    clear hR hR3 hB hB3 hb2 ho2 hy2
    go_wp2_with fail
    generalize (((W2.setCell ⟨w.heap.size, 0, none⟩ (.bool s2)).setCell ⟨w.heap.size, 1, none⟩ (.slice A2 n2 c2)).setCell ⟨w.heap.size, 2, none⟩ (.bool s3)).setCell ⟨w.heap.size, 3, none⟩ (.slice A3 n3 c3) = W9 at *
    have z0 := HR9.out.c0
    have z1 := HR9.out.c1
    have z2 := HR9.out.c2
    have z3 := HR9.out.c3
    exact bodyPost_ret (by simp [results, Tryz.results138, go_sem, z0, z1, z2, z3]) rfl ⟨s2, A2, n2, c2, s3, A3, n3, c3, rfl, by rw [HZ.out]; exact HO9.out.num.rd, by rw [HZ.out]; exact HO9.out.den.rd, HN.out.1, HN.out.2, HB9.out⟩

theorem range_snoc (f : Nat → Rat) (j : Nat) : (List.range j).map f ++ [f j] = (List.range (j + 1)).map f := by
  rw [List.range_succ, List.map_append]
  rfl

set_option maxRecDepth 100000 in
set_option maxHeartbeats 8000000 in
theorem qboth_any {f N N2 : Nat} (φ : Rat → Rat → Rat) {A A' : Option Addr} {n c n' c' : Nat} {L L' : List Rat} {w : World} (h : RdQs w w.heap.size N A n c (L.map pr)) (h' : RdQs w w.heap.size N A' n' c' (L'.map pr)) (hn : n ≤ 1048576) (hn' : n' ≤ 1048576) (h1N : 1 ≤ N) (hN2 : N2 ≤ 17592186044416)
    (heg : ∀ args w, (callFunc f args).run Tryz.prog w = .ok (.enter f args) w) (h0 : φ 0 0 = 0) (hsz : ∀ i, Qs N2 (φ (Pq.co L i) (Pq.co L' i)))
    (hdo : ∀ (W : World) (s1 s2 s3 s4 : Bool) (A1 A2 A3 A4 : Option Addr) (n1 c1 n2 c2 n3 c3 n4 c4 : Nat) (x y : Rat), RdZ W W.heap.size s1 A1 n1 c1 x.num → RdZ W W.heap.size s2 A2 n2 c2 (x.den : Int) → RdZ W W.heap.size s3 A3 n3 c3 y.num → RdZ W W.heap.size s4 A4 n4 c4 (y.den : Int) → n1 ≤ N ∧ n2 ≤ N ∧ n3 ≤ N ∧ n4 ≤ N → Calls Tryz.prog f #[.agg #[.bool s1, .slice A1 n1 c1, .bool s2, .slice A2 n2 c2], .agg #[.bool s3, .slice A3 n3 c3, .bool s4, .slice A4 n4 c4]] W (RetQ (φ x y) W)) :
    Calls Tryz.prog 213 #[.slice A n c, .slice A' n' c', .func (.func f) #[] #[]] w (RetPq (fun i => φ (Pq.co L i) (Pq.co L' i)) w) := by
  have HD := Lib.hid hdo
  have HSZ := Lib.hid hsz
  have H0 := Lib.hid h0
  have HL := Lib.hid (And.intro h.lenp h'.lenp)
  obtain ⟨i0, hi, hz0, hz1, hz2⟩ := info_parts infoQ
  clear hdo hsz h0
  obtain ⟨m, hm⟩ : ∃ m, m = max n n' := ⟨_, rfl⟩
  have hmx : m ≤ 1048576 := by omega
  have hmi : max (n : Int) n' = (m : Int) := by omega
  have HM := Lib.hid hm
  clear hm
  go_enter Tryz.func213, Tryz.ntmps213
  go_wp2_with fail
  go_loopw [7, 16] (fun ov iv wr => ∃ (j c' : Nat) (A' : Option Addr) (M : List Rat), ov = .slice A' j c' ∧ iv = .int .i64 j ∧ j ≤ m ∧ OwQs wr w.heap.size A' j c' M ∧ Hid (M = (List.range j).map fun i => φ (Pq.co L i) (Pq.co L' i)) ∧ Below w.heap.size w wr) (fun _ iv _ => m - (intOf iv).toNat)
  case atStart => exact ⟨0, 0, none, [], rfl, rfl, Nat.zero_le _, OwQs.nil _ _, Lib.hid rfl, Below.refl _ _⟩
  case round =>
    obtain ⟨j, c5, A5, M, rfl, rfl, hj, ho, hM, hB⟩ := hrel
    by_cases hjm : j = m
    · subst hjm
      have HSM := Lib.hid (show ∀ x ∈ M, Qs N2 x by
        rw [hM.out]
        intro x hx
        obtain ⟨i, _, rfl⟩ := List.mem_map.1 hx
        exact HSZ.out i)
      go_wp2_with fail
      refine (qtrim_any ho.p HSM.out (by omega) hN2).mono ?_
      rintro _ W4 ⟨A4, n4, c4, M4, rfl, ho4, hM4, hb4⟩
      go_wp2
      go_ret
      refine ⟨_, _, _, M4, rfl, ho4, Lib.hid (hM4.out.congr fun i => ?_), hB.trans (hb4.mono hB.size)⟩
      rw [hM.out, Pq.co_range]
      rcases Nat.lt_or_ge i j with hi | hi
      · rw [if_pos hi]
      · rw [if_neg (by omega), Pq.co_ge (L := L) (by rw [HL.out.1]; have := HM.out; omega), Pq.co_ge (L := L') (by rw [HL.out.2]; have := HM.out; omega), H0.out]
    · have hjl : j < m := by omega
      have hjli : (j : Int) < (m : Int) := by omega
      clear hjm
      have HO := Lib.hid ho
      clear ho
      go_wp2_with fail
      refine (qat_any j (h.next hB) h1N).mono ?_
      rintro _ W2 ⟨s1, A1, n1, c1, s2, A2, n2, c2, rfl, hr1, hr2, hn1, hn2, hb2⟩
      have hB2 := hB.trans (hb2.mono hB.size)
      go_wp2_with fail
      refine (qat_any j (h'.next hB2) h1N).mono ?_
      rintro _ W3 ⟨s3, A3, n3, c3, s4, A4, n4, c4, rfl, hr3, hr4, hn3, hn4, hb3⟩
      have hB3 := hB2.trans (hb3.mono hB2.size)
      go_wp2_with fail
      refine (HD.out W3 _ _ _ _ _ _ _ _ _ _ _ _ _ _ _ _ _ _ (hr1.next hb3) (hr2.next hb3) hr3 hr4 ⟨hn1, hn2, hn3, hn4⟩).mono ?_
      rintro _ W5 ⟨s5, A6, n5, c6, s6, A7, n6, c7, q, rfl, ho5, hq, hb5⟩
      have hb25 := hb2.trans ((hb3.trans (hb5.mono hb3.size)).mono hb2.size)
      have hB5 := hB.trans (hb25.mono hB.size)
      obtain ⟨W6, HW6⟩ : ∃ W, W = W5.alloc (.cells #[.bool s5, .slice A6 n5 c6, .bool s6, .slice A7 n6 c7] 56) := ⟨_, rfl⟩
      have hb6 : Below W5.heap.size W5 W6 := by rw [HW6]; exact (Below.refl _ _).alloc (Nat.le_refl _) _
      have hB6 := hB5.trans (hb6.mono hB5.size)
      obtain ⟨E, hE, hEl, hEn⟩ := (HO.out.next hb25).next hb6
      have HO4 := Lib.hid ((ho5.base hB3.size).next hb6)
      rw [HW6] at hE hB6 hEn
      rw [HW6] at HO4
      have HE := Lib.hid hE
      have HEN := Lib.hid (And.intro hEl hEn)
      have HM2 := Lib.hid (show M ++ [q] = (List.range (j + 1)).map (fun i => φ (Pq.co L i) (Pq.co L' i)) by rw [hM.out, hq.out]; exact range_snoc (fun i => φ (Pq.co L i) (Pq.co L' i)) j)
      have HB6 := Lib.hid hB6
      clear hE hEl hEn hb2 hb3 hb5 hb25 hb6 hB hB2 hB3 hB5 hB6 ho5 hq HO hM hr1 hr2 hr3 hr4
      clear HW6
      go_wp2_with (at_builtin; refine wpList_append_own _ rfl _ _ 38 rfl w.heap.size 56 i0 (.agg #[.bool false, .slice none 0 0, .bool false, .slice none 0 0]) 4 64 Tryz.underlying38 hi hz0 hz1 hz2 rfl (by decide) _ _ _ rfl (HE.out.alloc _) ⟨W5.heap.size + 1, 0, none⟩ 1 1 [.bool s5, .slice A6 n5 c6, .bool s6, .slice A7 n6 c7] rfl rfl (by simpa using qcell_new (W5.alloc (.cells #[.bool s5, .slice A6 n5 c6, .bool s6, .slice A7 n6 c7] 56)) (.bool s5) (.slice A6 n5 c6) (.bool s6) (.slice A7 n6 c7) 56) (by simp [Value.oneCell']) (by unfold maxLen; omega) (by omega) (by have := HB6.out.size; simp at this ⊢; omega) ?_; intro v' w1 hown' hgrow _)
      have hmore := qs_more (e := ((s5, A6, n5, c6), (s6, A7, n6, c7))) (x := q) HO4.out rfl (HE.out.alloc _) HEN.out.1 HEN.out.2 hown' hgrow
      have HB7 := Lib.hid ((HB6.out.alloc HB6.out.size (.cells #[.bool s5, .slice A6 n5 c6, .bool s6, .slice A7 n6 c7] 56)).grown hgrow (by have := HB6.out.size; simp at this ⊢; omega) (own_block HE.out))
      obtain ⟨A9, c9, rfl, ho9⟩ := hmore
      clear hown' hgrow HE HEN HO4
      go_wp2
      go_roundw
      case rel => exact ⟨j + 1, c9, A9, M ++ [q], rfl, by go_num, by omega, ho9, HM2, HB7.out⟩
      case measure => simp [intOf]; omega

set_option maxHeartbeats 1000000 in
theorem qadd_poly {N : Nat} {A A' : Option Addr} {n c n' c' : Nat} {L L' : List Rat} {w : World} (h : RdQs w w.heap.size N A n c (L.map pr)) (h' : RdQs w w.heap.size N A' n' c' (L'.map pr)) (hn : n ≤ 1048576) (hn' : n' ≤ 1048576) (hN : N ≤ 200000000000) (h1N : 1 ≤ N) :
    Calls Tryz.prog 133 #[.slice A n c, .slice A' n' c'] w (RetPq (fun i => Pq.co L i + Pq.co L' i) w) := by
  have hEN := enters_of Tryz.func143 (by kernel_rfl) rfl
  have HC := Lib.hid (And.intro (h.szp h1N) (h'.szp h1N))
  go_enter Tryz.func133, Tryz.ntmps133
  go_wp2_with fail
  refine (qboth_any (N2 := N + N + 1) (fun x y => x + y) h h' hn hn' h1N (by omega) hEN (by grind) (fun i => (HC.out.1 i).add (HC.out.2 i)) (fun W s1 s2 s3 s4 A1 A2 A3 A4 n1 c1 n2 c2 n3 c3 n4 c4 x y r1 r2 r3 r4 hm => qaddq_any r1 r2 r3 r4 hm hN)).mono ?_
  rintro _ W2 ⟨A2, n2, c2, M2, rfl, ho2, hM2, hb2⟩
  go_wp2
  go_ret
  exact ⟨_, _, _, M2, rfl, ho2, hM2, hb2⟩

set_option maxHeartbeats 1000000 in
theorem qsub_poly {N : Nat} {A A' : Option Addr} {n c n' c' : Nat} {L L' : List Rat} {w : World} (h : RdQs w w.heap.size N A n c (L.map pr)) (h' : RdQs w w.heap.size N A' n' c' (L'.map pr)) (hn : n ≤ 1048576) (hn' : n' ≤ 1048576) (hN : N ≤ 200000000000) (h1N : 1 ≤ N) :
    Calls Tryz.prog 135 #[.slice A n c, .slice A' n' c'] w (RetPq (fun i => Pq.co L i - Pq.co L' i) w) := by
  have hEN := enters_of Tryz.func205 (by kernel_rfl) rfl
  have HC := Lib.hid (And.intro (h.szp h1N) (h'.szp h1N))
  go_enter Tryz.func135, Tryz.ntmps135
  go_wp2_with fail
  refine (qboth_any (N2 := N + N + 1) (fun x y => x - y) h h' hn hn' h1N (by omega) hEN (by grind) (fun i => (HC.out.1 i).sub (HC.out.2 i)) (fun W s1 s2 s3 s4 A1 A2 A3 A4 n1 c1 n2 c2 n3 c3 n4 c4 x y r1 r2 r3 r4 hm => qsubq_any r1 r2 r3 r4 hm hN)).mono ?_
  rintro _ W2 ⟨A2, n2, c2, M2, rfl, ho2, hM2, hb2⟩
  go_wp2
  go_ret
  exact ⟨_, _, _, M2, rfl, ho2, hM2, hb2⟩
end Go.Proofs.YtipbpdiahemmpaaGreat
