/- Reference 09: Compose. -/
import Derived.Test.YtipbpdiahemmpaaGreatQCd
import Derived.Test.YtipbpdiahemmpaaGreatQCc
import Derived.Test.YtipbpdiahemmpaaGreatQCa
namespace Go.Proofs.YtipbpdiahemmpaaGreat
open Go.RowKit Go.IntWalk
attribute [local go_sem ↓] Go.wp_at_zero Go.wp_at_succ

theorem one_isp (b : Nat → Rat) : Pq.IsP (Pq.pw b 0) [((1 : Int) : Rat)] := by
  refine ⟨fun _ => by show ((1 : Int) : Rat) ≠ 0; decide, fun i => ?_⟩
  show _ = if i = 0 then (1 : Rat) else 0
  by_cases h : i = 0
  · subst h; rfl
  · rw [if_neg h, Pq.co_ge (by simp; omega)]
set_option maxRecDepth 100000 in
set_option maxHeartbeats 8000000 in
theorem rqCompose_any {N T : Nat} {A A' : Option Addr} {n c n' c' : Nat} {L L' : List (Int × Int)} {w : World} (h : RdQs w w.heap.size N A n c L) (h' : RdQs w w.heap.size N A' n' c' L') (hd : okD L) (hd' : okD L') (hn : n ≤ 1048576) (hn' : n' ≤ 1048576) (h1N : 1 ≤ N) (hT : 1 + qsz L' ≤ T) (hN : BP T N ≤ 90000000000) (hb : ¬BigC (nq L).length (nq L').length) (h61 : (nq L).length ≤ 61) :
    Calls Tryz.prog 66 #[.slice A n c, .slice A' n' c'] w (RetPq (Pq.horL (Pq.co (L'.map qval)) (nq L)) w) := by
  obtain ⟨Y, E, hY⟩ := com_list L' hd'
  have HY := Lib.hid (hY.mono hT)
  have HD := Lib.hid (And.intro hd hd')
  have HQS := Lib.hid (nq_qs h hd h1N)
  have HPW := Lib.hid (show ∀ k, k < (nq L).length → PwR T N (nq L').length k (Pq.co (L'.map qval)) (Pq.co (nq L)) from fun k hk => PwR.of (hY.mono hT) (nq_up L') (fun i => by rw [co_nq]; exact h.sz hd h1N i) h61 hk hb (Nat.le_trans (nq_len L') (by rw [h'.len]; exact hn')))
  have HA0 := Lib.hid (show ∀ W : World, Below w.heap.size w W → RdQs W W.heap.size N A n c L ∧ RdQs W W.heap.size N A' n' c' L' from fun W hb => ⟨h.next hb, h'.next hb⟩)
  have HBP := Lib.hid hN
  have hBN : N ≤ BP T N := by unfold BP; omega
  have hBT : 2 + 61 * (T + 1) + T + 1 ≤ BP T N := by unfold BP; omega
  have hB1 : 1 ≤ BP T N := by unfold BP; omega
  have hNN : N ≤ 90000000000 := Nat.le_trans hBN hN
  clear h h' hY hd hd' hb hT
  generalize hBB : BP T N = BB at *
  go_enter Tryz.func66, Tryz.ntmps66
  go_wp2_with fail
  have hb0 : Below w.heap.size w (w.alloc (.cells #[] 56)) := (Below.refl _ _).alloc (Nat.le_refl _) _
  refine (rQOf_any 1 (by decide) (by decide) _).mono ?_
  rintro _ W2 ⟨s2, A2, n2, c2, s3, A3, n3, c3, y2, rfl, ho2, hy2, hb2⟩
  obtain rfl : y2 = ((1 : Int) : Rat) := hy2.out
  have hB2 := hb0.trans (hb2.mono hb0.size)
  obtain ⟨W3, HW3⟩ : ∃ W, W = W2.alloc (.cells #[.bool s2, .slice A2 n2 c2, .bool s3, .slice A3 n3 c3] 56) := ⟨_, rfl⟩
  have hO3 : OwQp W3 w.heap.size (some ⟨W2.heap.size, 0, none⟩) 1 1 [((1 : Int) : Rat)] := by rw [HW3]; exact (ho2.base hb0.size).row1 hB2.size
  have hb3 : Below W2.heap.size W2 W3 := by rw [HW3]; exact (Below.refl _ _).alloc (Nat.le_refl _) _
  have HB3 := Lib.hid (hB2.trans (hb3.mono hB2.size))
  have HW3 := Lib.hid HW3
  clear hb0 hb2 hb3 ho2 hB2 hy2
  go_wp2_with fail
  rw [← HW3.out]
  clear HW3
  clear HW3
  refine (rqnorm_any (HA0.out _ HB3.out).1 HD.out.1 hn (by omega)).mono ?_
  rintro _ W4 ⟨A4, n4, c4, M4, rfl, ho4, hM4, hb4⟩
  obtain rfl : M4 = nq L := hM4.out.nrm
  have hO4 := hO3.next hb4
  have HB4 := Lib.hid (HB3.out.trans (hb4.mono HB3.out.size))
  have hl4 : (nq L).length = n4 := ho4.len
  have HA := Lib.hid (show ∀ W : World, Below W4.heap.size W4 W → RdQs W W.heap.size N A4 n4 c4 ((nq L).map pr) ∧ RdQs W W.heap.size BB A' n' c' L' from fun W hb => ⟨(ho4.next hb).rd HQS.out, (HA0.out W (HB4.out.trans (hb.mono HB4.out.size))).2.wide hBN⟩)
  have HL4 := Lib.hid hl4
  have HPW2 := Lib.hid (show ∀ k, k < n4 → PwR T N (nq L').length k (Pq.co (L'.map qval)) (Pq.co (nq L)) from fun k hk => HPW.out k (by rw [hl4]; exact hk))
  have hn4 : n4 ≤ 61 := by rw [← hl4]; exact h61
  have HQS4 := Lib.hid (And.intro HQS.out (show (1 : Nat) ≤ 2 from by decide))
  have hV : Pq.IsP (Pq.horL (Pq.co (L'.map qval)) (nq L)) = Pq.IsP (Pq.sm (Pq.co (L'.map qval)) (Pq.co (nq L)) n4) := by
    congr 1
    funext t
    rw [← Pq.sm_hor, hl4]
  have HV := Lib.hid hV
  clear hV hl4 ho4 hM4 hb4 hO3 HPW HQS h61
  generalize nq L = P at *
  go_wp2_with fail
  go_loopw [5, 6, 15] (fun ov pv iv wr => ∃ (k : Nat) (A0 : Option Addr) (k0 c0 : Nat) (O : List Rat) (A1 : Option Addr) (k1 c1 : Nat) (R : List Rat), ov = .slice A0 k0 c0 ∧ pv = .slice A1 k1 c1 ∧ iv = .int .i64 (k : Int) ∧ k ≤ n4 ∧ OwQp wr w.heap.size A0 k0 c0 O ∧ OwQp wr w.heap.size A1 k1 c1 R ∧ Hid (Pq.IsP (Pq.sm (Pq.co (L'.map qval)) (Pq.co P) k) O) ∧ Hid (Pq.IsP (Pq.pw (Pq.co (L'.map qval)) k) R) ∧ Below W4.heap.size W4 wr) (fun _ _ iv _ => n4 - (intOf iv).toNat)
  case atStart => exact ⟨0, _, 0, 0, [], _, 1, 1, [((1 : Int) : Rat)], rfl, rfl, rfl, Nat.zero_le _, OwQp.nil _ _ _, hO4, Lib.hid ⟨Pq.nz_nil, fun i => Pq.co_nil i⟩, Lib.hid (one_isp _), Below.refl _ _⟩
  case round =>
    clear hO4
    obtain ⟨k, A0, k0, c0, O, A1, k1, c1, R, rfl, rfl, rfl, hk, ho, hr, hO, hR, hB⟩ := hrel
    by_cases hkn : k = n4
    · have HF := Lib.hid (show OwQp wr w.heap.size A0 k0 c0 O ∧ Pq.IsP (Pq.horL (Pq.co (L'.map qval)) P) O ∧ Below w.heap.size w wr from ⟨ho, by rw [HV.out, ← hkn]; exact hO.out, HB4.out.trans (hB.mono HB4.out.size)⟩)
      subst hkn
      clear ho hr hO hR hB
      go_wp2_with fail
      go_ret
      exact ⟨_, _, _, O, rfl, HF.out.1, Lib.hid HF.out.2.1, HF.out.2.2⟩
    · have hkl : k < n4 := by omega
      have hkli : (k : Int) < (n4 : Int) := by omega
      clear hkn
      have HP := Lib.hid (HPW2.out k hkl)
      have hq5 := HP.out.len
      have hq6 := HP.out.two
      obtain ⟨ad, s1, A5, n5, c5, s2, A6, n6, c6, x, rfl, hbk, hx0, hx1, hx2, hx3, hr1, hr2, hn1, hn2, hp⟩ := qp_at (HA.out wr hB).1 hkl
      have HXV := Lib.hid (show Pq.co P k = x from Pq.co_get hp.out)
      have HOS := Lib.hid (show ∀ y ∈ O, Qs BB y from fun y hy => by
        obtain ⟨t, _, rfl⟩ := Pq.mem_co hy
        rw [hO.out.2, ← hBB]
        exact HP.out.s t)
      obtain ⟨Z, D, hZ⟩ := HP.out.p
      have HRC := Lib.hid (show Com (2 + 61 * (T + 1)) (Pq.co R) Z D from hZ.congr fun t => hR.out.2 t)
      have HRS := Lib.hid (show ∀ y ∈ R, Qs BB y from fun y hy => by
        obtain ⟨t, _, rfl⟩ := Pq.mem_co hy
        exact (HRC.out.mono (by omega)).qs t)
      have HLO := Lib.hid (show k0 ≤ 1048576 from by rw [← ho.len]; exact Nat.le_trans (hO.out.len (Pq.sm_up (nq_up L') _ k)) hq5)
      have HLR := Lib.hid (show R.length ≤ k * ((nq L').length - 1) + 1 from hR.out.len (Pq.pw_up (nq_up L') k))
      have hk1 : k1 ≤ 1048576 := by rw [← hr.len]; exact Nat.le_trans HLR.out hq5
      have HRL := Lib.hid (show R.length + (nq L').length ≤ 1048577 from by have := HLR.out; omega)
      obtain ⟨W5, HW5⟩ : ∃ W, W = wr.alloc (.cells #[.bool s1, .slice A5 n5 c5, .bool s2, .slice A6 n6 c6] 56) := ⟨_, rfl⟩
      have hb5 : Below wr.heap.size wr W5 := by rw [HW5]; exact (Below.refl _ _).alloc (Nat.le_refl _) _
      have HX5 := Lib.hid (And.intro (hr1.next hb5) (hr2.next hb5))
      have HOR := Lib.hid (And.intro (ho.next hb5) (hr.next hb5))
      have hrdR := (hr.next hb5).rd HRS.out
      have HBW := Lib.hid hB
      have HB5 := Lib.hid (hB.trans (hb5.mono hB.size))
      have HW5 := Lib.hid HW5
      have hN2 : BB ≤ 200000000000 := by omega
      clear ho hr hB hr1 hr2 hb5 hp hZ
      go_wp2_with fail
      rw [← HW5.out]
      clear HW5
      clear HW5
      clear hx0 hx1 hx2 hx3
      refine (rqScale_any (N := BB) hrdR HX5.out.1 HX5.out.2 (fun p hp => by obtain ⟨y, _, rfl⟩ := List.mem_map.1 hp; exact pr_ne y) (qden_ne x) hk1 (by omega) (by omega) hN2 hB1).mono ?_
      rintro _ W6 ⟨A7, n7, c7, M7, rfl, ho7, hM7, hb6⟩
      have HM7 := Lib.hid (show ∀ t, Pq.co M7 t = Pq.pw (Pq.co (L'.map qval)) k t * x from fun t => by
        rw [hM7.out.2]
        show Pq.co ((R.map pr).map qval) t * Rat.divInt _ _ = _
        rw [map_qval_pr, Rat.num_divInt_den, hR.out.2])
      have HN7 := Lib.hid (show n7 ≤ 1048576 from by
        rw [← ho7.len]
        exact Nat.le_trans (Pq.nz_len hM7.out.1 (k := k * ((nq L').length - 1) + 1) fun t ht => by rw [HM7.out, Pq.pw_up (nq_up L') k t ht, Rat.zero_mul]) hq5)
      have hrd7 := ho7.rd (N := BB) (fun y hy => by
        obtain ⟨t, _, rfl⟩ := Pq.mem_co hy
        rw [HM7.out, ← HXV.out, ← hBB]
        exact HP.out.c t)
      have hrd0 := (HOR.out.1.next hb6).rd HOS.out
      have HB6 := Lib.hid (HB5.out.trans (hb6.mono HB5.out.size))
      have HR6 := Lib.hid (HOR.out.2.next hb6)
      clear ho7 hM7 hb6 hrdR
      go_wp2_with fail
      refine (rqAdd_any (N := BB) hrd0 hrd7 (fun p hp => by obtain ⟨y, _, rfl⟩ := List.mem_map.1 hp; exact pr_ne y) (fun p hp => by obtain ⟨y, _, rfl⟩ := List.mem_map.1 hp; exact pr_ne y) HLO.out HN7.out hN2 hB1).mono ?_
      rintro _ W7 ⟨A8, n8, c8, M8, rfl, ho8, hM8, hb7⟩
      have HB7 := Lib.hid (HB6.out.trans (hb7.mono HB6.out.size))
      have HM8 := Lib.hid (show Pq.IsP (Pq.sm (Pq.co (L'.map qval)) (Pq.co P) (k + 1)) M8 from hM8.out.congr fun t => by rw [map_qval_pr, map_qval_pr, hO.out.2, HM7.out, Pq.sm_succ, HXV.out])
      have HO8 := Lib.hid (ho8.base (b' := w.heap.size) (Nat.le_trans HB4.out.size HB6.out.size))
      have hrdR := (HR6.out.next hb7).rd HRS.out
      clear hrd0 hrd7 ho8 hM8 hb7
      go_wp2_with fail
      refine (rqMul_own (N := BB) (S := 2 + 61 * (T + 1)) (T := T) hrdR (HA.out _ HB7.out).2 HD.out.2 HRC.out HY.out hBT hN hB1 hk1 hn' HRL.out).mono ?_
      rintro _ W8 ⟨A9, n9, c9, M9, rfl, ho9, hM9, hb8⟩
      have HF := Lib.hid (show OwQp W8 w.heap.size A8 n8 c8 M8 ∧ OwQp W8 w.heap.size A9 n9 c9 M9 ∧ Pq.IsP (Pq.pw (Pq.co (L'.map qval)) (k + 1)) M9 ∧ Below W4.heap.size W4 W8 from ⟨HO8.out.next hb8, ho9.base (Nat.le_trans HB4.out.size HB7.out.size), hM9.out.congr fun t => by rw [Pq.pw_succ]; exact Pq.cv_congr (fun j _ => hR.out.2 j) (fun _ _ => rfl), HB7.out.trans (hb8.mono HB7.out.size)⟩)
      clear ho9 hM9 hb8 hrdR
      go_wp2
      go_roundw
      case rel => exact ⟨k + 1, A8, n8, c8, M8, A9, n9, c9, M9, rfl, rfl, by go_num, by omega, HF.out.1, HF.out.2.1, HM8, Lib.hid HF.out.2.2.1, HF.out.2.2.2⟩
      case measure => simp [intOf]; omega
end Go.Proofs.YtipbpdiahemmpaaGreat

/- The law QpolyComposes. -/
namespace Go.Proofs.YtipbpdiahemmpaaGreat
open Go.RowKit Go.IntWalk
attribute [local go_sem ↓] Go.wp_at_zero Go.wp_at_succ

theorem two_ok' {ok P Q : Prop} (h : Hid ((ok ∧ P) ∨ (¬ok ∧ Q))) (hy : ok) : P := h.out.elim (fun e => e.2) (fun e => absurd hy e.1)
theorem two_no' {ok P Q : Prop} (h : Hid ((ok ∧ P) ∨ (¬ok ∧ Q))) (hn : ¬ok) : Q := h.out.elim (fun e => absurd e.1 hn) (fun e => e.2)
theorem bo_yes {P : Prop} {b : Bool} (h : Hid (b = true ↔ P)) (hp : P) : b = true := h.out.2 hp
theorem bo_no {P : Prop} {b : Bool} (h : Hid (b = true ↔ P)) (hp : ¬P) : b = false := by
  cases b
  · rfl
  · exact absurd (h.out.1 rfl) hp
/-- Of these answers nothing is said. -/
def GapC (m n : Int) : Prop := (0 < m ∧ 0 < n ∧ m ≤ 1000 ∧ n ≤ 1000 ∧ 60 < m * n ∧ m * n ≤ 1000) ∨ (60 < m ∧ n < 1)
instance (m n : Int) : Decidable (GapC m n) := by unfold GapC; infer_instance
/-- Too big. -/
def HugeC (m n : Int) : Prop := 0 < m ∧ 0 < n ∧ (1000 < m ∨ 1000 < n ∨ 1000 < m * n)
instance (m n : Int) : Decidable (HugeC m n) := by unfold HugeC; infer_instance

theorem big_of {a b : Nat} {m n : Int} (hm : m = (a : Int) - 1) (hn : n = (b : Int) - 1) (h : HugeC m n) : BigC a b := by
  obtain ⟨h1, h2, h3⟩ := h
  have ha : 1 < a := by omega
  have hb : 1 < b := by omega
  refine ⟨ha, hb, ?_⟩
  obtain ⟨x, rfl⟩ : ∃ x, a = x + 1 := ⟨a - 1, by omega⟩
  obtain ⟨y, rfl⟩ : ∃ y, b = y + 1 := ⟨b - 1, by omega⟩
  have em : m = (x : Int) := by omega
  have en : n = (y : Int) := by omega
  rw [em, en] at h3
  show 1000 / y < x
  rw [Nat.div_lt_iff_lt_mul (by omega)]
  rcases h3 with h3 | h3 | h3
  · have h4 : x * 1 ≤ x * y := Nat.mul_le_mul_left _ (by omega)
    omega
  · have h4 : 1 * y ≤ x * y := Nat.mul_le_mul_right _ (by omega)
    omega
  · rw [← Int.natCast_mul] at h3
    omega
theorem small_of {a b : Nat} {m n : Int} (hm : m = (a : Int) - 1) (hn : n = (b : Int) - 1) (hg : ¬GapC m n) (hh : ¬HugeC m n) : ¬BigC a b ∧ a ≤ 61 := by
  unfold GapC at hg
  unfold HugeC at hh
  by_cases h1 : 1 < a
  · by_cases h2 : 1 < b
    · obtain ⟨x, rfl⟩ : ∃ x, a = x + 1 := ⟨a - 1, by omega⟩
      obtain ⟨y, rfl⟩ : ∃ y, b = y + 1 := ⟨b - 1, by omega⟩
      have em : m = (x : Int) := by omega
      have en : n = (y : Int) := by omega
      rw [em, en, ← Int.natCast_mul] at hg hh
      have h5 : x * y ≤ 60 := by
        rcases Nat.lt_or_ge 60 (x * y) with h | h
        · exact absurd (show (0 : Int) < x ∧ (0 : Int) < y ∧ _ from ⟨by omega, by omega, by
            rcases Nat.lt_or_ge 1000 (x * y) with h' | h'
            · exact .inr (.inr (by omega))
            · rcases Nat.lt_or_ge 1000 x with h6 | h6
              · exact .inl (by omega)
              · rcases Nat.lt_or_ge 1000 y with h7 | h7
                · exact .inr (.inl (by omega))
                · exact absurd (.inl ⟨by omega, by omega, by omega, by omega, by omega, by omega⟩) hg⟩) hh
        · exact h
      have h4 : x * 1 ≤ x * y := Nat.mul_le_mul_left _ (by omega)
      refine ⟨fun e => ?_, by omega⟩
      have e3 : 1000 / y < x := e.2.2
      rw [Nat.div_lt_iff_lt_mul (by omega)] at e3
      omega
    · refine ⟨fun e => h2 e.2.1, ?_⟩
      rcases Nat.lt_or_ge 61 a with h | h
      · exact absurd (.inr ⟨by omega, by omega⟩) hg
      · exact h
  · exact ⟨fun e => h1 e.1, by omega⟩
theorem prod_in {m n : Int} (h : -1 ≤ m ∧ m ≤ 1048575 ∧ -1 ≤ n ∧ n ≤ 1048575) : -9223372036854775808 ≤ m * n ∧ m * n ≤ 9223372036854775807 := by
  obtain ⟨a, ha⟩ : ∃ a : Nat, m + 1 = a := ⟨(m + 1).toNat, by omega⟩
  obtain ⟨b, hb⟩ : ∃ b : Nat, n + 1 = b := ⟨(n + 1).toNat, by omega⟩
  have h1 : a * b ≤ 1048576 * 1048576 := Nat.mul_le_mul (by omega) (by omega)
  have h2 : (a : Int) * (b : Int) = ((a * b : Nat) : Int) := (Int.natCast_mul a b).symm
  have h3 : m * n = (a : Int) * (b : Int) - a - b + 1 := by rw [← ha, ← hb]; grind
  rw [h3, h2]
  omega
set_option maxRecDepth 100000 in
set_option maxHeartbeats 16000000 in
theorem walk_QpolyComposes {A0 A1 : Option Addr} {n0 c0 n1 c1 : Nat} {R0 R1 : List RawQ} {w : World} (h0 : RdRQ w w.heap.size A0 n0 c0 R0) (h1 : RdRQ w w.heap.size A1 n1 c1 R1) (hk : 5 * n0 + rsz R0 + (5 * n1 + rsz R1) ≤ 1048576) :
    Calls Tryz.prog 8 #[.slice A0 n0 c0, .slice A1 n1 c1] w (RetYes w) := by
  have HN := Lib.hid (show n0 ≤ 1048576 ∧ n1 ≤ 1048576 ∧ rsz R0 ≤ 1048576 ∧ rsz R1 ≤ 1048576 from by omega)
  have HT := Lib.hid (show 1 + qsz (R1.map toQ) ≤ 1048577 from by have := qsz_rsz h1; omega)
  obtain ⟨L0, hL0⟩ : ∃ L, L = R0.map toQ := ⟨_, rfl⟩
  obtain ⟨L1, hL1⟩ : ∃ L, L = R1.map toQ := ⟨_, rfl⟩
  rw [← hL1] at HT
  have HA := Lib.hid (show ∀ W : World, Below w.heap.size w W → RdQs W W.heap.size 1048576 A0 n0 c0 L0 ∧ RdQs W W.heap.size 1048576 A1 n1 c1 L1 from fun W hb => ⟨by rw [hL0]; exact (h0.next hb).rd HN.out.2.2.1, by rw [hL1]; exact (h1.next hb).rd HN.out.2.2.2⟩)
  have HLE := Lib.hid (show (nq L0).length ≤ 1048576 ∧ (nq L1).length ≤ 1048576 from ⟨Nat.le_trans (nq_len L0) (by rw [hL0, List.length_map, h0.len]; exact HN.out.1), Nat.le_trans (nq_len L1) (by rw [hL1, List.length_map, h1.len]; exact HN.out.2.1)⟩)
  have HD0 := Lib.hid (Below.refl w.heap.size w)
  clear h0 h1 hk hL0 hL1
  go_enter Tryz.func8, Tryz.ntmps8
  go_wp2_with fail
  refine (rPMay_any (HA.out _ HD0.out).1 (by have := HN.out; omega) (by decide)).mono ?_
  rintro _ V1 ⟨b1, rfl, hq1, hl1⟩
  have HD1 := Lib.hid (HD0.out.trans (hl1.mono HD0.out.size))
  clear hl1
  by_cases hok : okD L0 ∧ okD L1
  · have HOK := Lib.hid hok
    obtain rfl : b1 = true := bo_yes hq1 hok.1
    clear hq1
    go_wp2_with fail
    refine (rPMay_any (HA.out _ HD1.out).2 (by have := HN.out; omega) (by decide)).mono ?_
    rintro _ V2 ⟨b2, rfl, hq2, hl2⟩
    have HD2 := Lib.hid (HD1.out.trans (hl2.mono HD1.out.size))
    obtain rfl : b2 = true := bo_yes hq2 HOK.out.2
    clear hq2 hl2 hok
    go_wp2_with fail
    refine (rqDegree_any (HA.out _ HD2.out).1 HOK.out.1 HN.out.1 (by decide)).mono ?_
    rintro _ V3 ⟨m, rfl, hm, hl3⟩
    have HD3 := Lib.hid (HD2.out.trans (hl3.mono HD2.out.size))
    clear hl3
    go_wp2_with fail
    refine (rqDegree_any (HA.out _ HD3.out).2 HOK.out.2 HN.out.2.1 (by decide)).mono ?_
    rintro _ V4 ⟨n, rfl, hn, hl4⟩
    have HD4 := Lib.hid (HD3.out.trans (hl4.mono HD3.out.size))
    clear hl4
    have HB := Lib.hid (show -1 ≤ m ∧ m ≤ 1048575 ∧ -1 ≤ n ∧ n ≤ 1048575 from by have h1 := hm.out; have h2 := hn.out; have h3 := HLE.out; omega)
    have hmn : wrap64 (m * n) = m * n := IntWalk.wrap64_in _ (prod_in HB.out)
    go_upto_region 3 with fail
    go_cut [56] from 23 to 56 (fun cv V => cv = .bool (decide (GapC m n)) ∧ V = V4)
    case first =>
      by_cases a1 : 0 < m
      · by_cases a2 : 0 < n
        · have c2 : decide (n < 1) = false := decide_eq_false (by omega)
          by_cases a3 : m ≤ 1000
          · by_cases a4 : n ≤ 1000
            · by_cases a5 : 60 < m * n
              · by_cases a6 : m * n ≤ 1000
                · have hG := Lib.hid (show decide (GapC m n) = true from decide_eq_true (.inl ⟨a1, a2, a3, a4, a5, a6⟩))
                  go_wp2_with fail
                  go_meet
                  exact ⟨by rw [hG.out], rfl⟩
                · have b6 : decide (m * n ≤ 1000) = false := decide_eq_false a6
                  have hG := Lib.hid (show decide (GapC m n) = false from decide_eq_false fun e => e.elim (fun e => a6 e.2.2.2.2.2) (fun e => by omega))
                  by_cases c1 : 60 < m
                  · go_wp2_with fail
                    go_meet
                    exact ⟨by rw [hG.out], rfl⟩
                  · have c1 : decide (60 < m) = false := decide_eq_false c1
                    go_wp2_with fail
                    go_meet
                    exact ⟨by rw [hG.out], rfl⟩
              · have b5 : decide (60 < m * n) = false := decide_eq_false a5
                have hG := Lib.hid (show decide (GapC m n) = false from decide_eq_false fun e => e.elim (fun e => a5 e.2.2.2.2.1) (fun e => by omega))
                by_cases c1 : 60 < m
                · go_wp2_with fail
                  go_meet
                  exact ⟨by rw [hG.out], rfl⟩
                · have c1 : decide (60 < m) = false := decide_eq_false c1
                  go_wp2_with fail
                  go_meet
                  exact ⟨by rw [hG.out], rfl⟩
            · have b4 : decide (n ≤ 1000) = false := decide_eq_false a4
              have hG := Lib.hid (show decide (GapC m n) = false from decide_eq_false fun e => e.elim (fun e => a4 e.2.2.2.1) (fun e => by omega))
              by_cases c1 : 60 < m
              · go_wp2_with fail
                go_meet
                exact ⟨by rw [hG.out], rfl⟩
              · have c1 : decide (60 < m) = false := decide_eq_false c1
                go_wp2_with fail
                go_meet
                exact ⟨by rw [hG.out], rfl⟩
          · have b3 : decide (m ≤ 1000) = false := decide_eq_false a3
            have c1 : 60 < m := by omega
            have hG := Lib.hid (show decide (GapC m n) = false from decide_eq_false fun e => e.elim (fun e => a3 e.2.2.1) (fun e => by omega))
            go_wp2_with fail
            go_meet
            exact ⟨by rw [hG.out], rfl⟩
        · have b2 : decide (0 < n) = false := decide_eq_false a2
          have c2 : n < 1 := by omega
          by_cases c1 : 60 < m
          · have hG := Lib.hid (show decide (GapC m n) = true from decide_eq_true (.inr ⟨c1, c2⟩))
            go_wp2_with fail
            go_meet
            exact ⟨by rw [hG.out], rfl⟩
          · have hG := Lib.hid (show decide (GapC m n) = false from decide_eq_false fun e => e.elim (fun e => a2 e.2.1) (fun e => c1 e.1))
            have c1 : decide (60 < m) = false := decide_eq_false c1
            go_wp2_with fail
            go_meet
            exact ⟨by rw [hG.out], rfl⟩
      · have b1 : decide (0 < m) = false := decide_eq_false a1
        have c1 : decide (60 < m) = false := decide_eq_false (by omega)
        have hG := Lib.hid (show decide (GapC m n) = false from decide_eq_false fun e => e.elim (fun e => a1 e.1) (fun e => by omega))
        go_wp2_with fail
        go_meet
        exact ⟨by rw [hG.out], rfl⟩
    case rest =>
      obtain ⟨rfl, hwc⟩ := hcut
      rw [hwc]
      clear hwc
      by_cases hgap : GapC m n
      · have hg : decide (GapC m n) = true := decide_eq_true hgap
        rw [hg]
        clear hg hgap
        go_wp2_with fail
        refine (lives_any _).mono ?_
        rintro _ V9 ⟨rfl, hl9⟩
        have HF := Lib.hid (HD4.out.trans (hl9.mono HD4.out.size))
        clear hl9
        go_wp2
        go_ret
        exact ⟨rfl, HF.out⟩
      · have hg : decide (GapC m n) = false := decide_eq_false hgap
        rw [hg]
        clear hg
        go_upto_region 5 with fail
        go_cut [77] from 58 to 77 (fun cv V => cv = .bool (decide (HugeC m n)) ∧ V = V4)
        case first =>
          by_cases a1 : 0 < m
          · by_cases a2 : 0 < n
            · by_cases a3 : 1000 < m
              · have hG := Lib.hid (show decide (HugeC m n) = true from decide_eq_true ⟨a1, a2, .inl a3⟩)
                go_wp2_with fail
                go_meet
                exact ⟨by rw [hG.out], rfl⟩
              · have b3 : decide (1000 < m) = false := decide_eq_false a3
                by_cases a4 : 1000 < n
                · have hG := Lib.hid (show decide (HugeC m n) = true from decide_eq_true ⟨a1, a2, .inr (.inl a4)⟩)
                  go_wp2_with fail
                  go_meet
                  exact ⟨by rw [hG.out], rfl⟩
                · have b4 : decide (1000 < n) = false := decide_eq_false a4
                  have hG := Lib.hid (show decide (1000 < m * n) = decide (HugeC m n) from by
                    by_cases a5 : 1000 < m * n
                    · rw [decide_eq_true a5, decide_eq_true (show HugeC m n from ⟨a1, a2, .inr (.inr a5)⟩)]
                    · rw [decide_eq_false a5, decide_eq_false (show ¬HugeC m n from fun e => e.2.2.elim a3 (fun e => e.elim a4 a5))])
                  go_wp2_with fail
                  go_meet
                  exact ⟨by rw [hG.out], rfl⟩
            · have b2 : decide (0 < n) = false := decide_eq_false a2
              have hG := Lib.hid (show decide (HugeC m n) = false from decide_eq_false fun e => a2 e.2.1)
              go_wp2_with fail
              go_meet
              exact ⟨by rw [hG.out], rfl⟩
          · have b1 : decide (0 < m) = false := decide_eq_false a1
            have hG := Lib.hid (show decide (HugeC m n) = false from decide_eq_false fun e => a1 e.1)
            go_wp2_with fail
            go_meet
            exact ⟨by rw [hG.out], rfl⟩
        case rest =>
          obtain ⟨rfl, hwc⟩ := hcut
          rw [hwc]
          clear hwc
          by_cases hhuge : HugeC m n
          · have hg : decide (HugeC m n) = true := decide_eq_true hhuge
            have HBIG := Lib.hid (big_of hm.out hn.out hhuge)
            rw [hg]
            clear hg hhuge hgap
            go_wp2_with fail
            refine (qCompose_any (N := 1048576) (T := 1048577) (HA.out _ HD4.out).1 (HA.out _ HD4.out).2 HN.out.1 HN.out.2.1 (by decide) HT.out (by decide) (.inl HBIG.out)).mono ?_
            rintro _ V5 ⟨A5, n5, c5, M5, kk, rfl, ho5, hM5, hl5⟩
            have HM := Lib.hid (show M5 = [] ∧ kk = 4 from (two_ok' hM5 HOK.out).elim (fun e => e.2) (fun e => absurd HBIG.out e.1))
            obtain rfl : kk = 4 := HM.out.2
            have HD5 := Lib.hid (HD4.out.trans (hl5.mono HD4.out.size))
            have HLN := Lib.hid ho5.len
            clear hM5 hl5 ho5
            go_wp2_with fail
            refine (lnone_any).mono ?_
            rintro _ V7 ⟨b7, rfl, hq7, hl7⟩
            have HD7 := Lib.hid (HD5.out.trans (hl7.mono HD5.out.size))
            obtain rfl : b7 = true := bo_yes hq7 (by rw [← HLN.out, HM.out.1]; rfl)
            clear hq7 hl7
            go_wp2_with fail
            refine (lives_any _).mono ?_
            rintro _ V9 ⟨rfl, hl9⟩
            have HF := Lib.hid (HD7.out.trans (hl9.mono HD7.out.size))
            clear hl9
            go_wp2
            go_ret
            exact ⟨rfl, HF.out⟩
          · have hg : decide (HugeC m n) = false := decide_eq_false hhuge
            have HSM := Lib.hid (small_of hm.out hn.out hgap hhuge)
            rw [hg]
            clear hg hhuge hgap
            go_wp2_with fail
            refine (qCompose_any (N := 1048576) (T := 1048577) (HA.out _ HD4.out).1 (HA.out _ HD4.out).2 HN.out.1 HN.out.2.1 (by decide) HT.out (by decide) (.inr HSM.out.2)).mono ?_
            rintro _ V5 ⟨A5, n5, c5, M5, kk, rfl, ho5, hM5, hl5⟩
            have HM := Lib.hid (show Pq.IsP (Pq.horL (Pq.co (nq L1)) (nq L0)) M5 ∧ kk = 0 from (two_ok' hM5 HOK.out).elim (fun e => absurd e.1 HSM.out.1) (fun e => e.2))
            obtain rfl : kk = 0 := HM.out.2
            have HD5 := Lib.hid (HD4.out.trans (hl5.mono HD4.out.size))
            have HO := Lib.hid (show ∀ W : World, Below V5.heap.size V5 W → RdRQ W W.heap.size A5 n5 c5 (M5.map ofQ) from fun W hb => (ho5.next hb).rq)
            have HX5 := Lib.hid (Below.refl V5.heap.size V5)
            clear hM5 hl5 ho5
            go_wp2_with fail
            refine (rqCompose_any (N := 1048576) (T := 1048577) (HA.out _ HD5.out).1 (HA.out _ HD5.out).2 HOK.out.1 HOK.out.2 HN.out.1 HN.out.2.1 (by decide) HT.out (by decide) HSM.out.1 HSM.out.2).mono ?_
            rintro _ V6 ⟨A6, n6, c6, M6, rfl, ho6, hM6, hl6⟩
            have HD6 := Lib.hid (HD5.out.trans (hl6.mono HD5.out.size))
            have HX6 := Lib.hid (HX5.out.trans (hl6.mono HX5.out.size))
            have HE := Lib.hid (show M5 = M6 from HM.out.1.unique (by rw [show Pq.co (nq L1) = Pq.co (L1.map qval) from funext fun t => co_nq L1 t]; exact hM6.out))
            have hO6 := ho6.rq
            clear ho6 hM6 hl6
            go_wp2_with fail
            refine (lsame09_any (HO.out _ HX6.out) hO6).mono ?_
            rintro _ V8 ⟨b8, rfl, hq8, hl8⟩
            have HD8 := Lib.hid (HD6.out.trans (hl8.mono HD6.out.size))
            obtain rfl : b8 = true := bo_yes hq8 (by rw [HE.out])
            clear hq8 hl8 hO6
            go_wp2_with fail
            refine (lives_any _).mono ?_
            rintro _ V9 ⟨rfl, hl9⟩
            have HF := Lib.hid (HD8.out.trans (hl9.mono HD8.out.size))
            clear hl9
            go_wp2
            go_ret
            exact ⟨rfl, HF.out⟩
  · have HNO := Lib.hid hok
    have hpre : ∃ b : Bool, b = true ∨ b = false := ⟨true, .inl rfl⟩
    clear hpre
    cases b1
    case true =>
      go_wp2_with fail
      refine (rPMay_any (HA.out _ HD1.out).2 (by have := HN.out; omega) (by decide)).mono ?_
      rintro _ V2 ⟨b2, rfl, hq2, hl2⟩
      have HD2 := Lib.hid (HD1.out.trans (hl2.mono HD1.out.size))
      obtain rfl : b2 = false := bo_no hq2 (fun e => hok ⟨hq1.out.1 (by first | rfl | trivial), e⟩)
      clear hq1 hq2 hl2 hok
      go_wp2_with fail
      refine (qCompose_bad (HA.out _ HD2.out).1 (HA.out _ HD2.out).2 HN.out.1 HN.out.2.1 HNO.out).mono ?_
      rintro _ V5 ⟨A5, n5, c5, M5, kk, rfl, ho5, hM5, hl5⟩
      have HM := Lib.hid (show M5 = [] ∧ kk = 6 from two_no' hM5 HNO.out)
      obtain rfl : kk = 6 := HM.out.2
      have HD5 := Lib.hid (HD2.out.trans (hl5.mono HD2.out.size))
      have HLN := Lib.hid ho5.len
      clear hM5 hl5 ho5
      go_wp2_with fail
      refine (lnone_any).mono ?_
      rintro _ V7 ⟨b7, rfl, hq7, hl7⟩
      have HD7 := Lib.hid (HD5.out.trans (hl7.mono HD5.out.size))
      obtain rfl : b7 = true := bo_yes hq7 (by rw [← HLN.out, HM.out.1]; rfl)
      clear hq7 hl7
      go_wp2_with fail
      refine (lives_any _).mono ?_
      rintro _ V9 ⟨rfl, hl9⟩
      have HF := Lib.hid (HD7.out.trans (hl9.mono HD7.out.size))
      clear hl9
      go_wp2
      go_ret
      exact ⟨rfl, HF.out⟩
    case false =>
      clear hq1 hok
      go_wp2_with fail
      refine (qCompose_bad (HA.out _ HD1.out).1 (HA.out _ HD1.out).2 HN.out.1 HN.out.2.1 HNO.out).mono ?_
      rintro _ V5 ⟨A5, n5, c5, M5, kk, rfl, ho5, hM5, hl5⟩
      have HM := Lib.hid (show M5 = [] ∧ kk = 6 from two_no' hM5 HNO.out)
      obtain rfl : kk = 6 := HM.out.2
      have HD5 := Lib.hid (HD1.out.trans (hl5.mono HD1.out.size))
      have HLN := Lib.hid ho5.len
      clear hM5 hl5 ho5
      go_wp2_with fail
      refine (lnone_any).mono ?_
      rintro _ V7 ⟨b7, rfl, hq7, hl7⟩
      have HD7 := Lib.hid (HD5.out.trans (hl7.mono HD5.out.size))
      obtain rfl : b7 = true := bo_yes hq7 (by rw [← HLN.out, HM.out.1]; rfl)
      clear hq7 hl7
      go_wp2_with fail
      refine (lives_any _).mono ?_
      rintro _ V9 ⟨rfl, hl9⟩
      have HF := Lib.hid (HD7.out.trans (hl9.mono HD7.out.size))
      clear hl9
      go_wp2
      go_ret
      exact ⟨rfl, HF.out⟩
end Go.Proofs.YtipbpdiahemmpaaGreat
