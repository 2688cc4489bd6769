/- Sizes of values of polynomials over the fractions. -/
import Derived.Test.YtipbpdiahemmpaaGreatQ25
namespace Go.Proofs.YtipbpdiahemmpaaGreat

theorem hor_qs {a : Nat → Rat} {x : Rat} {N N' : Nat} (ha : ∀ i, Qs N (a i)) (hx : Qs N' x) (n : Nat) : ∀ d, Qs (1 + d * (N' + N + 1)) (Pq.hor a x n d)
  | 0 => Qs.zero (by omega)
  | d + 1 => by
    have ih := hor_qs ha hx n d
    rw [Pq.hor_succ, Nat.succ_mul]
    exact ((ih.mul hx).add (ha _)).mono (by omega)
/-- A sum of powers over one denominator. -/
theorem psum_qs {a : Nat → Rat} {x : Rat} {N N' : Nat} (ha : ∀ i, Qs N (a i)) (hx : Qs N' x) : ∀ i, ∃ (z d e : Int), d ≠ 0 ∧ e ≠ 0 ∧ Pq.psum a x i = Rat.divInt z (d * e) ∧ x ^ i = Rat.divInt (x.num ^ i) e ∧ Zz.zl z ≤ 2 + i * (N' + N + 1) ∧ Zz.zl d ≤ 1 + i * N ∧ Zz.zl e ≤ 1 + i * N' ∧ Zz.zl (x.num ^ i) ≤ 1 + i * N'
  | 0 => ⟨0, 1, 1, by decide, by decide, rfl, by simp; rfl, by rw [Zz.zl_zero]; omega, Nat.le_trans (Zz.zl_small (by decide)) (by omega), Nat.le_trans (Zz.zl_small (by decide)) (by omega), Nat.le_trans (Zz.zl_small (by simp)) (by omega)⟩
  | i + 1 => by
    obtain ⟨z, d, e, hd, he, h1, h2, h3, h4, h5, h6⟩ := psum_qs ha hx i
    have hxd := qden_ne x
    have had := qden_ne (a i)
    refine ⟨z * (x.den * (a i).den) + (a i).num * x.num ^ i * d * x.den, d * (a i).den, e * x.den, Int.mul_ne_zero hd had, Int.mul_ne_zero he hxd, ?_, ?_, ?_, ?_, ?_, ?_⟩
    · rw [Pq.psum_succ, h1, h2]
      conv => lhs; rw [← Rat.num_divInt_den (a i)]
      rw [Rat.divInt_mul_divInt, Rat.divInt_add_divInt _ _ (Int.mul_ne_zero hd he) (Int.mul_ne_zero had he)]
      rw [Rat.divInt_eq_divInt_iff (Int.mul_ne_zero (Int.mul_ne_zero hd he) (Int.mul_ne_zero had he)) (Int.mul_ne_zero (Int.mul_ne_zero hd had) (Int.mul_ne_zero he hxd))]
      grind
    · rw [Rat.pow_succ, h2]
      conv => lhs; rw [← Rat.num_divInt_den x]
      rw [Rat.divInt_mul_divInt]
      simp only [Rat.num_divInt_den, Int.pow_succ]
    · have e1 := Zz.zl_add (z * (x.den * (a i).den)) ((a i).num * x.num ^ i * d * x.den)
      have e2 := Zz.zl_mul z (x.den * (a i).den)
      have e3 := Zz.zl_mul x.den (a i).den
      have e4 := Zz.zl_mul ((a i).num * x.num ^ i * d) x.den
      have e5 := Zz.zl_mul ((a i).num * x.num ^ i) d
      have e6 := Zz.zl_mul (a i).num (x.num ^ i)
      have e7 := ha i
      have e8 := e7.1
      have e9 := e7.2
      have f1 := hx.1
      have f2 := hx.2
      have f3 : (i + 1) * (N' + N + 1) = i * (N' + N + 1) + (N' + N + 1) := Nat.succ_mul _ _
      have f4 : i * (N' + N + 1) = i * N' + i * N + i := by rw [Nat.mul_add, Nat.mul_add, Nat.mul_one]
      omega
    · have e2 := Zz.zl_mul d (a i).den
      have e3 := (ha i).2
      have f3 : (i + 1) * N = i * N + N := Nat.succ_mul _ _
      omega
    · have e2 := Zz.zl_mul e x.den
      have e3 := hx.2
      have f3 : (i + 1) * N' = i * N' + N' := Nat.succ_mul _ _
      omega
    · have e2 := Zz.zl_mul (x.num ^ i) x.num
      have e3 := hx.1
      have f3 : (i + 1) * N' = i * N' + N' := Nat.succ_mul _ _
      rw [Int.pow_succ]
      omega
theorem psum_sz {a : Nat → Rat} {x : Rat} {N N' : Nat} (ha : ∀ i, Qs N (a i)) (hx : Qs N' x) (i : Nat) : Qs (2 + i * (N' + N + 1)) (Pq.psum a x i) ∧ Qs (1 + i * N') (x ^ i) := by
  obtain ⟨z, d, e, hd, he, h1, h2, h3, h4, h5, h6⟩ := psum_qs ha hx i
  have f4 : i * (N' + N + 1) = i * N' + i * N + i := by rw [Nat.mul_add, Nat.mul_add, Nat.mul_one]
  constructor
  · rw [h1]
    exact Qs.divInt (Int.mul_ne_zero hd he) (by omega) (by have := Zz.zl_mul d e; omega)
  · rw [h2]
    exact Qs.divInt he h6 h5
end Go.Proofs.YtipbpdiahemmpaaGreat

/- rat's operations at fractions; qpoly: times a number, by the lead. -/
namespace Go.Proofs.YtipbpdiahemmpaaGreat
open Go.RowKit Go.IntWalk
attribute [local go_sem ↓] Go.wp_at_zero Go.wp_at_succ

theorem RetQE.q {ok : Prop} {x : Rat} {w w' : World} {e : Ending} (h : RetQE ok x w e w') (hk : ok) : RetQ x w e w' := by
  obtain ⟨s5, A5, n5, c5, y5, s6, A6, n6, c6, y6, kk, rfl, ho5, ho6, hy, hb3⟩ := h
  rcases hy.out with ⟨_, rfl, rfl, rfl⟩ | ⟨h, _⟩
  · exact ⟨s5, A5, n5, c5, s6, A6, n6, c6, x, rfl, ⟨ho5, ho6⟩, Lib.hid rfl, hb3⟩
  · exact absurd hk h
section
variable {N : Nat} {s1 s2 s3 s4 : Bool} {A1 A2 A3 A4 : Option Addr} {n1 c1 n2 c2 n3 c3 n4 c4 : Nat} {x y : Rat} {w : World}
theorem qmulq_any (h1 : RdZ w w.heap.size s1 A1 n1 c1 x.num) (h2 : RdZ w w.heap.size s2 A2 n2 c2 (x.den : Int)) (h3 : RdZ w w.heap.size s3 A3 n3 c3 y.num) (h4 : RdZ w w.heap.size s4 A4 n4 c4 (y.den : Int)) (hn : n1 ≤ N ∧ n2 ≤ N ∧ n3 ≤ N ∧ n4 ≤ N) (hN : N ≤ 200000000000) :
    Calls Tryz.prog 142 #[.agg #[.bool s1, .slice A1 n1 c1, .bool s2, .slice A2 n2 c2], .agg #[.bool s3, .slice A3 n3 c3, .bool s4, .slice A4 n4 c4]] w (RetQ (x * y) w) :=
  (qmul_any h1 h2 h3 h4 hn hN).mono fun e w' h => by
    have := h.q ⟨qden_ne x, qden_ne y⟩
    rwa [Rat.num_divInt_den, Rat.num_divInt_den] at this
theorem qaddq_any (h1 : RdZ w w.heap.size s1 A1 n1 c1 x.num) (h2 : RdZ w w.heap.size s2 A2 n2 c2 (x.den : Int)) (h3 : RdZ w w.heap.size s3 A3 n3 c3 y.num) (h4 : RdZ w w.heap.size s4 A4 n4 c4 (y.den : Int)) (hn : n1 ≤ N ∧ n2 ≤ N ∧ n3 ≤ N ∧ n4 ≤ N) (hN : N ≤ 200000000000) :
    Calls Tryz.prog 143 #[.agg #[.bool s1, .slice A1 n1 c1, .bool s2, .slice A2 n2 c2], .agg #[.bool s3, .slice A3 n3 c3, .bool s4, .slice A4 n4 c4]] w (RetQ (x + y) w) :=
  (qadd_any h1 h2 h3 h4 hn hN).mono fun e w' h => by
    have := h.q ⟨qden_ne x, qden_ne y⟩
    rwa [Rat.num_divInt_den, Rat.num_divInt_den] at this
theorem qsubq_any (h1 : RdZ w w.heap.size s1 A1 n1 c1 x.num) (h2 : RdZ w w.heap.size s2 A2 n2 c2 (x.den : Int)) (h3 : RdZ w w.heap.size s3 A3 n3 c3 y.num) (h4 : RdZ w w.heap.size s4 A4 n4 c4 (y.den : Int)) (hn : n1 ≤ N ∧ n2 ≤ N ∧ n3 ≤ N ∧ n4 ≤ N) (hN : N ≤ 200000000000) :
    Calls Tryz.prog 205 #[.agg #[.bool s1, .slice A1 n1 c1, .bool s2, .slice A2 n2 c2], .agg #[.bool s3, .slice A3 n3 c3, .bool s4, .slice A4 n4 c4]] w (RetQ (x - y) w) :=
  (qsub_any h1 h2 h3 h4 hn hN).mono fun e w' h => by
    have := h.q ⟨qden_ne x, qden_ne y⟩
    rwa [Rat.num_divInt_den, Rat.num_divInt_den] at this
theorem qquoq_any (h1 : RdZ w w.heap.size s1 A1 n1 c1 x.num) (h2 : RdZ w w.heap.size s2 A2 n2 c2 (x.den : Int)) (h3 : RdZ w w.heap.size s3 A3 n3 c3 y.num) (h4 : RdZ w w.heap.size s4 A4 n4 c4 (y.den : Int)) (hn : n1 ≤ N ∧ n2 ≤ N ∧ n3 ≤ N ∧ n4 ≤ N) (hN : N ≤ 200000000000) (h0 : y ≠ 0) :
    Calls Tryz.prog 204 #[.agg #[.bool s1, .slice A1 n1 c1, .bool s2, .slice A2 n2 c2], .agg #[.bool s3, .slice A3 n3 c3, .bool s4, .slice A4 n4 c4]] w (RetQ (x / y) w) :=
  (qquo_any h1 h2 h3 h4 hn hN (fun e => h0 (Rat.num_eq_zero.1 e))).mono fun e w' h => by
    have := h.q ⟨qden_ne x, qden_ne y⟩
    rwa [Rat.num_divInt_den, Rat.num_divInt_den] at this
theorem qinvq_any (h1 : RdZ w w.heap.size s1 A1 n1 c1 x.num) (h2 : RdZ w w.heap.size s2 A2 n2 c2 (x.den : Int)) (hn : n1 ≤ N ∧ n2 ≤ N) (hN : N ≤ 200000000000) (h1N : 1 ≤ N) (h0 : x ≠ 0) :
    Calls Tryz.prog 179 #[.agg #[.bool s1, .slice A1 n1 c1, .bool s2, .slice A2 n2 c2]] w (RetQ x⁻¹ w) :=
  (qinv_any h1 h2 hn hN h1N (fun e => h0 (Rat.num_eq_zero.1 e))).mono fun e w' h => by
    have := h.q (qden_ne x)
    rwa [Rat.num_divInt_den] at this
end
/-- An entry of a list of fractions in lowest terms, with its cells. -/
theorem qp_at {w : World} {B N : Nat} {A : Option Addr} {n c : Nat} {L : List Rat} (h : RdQs w B N A n c (L.map pr)) {j : Nat} (hj : j < n) :
    ∃ (ad : Addr) (s : Bool) (A1 : Option Addr) (n1 c1 : Nat) (s' : Bool) (A1' : Option Addr) (n1' c1' : Nat) (x : Rat), A = some ad ∧ ad.block < B ∧ w.cell? (ad.add (j * 4)) = some (.bool s) ∧ w.cell? ⟨(ad.add (j * 4)).block, (ad.add (j * 4)).off + 1, none⟩ = some (.slice A1 n1 c1) ∧ w.cell? ⟨(ad.add (j * 4)).block, (ad.add (j * 4)).off + 2, none⟩ = some (.bool s') ∧ w.cell? ⟨(ad.add (j * 4)).block, (ad.add (j * 4)).off + 3, none⟩ = some (.slice A1' n1' c1') ∧ RdZ w B s A1 n1 c1 x.num ∧ RdZ w B s' A1' n1' c1' (x.den : Int) ∧ n1 ≤ N ∧ n1' ≤ N ∧ Hid (L[j]? = some x) := by
  obtain ⟨ad, s1, A1, n1, c1, s2, A2, n2, c2, z1, d1, rfl, hbk, hx0, hx1, hx2, hx3, hr1, hr2, hn1, hn2, hp⟩ := qs_at h hj
  have e := hp.out
  rw [List.getElem?_map] at e
  obtain ⟨x, hx, e⟩ := Option.map_eq_some_iff.1 e
  unfold pr at e
  injection e with e1 e2
  subst e1 e2
  exact ⟨ad, s1, A1, n1, c1, s2, A2, n2, c2, x, rfl, hbk, hx0, hx1, hx2, hx3, hr1, hr2, hn1, hn2, Lib.hid hx⟩
theorem RdQs.szp {w : World} {B N : Nat} {A : Option Addr} {n c : Nat} {L : List Rat} (h : RdQs w B N A n c (L.map pr)) (hN : 1 ≤ N) : SzQ N L := by
  have := h.sz (fun p hp => by
    obtain ⟨x, _, rfl⟩ := List.mem_map.1 hp
    exact pr_ne x) hN
  rwa [List.map_map, show (qval ∘ pr) = id from funext qval_pr, List.map_id] at this
theorem RdQs.lenp {w : World} {B N : Nat} {A : Option Addr} {n c : Nat} {L : List Rat} (h : RdQs w B N A n c (L.map pr)) : L.length = n := by rw [← h.len, List.length_map]
theorem take_snoc {f : Rat → Rat} {L : List Rat} {j : Nat} {x : Rat} (h : L[j]? = some x) : (L.take j).map f ++ [f x] = (L.take (j + 1)).map f := by
  rw [List.take_add_one, h]
  simp

set_option maxRecDepth 100000 in
set_option maxHeartbeats 8000000 in
theorem qscale_any {N : Nat} {A : Option Addr} {n c : Nat} {L : List Rat} {s5 s6 : Bool} {A5 A6 : Option Addr} {n5 c5 n6 c6 : Nat} {y : Rat} {w : World} (h : RdQs w w.heap.size N A n c (L.map pr)) (h5 : RdZ w w.heap.size s5 A5 n5 c5 y.num) (h6 : RdZ w w.heap.size s6 A6 n6 c6 (y.den : Int)) (hn5 : n5 ≤ N) (hn6 : n6 ≤ N) (hn : n ≤ 1048576) (hN : N ≤ 200000000000) (h1N : 1 ≤ N) :
    Calls Tryz.prog 137 #[.slice A n c, .agg #[.bool s5, .slice A5 n5 c5, .bool s6, .slice A6 n6 c6]] w (RetPq (fun i => Pq.co L i * y) w) := by
  have HLEN := Lib.hid h.lenp
  have HSY := Lib.hid (show Qs N y from ⟨Nat.le_trans h5.len hn5, Nat.le_trans h6.len hn6⟩)
  have HSL := Lib.hid (h.szp h1N)
  obtain ⟨i0, hi, hz0, hz1, hz2⟩ := info_parts infoQ
  obtain ⟨W1, HW1⟩ : ∃ W, W = w.alloc (.cells #[.bool s5, .slice A5 n5 c5, .bool s6, .slice A6 n6 c6] 56) := ⟨_, rfl⟩
  have hC : QC W1 w.heap.size s5 A5 n5 c5 s6 A6 n6 c6 := by rw [HW1]; exact QC.new w s5 A5 n5 c5 s6 A6 n6 c6
  have hB1 : Below w.heap.size w W1 := by rw [HW1]; exact (Below.refl _ _).alloc (Nat.le_refl _) _
  have HCY := Lib.hid (show ∀ W : World, Below W1.heap.size W1 W → QC W w.heap.size s5 A5 n5 c5 s6 A6 n6 c6 ∧ RdZ W W.heap.size s5 A5 n5 c5 y.num ∧ RdZ W W.heap.size s6 A6 n6 c6 (y.den : Int) ∧ RdQs W W.heap.size N A n c (L.map pr) from fun W hb => ⟨hC.next hb, (h5.next hB1).next hb, (h6.next hB1).next hb, (h.next hB1).next hb⟩)
  have HB1 := Lib.hid hB1
  have HW1 := Lib.hid HW1
  clear hC hB1 h h5 h6
  go_enter Tryz.func137, Tryz.ntmps137
  go_wp2_with fail
  rw [← HW1.out]
  clear HW1
  clear HW1
  go_loopw [5, 12] (fun ov iv wr => ∃ (j c' : Nat) (A' : Option Addr) (M : List Rat), ov = .slice A' j c' ∧ iv = .int .i64 j ∧ j ≤ n ∧ OwQs wr W1.heap.size A' j c' M ∧ Hid (M = (L.take j).map fun x => x * y) ∧ Below W1.heap.size W1 wr) (fun _ iv _ => n - (intOf iv).toNat)
  case atStart => exact ⟨0, 0, none, [], rfl, rfl, Nat.zero_le _, OwQs.nil _ _, Lib.hid rfl, Below.refl _ _⟩
  case round =>
    obtain ⟨j, c', A', M, rfl, rfl, hj, ho, hM, hB⟩ := hrel
    by_cases hjn : j = n
    · subst hjn
      have HML := Lib.hid (show M = L.map fun x => x * y by rw [hM.out, List.take_of_length_le (by rw [HLEN.out]; exact Nat.le_refl _)])
      have HSM := Lib.hid (show ∀ x ∈ M, Qs (N + N) x by
        rw [HML.out]
        intro x hx
        obtain ⟨u, hu, rfl⟩ := List.mem_map.1 hx
        exact (HSL.out.mem u hu).mul HSY.out)
      go_wp2_with fail
      refine (qtrim_any ho.p HSM.out (by omega) (by omega)).mono ?_
      rintro _ W4 ⟨A4, n4, c4, M4, rfl, ho4, hM4, hb4⟩
      go_wp2
      go_ret
      exact ⟨_, _, _, M4, rfl, ho4.base HB1.out.size, Lib.hid (hM4.out.congr fun i => by rw [HML.out, Pq.co_map (Rat.zero_mul y)]), HB1.out.trans ((hB.trans (hb4.mono hB.size)).mono HB1.out.size)⟩
    · have hjl : j < n := by omega
      clear hjn
      have hjli : (j : Int) < (n : Int) := by omega
      obtain ⟨hC, hr5, hr6, hl⟩ := HCY.out wr hB
      obtain ⟨ad, s1, A1, n1, c1, s2, A2, n2, c2, x, rfl, hbk, hx0, hx1, hx2, hx3, hr1, hr2, hn1, hn2, hp⟩ := qp_at hl hjl
      obtain ⟨W2, HW2⟩ : ∃ W, W = wr.alloc (.cells #[.bool s1, .slice A1 n1 c1, .bool s2, .slice A2 n2 c2] 56) := ⟨_, rfl⟩
      have hb2 : Below wr.heap.size wr W2 := by rw [HW2]; exact (Below.refl _ _).alloc (Nat.le_refl _) _
      have hX2 : QC W2 wr.heap.size s1 A1 n1 c1 s2 A2 n2 c2 := by rw [HW2]; exact QC.new wr s1 A1 n1 c1 s2 A2 n2 c2
      have hB2 := hB.trans (hb2.mono hB.size)
      have a0 := hX2.c0
      have a1 := hX2.c1
      have a2 := hX2.c2
      have a3 := hX2.c3
      have b0 := (hC.next hb2).c0
      have b1 := (hC.next hb2).c1
      have b2 := (hC.next hb2).c2
      have b3 := (hC.next hb2).c3
      rw [HW2] at a0 a1 a2 a3 b0 b1 b2 b3
      have HO := Lib.hid (ho.next hb2)
      have HRD := Lib.hid (And.intro (And.intro (hr1.next hb2) (hr2.next hb2)) (And.intro (hr5.next hb2) (hr6.next hb2)))
      have HB2 := Lib.hid hB2
      have HW2 := Lib.hid HW2
      clear ho hB hb2 hB2 hr1 hr2 hr5 hr6 hl hC hX2
      go_wp2_with fail
      rw [← HW2.out]
      clear HW2 hx0 hx1 hx2 hx3 a0 a1 a2 a3 b0 b1 b2 b3
      clear HW2
      refine (qmulq_any (N := N) HRD.out.1.1 HRD.out.1.2 HRD.out.2.1 HRD.out.2.2 ⟨hn1, hn2, hn5, hn6⟩ hN).mono ?_
      rintro _ W3 ⟨s3, A3, n3, c3, s4, A4, n4, c4, q, rfl, ho3, hq, hb3⟩
      have hB3 := HB2.out.trans (hb3.mono HB2.out.size)
      obtain ⟨W4, HW4⟩ : ∃ W, W = W3.alloc (.cells #[.bool s3, .slice A3 n3 c3, .bool s4, .slice A4 n4 c4] 56) := ⟨_, rfl⟩
      have hb4 : Below W3.heap.size W3 W4 := by rw [HW4]; exact (Below.refl _ _).alloc (Nat.le_refl _) _
      have hB4 := hB3.trans (hb4.mono hB3.size)
      obtain ⟨E, hE, hEl, hEn⟩ := (HO.out.next hb3).next hb4
      have HO4 := Lib.hid ((ho3.base HB2.out.size).next hb4)
      rw [HW4] at hE hB4 hEn
      rw [HW4] at HO4
      have HE := Lib.hid hE
      have HEN := Lib.hid (And.intro hEl hEn)
      have HM2 := Lib.hid (show M ++ [q] = (L.take (j + 1)).map (fun x => x * y) by rw [hM.out, hq.out]; exact take_snoc (f := fun x => x * y) hp.out)
      have HB4 := Lib.hid hB4
      clear hE hEl hEn hb3 ho3 hb4 hB3 hB4 hq HO hM
      clear HW4
      go_wp2_with (at_builtin; refine wpList_append_own _ rfl _ _ 38 rfl W1.heap.size 56 i0 (.agg #[.bool false, .slice none 0 0, .bool false, .slice none 0 0]) 4 64 Tryz.underlying38 hi hz0 hz1 hz2 rfl (by decide) _ _ _ rfl (HE.out.alloc _) ⟨W3.heap.size + 1, 0, none⟩ 1 1 [.bool s3, .slice A3 n3 c3, .bool s4, .slice A4 n4 c4] rfl rfl (by simpa using qcell_new (W3.alloc (.cells #[.bool s3, .slice A3 n3 c3, .bool s4, .slice A4 n4 c4] 56)) (.bool s3) (.slice A3 n3 c3) (.bool s4) (.slice A4 n4 c4) 56) (by simp [Value.oneCell']) (by unfold maxLen; omega) (by omega) (by have := HB4.out.size; simp at this ⊢; omega) ?_; intro v' w1 hown' hgrow _)
      have hmore := qs_more (e := ((s3, A3, n3, c3), (s4, A4, n4, c4))) (x := q) HO4.out rfl (HE.out.alloc _) HEN.out.1 HEN.out.2 hown' hgrow
      have HB5 := Lib.hid ((HB4.out.alloc HB4.out.size (.cells #[.bool s3, .slice A3 n3 c3, .bool s4, .slice A4 n4 c4] 56)).grown hgrow (by have := HB4.out.size; simp at this ⊢; omega) (own_block HE.out))
      obtain ⟨A9, c9, rfl, ho9⟩ := hmore
      clear hown' hgrow HE HEN HO4
      go_wp2
      go_roundw
      case rel => exact ⟨j + 1, c9, A9, M ++ [q], rfl, by go_num, by omega, ho9, HM2, HB5.out⟩
      case measure => simp [intOf]; omega
end Go.Proofs.YtipbpdiahemmpaaGreat
