/- rat's operations at fractions; qpoly: times a number, by the lead. -/
import Derived.Test.YtjnklbfhelbjgaaGreatSn15
import Derived.Test.YtjnklbfhelbjgaaGreatSn14
namespace Go.Proofs.YtjnklbfhelbjgaaGreat
open Go.RowKit Go.IntWalk
attribute [local go_sem ↓] Go.wp_at_zero Go.wp_at_succ
theorem RetQE.q {ok : Prop} {x : Rat} {w w' : World} {e : Ending} (h : RetQE ok x w e w') (hk : ok) : RetQ x w e w' := by
 obtain ⟨s5, A5, n5, c5, y5, s6, A6, n6, c6, y6, kk, rfl, ho5, ho6, hy, hb3⟩ := h
 rcases hy.out with ⟨_, rfl, rfl, rfl⟩ | ⟨h, _⟩
 ·exact ⟨s5, A5, n5, c5, s6, A6, n6, c6, x, rfl, ⟨ho5, ho6⟩, Lib.hid rfl, hb3⟩
 ·exact absurd hk h
section
variable {N : Nat} {s1 s2 s3 s4 : Bool} {A1 A2 A3 A4 : Option Addr} {n1 c1 n2 c2 n3 c3 n4 c4 : Nat} {x y : Rat} {w : World}
theorem qmulq_any (h1 : RdZ w w.heap.size s1 A1 n1 c1 x.num) (h2 : RdZ w w.heap.size s2 A2 n2 c2 (x.den : Int)) (h3 : RdZ w w.heap.size s3 A3 n3 c3 y.num) (h4 : RdZ w w.heap.size s4 A4 n4 c4 (y.den : Int)) (hn : n1 ≤ N ∧ n2 ≤ N ∧ n3 ≤ N ∧ n4 ≤ N) (hN : N ≤ 200000000000) :
  Calls Tryz.prog 115 #[.agg #[.bool s1, .slice A1 n1 c1, .bool s2, .slice A2 n2 c2], .agg #[.bool s3, .slice A3 n3 c3, .bool s4, .slice A4 n4 c4]] w (RetQ (x * y) w) :=
 (qmul_any h1 h2 h3 h4 hn hN).mono fun e w' h => by
  have := h.q ⟨qden_ne x, qden_ne y⟩
  rwa [Rat.num_divInt_den, Rat.num_divInt_den] at this
theorem qaddq_any (h1 : RdZ w w.heap.size s1 A1 n1 c1 x.num) (h2 : RdZ w w.heap.size s2 A2 n2 c2 (x.den : Int)) (h3 : RdZ w w.heap.size s3 A3 n3 c3 y.num) (h4 : RdZ w w.heap.size s4 A4 n4 c4 (y.den : Int)) (hn : n1 ≤ N ∧ n2 ≤ N ∧ n3 ≤ N ∧ n4 ≤ N) (hN : N ≤ 200000000000) :
  Calls Tryz.prog 116 #[.agg #[.bool s1, .slice A1 n1 c1, .bool s2, .slice A2 n2 c2], .agg #[.bool s3, .slice A3 n3 c3, .bool s4, .slice A4 n4 c4]] w (RetQ (x + y) w) :=
 (qadd_any h1 h2 h3 h4 hn hN).mono fun e w' h => by
  have := h.q ⟨qden_ne x, qden_ne y⟩
  rwa [Rat.num_divInt_den, Rat.num_divInt_den] at this
theorem qsubq_any (h1 : RdZ w w.heap.size s1 A1 n1 c1 x.num) (h2 : RdZ w w.heap.size s2 A2 n2 c2 (x.den : Int)) (h3 : RdZ w w.heap.size s3 A3 n3 c3 y.num) (h4 : RdZ w w.heap.size s4 A4 n4 c4 (y.den : Int)) (hn : n1 ≤ N ∧ n2 ≤ N ∧ n3 ≤ N ∧ n4 ≤ N) (hN : N ≤ 200000000000) :
  Calls Tryz.prog 225 #[.agg #[.bool s1, .slice A1 n1 c1, .bool s2, .slice A2 n2 c2], .agg #[.bool s3, .slice A3 n3 c3, .bool s4, .slice A4 n4 c4]] w (RetQ (x - y) w) :=
 (qsub_any h1 h2 h3 h4 hn hN).mono fun e w' h => by
  have := h.q ⟨qden_ne x, qden_ne y⟩
  rwa [Rat.num_divInt_den, Rat.num_divInt_den] at this
theorem qquoq_any (h1 : RdZ w w.heap.size s1 A1 n1 c1 x.num) (h2 : RdZ w w.heap.size s2 A2 n2 c2 (x.den : Int)) (h3 : RdZ w w.heap.size s3 A3 n3 c3 y.num) (h4 : RdZ w w.heap.size s4 A4 n4 c4 (y.den : Int)) (hn : n1 ≤ N ∧ n2 ≤ N ∧ n3 ≤ N ∧ n4 ≤ N) (hN : N ≤ 200000000000) (h0 : y ≠ 0) :
  Calls Tryz.prog 224 #[.agg #[.bool s1, .slice A1 n1 c1, .bool s2, .slice A2 n2 c2], .agg #[.bool s3, .slice A3 n3 c3, .bool s4, .slice A4 n4 c4]] w (RetQ (x / y) w) :=
 (qquo_any h1 h2 h3 h4 hn hN (fun e => h0 (Rat.num_eq_zero.1 e))).mono fun e w' h => by
  have := h.q ⟨qden_ne x, qden_ne y⟩
  rwa [Rat.num_divInt_den, Rat.num_divInt_den] at this
theorem qinvq_any (h1 : RdZ w w.heap.size s1 A1 n1 c1 x.num) (h2 : RdZ w w.heap.size s2 A2 n2 c2 (x.den : Int)) (hn : n1 ≤ N ∧ n2 ≤ N) (hN : N ≤ 200000000000) (h1N : 1 ≤ N) (h0 : x ≠ 0) :
  Calls Tryz.prog 207 #[.agg #[.bool s1, .slice A1 n1 c1, .bool s2, .slice A2 n2 c2]] w (RetQ x⁻¹ w) :=
 (qinv_any h1 h2 hn hN h1N (fun e => h0 (Rat.num_eq_zero.1 e))).mono fun e w' h => by
  have := h.q (qden_ne x)
  rwa [Rat.num_divInt_den] at this
end
theorem qp_at {w : World} {B N : Nat} {A : Option Addr} {n c : Nat} {L : List Rat} (h : RdQs w B N A n c (L.map pr)) {j : Nat} (hj : j < n) :
  ∃ (ad : Addr) (s : Bool) (A1 : Option Addr) (n1 c1 : Nat) (s' : Bool) (A1' : Option Addr) (n1' c1' : Nat) (x : Rat), A = some ad ∧ ad.block < B ∧ w.cell? (ad.add (j * 4)) = some (.bool s) ∧ w.cell? ⟨(ad.add (j * 4)).block, (ad.add (j * 4)).off + 1, none⟩ = some (.slice A1 n1 c1) ∧ w.cell? ⟨(ad.add (j * 4)).block, (ad.add (j * 4)).off + 2, none⟩ = some (.bool s') ∧ w.cell? ⟨(ad.add (j * 4)).block, (ad.add (j * 4)).off + 3, none⟩ = some (.slice A1' n1' c1') ∧ RdZ w B s A1 n1 c1 x.num ∧ RdZ w B s' A1' n1' c1' (x.den : Int) ∧ n1 ≤ N ∧ n1' ≤ N ∧ Hid (L[j]? = some x) := by
 obtain ⟨ad, s1, A1, n1, c1, s2, A2, n2, c2, z1, d1, rfl, hbk, hx0, hx1, hx2, hx3, hr1, hr2, hn1, hn2, hp⟩ := qs_at h hj
 have e := hp.out
 rw [List.getElem?_map] at e
 obtain ⟨x, hx, e⟩ := Option.map_eq_some_iff.1 e
 unfold pr at e
 injection e with e1 e2
 subst e1 e2
 exact ⟨ad, s1, A1, n1, c1, s2, A2, n2, c2, x, rfl, hbk, hx0, hx1, hx2, hx3, hr1, hr2, hn1, hn2, Lib.hid hx⟩
theorem RdQs.szp {w : World} {B N : Nat} {A : Option Addr} {n c : Nat} {L : List Rat} (h : RdQs w B N A n c (L.map pr)) (hN : 1 ≤ N) : SzQ N L := by
 have := h.sz (fun p hp => by
  obtain ⟨x, _, rfl⟩ := List.mem_map.1 hp
  exact pr_ne x) hN
 rwa [List.map_map, show (qval ∘ pr) = id from funext qval_pr, List.map_id] at this
theorem RdQs.lenp {w : World} {B N : Nat} {A : Option Addr} {n c : Nat} {L : List Rat} (h : RdQs w B N A n c (L.map pr)) : L.length = n := by rw [← h.len, List.length_map]
theorem take_snoc {f : Rat → Rat} {L : List Rat} {j : Nat} {x : Rat} (h : L[j]? = some x) : (L.take j).map f ++ [f x] = (L.take (j + 1)).map f := by
 rw [List.take_add_one, h]
 simp
set_option maxRecDepth 100000 in
set_option maxHeartbeats 8000000 in
theorem qscale_any {N : Nat} {A : Option Addr} {n c : Nat} {L : List Rat} {s5 s6 : Bool} {A5 A6 : Option Addr} {n5 c5 n6 c6 : Nat} {y : Rat} {w : World} (h : RdQs w w.heap.size N A n c (L.map pr)) (h5 : RdZ w w.heap.size s5 A5 n5 c5 y.num) (h6 : RdZ w w.heap.size s6 A6 n6 c6 (y.den : Int)) (hn5 : n5 ≤ N) (hn6 : n6 ≤ N) (hn : n ≤ 1048576) (hN : N ≤ 200000000000) (h1N : 1 ≤ N) :
  Calls Tryz.prog 258 #[.slice A n c, .agg #[.bool s5, .slice A5 n5 c5, .bool s6, .slice A6 n6 c6]] w (RetPq (fun i => Pq.co L i * y) w) := by
 have HLEN := Lib.hid h.lenp
 have HSY := Lib.hid (show Qs N y from ⟨Nat.le_trans h5.len hn5, Nat.le_trans h6.len hn6⟩)
 have HSL := Lib.hid (h.szp h1N)
 obtain ⟨i0, hi, hz0, hz1, hz2⟩ := info_parts infoQ
 obtain ⟨W1, HW1⟩ : ∃ W, W = w.alloc (.cells #[.bool s5, .slice A5 n5 c5, .bool s6, .slice A6 n6 c6] 47) := ⟨_, rfl⟩
 have hC : QC W1 w.heap.size s5 A5 n5 c5 s6 A6 n6 c6 := by rw [HW1]; exact QC.new w s5 A5 n5 c5 s6 A6 n6 c6
 have hB1 : Below w.heap.size w W1 := by rw [HW1]; exact (Below.refl _ _).alloc (Nat.le_refl _) _
 have HCY := Lib.hid (show ∀ W : World, Below W1.heap.size W1 W → QC W w.heap.size s5 A5 n5 c5 s6 A6 n6 c6 ∧ RdZ W W.heap.size s5 A5 n5 c5 y.num ∧ RdZ W W.heap.size s6 A6 n6 c6 (y.den : Int) ∧ RdQs W W.heap.size N A n c (L.map pr) from fun W hb => ⟨hC.next hb, (h5.next hB1).next hb, (h6.next hB1).next hb, (h.next hB1).next hb⟩)
 have HB1 := Lib.hid hB1
 have HW1 := Lib.hid HW1
 clear hC hB1 h h5 h6
 go_enter Tryz.func258, Tryz.ntmps258
 go_wp2_with fail
 rw [← HW1.out]
 clear HW1
 clear HW1
 go_loopw [5, 12] (fun ov iv wr => ∃ (j c' : Nat) (A' : Option Addr) (M : List Rat), ov = .slice A' j c' ∧ iv = .int .i64 j ∧ j ≤ n ∧ OwQs wr W1.heap.size A' j c' M ∧ Hid (M = (L.take j).map fun x => x * y) ∧ Below W1.heap.size W1 wr) (fun _ iv _ => n - (intOf iv).toNat)
 case atStart => exact ⟨0, 0, none, [], rfl, rfl, Nat.zero_le _, OwQs.nil _ _, Lib.hid rfl, Below.refl _ _⟩
 case round =>
  obtain ⟨j, c', A', M, rfl, rfl, hj, ho, hM, hB⟩ := hrel
  by_cases hjn : j = n
  ·subst hjn
   have HML := Lib.hid (show M = L.map fun x => x * y by rw [hM.out, List.take_of_length_le (by rw [HLEN.out]; exact Nat.le_refl _)])
   have HSM := Lib.hid (show ∀ x ∈ M, Qs (N + N) x by
    rw [HML.out]
    intro x hx
    obtain ⟨u, hu, rfl⟩ := List.mem_map.1 hx
    exact (HSL.out.mem u hu).mul HSY.out)
   go_wp2_with fail
   refine (qtrim_any ho.p HSM.out (by omega) (by omega)).mono ?_
   rintro _ W4 ⟨A4, n4, c4, M4, rfl, ho4, hM4, hb4⟩
   go_wp2
   go_ret
   exact ⟨_, _, _, M4, rfl, ho4.base HB1.out.size, Lib.hid (hM4.out.congr fun i => by rw [HML.out, Pq.co_map (Rat.zero_mul y)]), HB1.out.trans ((hB.trans (hb4.mono hB.size)).mono HB1.out.size)⟩
  ·have hjl : j < n := by omega
   clear hjn
   have hjli : (j : Int) < (n : Int) := by omega
   obtain ⟨hC, hr5, hr6, hl⟩ := HCY.out wr hB
   obtain ⟨ad, s1, A1, n1, c1, s2, A2, n2, c2, x, rfl, hbk, hx0, hx1, hx2, hx3, hr1, hr2, hn1, hn2, hp⟩ := qp_at hl hjl
   obtain ⟨W2, HW2⟩ : ∃ W, W = wr.alloc (.cells #[.bool s1, .slice A1 n1 c1, .bool s2, .slice A2 n2 c2] 47) := ⟨_, rfl⟩
   have hb2 : Below wr.heap.size wr W2 := by rw [HW2]; exact (Below.refl _ _).alloc (Nat.le_refl _) _
   have hX2 : QC W2 wr.heap.size s1 A1 n1 c1 s2 A2 n2 c2 := by rw [HW2]; exact QC.new wr s1 A1 n1 c1 s2 A2 n2 c2
   have hB2 := hB.trans (hb2.mono hB.size)
   have a0 := hX2.c0
   have a1 := hX2.c1
   have a2 := hX2.c2
   have a3 := hX2.c3
   have b0 := (hC.next hb2).c0
   have b1 := (hC.next hb2).c1
   have b2 := (hC.next hb2).c2
   have b3 := (hC.next hb2).c3
   rw [HW2] at a0 a1 a2 a3 b0 b1 b2 b3
   have HO := Lib.hid (ho.next hb2)
   have HRD := Lib.hid (And.intro (And.intro (hr1.next hb2) (hr2.next hb2)) (And.intro (hr5.next hb2) (hr6.next hb2)))
   have HB2 := Lib.hid hB2
   have HW2 := Lib.hid HW2
   clear ho hB hb2 hB2 hr1 hr2 hr5 hr6 hl hC hX2
   go_wp2_with fail
   rw [← HW2.out]
   clear HW2 hx0 hx1 hx2 hx3 a0 a1 a2 a3 b0 b1 b2 b3
   clear HW2
   refine (qmulq_any (N := N) HRD.out.1.1 HRD.out.1.2 HRD.out.2.1 HRD.out.2.2 ⟨hn1, hn2, hn5, hn6⟩ hN).mono ?_
   rintro _ W3 ⟨s3, A3, n3, c3, s4, A4, n4, c4, q, rfl, ho3, hq, hb3⟩
   have hB3 := HB2.out.trans (hb3.mono HB2.out.size)
   obtain ⟨W4, HW4⟩ : ∃ W, W = W3.alloc (.cells #[.bool s3, .slice A3 n3 c3, .bool s4, .slice A4 n4 c4] 47) := ⟨_, rfl⟩
   have hb4 : Below W3.heap.size W3 W4 := by rw [HW4]; exact (Below.refl _ _).alloc (Nat.le_refl _) _
   have hB4 := hB3.trans (hb4.mono hB3.size)
   obtain ⟨E, hE, hEl, hEn⟩ := (HO.out.next hb3).next hb4
   have HO4 := Lib.hid ((ho3.base HB2.out.size).next hb4)
   rw [HW4] at hE hB4 hEn
   rw [HW4] at HO4
   have HE := Lib.hid hE
   have HEN := Lib.hid (And.intro hEl hEn)
   have HM2 := Lib.hid (show M ++ [q] = (L.take (j + 1)).map (fun x => x * y) by rw [hM.out, hq.out]; exact take_snoc (f := fun x => x * y) hp.out)
   have HB4 := Lib.hid hB4
   clear hE hEl hEn hb3 ho3 hb4 hB3 hB4 hq HO hM
   clear HW4
   go_wp2_with (at_builtin; refine wpList_append_own _ rfl _ _ 73 rfl W1.heap.size 47 i0 (.agg #[.bool false, .slice none 0 0, .bool false, .slice none 0 0]) 4 64 Tryz.underlying73 hi hz0 hz1 hz2 rfl (by decide) _ _ _ rfl (HE.out.alloc _) ⟨W3.heap.size + 1, 0, none⟩ 1 1 [.bool s3, .slice A3 n3 c3, .bool s4, .slice A4 n4 c4] rfl rfl (by simpa using qcell_new (W3.alloc (.cells #[.bool s3, .slice A3 n3 c3, .bool s4, .slice A4 n4 c4] 47)) (.bool s3) (.slice A3 n3 c3) (.bool s4) (.slice A4 n4 c4) 47) (by simp [Value.oneCell']) (by unfold maxLen; omega) (by omega) (by have := HB4.out.size; simp at this ⊢; omega) ?_; intro v' w1 hown' hgrow _)
   have hmore := qs_more (e := ((s3, A3, n3, c3), (s4, A4, n4, c4))) (x := q) HO4.out rfl (HE.out.alloc _) HEN.out.1 HEN.out.2 hown' hgrow
   have HB5 := Lib.hid ((HB4.out.alloc HB4.out.size (.cells #[.bool s3, .slice A3 n3 c3, .bool s4, .slice A4 n4 c4] 47)).grown hgrow (by have := HB4.out.size; simp at this ⊢; omega) (own_block HE.out))
   obtain ⟨A9, c9, rfl, ho9⟩ := hmore
   clear hown' hgrow HE HEN HO4
   go_wp2
   go_roundw
   case rel => exact ⟨j + 1, c9, A9, M ++ [q], rfl, by go_num, by omega, ho9, HM2, HB5.out⟩
   case measure => simp [intOf]; omega
end Go.Proofs.YtjnklbfhelbjgaaGreat

/- qpoly: a coefficient; two lists coefficient by coefficient; sum, difference. -/
namespace Go.Proofs.YtjnklbfhelbjgaaGreat
open Go.RowKit Go.IntWalk
attribute [local go_sem ↓] Go.wp_at_zero Go.wp_at_succ
def RetSQ (x : Rat) (N : Nat) (w : World) (e : Ending) (w' : World) : Prop :=
 ∃ (s : Bool) (A : Option Addr) (n c : Nat) (s' : Bool) (A' : Option Addr) (n' c' : Nat), e = .returned (.agg #[.bool s, .slice A n c, .bool s', .slice A' n' c']) ∧ RdZ w' w'.heap.size s A n c x.num ∧ RdZ w' w'.heap.size s' A' n' c' (x.den : Int) ∧ n ≤ N ∧ n' ≤ N ∧ Below w.heap.size w w'
set_option maxRecDepth 100000 in
set_option maxHeartbeats 2000000 in
theorem qat_any {N : Nat} {A : Option Addr} {n c : Nat} {L : List Rat} {w : World} (i : Nat) (h : RdQs w w.heap.size N A n c (L.map pr)) (h1N : 1 ≤ N) :
  Calls Tryz.prog 114 #[.slice A n c, .int .i64 i] w (RetSQ (Pq.co L i) N w) := by
 have HLEN := Lib.hid h.lenp
 by_cases hin : i < n
 ·obtain ⟨ad, s1, A1, n1, c1, s2, A2, n2, c2, x, rfl, hbk, hx0, hx1, hx2, hx3, hr1, hr2, hn1, hn2, hp⟩ := qp_at h hin
  have hini : (i : Int) < (n : Int) := by omega
  have hB1 : Below w.heap.size w (w.alloc (.cells #[.bool false, .slice none 0 0, .bool false, .slice none 0 0] 47)) := (Below.refl w.heap.size w).alloc (Nat.le_refl _) _
  have hZ3 := QC.new w s1 A1 n1 c1 s2 A2 n2 c2
  have hB3 : Below w.heap.size w (w.alloc (.cells #[.bool s1, .slice A1 n1 c1, .bool s2, .slice A2 n2 c2] 47)) := (Below.refl w.heap.size w).alloc (Nat.le_refl _) _
  have HR3 := Lib.hid (And.intro (hr1.next hB3) (hr2.next hB3))
  have HV := Lib.hid (Pq.co_get hp.out)
  obtain ⟨hy0, hy1, hy2, hy3⟩ := qs_cells hB1 hbk hx0 hx1 hx2 hx3
  clear hin hB1
  go_enter Tryz.func114, Tryz.ntmps114
  go_wp2
  generalize w.alloc (.cells #[.bool s1, .slice A1 n1 c1, .bool s2, .slice A2 n2 c2] 47) = W3 at *
  exact bodyPost_ret (by simp [results, Tryz.results114, go_sem, hZ3.c0, hZ3.c1, hZ3.c2, hZ3.c3]) rfl ⟨s1, A1, n1, c1, s2, A2, n2, c2, rfl, by rw [HV.out]; exact HR3.out.1, by rw [HV.out]; exact HR3.out.2, hn1, hn2, hB3⟩
 ·have hini : (n : Int) ≤ (i : Int) := by omega
  have HZ := Lib.hid (show Pq.co L i = 0 from Pq.co_ge (by rw [HLEN.out]; omega))
  obtain ⟨W1, HW1⟩ : ∃ W, W = w.alloc (.cells #[.bool false, .slice none 0 0, .bool false, .slice none 0 0] 47) := ⟨_, rfl⟩
  have hR : QC W1 w.heap.size false none 0 0 false none 0 0 := by rw [HW1]; exact QC.new w false none 0 0 false none 0 0
  have hB : Below w.heap.size w W1 := by rw [HW1]; exact (Below.refl _ _).alloc (Nat.le_refl _) _
  have HW1 := Lib.hid HW1
  clear hin
  go_enter Tryz.func114, Tryz.ntmps114
  go_wp2_with fail
  rw [← HW1.out]
  clear HW1
  clear HW1
  refine (qof_any 0 (by decide) (by decide) W1).mono ?_
  rintro _ W2 ⟨s2, A2, n2, c2, s3, A3, n3, c3, y2, rfl, ho2, hy2, hb2⟩
  obtain rfl : y2 = 0 := hy2.out
  have hR3 := hR.next hb2
  have hB3 := hB.trans (hb2.mono hB.size)
  have HN := Lib.hid (show n2 ≤ N ∧ n3 ≤ N from ⟨by rw [ho2.num.len]; exact (Qs.zero h1N).1, by rw [ho2.den.len]; exact (Qs.zero h1N).2⟩)
  have r0 := hR3.c0
  have r1 := hR3.c1
  have r2 := hR3.c2
  have r3 := hR3.c3
  have f0 := hR3.fz 0
  have f1 := hR3.fz 1
  have f2 := hR3.fz 2
  have f3 := hR3.fz 3
  have HR9 := Lib.hid (hR3.store s2 A2 n2 c2 s3 A3 n3 c3)
  have HO9 := Lib.hid (ho2.keep (keep_putQ hR3 s2 A2 n2 c2 s3 A3 n3 c3))
  have HB9 := Lib.hid (below_putQ hB3 (Nat.le_refl w.heap.size) s2 A2 n2 c2 s3 A3 n3 c3)
  unfold putQ at HR9 HB9 HO9
  clear hR hR3 hB hB3 hb2 ho2 hy2
  go_wp2_with fail
  generalize (((W2.setCell ⟨w.heap.size, 0, none⟩ (.bool s2)).setCell ⟨w.heap.size, 1, none⟩ (.slice A2 n2 c2)).setCell ⟨w.heap.size, 2, none⟩ (.bool s3)).setCell ⟨w.heap.size, 3, none⟩ (.slice A3 n3 c3) = W9 at *
  have z0 := HR9.out.c0
  have z1 := HR9.out.c1
  have z2 := HR9.out.c2
  have z3 := HR9.out.c3
  exact bodyPost_ret (by simp [results, Tryz.results114, go_sem, z0, z1, z2, z3]) rfl ⟨s2, A2, n2, c2, s3, A3, n3, c3, rfl, by rw [HZ.out]; exact HO9.out.num.rd, by rw [HZ.out]; exact HO9.out.den.rd, HN.out.1, HN.out.2, HB9.out⟩
theorem range_snoc (f : Nat → Rat) (j : Nat) : (List.range j).map f ++ [f j] = (List.range (j + 1)).map f := by
 rw [List.range_succ, List.map_append]
 rfl
set_option maxRecDepth 100000 in
set_option maxHeartbeats 8000000 in
theorem qboth_any {f N N2 : Nat} (φ : Rat → Rat → Rat) {A A' : Option Addr} {n c n' c' : Nat} {L L' : List Rat} {w : World} (h : RdQs w w.heap.size N A n c (L.map pr)) (h' : RdQs w w.heap.size N A' n' c' (L'.map pr)) (hn : n ≤ 1048576) (hn' : n' ≤ 1048576) (h1N : 1 ≤ N) (hN2 : N2 ≤ 17592186044416)
  (heg : ∀ args w, (callFunc f args).run Tryz.prog w = .ok (.enter f args) w) (h0 : φ 0 0 = 0) (hsz : ∀ i, Qs N2 (φ (Pq.co L i) (Pq.co L' i)))
  (hdo : ∀ (W : World) (s1 s2 s3 s4 : Bool) (A1 A2 A3 A4 : Option Addr) (n1 c1 n2 c2 n3 c3 n4 c4 : Nat) (x y : Rat), RdZ W W.heap.size s1 A1 n1 c1 x.num → RdZ W W.heap.size s2 A2 n2 c2 (x.den : Int) → RdZ W W.heap.size s3 A3 n3 c3 y.num → RdZ W W.heap.size s4 A4 n4 c4 (y.den : Int) → n1 ≤ N ∧ n2 ≤ N ∧ n3 ≤ N ∧ n4 ≤ N → Calls Tryz.prog f #[.agg #[.bool s1, .slice A1 n1 c1, .bool s2, .slice A2 n2 c2], .agg #[.bool s3, .slice A3 n3 c3, .bool s4, .slice A4 n4 c4]] W (RetQ (φ x y) W)) :
  Calls Tryz.prog 220 #[.slice A n c, .slice A' n' c', .func (.func f) #[] #[]] w (RetPq (fun i => φ (Pq.co L i) (Pq.co L' i)) w) := by
 have HD := Lib.hid hdo
 have HSZ := Lib.hid hsz
 have H0 := Lib.hid h0
 have HL := Lib.hid (And.intro h.lenp h'.lenp)
 obtain ⟨i0, hi, hz0, hz1, hz2⟩ := info_parts infoQ
 clear hdo hsz h0
 obtain ⟨m, hm⟩ : ∃ m, m = max n n' := ⟨_, rfl⟩
 have hmx : m ≤ 1048576 := by omega
 have hmi : max (n : Int) n' = (m : Int) := by omega
 have HM := Lib.hid hm
 clear hm
 go_enter Tryz.func220, Tryz.ntmps220
 go_wp2_with fail
 go_loopw [7, 16] (fun ov iv wr => ∃ (j c' : Nat) (A' : Option Addr) (M : List Rat), ov = .slice A' j c' ∧ iv = .int .i64 j ∧ j ≤ m ∧ OwQs wr w.heap.size A' j c' M ∧ Hid (M = (List.range j).map fun i => φ (Pq.co L i) (Pq.co L' i)) ∧ Below w.heap.size w wr) (fun _ iv _ => m - (intOf iv).toNat)
 case atStart => exact ⟨0, 0, none, [], rfl, rfl, Nat.zero_le _, OwQs.nil _ _, Lib.hid rfl, Below.refl _ _⟩
 case round =>
  obtain ⟨j, c5, A5, M, rfl, rfl, hj, ho, hM, hB⟩ := hrel
  by_cases hjm : j = m
  ·subst hjm
   have HSM := Lib.hid (show ∀ x ∈ M, Qs N2 x by
    rw [hM.out]
    intro x hx
    obtain ⟨i, _, rfl⟩ := List.mem_map.1 hx
    exact HSZ.out i)
   go_wp2_with fail
   refine (qtrim_any ho.p HSM.out (by omega) hN2).mono ?_
   rintro _ W4 ⟨A4, n4, c4, M4, rfl, ho4, hM4, hb4⟩
   go_wp2
   go_ret
   refine ⟨_, _, _, M4, rfl, ho4, Lib.hid (hM4.out.congr fun i => ?_), hB.trans (hb4.mono hB.size)⟩
   rw [hM.out, Pq.co_range]
   rcases Nat.lt_or_ge i j with hi | hi
   ·rw [if_pos hi]
   ·rw [if_neg (by omega), Pq.co_ge (L := L) (by rw [HL.out.1]; have := HM.out; omega), Pq.co_ge (L := L') (by rw [HL.out.2]; have := HM.out; omega), H0.out]
  ·have hjl : j < m := by omega
   have hjli : (j : Int) < (m : Int) := by omega
   clear hjm
   have HO := Lib.hid ho
   clear ho
   go_wp2_with fail
   refine (qat_any j (h.next hB) h1N).mono ?_
   rintro _ W2 ⟨s1, A1, n1, c1, s2, A2, n2, c2, rfl, hr1, hr2, hn1, hn2, hb2⟩
   have hB2 := hB.trans (hb2.mono hB.size)
   go_wp2_with fail
   refine (qat_any j (h'.next hB2) h1N).mono ?_
   rintro _ W3 ⟨s3, A3, n3, c3, s4, A4, n4, c4, rfl, hr3, hr4, hn3, hn4, hb3⟩
   have hB3 := hB2.trans (hb3.mono hB2.size)
   go_wp2_with fail
   refine (HD.out W3 _ _ _ _ _ _ _ _ _ _ _ _ _ _ _ _ _ _ (hr1.next hb3) (hr2.next hb3) hr3 hr4 ⟨hn1, hn2, hn3, hn4⟩).mono ?_
   rintro _ W5 ⟨s5, A6, n5, c6, s6, A7, n6, c7, q, rfl, ho5, hq, hb5⟩
   have hb25 := hb2.trans ((hb3.trans (hb5.mono hb3.size)).mono hb2.size)
   have hB5 := hB.trans (hb25.mono hB.size)
   obtain ⟨W6, HW6⟩ : ∃ W, W = W5.alloc (.cells #[.bool s5, .slice A6 n5 c6, .bool s6, .slice A7 n6 c7] 47) := ⟨_, rfl⟩
   have hb6 : Below W5.heap.size W5 W6 := by rw [HW6]; exact (Below.refl _ _).alloc (Nat.le_refl _) _
   have hB6 := hB5.trans (hb6.mono hB5.size)
   obtain ⟨E, hE, hEl, hEn⟩ := (HO.out.next hb25).next hb6
   have HO4 := Lib.hid ((ho5.base hB3.size).next hb6)
   rw [HW6] at hE hB6 hEn
   rw [HW6] at HO4
   have HE := Lib.hid hE
   have HEN := Lib.hid (And.intro hEl hEn)
   have HM2 := Lib.hid (show M ++ [q] = (List.range (j + 1)).map (fun i => φ (Pq.co L i) (Pq.co L' i)) by rw [hM.out, hq.out]; exact range_snoc (fun i => φ (Pq.co L i) (Pq.co L' i)) j)
   have HB6 := Lib.hid hB6
   clear hE hEl hEn hb2 hb3 hb5 hb25 hb6 hB hB2 hB3 hB5 hB6 ho5 hq HO hM hr1 hr2 hr3 hr4
   clear HW6
   go_wp2_with (at_builtin; refine wpList_append_own _ rfl _ _ 73 rfl w.heap.size 47 i0 (.agg #[.bool false, .slice none 0 0, .bool false, .slice none 0 0]) 4 64 Tryz.underlying73 hi hz0 hz1 hz2 rfl (by decide) _ _ _ rfl (HE.out.alloc _) ⟨W5.heap.size + 1, 0, none⟩ 1 1 [.bool s5, .slice A6 n5 c6, .bool s6, .slice A7 n6 c7] rfl rfl (by simpa using qcell_new (W5.alloc (.cells #[.bool s5, .slice A6 n5 c6, .bool s6, .slice A7 n6 c7] 47)) (.bool s5) (.slice A6 n5 c6) (.bool s6) (.slice A7 n6 c7) 47) (by simp [Value.oneCell']) (by unfold maxLen; omega) (by omega) (by have := HB6.out.size; simp at this ⊢; omega) ?_; intro v' w1 hown' hgrow _)
   have hmore := qs_more (e := ((s5, A6, n5, c6), (s6, A7, n6, c7))) (x := q) HO4.out rfl (HE.out.alloc _) HEN.out.1 HEN.out.2 hown' hgrow
   have HB7 := Lib.hid ((HB6.out.alloc HB6.out.size (.cells #[.bool s5, .slice A6 n5 c6, .bool s6, .slice A7 n6 c7] 47)).grown hgrow (by have := HB6.out.size; simp at this ⊢; omega) (own_block HE.out))
   obtain ⟨A9, c9, rfl, ho9⟩ := hmore
   clear hown' hgrow HE HEN HO4
   go_wp2
   go_roundw
   case rel => exact ⟨j + 1, c9, A9, M ++ [q], rfl, by go_num, by omega, ho9, HM2, HB7.out⟩
   case measure => simp [intOf]; omega
set_option maxHeartbeats 1000000 in
theorem qadd_poly {N : Nat} {A A' : Option Addr} {n c n' c' : Nat} {L L' : List Rat} {w : World} (h : RdQs w w.heap.size N A n c (L.map pr)) (h' : RdQs w w.heap.size N A' n' c' (L'.map pr)) (hn : n ≤ 1048576) (hn' : n' ≤ 1048576) (hN : N ≤ 200000000000) (h1N : 1 ≤ N) :
  Calls Tryz.prog 185 #[.slice A n c, .slice A' n' c'] w (RetPq (fun i => Pq.co L i + Pq.co L' i) w) := by
 have hEN := enters_of Tryz.func116 (by kernel_rfl) rfl
 have HC := Lib.hid (And.intro (h.szp h1N) (h'.szp h1N))
 go_enter Tryz.func185, Tryz.ntmps185
 go_wp2_with fail
 refine (qboth_any (N2 := N + N + 1) (fun x y => x + y) h h' hn hn' h1N (by omega) hEN (by grind) (fun i => (HC.out.1 i).add (HC.out.2 i)) (fun W s1 s2 s3 s4 A1 A2 A3 A4 n1 c1 n2 c2 n3 c3 n4 c4 x y r1 r2 r3 r4 hm => qaddq_any r1 r2 r3 r4 hm hN)).mono ?_
 rintro _ W2 ⟨A2, n2, c2, M2, rfl, ho2, hM2, hb2⟩
 go_wp2
 go_ret
 exact ⟨_, _, _, M2, rfl, ho2, hM2, hb2⟩
end Go.Proofs.YtjnklbfhelbjgaaGreat

/- qpoly: the derivative; an integer polynomial by a number; by the lead. -/
namespace Go.Proofs.YtjnklbfhelbjgaaGreat
open Go.RowKit Go.IntWalk
attribute [local go_sem ↓] Go.wp_at_zero Go.wp_at_succ
theorem qcF1 {V W : World} (hb : Below (V.drew.alloc (.cells #[.bool false, .slice none 0 0, .bool false, .slice none 0 0] 47)).heap.size (V.drew.alloc (.cells #[.bool false, .slice none 0 0, .bool false, .slice none 0 0] 47)) W) : QC W V.heap.size false none 0 0 false none 0 0 := (QC.new V.drew false none 0 0 false none 0 0).next hb
end Go.Proofs.YtjnklbfhelbjgaaGreat

/- qpoly: by the lead; an integer polynomial by a number. -/
namespace Go.Proofs.YtjnklbfhelbjgaaGreat
open Go.RowKit Go.IntWalk
attribute [local go_sem ↓] Go.wp_at_zero Go.wp_at_succ
set_option maxRecDepth 100000 in
set_option maxHeartbeats 8000000 in
theorem qover_any {N : Nat} {A : Option Addr} {n c : Nat} {L : List Int} {s5 : Bool} {A5 : Option Addr} {n5 c5 : Nat} {d : Int} {w : World} (h : RdZs w w.heap.size N A n c L) (h5 : RdZ w w.heap.size s5 A5 n5 c5 d) (hn5 : n5 ≤ N) (hn : n ≤ 1048576) (hN : N ≤ 200000000000) (hd : d ≠ 0) :
  Calls Tryz.prog 218 #[.slice A n c, .agg #[.bool s5, .slice A5 n5 c5]] w (RetPq (fun i => Rat.divInt (Pz.co L i) d) w) := by
 have HLEN := Lib.hid h.len
 have HSY := Lib.hid (show Zz.zl d ≤ N from Nat.le_trans h5.len hn5)
 have HSL := Lib.hid (zl_co h)
 have HD := Lib.hid hd
 obtain ⟨i0, hi, hz0, hz1, hz2⟩ := info_parts infoQ
 obtain ⟨W1, HW1⟩ : ∃ W, W = w.alloc (.cells #[.bool s5, .slice A5 n5 c5] 25) := ⟨_, rfl⟩
 have hC : ZC W1 w.heap.size s5 A5 n5 c5 := by rw [HW1]; exact ZC.new w s5 A5 n5 c5
 have hB1 : Below w.heap.size w W1 := by rw [HW1]; exact (Below.refl _ _).alloc (Nat.le_refl _) _
 have HCY := Lib.hid (show ∀ W : World, Below W1.heap.size W1 W → ZC W w.heap.size s5 A5 n5 c5 ∧ RdZ W W.heap.size s5 A5 n5 c5 d ∧ RdZs W W.heap.size N A n c L from fun W hb => ⟨hC.next hb, (h5.next hB1).next hb, (h.next hB1).next hb⟩)
 have HB1 := Lib.hid hB1
 have HW1 := Lib.hid HW1
 clear hC hB1 h h5 hd
 go_enter Tryz.func218, Tryz.ntmps218
 go_wp2_with fail
 rw [← HW1.out]
 clear HW1
 clear HW1
 go_loopw [5, 12] (fun ov iv wr => ∃ (j c' : Nat) (A' : Option Addr) (M : List Rat), ov = .slice A' j c' ∧ iv = .int .i64 j ∧ j ≤ n ∧ OwQs wr W1.heap.size A' j c' M ∧ Hid (M = (List.range j).map fun i => Rat.divInt (Pz.co L i) d) ∧ Below W1.heap.size W1 wr) (fun _ iv _ => n - (intOf iv).toNat)
 case atStart => exact ⟨0, 0, none, [], rfl, rfl, Nat.zero_le _, OwQs.nil _ _, Lib.hid rfl, Below.refl _ _⟩
 case round =>
  obtain ⟨j, c', A', M, rfl, rfl, hj, ho, hM, hB⟩ := hrel
  by_cases hjn : j = n
  ·subst hjn
   have HSM := Lib.hid (show ∀ x ∈ M, Qs N x by
    rw [hM.out]
    intro x hx
    obtain ⟨u, hu, rfl⟩ := List.mem_map.1 hx
    exact Qs.divInt HD.out (HSL.out u) HSY.out)
   go_wp2_with fail
   refine (qtrim_any ho.p HSM.out (by omega) (by omega)).mono ?_
   rintro _ W4 ⟨A4, n4, c4, M4, rfl, ho4, hM4, hb4⟩
   go_wp2
   go_ret
   refine ⟨_, _, _, M4, rfl, ho4.base HB1.out.size, Lib.hid (hM4.out.congr fun i => ?_), HB1.out.trans ((hB.trans (hb4.mono hB.size)).mono HB1.out.size)⟩
   rw [hM.out, Pq.co_range]
   rcases Nat.lt_or_ge i j with h1 | h1
   ·rw [if_pos h1]
   ·rw [if_neg (by omega), Pz.co_ge (by rw [HLEN.out]; exact h1), Rat.zero_divInt]
  ·have hjl : j < n := by omega
   clear hjn
   have hjli : (j : Int) < (n : Int) := by omega
   obtain ⟨hC, hr5, hl⟩ := HCY.out wr hB
   obtain ⟨ad, s1, A1, n1, c1, x, rfl, hbk, hx0, hx1, hr1, hn1, hp⟩ := zs_at hl hjl
   obtain ⟨W2, HW2⟩ : ∃ W, W = wr.alloc (.cells #[.bool s1, .slice A1 n1 c1] 25) := ⟨_, rfl⟩
   have hb2 : Below wr.heap.size wr W2 := by rw [HW2]; exact (Below.refl _ _).alloc (Nat.le_refl _) _
   have hX2 : ZC W2 wr.heap.size s1 A1 n1 c1 := by rw [HW2]; exact ZC.new wr s1 A1 n1 c1
   have hB2 := hB.trans (hb2.mono hB.size)
   have a0 := hX2.c0
   have a1 := hX2.c1
   have b0 := (hC.next hb2).c0
   have b1 := (hC.next hb2).c1
   rw [HW2] at a0 a1 b0 b1
   have HO := Lib.hid (ho.next hb2)
   have HRD := Lib.hid (And.intro (hr1.next hb2) (hr5.next hb2))
   have HB2 := Lib.hid hB2
   have HW2 := Lib.hid HW2
   clear ho hB hb2 hB2 hr1 hr5 hl hC hX2
   go_wp2_with fail
   rw [← HW2.out]
   clear HW2 hx0 hx1 a0 a1 b0 b1
   clear HW2
   refine (qmake_any HRD.out.1 HRD.out.2 (by omega) (by omega) HD.out).mono ?_
   rintro _ W3 ⟨s3, A3, n3, c3, s4, A4, n4, c4, q, rfl, ho3, hq, hb3⟩
   have hB3 := HB2.out.trans (hb3.mono HB2.out.size)
   obtain ⟨W4, HW4⟩ : ∃ W, W = W3.alloc (.cells #[.bool s3, .slice A3 n3 c3, .bool s4, .slice A4 n4 c4] 47) := ⟨_, rfl⟩
   have hb4 : Below W3.heap.size W3 W4 := by rw [HW4]; exact (Below.refl _ _).alloc (Nat.le_refl _) _
   have hB4 := hB3.trans (hb4.mono hB3.size)
   obtain ⟨E, hE, hEl, hEn⟩ := (HO.out.next hb3).next hb4
   have HO4 := Lib.hid ((ho3.base HB2.out.size).next hb4)
   rw [HW4] at hE hB4 hEn
   rw [HW4] at HO4
   have HE := Lib.hid hE
   have HEN := Lib.hid (And.intro hEl hEn)
   have HM2 := Lib.hid (show M ++ [q] = (List.range (j + 1)).map (fun i => Rat.divInt (Pz.co L i) d) by rw [hM.out, hq.out, ← Pz.co_get hp.out, List.range_succ, List.map_append]; rfl)
   have HB4 := Lib.hid hB4
   clear hE hEl hEn hb3 ho3 hb4 hB3 hB4 hq HO hM
   clear HW4
   go_wp2_with (at_builtin; refine wpList_append_own _ rfl _ _ 73 rfl W1.heap.size 47 i0 (.agg #[.bool false, .slice none 0 0, .bool false, .slice none 0 0]) 4 64 Tryz.underlying73 hi hz0 hz1 hz2 rfl (by decide) _ _ _ rfl (HE.out.alloc _) ⟨W3.heap.size + 1, 0, none⟩ 1 1 [.bool s3, .slice A3 n3 c3, .bool s4, .slice A4 n4 c4] rfl rfl (by simpa using qcell_new (W3.alloc (.cells #[.bool s3, .slice A3 n3 c3, .bool s4, .slice A4 n4 c4] 47)) (.bool s3) (.slice A3 n3 c3) (.bool s4) (.slice A4 n4 c4) 47) (by simp [Value.oneCell']) (by unfold maxLen; omega) (by omega) (by have := HB4.out.size; simp at this ⊢; omega) ?_; intro v' w1 hown' hgrow _)
   have hmore := qs_more (e := ((s3, A3, n3, c3), (s4, A4, n4, c4))) (x := q) HO4.out rfl (HE.out.alloc _) HEN.out.1 HEN.out.2 hown' hgrow
   have HB5 := Lib.hid ((HB4.out.alloc HB4.out.size (.cells #[.bool s3, .slice A3 n3 c3, .bool s4, .slice A4 n4 c4] 47)).grown hgrow (by have := HB4.out.size; simp at this ⊢; omega) (own_block HE.out))
   obtain ⟨A9, c9, rfl, ho9⟩ := hmore
   clear hown' hgrow HE HEN HO4
   go_wp2
   go_roundw
   case rel => exact ⟨j + 1, c9, A9, M ++ [q], rfl, by go_num, by omega, ho9, HM2, HB5.out⟩
   case measure => simp [intOf]; omega
end Go.Proofs.YtjnklbfhelbjgaaGreat

/- qpoly.norms: a function of polynomials in normal form. -/
namespace Go.Proofs.YtjnklbfhelbjgaaGreat
open Go.RowKit Go.IntWalk
attribute [local go_sem ↓] Go.wp_at_zero Go.wp_at_succ
theorem pcell_new (w : World) (x : Value) (t : TypeId) : ∀ j a, [x][j]? = some a → (w.alloc (.cells #[x] t)).cell? ((⟨w.heap.size, 0, none⟩ : Addr).add j) = some a := by
 intro j a hj
 match j, hj with
 | 0, hj => simp at hj; subst hj; simp [Addr.add]
 | (j + 1), hj => simp at hj
abbrev nq (L : List (Int × Int)) : List Rat := Pq.nrm (L.map qval)
theorem mapn_snoc {L : List (List (Int × Int))} {j : Nat} {p : List (Int × Int)} (h : L[j]? = some p) : (L.take j).map nq ++ [nq p] = (L.take (j + 1)).map nq := by
 rw [List.take_add_one, h]
 simp
def RetPqE (b : Nat) (Φ : List Rat → Int → Prop) (w : World) (e : Ending) (w' : World) : Prop :=
 ∃ (A : Option Addr) (n c : Nat) (M : List Rat) (kk : Int), e = .returned (.tuple #[.slice A n c, .int .i64 kk]) ∧ OwQp w' b A n c M ∧ Hid (Φ M kk) ∧ Below w.heap.size w w'
set_option maxRecDepth 100000 in
set_option maxHeartbeats 8000000 in
theorem norms_poly {f N K : Nat} {A : Option Addr} {n c : Nat} {LL : List (List (Int × Int))} {w : World} {Φ : List Rat → Int → Prop} (h : RdPs w w.heap.size N K A n c LL) (hn : n ≤ 1048576) (hK : K ≤ 1048576) (hN : N ≤ 1000000000000) (h1N : 1 ≤ N) (heg : ∀ args w, (callFunc f args).run Tryz.prog w = .ok (.enter f args) w)
  (hdo : (∀ L ∈ LL, ∀ p ∈ L, p.2 ≠ 0) → ∀ (W : World) (A' : Option Addr) (c' : Nat), Below w.heap.size w W → OwPs W w.heap.size A' n c' (LL.map nq) → Calls Tryz.prog f #[.slice A' n c'] W (RetPqE w.heap.size Φ W)) :
  Calls Tryz.prog 180 #[.slice A n c, .func (.func f) #[] #[]] w fun e w' => ((∀ L ∈ LL, ∀ p ∈ L, p.2 ≠ 0) ∧ RetPqE w.heap.size Φ w e w') ∨ ((∃ L ∈ LL, ∃ p ∈ L, p.2 = 0) ∧ e = .returned (.tuple #[.slice none 0 0, .int .i64 6]) ∧ Below w.heap.size w w') := by
 have HD := Lib.hid hdo
 have HLEN := Lib.hid h.len
 obtain ⟨i0, hi, hz0, hz1, hz2⟩ := info_parts infoPoly
 clear hdo
 go_enter Tryz.func180, Tryz.ntmps180
 go_wp2_with fail
 go_loopw [7, 14] (fun ov iv wr => ∃ (j c' : Nat) (A' : Option Addr) (M : List (List Rat)), ov = .slice A' j c' ∧ iv = .int .i64 j ∧ j ≤ n ∧ OwPs wr w.heap.size A' j c' M ∧ Hid (M = (LL.take j).map nq) ∧ Hid (∀ (i : Nat) (L : List (Int × Int)), i < j → LL[i]? = some L → ∀ p ∈ L, p.2 ≠ 0) ∧ Below w.heap.size w wr) (fun _ iv _ => n - (intOf iv).toNat)
 case atStart => exact ⟨0, 0, none, [], rfl, rfl, Nat.zero_le _, OwPs.nil _ _, Lib.hid rfl, Lib.hid fun i p hi => absurd hi (Nat.not_lt_zero _), Below.refl _ _⟩
 case round =>
  obtain ⟨j, c', A', M, rfl, rfl, hj, ho, hM, hne, hB⟩ := hrel
  by_cases hjn : j = n
  ·subst hjn
   have HALL := Lib.hid (show ∀ L ∈ LL, ∀ p ∈ L, p.2 ≠ 0 from fun L hp => by
    obtain ⟨i, hi, e⟩ := List.mem_iff_getElem.1 hp
    exact hne.out i L (by rw [← HLEN.out]; exact hi) (by rw [List.getElem?_eq_getElem hi, e]))
   have HO := Lib.hid (show OwPs wr w.heap.size A' j c' (LL.map nq) by rw [← List.take_of_length_le (l := LL) (by rw [HLEN.out]; exact Nat.le_refl _), ← hM.out]; exact ho)
   have HB := Lib.hid hB
   clear ho hB hM hne
   go_wp2_with fail
   refine (HD.out HALL.out wr A' c' HB.out HO.out).mono ?_
   rintro _ W5 ⟨A5, n5, c5, M5, kk, rfl, ho5, hy, hb5⟩
   go_wp2
   exact bodyPost_ret (by simp [results, Tryz.results180, go_sem]) rfl (.inl ⟨HALL.out, _, _, _, M5, kk, rfl, ho5, hy, HB.out.trans (hb5.mono HB.out.size)⟩)
  ·have hjl : j < n := by omega
   clear hjn
   have hjli : (j : Int) < (n : Int) := by omega
   obtain ⟨ad, A1, n1, c1, L, rfl, hbk, hx, hr, hn1, hp⟩ := ps_at h hjl
   have hy := (hB.cell (p := ad.add j) (by rw [add_blk]; exact hbk)).trans hx
   have HR := Lib.hid (hr.next hB)
   have HO := Lib.hid ho
   clear hx hr ho
   go_wp2_with fail
   clear hy
   refine (qpnorm_any HR.out (by omega) hN h1N).mono ?_
   rintro _ W3 (⟨hall, A4, n4, c4, M4, rfl, ho4, hM4, hb3⟩ | ⟨hex, rfl, hb3⟩)
   ·have HALL := Lib.hid hall
    have hB3 := hB.trans (hb3.mono hB.size)
    obtain ⟨E, hE, hEl, hEn⟩ := HO.out.next hb3
    have HO4 := Lib.hid (ho4.base hB.size)
    have HE := Lib.hid hE
    have HEN := Lib.hid (And.intro hEl (hEn.next ((Below.refl _ _).alloc (Nat.le_refl _) (.cells #[.slice A4 n4 c4] 73))))
    have HM2 := Lib.hid (show M ++ [M4] = (LL.take (j + 1)).map nq by rw [hM.out, hM4.out]; exact mapn_snoc hp.out)
    have HNE2 := Lib.hid (show ∀ (i : Nat) (L : List (Int × Int)), i < j + 1 → LL[i]? = some L → ∀ p ∈ L, p.2 ≠ 0 from fun i L' hi hq => by
     rcases Nat.lt_or_ge i j with h1 | h1
     ·exact hne.out i L' h1 hq
     ·rw [show i = j by omega, hp.out] at hq
      injection hq with hq
      rw [← hq]
      exact HALL.out)
    have HB3 := Lib.hid hB3
    clear hE hEl hEn hb3 ho4 hB3 hB hM4 HO hne hM hall
    go_wp2_with (at_builtin; refine wpList_append_own _ rfl _ _ 30 rfl w.heap.size 73 i0 (.slice none 0 0) 1 24 Tryz.underlying30 hi hz0 hz1 hz2 rfl (by decide) _ _ _ rfl (HE.out.alloc _) ⟨W3.heap.size, 0, none⟩ 1 1 [.slice A4 n4 c4] rfl rfl (pcell_new _ _ _) (by simp [Value.oneCell']) (by unfold maxLen; omega) (by omega) (by have := HB3.out.size; simp; omega) ?_; intro v' w1 hown' hgrow _)
    have hmore := ps_more (e := (A4, n4, c4)) (L := M4) HO4.out rfl (HE.out.alloc _) HEN.out.1 HEN.out.2 hown' hgrow
    have HB5 := Lib.hid ((HB3.out.alloc HB3.out.size (.cells #[.slice A4 n4 c4] 73)).grown hgrow (by have := HB3.out.size; simp; omega) (own_block HE.out))
    obtain ⟨A5, c5, rfl, ho5⟩ := hmore
    clear hown' hgrow HE HEN HO4
    go_wp2
    go_roundw
    case rel => exact ⟨j + 1, c5, A5, M ++ [M4], rfl, by go_num, by omega, ho5, HM2, HNE2, HB5.out⟩
    case measure => simp [intOf]; omega
   ·have HEX := Lib.hid (show ∃ L ∈ LL, ∃ p ∈ L, p.2 = 0 from ⟨L, List.mem_of_getElem? hp.out, hex⟩)
    go_wp2
    exact bodyPost_ret (by simp [results, Tryz.results180, go_sem]) rfl (.inr ⟨HEX.out, rfl, hB.trans (hb3.mono hB.size)⟩)
end Go.Proofs.YtjnklbfhelbjgaaGreat
