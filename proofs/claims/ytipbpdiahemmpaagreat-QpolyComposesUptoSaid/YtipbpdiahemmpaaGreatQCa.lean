/- Reference 09: the derivative. -/
import Derived.Test.YtipbpdiahemmpaaGreatQ30
import Derived.Test.YtipbpdiahemmpaaGreatQ33
import Derived.Test.YtipbpdiahemmpaaGreatQ13
import Derived.Deep.RegionLaw
import Derived.Test.YtipbpdiahemmpaaGreatQ41
import Derived.Test.YtipbpdiahemmpaaGreatQ42
import Derived.Test.YtipbpdiahemmpaaGreatQ40
import Derived.Test.YtipbpdiahemmpaaGreatQ12
namespace Go.Proofs.YtipbpdiahemmpaaGreat
open Go.RowKit Go.IntWalk
attribute [local go_sem ↓] Go.wp_at_zero Go.wp_at_succ

theorem qval_at {L : List (Int × Int)} {k : Nat} {p : Int × Int} (h : L[k]? = some p) : Pq.co (L.map qval) k = qval p := Pq.co_get (by rw [List.getElem?_map, h]; rfl)

set_option maxRecDepth 100000 in
set_option maxHeartbeats 8000000 in
theorem rqDerive_any {N : Nat} {A : Option Addr} {n c : Nat} {L : List (Int × Int)} {w : World} (h : RdQs w w.heap.size N A n c L) (hd : ∀ p ∈ L, p.2 ≠ 0) (hn : n ≤ 1048576) (hN : N ≤ 200000000000) (h1N : 1 ≤ N) :
    Calls Tryz.prog 51 #[.slice A n c] w (RetPq (fun i => Pq.co (L.map qval) (i + 1) * (((i + 1 : Nat) : Int) : Rat)) w) := by
  have HLEN := Lib.hid h.len
  have HSL := Lib.hid (h.sz hd h1N)
  have H := Lib.hid h
  have HD := Lib.hid hd
  obtain ⟨i0, hi, hz0, hz1, hz2⟩ := info_parts infoQ
  clear h hd
  go_enter Tryz.func51, Tryz.ntmps51
  go_wp2_with fail
  go_loopw [3, 4] (fun ov iv wr => ∃ (k j c' : Nat) (A' : Option Addr) (M : List Rat), ov = .slice A' j c' ∧ iv = .int .i64 (k : Int) ∧ Hid (k = j + 1 ∧ (k ≤ n ∨ k = 1)) ∧ OwQs wr w.heap.size A' j c' M ∧ Hid (M = (List.range j).map fun i => Pq.co (L.map qval) (i + 1) * (((i + 1 : Nat) : Int) : Rat)) ∧ Below w.heap.size w wr) (fun _ iv _ => n - (intOf iv).toNat)
  case atStart => exact ⟨1, 0, 0, none, [], rfl, rfl, Lib.hid ⟨rfl, .inr rfl⟩, OwQs.nil _ _, Lib.hid rfl, Below.refl _ _⟩
  case round =>
    obtain ⟨k, j, c', A', M, rfl, rfl, hkj, ho, hM, hB⟩ := hrel
    by_cases hkn : k < n
    · have hkni : (k : Int) < (n : Int) := by omega
      have HK := Lib.hid hkn
      obtain ⟨ad, s1, A1, n1, c1, s2, A2, n2, c2, z1, d1, hA, hbk, hx0, hx1, hx2, hx3, hr1, hr2, hn1, hn2, hp⟩ := qs_at H.out hkn
      subst hA
      obtain ⟨hy0, hy1, hy2, hy3⟩ := qs_cells hB hbk hx0 hx1 hx2 hx3
      have HBD := Lib.hid (Below.refl wr.heap.size wr).drew
      have HX := Lib.hid (show ∀ W : World, Below wr.heap.size wr W → RdZ W W.heap.size s1 A1 n1 c1 z1 ∧ RdZ W W.heap.size s2 A2 n2 c2 d1 from fun W hb => ⟨(hr1.next hB).next hb, (hr2.next hB).next hb⟩)
      have HCX := Lib.hid (show ∀ W : World, Below wr.heap.size wr W → _ from fun W hb => qs_cells (hB.trans (hb.mono hB.size)) hbk hx0 hx1 hx2 hx3)
      have HO := Lib.hid ho
      have HK2 := Lib.hid (show k < 4294967296 by omega)
      have HJ := Lib.hid (show j ≤ 1048576 by have := hkj.out; omega)
      have HD1 := Lib.hid (show d1 ≠ 0 from HD.out _ (List.mem_of_getElem? hp.out))
      have HV := Lib.hid (show Pq.co (L.map qval) k = Rat.divInt z1 d1 from qval_at hp.out)
      have HBW := Lib.hid hB
      clear hx0 hx1 hx2 hx3 hr1 hr2 ho hkn hB
      go_upto_region 5 with fail
      go_region_law (first
        | (refine step_append_sl rfl _ _ 38 rfl w.heap.size 56 i0 (.agg #[.bool false, .slice none 0 0, .bool false, .slice none 0 0]) 4 64 Tryz.underlying38 hi hz0 hz1 hz2 rfl (by decide) _ _ _ rfl (HE.out.alloc _) (some ⟨W3.heap.size, 0, none⟩) 1 1 [.bool s3, .slice A3 n3 c3, .bool s4, .slice A4 n4 c4] rfl rfl (fun e => by cases e) (fun ad e => by cases e; exact qcell_new _ _ _ _ _ _) (by simp [Value.oneCell']) (by have := HJ.out; unfold maxLen; omega) (by have := HJ.out; omega) (by have := HB4.out.size; simp at this ⊢; omega) ?_; intro A9 c9 W9 hown9 hgrow9)
        | (go_simp; go_at_call 111; refine (rQOf_any (k : Int) (by have := HK2.out; omega) (by have := HK2.out; omega) _).mono ?_; rintro _ W2 ⟨s5, A5, n5, c5, s6, A6, n6, c6, y2, rfl, ho2, hy2, hb2⟩; have HB2 := Lib.hid (HBD.out.trans hb2); have HN2 := Lib.hid (show n5 ≤ N ∧ n6 ≤ N from ⟨by { rw [ho2.num.len, hy2.out]; exact (Qs.int (zl_nat HK2.out h1N) h1N).1 }, by { rw [ho2.den.len, hy2.out]; exact (Qs.int (zl_nat HK2.out h1N) h1N).2 }⟩); obtain ⟨la0, la1, la2, la3⟩ := HCX.out W2 HB2.out)
        | (go_simp; go_at_call 79; refine (rQMul_any (N := N) (HX.out _ HB2.out).1 (HX.out _ HB2.out).2 ho2.num.rd ho2.den.rd ⟨hn1, hn2, HN2.out.1, HN2.out.2⟩ hN HD1.out (by simpa using y2.den_nz)).mono ?_; rintro _ W3 ⟨s3, A3, n3, c3, s4, A4, n4, c4, q, rfl, ho3, hq, hb3⟩; have HB3 := Lib.hid (HB2.out.trans (hb3.mono HB2.out.size)); have HQ := Lib.hid (show q = Pq.co (L.map qval) k * ((k : Int) : Rat) by rw [hq.out, HV.out, hy2.out, Rat.num_divInt_den]); obtain ⟨E, hE, hEl, hEn⟩ := HO.out.next HB3.out; have HE := Lib.hid hE; have HEN := Lib.hid (And.intro hEl hEn); have HB4 := Lib.hid (HBW.out.trans (HB3.out.mono HBW.out.size)); have HO4 := Lib.hid (ho3.base (b' := w.heap.size) (Nat.le_trans HBW.out.size HB2.out.size)); clear hE hEl hEn hq hb3 ho3))
      all_goals
        have hmore := qs_more (e := ((s3, A3, n3, c3), (s4, A4, n4, c4))) (x := q) HO4.out rfl (HE.out.alloc _) HEN.out.1 HEN.out.2 hown9 hgrow9
        have HB5 := Lib.hid ((HB4.out.alloc HB4.out.size (.cells #[.bool s3, .slice A3 n3 c3, .bool s4, .slice A4 n4 c4] 56)).grown hgrow9 (by have := HB4.out.size; simp at this ⊢; omega) (own_block HE.out))
        have HM2 := Lib.hid (show M ++ [q] = (List.range (j + 1)).map fun i => Pq.co (L.map qval) (i + 1) * (((i + 1 : Nat) : Int) : Rat) by rw [hM.out, HQ.out, hkj.out.1]; exact range_snoc (fun i => Pq.co (L.map qval) (i + 1) * (((i + 1 : Nat) : Int) : Rat)) j)
        obtain ⟨A10, c10, e10, ho10⟩ := hmore
        injection e10 with e1 e2 e3
        subst e1 e3
        clear hown9 hgrow9 HE HEN HO4 hy0 hy1 hy2 hy3 la0 la1 la2 la3
        go_wp2
        go_roundw
        case rel => exact ⟨k + 1, j + 1, c9, A9, M ++ [q], rfl, by go_num, Lib.hid (by have := hkj.out; have := HK.out; omega), ho10, HM2, HB5.out⟩
        case measure => simp [intOf]; omega
    · have hkni : (n : Int) ≤ (k : Int) := by omega
      have HNK := Lib.hid (show n ≤ k by omega)
      have hjn : j ≤ 1048576 := by have := hkj.out; omega
      have HSM := Lib.hid (show ∀ y ∈ M, Qs (N + N) y by
        rw [hM.out]
        intro y hy
        obtain ⟨i, hi, rfl⟩ := List.mem_map.1 hy
        have := List.mem_range.1 hi
        exact (HSL.out _).mul (Qs.int (zl_nat (by omega) h1N) h1N))
      clear hkn
      have hrd := ho.p.rd HSM.out
      go_wp2_with fail
      refine (rqnorm_own hrd (by omega) (by omega)).mono ?_
      rintro _ W4 ⟨A4, n4, c4, M4, rfl, ho4, hM4, hb4⟩
      go_wp2
      go_ret
      refine ⟨_, _, _, M4, rfl, ho4.base hB.size, Lib.hid (hM4.out.congr fun i => ?_), hB.trans (hb4.mono hB.size)⟩
      rw [hM.out, Pq.co_range]
      rcases Nat.lt_or_ge i j with h1 | h1
      · rw [if_pos h1]
      · rw [if_neg (by omega), Pq.co_ge (L := L.map qval) (by rw [List.length_map, HLEN.out]; have := HNK.out; have := hkj.out; omega), Rat.zero_mul]
end Go.Proofs.YtipbpdiahemmpaaGreat

/- The answers of qpoly's exported functions, of both kinds at once; none. -/
namespace Go.Proofs.YtipbpdiahemmpaaGreat
open Go.RowKit Go.IntWalk
attribute [local go_sem ↓] Go.wp_at_zero Go.wp_at_succ

/-- A polynomial's answer, of both kinds. -/
def RetAll (ok : Prop) (f : Nat → Rat) (w : World) (e : Ending) (w' : World) : Prop :=
  ∃ (A : Option Addr) (n c : Nat) (M : List Rat) (kk : Int), e = .returned (.tuple #[.slice A n c, .int .i64 kk]) ∧ OwQp w' w.heap.size A n c M ∧ Hid ((ok ∧ Pq.IsP f M ∧ kk = 0) ∨ (¬ok ∧ M = [] ∧ kk = 6)) ∧ Below w.heap.size w w'
theorem RetOp.all {ok : Prop} {f : Nat → Rat} {w w' : World} {e : Ending} (h : RetOp ok f w e w') : RetAll ok f w e w' := by
  rcases h with ⟨h1, A, n, c, M, kk, h2, h3, h4, h5⟩ | ⟨h1, h2, h3⟩
  · exact ⟨A, n, c, M, kk, h2, h3, Lib.hid (.inl ⟨h1, h4.out.1, h4.out.2⟩), h5⟩
  · exact ⟨none, 0, 0, [], 6, h2, OwQp.nil _ _ _, Lib.hid (.inr ⟨h1, rfl, rfl⟩), h3⟩
set_option maxHeartbeats 400000 in
theorem lnone_any {A : Option Addr} {n c : Nat} {w : World} : Calls Tryz.prog 31 #[.slice A n c] w (RetBo (n = 0) w) := by
  go_enter Tryz.func31, Tryz.ntmps31
  by_cases h0 : n = 0
  · subst h0
    go_wp2
    go_ret
    exact ⟨true, rfl, Lib.hid (by simp), Below.refl _ _⟩
  · have hb : ((n : Int) == 0) = false := by simp; omega
    have HN := Lib.hid h0
    clear h0
    go_wp2
    go_ret
    exact ⟨false, rfl, Lib.hid ⟨fun e => by simp at e, fun e => absurd e HN.out⟩, Below.refl _ _⟩
end Go.Proofs.YtipbpdiahemmpaaGreat

/- Integer polynomials as fractions; reference 09: degree, lead, by the lead. -/
namespace Go.Proofs.YtipbpdiahemmpaaGreat
open Go.RowKit Go.IntWalk
attribute [local go_sem ↓] Go.wp_at_zero Go.wp_at_succ

set_option maxRecDepth 100000 in
set_option maxHeartbeats 2000000 in
theorem qFromInt_any {N : Nat} {A : Option Addr} {n c : Nat} {L : List Int} {w : World} (h : RdZs w w.heap.size N A n c L) (hn : n ≤ 1048576) (hN : N ≤ 200000000000) (h1N : 1 ≤ N) :
    Calls Tryz.prog 42 #[.slice A n c] w (RetPq (fun i => ((Pz.co L i : Int) : Rat)) w) := by
  have HC := Lib.hid (zl_co h)
  have HLEN := Lib.hid h.len
  go_enter Tryz.func42, Tryz.ntmps42
  go_wp2_with fail
  refine (znorm_any h (by omega) (by omega)).mono ?_
  rintro _ W2 ⟨A2, n2, c2, M2, rfl, ho2, hM2, hb2⟩
  have hn2 : n2 ≤ 1048576 := by
    rw [← ho2.len]
    exact Nat.le_trans (Pz.nz_len hM2.out.1 (k := n) fun i hi => by rw [hM2.out.2]; exact Pz.co_ge (by rw [HLEN.out]; exact hi)) hn
  go_wp2_with fail
  refine (of_any 1 (by decide) (by decide) W2).mono ?_
  rintro _ W3 ⟨s3, A3, n3, c3, y, rfl, ho3, hy, hb3⟩
  obtain rfl : y = 1 := hy.out
  have hrd := rd_of' (ho2.next hb3) hM2.out.2 HC.out
  have hn3 : n3 ≤ N := by rw [ho3.len]; exact Nat.le_trans (Zz.zl_small (by decide)) h1N
  have hb23 := hb2.trans (hb3.mono hb2.size)
  go_wp2_with fail
  refine (qover_any hrd ho3.rd hn3 hn2 hN (by decide)).mono ?_
  rintro _ W4 ⟨A4, n4, c4, M4, rfl, ho4, hM4, hb4⟩
  go_wp2
  go_ret
  exact ⟨_, _, _, M4, rfl, ho4.base hb23.size, Lib.hid (hM4.out.congr fun i => by rw [hM2.out.2]; exact Rat.num_divInt_den ((Pz.co L i : Int) : Rat)), hb23.trans (hb4.mono hb23.size)⟩

set_option maxRecDepth 100000 in
set_option maxHeartbeats 2000000 in
theorem rQInt_any {s : Bool} {A : Option Addr} {n c : Nat} {z : Int} {w : World} (h : RdZ w w.heap.size s A n c z) (hn : n ≤ 17592186044416) :
    Calls Tryz.prog 128 #[.agg #[.bool s, .slice A n c]] w (RetV4 (z : Rat) w) := by
  obtain ⟨W1, HW1⟩ : ∃ W, W = (w.alloc (.cells #[.bool s, .slice A n c] 28)).alloc (.cells #[.bool false, .slice none 0 0, .bool false, .slice none 0 0] 56) := ⟨_, rfl⟩
  have hb0 : Below w.heap.size w (w.alloc (.cells #[.bool s, .slice A n c] 28)) := (Below.refl _ _).alloc (Nat.le_refl _) _
  have hZ : ZC W1 w.heap.size s A n c := by rw [HW1]; exact (ZC.new w s A n c).alloc _
  have hR : QC W1 (w.heap.size + 1) false none 0 0 false none 0 0 := by rw [HW1]; simpa using QC.new (w.alloc (.cells #[.bool s, .slice A n c] 28)) false none 0 0 false none 0 0
  have hB : Below w.heap.size w W1 := by rw [HW1]; exact hb0.alloc hb0.size _
  have h1 := h.next hB
  have a0 := hZ.c0
  have a1 := hZ.c1
  rw [HW1] at a0 a1
  have HW1 := Lib.hid HW1
  clear hb0 hZ
  go_enter Tryz.func128, Tryz.ntmps128
  go_wp2_with fail
  rw [← HW1.out]
  clear HW1 a0 a1
  clear HW1
  refine (rINorm_any h1 hn).mono ?_
  rintro _ W2 ⟨s2, A2, n2, c2, y2, rfl, ho2, hy2, hb2⟩
  go_wp2_with fail
  refine (rIOf_any 1 (by decide) (by decide) W2).mono ?_
  rintro _ W3 ⟨s3, A3, n3, c3, y3, rfl, ho3, hy3, hb3⟩
  have hb13 := hb2.trans (hb3.mono hb2.size)
  have hR3 := hR.next hb13
  have hB3 := hB.trans (hb13.mono hB.size)
  have ho : OwQ W3 w.heap.size s2 A2 n2 c2 s3 A3 n3 c3 (z : Rat) := ⟨by have := (ho2.next hb3).base hB.size; rw [hy2.out] at this; exact this, by have := ho3.base (b' := w.heap.size) (Nat.le_trans hB.size hb2.size); rw [hy3.out] at this; exact this⟩
  have r0 := hR3.c0
  have r1 := hR3.c1
  have r2 := hR3.c2
  have r3 := hR3.c3
  have f0 := hR3.fz 0
  have f1 := hR3.fz 1
  have f2 := hR3.fz 2
  have f3 := hR3.fz 3
  have HR9 := Lib.hid (hR3.store s2 A2 n2 c2 s3 A3 n3 c3)
  have HO9 := Lib.hid (ho.keep (keep_putQ hR3 s2 A2 n2 c2 s3 A3 n3 c3))
  have HB9 := Lib.hid (below_putQ hB3 (Nat.le_succ w.heap.size) s2 A2 n2 c2 s3 A3 n3 c3)
  unfold putQ at HR9 HB9 HO9
  clear hR hR3 hB hB3 hb2 hb3 hb13 h1 h ho ho2 ho3 hy2 hy3
  go_wp2_with fail
  generalize (((W3.setCell ⟨w.heap.size + 1, 0, none⟩ (.bool s2)).setCell ⟨w.heap.size + 1, 1, none⟩ (.slice A2 n2 c2)).setCell ⟨w.heap.size + 1, 2, none⟩ (.bool s3)).setCell ⟨w.heap.size + 1, 3, none⟩ (.slice A3 n3 c3) = W9 at *
  have z0 := HR9.out.c0
  have z1 := HR9.out.c1
  have z2 := HR9.out.c2
  have z3 := HR9.out.c3
  exact bodyPost_ret (by simp [results, Tryz.results128, go_sem, z0, z1, z2, z3]) rfl ⟨_, _, _, _, _, _, _, _, (z : Rat), rfl, HO9.out, Lib.hid rfl, HB9.out⟩
theorem mapz_snoc {L : List Int} {j : Nat} {z : Int} (h : L[j]? = some z) : (L.take j).map (fun z : Int => (z : Rat)) ++ [(z : Rat)] = (L.take (j + 1)).map (fun z : Int => (z : Rat)) := by
  rw [List.take_add_one, h]
  simp

set_option maxRecDepth 100000 in
set_option maxHeartbeats 4000000 in
theorem rqFromInt_any {N : Nat} {A : Option Addr} {n c : Nat} {L : List Int} {w : World} (h : RdZs w w.heap.size N A n c L) (hn : n ≤ 1048576) (hN : N ≤ 200000000000) (h1N : 1 ≤ N) :
    Calls Tryz.prog 43 #[.slice A n c] w (RetPq (fun i => ((Pz.co L i : Int) : Rat)) w) := by
  have HC := Lib.hid (show ∀ z ∈ L, Zz.zl z ≤ N from fun z hz => by
    obtain ⟨j, hj⟩ := List.getElem?_of_mem hz
    have e := zl_co h j
    rwa [Pz.co_get hj] at e)
  have HLEN := Lib.hid h.len
  obtain ⟨i0, hi, hz0, hz1, hz2⟩ := info_parts infoQ
  go_enter Tryz.func43, Tryz.ntmps43
  go_wp2_with fail
  go_loopw [3, 8] (fun ov iv wr => ∃ (j c' : Nat) (A' : Option Addr) (M : List Rat), ov = .slice A' j c' ∧ iv = .int .i64 (j : Int) ∧ j ≤ n ∧ OwQs wr w.heap.size A' j c' M ∧ Hid (M = (L.take j).map (fun z : Int => (z : Rat))) ∧ Below w.heap.size w wr) (fun _ iv _ => n - (intOf iv).toNat)
  case atStart => exact ⟨0, 0, none, [], rfl, rfl, Nat.zero_le _, OwQs.nil _ _, Lib.hid rfl, Below.refl _ _⟩
  case round =>
    obtain ⟨j, c', A', M, rfl, rfl, hj, ho, hM, hB⟩ := hrel
    by_cases hjn : j = n
    · subst hjn
      have HM := Lib.hid (show M = L.map (fun z : Int => (z : Rat)) by rw [hM.out, List.take_of_length_le (by rw [HLEN.out]; exact Nat.le_refl _)])
      have HSM := Lib.hid (show ∀ y ∈ M, Qs N y by
        rw [HM.out]
        intro y hy
        obtain ⟨z, hz, rfl⟩ := List.mem_map.1 hy
        exact Qs.int (HC.out z hz) h1N)
      have hrd := ho.p.rd HSM.out
      go_wp2_with fail
      refine (rqnorm_own hrd (by omega) (by omega)).mono ?_
      rintro _ W4 ⟨A4, n4, c4, M4, rfl, ho4, hM4, hb4⟩
      go_wp2
      go_ret
      refine ⟨_, _, _, M4, rfl, ho4.base hB.size, Lib.hid (hM4.out.congr fun i => ?_), hB.trans (hb4.mono hB.size)⟩
      rw [HM.out]
      rcases Nat.lt_or_ge i L.length with h1 | h1
      · rw [Pq.co_get (by rw [List.getElem?_map, Pz.get_co h1]; rfl)]
      · rw [Pq.co_ge (by rw [List.length_map]; exact h1), Pz.co_ge h1]; rfl
    · have hjl : j < n := by omega
      clear hjn
      have hjli : (j : Int) < (n : Int) := by omega
      obtain ⟨ad, s1, A1, n1, c1, z, rfl, hbk, hx0, hx1, hrz, hn1, hz⟩ := zs_at h hjl
      obtain ⟨hy0, hy1⟩ := zs_cells hB hbk hx0 hx1
      obtain ⟨W2, HW2⟩ : ∃ W, W = wr.alloc (.cells #[.bool s1, .slice A1 n1 c1] 28) := ⟨_, rfl⟩
      have hb2 : Below wr.heap.size wr W2 := by rw [HW2]; exact (Below.refl _ _).alloc (Nat.le_refl _) _
      have hB2 := hB.trans (hb2.mono hB.size)
      have HO := Lib.hid (ho.next hb2)
      have HRD := Lib.hid (hrz.next hB2)
      have HB2 := Lib.hid hB2
      have HNN := Lib.hid hn1
      have HW2 := Lib.hid HW2
      clear ho hB hb2 hB2 hrz hx0 hx1
      go_wp2_with fail
      rw [← HW2.out]
      clear HW2 hy0 hy1
      clear HW2
      refine (rQInt_any HRD.out (by have := HNN.out; omega)).mono ?_
      rintro _ W3 ⟨s3, A3, n3, c3, s4, A4, n4, c4, y, rfl, ho3, hy, hb3⟩
      have hB3 := HB2.out.trans (hb3.mono HB2.out.size)
      obtain ⟨E, hE, hEl, hEn⟩ := HO.out.next hb3
      have HO4 := Lib.hid (ho3.base (b' := w.heap.size) HB2.out.size)
      have HE := Lib.hid hE
      have HEN := Lib.hid (And.intro hEl hEn)
      have HM2 := Lib.hid (show M ++ [y] = (L.take (j + 1)).map (fun z : Int => (z : Rat)) by rw [hM.out, hy.out]; exact mapz_snoc hz.out)
      have HB4 := Lib.hid hB3
      clear hE hEl hEn hb3 ho3 hB3 hy HO hM
      go_wp2_with (at_builtin; refine wpList_append_own _ rfl _ _ 38 rfl w.heap.size 56 i0 (.agg #[.bool false, .slice none 0 0, .bool false, .slice none 0 0]) 4 64 Tryz.underlying38 hi hz0 hz1 hz2 rfl (by decide) _ _ _ rfl (HE.out.alloc _) ⟨W3.heap.size, 0, none⟩ 1 1 [.bool s3, .slice A3 n3 c3, .bool s4, .slice A4 n4 c4] rfl rfl (qcell_new _ _ _ _ _ _) (by simp [Value.oneCell']) (by unfold maxLen; omega) (by omega) (by have := HB4.out.size; simp at this ⊢; omega) ?_; intro v' w1 hown' hgrow _)
      have hmore := qs_more (e := ((s3, A3, n3, c3), (s4, A4, n4, c4))) (x := y) HO4.out rfl (HE.out.alloc _) HEN.out.1 HEN.out.2 hown' hgrow
      have HB5 := Lib.hid ((HB4.out.alloc HB4.out.size (.cells #[.bool s3, .slice A3 n3 c3, .bool s4, .slice A4 n4 c4] 56)).grown hgrow (by have := HB4.out.size; simp at this ⊢; omega) (own_block HE.out))
      obtain ⟨A5, c5, rfl, ho5⟩ := hmore
      clear hown' hgrow HE HEN HO4
      go_wp2
      go_roundw
      case rel => exact ⟨j + 1, c5, A5, M ++ [y], rfl, by go_num, by omega, ho5, HM2, HB5.out⟩
      case measure => simp [intOf]; omega

set_option maxHeartbeats 400000 in
theorem rqDegree_any {N : Nat} {A : Option Addr} {n c : Nat} {L : List (Int × Int)} {w : World} (h : RdQs w w.heap.size N A n c L) (hd : ∀ p ∈ L, p.2 ≠ 0) (hn : n ≤ 1048576) (hN : N ≤ 1000000000000) :
    Calls Tryz.prog 34 #[.slice A n c] w (RetK (((nq L).length : Int) - 1) w) := by
  have HLEN := Lib.hid h.len
  go_enter Tryz.func34, Tryz.ntmps34
  go_wp2_with fail
  refine (rqnorm_any h hd hn hN).mono ?_
  rintro _ W2 ⟨A2, n2, c2, M2, rfl, ho2, hM2, hb2⟩
  have HM := Lib.hid (show M2 = nq L from hM2.out.nrm)
  have hl := ho2.len
  have hn2 : n2 ≤ 1048576 := by rw [← hl, HM.out]; exact Nat.le_trans (nq_len L) (by rw [HLEN.out]; exact hn)
  have HL := Lib.hid (show ((nq L).length : Int) - 1 = (n2 : Int) - 1 by rw [← HM.out, hl])
  have hw : IntKind.i64.wrap ((n2 : Int) - 1) = (n2 : Int) - 1 := by rw [IntWalk.i64_in _ (by omega)]
  clear hl
  go_wp2
  go_ret
  exact ⟨_, rfl, Lib.hid HL.out.symm, hb2⟩

set_option maxRecDepth 100000 in
set_option maxHeartbeats 2000000 in
theorem rqLead_any {N : Nat} {A : Option Addr} {n c : Nat} {L : List (Int × Int)} {w : World} (h : RdQs w w.heap.size N A n c L) (hd : ∀ p ∈ L, p.2 ≠ 0) (hn : n ≤ 1048576) (hN : N ≤ 1000000000000) (h0 : 0 < (nq L).length) :
    Calls Tryz.prog 113 #[.slice A n c] w (RetV4 (Pq.co (L.map qval) ((nq L).length - 1)) w) := by
  obtain ⟨W1, HW1⟩ : ∃ W, W = w.alloc (.cells #[.bool false, .slice none 0 0, .bool false, .slice none 0 0] 56) := ⟨_, rfl⟩
  have hR : QC W1 w.heap.size false none 0 0 false none 0 0 := by rw [HW1]; exact QC.new w false none 0 0 false none 0 0
  have hB : Below w.heap.size w W1 := by rw [HW1]; exact (Below.refl _ _).alloc (Nat.le_refl _) _
  have HLEN := Lib.hid h.len
  have HW1 := Lib.hid HW1
  have h1 := h.next hB
  go_enter Tryz.func113, Tryz.ntmps113
  go_wp2_with fail
  rw [← HW1.out]
  clear HW1
  clear HW1
  refine (rqnorm_any h1 hd hn hN).mono ?_
  rintro _ W2 ⟨A2, n2, c2, M2, rfl, ho2, hM2, hb2⟩
  have HM := Lib.hid (show M2 = nq L from hM2.out.nrm)
  have hl := ho2.len
  obtain ⟨m, hm⟩ : ∃ m, n2 = m + 1 := ⟨n2 - 1, by rw [← hl, HM.out]; omega⟩
  have hm1 : m ≤ 1048576 := by
    have : n2 ≤ 1048576 := by rw [← hl, HM.out]; exact Nat.le_trans (nq_len L) (by rw [HLEN.out]; exact hn)
    omega
  have HLM := Lib.hid (show (nq L).length - 1 = m by rw [← HM.out, hl, hm]; rfl)
  have hw : IntKind.i64.wrap (((m + 1 : Nat) : Int) - 1) = (m : Int) := by rw [IntWalk.i64_in _ (by omega)]; omega
  have hidx : ((m + 1 : Nat) : Int) - 1 = (m : Int) := by omega
  have hmi : (m : Int) < ((m + 1 : Nat) : Int) := by omega
  clear hl
  subst hm
  obtain ⟨ad, s3, A3, n3, c3, s4, A4, n4, c4, x, rfl, hbk, hx0, hx1, hx2, hx3, ho3, hx⟩ := op_at ho2 (show m < m + 1 by omega)
  have HX := Lib.hid (show x = Pq.co (L.map qval) ((nq L).length - 1) by
    rw [HLM.out, ← co_nq, ← HM.out, Pq.co_get hx.out])
  have hR2 := hR.next hb2
  have hB2 := hB.trans (hb2.mono hB.size)
  have r0 := hR2.c0
  have r1 := hR2.c1
  have r2 := hR2.c2
  have r3 := hR2.c3
  have f0 := hR2.fz 0
  have f1 := hR2.fz 1
  have f2 := hR2.fz 2
  have f3 := hR2.fz 3
  have HR9 := Lib.hid (hR2.store s3 A3 n3 c3 s4 A4 n4 c4)
  have HO9 := Lib.hid ((ho3.base (b' := w.heap.size) hB.size).keep (keep_putQ hR2 s3 A3 n3 c3 s4 A4 n4 c4))
  have HB9 := Lib.hid (below_putQ hB2 (Nat.le_refl w.heap.size) s3 A3 n3 c3 s4 A4 n4 c4)
  unfold putQ at HR9 HB9 HO9
  clear hR hR2 hB hB2 hb2 h1 h ho2 ho3
  go_wp2_with fail
  generalize (((W2.setCell ⟨w.heap.size, 0, none⟩ (.bool s3)).setCell ⟨w.heap.size, 1, none⟩ (.slice A3 n3 c3)).setCell ⟨w.heap.size, 2, none⟩ (.bool s4)).setCell ⟨w.heap.size, 3, none⟩ (.slice A4 n4 c4) = W9 at *
  have z0 := HR9.out.c0
  have z1 := HR9.out.c1
  have z2 := HR9.out.c2
  have z3 := HR9.out.c3
  exact bodyPost_ret (by simp [results, Tryz.results113, go_sem, z0, z1, z2, z3]) rfl ⟨_, _, _, _, _, _, _, _, x, rfl, HO9.out, HX, HB9.out⟩

set_option maxRecDepth 100000 in
set_option maxHeartbeats 2000000 in
theorem rQInv_any {s s' : Bool} {A A' : Option Addr} {n c n' c' : Nat} {x : Rat} {w : World} (h : RdZ w w.heap.size s A n c x.num) (h' : RdZ w w.heap.size s' A' n' c' (x.den : Int)) (hn : n ≤ 1000000000000) (hn' : n' ≤ 1000000000000) (h0 : x ≠ 0) :
    Calls Tryz.prog 131 #[.agg #[.bool s, .slice A n c, .bool s', .slice A' n' c']] w (RetV4 x⁻¹ w) := by
  obtain ⟨W1, HW1⟩ : ∃ W, W = (w.alloc (.cells #[.bool s, .slice A n c, .bool s', .slice A' n' c'] 56)).alloc (.cells #[.bool false, .slice none 0 0, .bool false, .slice none 0 0] 56) := ⟨_, rfl⟩
  obtain ⟨hX, hR, hB⟩ := q_box1 w s A n c s' A' n' c' W1 HW1
  have a0 := hX.c0
  have a1 := hX.c1
  have a2 := hX.c2
  have a3 := hX.c3
  rw [HW1] at a0 a1 a2 a3
  have h1 := h.next hB
  have h2 := h'.next hB
  have HW1 := Lib.hid HW1
  have HIV := Lib.hid (show x⁻¹ = Rat.divInt x.den x.num by conv => lhs; rw [← Rat.num_divInt_den x, Rat.inv_divInt])
  go_enter Tryz.func131, Tryz.ntmps131
  go_wp2_with fail
  rw [← HW1.out]
  clear HW1 a0 a1 a2 a3
  clear HW1
  refine (rQMake_any h2 h1 hn' hn (fun e => h0 (Rat.num_eq_zero.1 e))).mono ?_
  rintro _ W2 ⟨s2, A2, n2, c2, s3, A3, n3, c3, y, rfl, ho, hy, hb2⟩
  have hR2 := hR.next hb2
  have hB2 := hB.trans (hb2.mono hB.size)
  have r0 := hR2.c0
  have r1 := hR2.c1
  have r2 := hR2.c2
  have r3 := hR2.c3
  have f0 := hR2.fz 0
  have f1 := hR2.fz 1
  have f2 := hR2.fz 2
  have f3 := hR2.fz 3
  have HR9 := Lib.hid (hR2.store s2 A2 n2 c2 s3 A3 n3 c3)
  have HO9 := Lib.hid ((ho.base (b' := w.heap.size) hB.size).keep (keep_putQ hR2 s2 A2 n2 c2 s3 A3 n3 c3))
  have HB9 := Lib.hid (below_putQ hB2 (show w.heap.size ≤ w.heap.size + 1 by omega) s2 A2 n2 c2 s3 A3 n3 c3)
  unfold putQ at HR9 HB9 HO9
  clear hX hR hR2 hB hB2 hb2 h1 h2 h h' ho
  go_wp2_with fail
  generalize (((W2.setCell ⟨w.heap.size + 1, 0, none⟩ (.bool s2)).setCell ⟨w.heap.size + 1, 1, none⟩ (.slice A2 n2 c2)).setCell ⟨w.heap.size + 1, 2, none⟩ (.bool s3)).setCell ⟨w.heap.size + 1, 3, none⟩ (.slice A3 n3 c3) = W9 at *
  have z0 := HR9.out.c0
  have z1 := HR9.out.c1
  have z2 := HR9.out.c2
  have z3 := HR9.out.c3
  exact bodyPost_ret (by simp [results, Tryz.results131, go_sem, z0, z1, z2, z3]) rfl ⟨_, _, _, _, _, _, _, _, y, rfl, HO9.out, Lib.hid (by rw [hy.out, HIV.out]), HB9.out⟩

set_option maxRecDepth 100000 in
set_option maxHeartbeats 2000000 in
theorem rqMonic_any {N : Nat} {A : Option Addr} {n c : Nat} {L : List (Int × Int)} {w : World} (h : RdQs w w.heap.size N A n c L) (hd : ∀ p ∈ L, p.2 ≠ 0) (hn : n ≤ 1048576) (hN : N ≤ 200000000000) (h1N : 1 ≤ N) :
    Calls Tryz.prog 45 #[.slice A n c] w (RetPq (fun i => Pq.co (L.map qval) i * (Pq.co (L.map qval) ((nq L).length - 1))⁻¹) w) := by
  have H := Lib.hid h
  have HD := Lib.hid hd
  have HSZ := Lib.hid (h.sz hd h1N)
  clear hd
  go_enter Tryz.func45, Tryz.ntmps45
  go_wp2_with fail
  refine (rqDegree_any h HD.out hn (by omega)).mono ?_
  rintro _ W2 ⟨v, rfl, hv, hb2⟩
  by_cases h0 : (nq L).length = 0
  · have hv1 : v < 0 := by rw [hv.out, h0]; decide
    have HZ := Lib.hid (show ∀ i, Pq.co (L.map qval) i = 0 from fun i => by rw [← co_nq, List.eq_nil_of_length_eq_zero h0, Pq.co_nil])
    have HB2 := Lib.hid hb2
    clear h0 hb2
    go_wp2
    go_ret
    refine ⟨_, _, _, [], rfl, ⟨[], rfl, ⟨rfl, fun j e z he _ => by simp at he⟩, Nat.le_refl _, by unfold maxLen; omega, .inl rfl⟩, Lib.hid ⟨Pq.nz_nil, fun i => by show _ = Pq.co (L.map qval) i * _; rw [Pq.co_nil, HZ.out i, Rat.zero_mul]⟩, ?_⟩
    exact HB2.out.alloc HB2.out.size _
  · have hv1 : decide (v < 0) = false := by simp only [decide_eq_false_iff_not]; rw [hv.out]; omega
    have HL0 := Lib.hid (show 0 < (nq L).length by omega)
    have HN0 := Lib.hid (show Pq.co (L.map qval) ((nq L).length - 1) ≠ 0 by
      rw [← co_nq]
      exact Pq.nz_top (Pq.nz_nrm _) HL0.out)
    have h2 := H.out.next hb2
    clear h0
    go_wp2_with fail
    refine (rqLead_any h2 HD.out hn (by omega) HL0.out).mono ?_
    rintro _ W3 ⟨s3, A3, n3, c3, s4, A4, n4, c4, x, rfl, ho3, hx, hb3⟩
    have HXS := Lib.hid (show Qs N x by rw [hx.out]; exact HSZ.out _)
    have hb23 := hb2.trans (hb3.mono hb2.size)
    go_wp2_with fail
    refine (rQInv_any ho3.num.rd ho3.den.rd (by rw [ho3.num.len]; have := HXS.out.1; omega) (by rw [ho3.den.len]; have := HXS.out.2; omega) (by rw [hx.out]; exact HN0.out)).mono ?_
    rintro _ W4 ⟨s5, A5, n5, c5, s6, A6, n6, c6, y, rfl, ho5, hy, hb5⟩
    have HYS := Lib.hid (show Qs N y by rw [hy.out]; exact HXS.out.inv (by rw [hx.out]; exact HN0.out))
    have hb25 := hb23.trans (hb5.mono hb23.size)
    have h4 := H.out.next hb25
    go_wp2_with fail
    refine (rqScale_any h4 ho5.num.rd ho5.den.rd HD.out (by simpa using y.den_nz) hn (by rw [ho5.num.len]; exact HYS.out.1) (by rw [ho5.den.len]; exact HYS.out.2) hN h1N).mono ?_
    rintro _ W5 ⟨A7, n7, c7, M7, rfl, ho7, hM7, hb7⟩
    go_wp2
    go_ret
    exact ⟨_, _, _, M7, rfl, ho7.base hb25.size, Lib.hid (hM7.out.congr fun i => by rw [Rat.num_divInt_den, hy.out, hx.out]), hb25.trans (hb7.mono hb25.size)⟩
end Go.Proofs.YtipbpdiahemmpaaGreat
