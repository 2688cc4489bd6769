/- rat.made at int, of normal fractions; rat.Cmp. -/
import Derived.Test.YtjnklbfhelbjgaaGreatSn22
import Derived.Test.YtjnklbfhelbjgaaGreatSn19
import Derived.Test.YtjnklbfhelbjgaaGreatSn06
import Derived.Test.YtjnklbfhelbjgaaGreatSn16
import Derived.Test.YtjnklbfhelbjgaaGreatSn17
import Derived.Test.YtjnklbfhelbjgaaGreatSn08
import Derived.Deep.RegionLaw
import Derived.Test.YtjnklbfhelbjgaaGreatSn20
import Derived.Test.YtjnklbfhelbjgaaGreatSn14
namespace Go.Proofs.YtjnklbfhelbjgaaGreat
open Go.RowKit Go.IntWalk
attribute [local go_sem ↓] Go.wp_at_zero Go.wp_at_succ
set_option maxRecDepth 100000 in
set_option maxHeartbeats 8000000 in
theorem made_int {f N : Nat} {A : Option Addr} {n c : Nat} {L : List (Int × Int)} {w : World} {Φ : Int → Int → Prop} (h : RdQs w w.heap.size N A n c L) (hn : n ≤ 1048576) (hN : N ≤ 1000000000000) (heg : ∀ args w, (callFunc f args).run Tryz.prog w = .ok (.enter f args) w) (hall : ∀ p ∈ L, p.2 ≠ 0)
  (hdo : ∀ (W : World) (A' : Option Addr) (c' : Nat), Below w.heap.size w W → OwQs W w.heap.size A' n c' (L.map qval) → Calls Tryz.prog f #[.slice A' n c'] W (RetKE Φ W)) :
  Calls Tryz.prog 188 #[.func (.func f) #[] #[], .slice A n c] w (RetKE Φ w) := by
 have HD := Lib.hid hdo
 have HAL := Lib.hid hall
 have HLEN := Lib.hid h.len
 have hmk := fun W : World => make_qroom n (by omega) W
 obtain ⟨i0, hi, hz0, hz1, hz2⟩ := info_parts infoQ
 obtain ⟨W1, HW1⟩ : ∃ W, W = w.alloc (.cells (madeCells #[.bool false, .slice none 0 0, .bool false, .slice none 0 0] (n * 4)) 47) := ⟨_, rfl⟩
 have hb1 : Below w.heap.size w W1 := by rw [HW1]; exact (Below.refl _ _).alloc (Nat.le_refl _) _
 have hO1 : OwQs W1 w.heap.size (some ⟨w.heap.size, 0, none⟩) 0 n [] := by rw [HW1]; exact OwQs.room w n (by unfold maxLen; omega)
 have HW1 := Lib.hid HW1
 clear hdo hall
 go_enter Tryz.func188, Tryz.ntmps188
 go_wp2_with fail
 rw [← HW1.out]
 clear HW1
 clear HW1
 go_loopw [7, 17] (fun ov iv wr => ∃ (j c' : Nat) (A' : Option Addr) (M : List Rat), ov = .slice A' j c' ∧ iv = .int .i64 j ∧ j ≤ n ∧ OwQs wr w.heap.size A' j c' M ∧ Hid (M = (L.take j).map qval) ∧ Below w.heap.size w wr) (fun _ iv _ => n - (intOf iv).toNat)
 case atStart => exact ⟨0, n, _, [], rfl, rfl, Nat.zero_le _, hO1, Lib.hid rfl, hb1⟩
 case round =>
  clear hO1 hb1
  obtain ⟨j, c', A', M, rfl, rfl, hj, ho, hM, hB⟩ := hrel
  by_cases hjn : j = n
  ·subst hjn
   have HO := Lib.hid (show OwQs wr w.heap.size A' j c' (L.map qval) by rw [← List.take_of_length_le (l := L) (by rw [HLEN.out]; exact Nat.le_refl _), ← hM.out]; exact ho)
   have HBW := Lib.hid hB
   clear ho hB hM
   go_wp2_with fail
   refine (HD.out wr A' c' HBW.out HO.out).mono ?_
   rintro _ W5 ⟨v, kk, rfl, hy, hb5⟩
   go_wp2
   exact bodyPost_ret (by simp [results, Tryz.results188, go_sem]) rfl ⟨v, kk, rfl, hy, HBW.out.trans (hb5.mono HBW.out.size)⟩
  ·have hjl : j < n := by omega
   clear hjn
   have hjli : (j : Int) < (n : Int) := by omega
   obtain ⟨ad, s1, A1, n1, c1, s2, A2, n2, c2, z1, d1, rfl, hbk, hx0, hx1, hx2, hx3, hr1, hr2, hn1, hn2, hp⟩ := qs_at h hjl
   obtain ⟨hy0, hy1, hy2, hy3⟩ := qs_cells hB hbk hx0 hx1 hx2 hx3
   obtain ⟨W2, HW2⟩ : ∃ W, W = wr.alloc (.cells #[.bool s1, .slice A1 n1 c1, .bool s2, .slice A2 n2 c2] 47) := ⟨_, rfl⟩
   have hb2 : Below wr.heap.size wr W2 := by rw [HW2]; exact (Below.refl _ _).alloc (Nat.le_refl _) _
   have hB2 := hB.trans (hb2.mono hB.size)
   have HO := Lib.hid (ho.next hb2)
   have HRD := Lib.hid (And.intro (hr1.next hB2) (hr2.next hB2))
   have HB2 := Lib.hid hB2
   have HNN := Lib.hid (And.intro (Nat.le_trans hn1 hN) (Nat.le_trans hn2 hN))
   have HD1 := Lib.hid (show d1 ≠ 0 from HAL.out _ (List.mem_of_getElem? hp.out))
   have HW2 := Lib.hid HW2
   clear ho hB hb2 hB2 hr1 hr2 hx0 hx1 hx2 hx3
   go_wp2_with fail
   rw [← HW2.out]
   clear HW2 hy0 hy1 hy2 hy3
   clear HW2
   refine (qnorm_any HRD.out.1 HRD.out.2 HNN.out.1 HNN.out.2 HD1.out).mono ?_
   rintro _ W3 ⟨s3, A3, n3, c3, s4, A4, n4, c4, y, rfl, ho3, hy, hb3⟩
   have hB3 := HB2.out.trans (hb3.mono HB2.out.size)
   obtain ⟨W4, HW4⟩ : ∃ W, W = W3.alloc (.cells #[.bool s3, .slice A3 n3 c3, .bool s4, .slice A4 n4 c4] 47) := ⟨_, rfl⟩
   have hb4 : Below W3.heap.size W3 W4 := by rw [HW4]; exact (Below.refl _ _).alloc (Nat.le_refl _) _
   have hB4 := hB3.trans (hb4.mono hB3.size)
   obtain ⟨E, hE, hEl, hEn⟩ := (HO.out.next hb3).next hb4
   have HO4 := Lib.hid ((ho3.base HB2.out.size).next hb4)
   rw [HW4] at hE hB4 hEn
   rw [HW4] at HO4
   have HE := Lib.hid hE
   have HEN := Lib.hid (And.intro hEl hEn)
   have HM2 := Lib.hid (show M ++ [y] = (L.take (j + 1)).map qval by rw [hM.out, hy.out]; exact mapq_snoc hp.out)
   have HB4 := Lib.hid hB4
   clear hE hEl hEn hb3 ho3 hb4 hB3 hB4 hy HO hM
   clear HW4
   go_wp2_with (at_builtin; refine wpList_append_own _ rfl _ _ 72 rfl w.heap.size 47 i0 (.agg #[.bool false, .slice none 0 0, .bool false, .slice none 0 0]) 4 64 Tryz.underlying72 hi hz0 hz1 hz2 rfl (by decide) _ _ _ rfl (HE.out.alloc _) ⟨W3.heap.size + 1, 0, none⟩ 1 1 [.bool s3, .slice A3 n3 c3, .bool s4, .slice A4 n4 c4] rfl rfl (by simpa using qcell_new (W3.alloc (.cells #[.bool s3, .slice A3 n3 c3, .bool s4, .slice A4 n4 c4] 47)) (.bool s3) (.slice A3 n3 c3) (.bool s4) (.slice A4 n4 c4) 47) (by simp [Value.oneCell']) (by unfold maxLen; omega) (by omega) (by have := HB4.out.size; simp at this ⊢; omega) ?_; intro v' w1 hown' hgrow _)
   have hmore := qs_more (e := ((s3, A3, n3, c3), (s4, A4, n4, c4))) (x := y) HO4.out rfl (HE.out.alloc _) HEN.out.1 HEN.out.2 hown' hgrow
   have HB5 := Lib.hid ((HB4.out.alloc HB4.out.size (.cells #[.bool s3, .slice A3 n3 c3, .bool s4, .slice A4 n4 c4] 47)).grown hgrow (by have := HB4.out.size; simp at this ⊢; omega) (own_block HE.out))
   obtain ⟨A5, c5, rfl, ho5⟩ := hmore
   clear hown' hgrow HE HEN HO4
   go_wp2
   go_roundw
   case rel => exact ⟨j + 1, c5, A5, M ++ [y], rfl, by go_num, by omega, ho5, HM2, HB5.out⟩
   case measure => simp [intOf]; omega
end Go.Proofs.YtjnklbfhelbjgaaGreat

/- qpoly.norms at bool. -/
namespace Go.Proofs.YtjnklbfhelbjgaaGreat
open Go.RowKit Go.IntWalk
attribute [local go_sem ↓] Go.wp_at_zero Go.wp_at_succ
def RetBE (Φ : Bool → Int → Prop) (w : World) (e : Ending) (w' : World) : Prop :=
 ∃ (v : Bool) (kk : Int), e = .returned (.tuple #[.bool v, .int .i64 kk]) ∧ Hid (Φ v kk) ∧ Below w.heap.size w w'
set_option maxRecDepth 100000 in
set_option maxHeartbeats 8000000 in
theorem norms_bool {f N K : Nat} {A : Option Addr} {n c : Nat} {LL : List (List (Int × Int))} {w : World} {Φ : Bool → Int → Prop} (h : RdPs w w.heap.size N K A n c LL) (hn : n ≤ 1048576) (hK : K ≤ 1048576) (hN : N ≤ 1000000000000) (h1N : 1 ≤ N) (heg : ∀ args w, (callFunc f args).run Tryz.prog w = .ok (.enter f args) w)
  (hdo : (∀ L ∈ LL, ∀ p ∈ L, p.2 ≠ 0) → ∀ (W : World) (A' : Option Addr) (c' : Nat), Below w.heap.size w W → OwPs W w.heap.size A' n c' (LL.map nq) → Calls Tryz.prog f #[.slice A' n c'] W (RetBE Φ W)) :
  Calls Tryz.prog 147 #[.slice A n c, .func (.func f) #[] #[]] w fun e w' => ((∀ L ∈ LL, ∀ p ∈ L, p.2 ≠ 0) ∧ RetBE Φ w e w') ∨ ((∃ L ∈ LL, ∃ p ∈ L, p.2 = 0) ∧ e = .returned (.tuple #[.bool false, .int .i64 6]) ∧ Below w.heap.size w w') := by
 have HD := Lib.hid hdo
 have HLEN := Lib.hid h.len
 obtain ⟨i0, hi, hz0, hz1, hz2⟩ := info_parts infoPoly
 clear hdo
 go_enter Tryz.func147, Tryz.ntmps147
 go_wp2_with fail
 go_loopw [7, 14] (fun ov iv wr => ∃ (j c' : Nat) (A' : Option Addr) (M : List (List Rat)), ov = .slice A' j c' ∧ iv = .int .i64 j ∧ j ≤ n ∧ OwPs wr w.heap.size A' j c' M ∧ Hid (M = (LL.take j).map nq) ∧ Hid (∀ (i : Nat) (L : List (Int × Int)), i < j → LL[i]? = some L → ∀ p ∈ L, p.2 ≠ 0) ∧ Below w.heap.size w wr) (fun _ iv _ => n - (intOf iv).toNat)
 case atStart => exact ⟨0, 0, none, [], rfl, rfl, Nat.zero_le _, OwPs.nil _ _, Lib.hid rfl, Lib.hid fun i p hi => absurd hi (Nat.not_lt_zero _), Below.refl _ _⟩
 case round =>
  obtain ⟨j, c', A', M, rfl, rfl, hj, ho, hM, hne, hB⟩ := hrel
  by_cases hjn : j = n
  ·subst hjn
   have HALL := Lib.hid (show ∀ L ∈ LL, ∀ p ∈ L, p.2 ≠ 0 from fun L hp => by
    obtain ⟨i, hi, e⟩ := List.mem_iff_getElem.1 hp
    exact hne.out i L (by rw [← HLEN.out]; exact hi) (by rw [List.getElem?_eq_getElem hi, e]))
   have HO := Lib.hid (show OwPs wr w.heap.size A' j c' (LL.map nq) by rw [← List.take_of_length_le (l := LL) (by rw [HLEN.out]; exact Nat.le_refl _), ← hM.out]; exact ho)
   have HB := Lib.hid hB
   clear ho hB hM hne
   go_wp2_with fail
   refine (HD.out HALL.out wr A' c' HB.out HO.out).mono ?_
   rintro _ W5 ⟨v, kk, rfl, hy, hb5⟩
   go_wp2
   exact bodyPost_ret (by simp [results, Tryz.results147, go_sem]) rfl (.inl ⟨HALL.out, v, kk, rfl, hy, HB.out.trans (hb5.mono HB.out.size)⟩)
  ·have hjl : j < n := by omega
   clear hjn
   have hjli : (j : Int) < (n : Int) := by omega
   obtain ⟨ad, A1, n1, c1, L, rfl, hbk, hx, hr, hn1, hp⟩ := ps_at h hjl
   have hy := (hB.cell (p := ad.add j) (by rw [add_blk]; exact hbk)).trans hx
   have HR := Lib.hid (hr.next hB)
   have HO := Lib.hid ho
   clear hx hr ho
   go_wp2_with fail
   clear hy
   refine (qpnorm_any HR.out (by omega) hN h1N).mono ?_
   rintro _ W3 (⟨hall, A4, n4, c4, M4, rfl, ho4, hM4, hb3⟩ | ⟨hex, rfl, hb3⟩)
   ·have HALL := Lib.hid hall
    have hB3 := hB.trans (hb3.mono hB.size)
    obtain ⟨E, hE, hEl, hEn⟩ := HO.out.next hb3
    have HO4 := Lib.hid (ho4.base hB.size)
    have HE := Lib.hid hE
    have HEN := Lib.hid (And.intro hEl (hEn.next ((Below.refl _ _).alloc (Nat.le_refl _) (.cells #[.slice A4 n4 c4] 73))))
    have HM2 := Lib.hid (show M ++ [M4] = (LL.take (j + 1)).map nq by rw [hM.out, hM4.out]; exact mapn_snoc hp.out)
    have HNE2 := Lib.hid (show ∀ (i : Nat) (L : List (Int × Int)), i < j + 1 → LL[i]? = some L → ∀ p ∈ L, p.2 ≠ 0 from fun i L' hi hq => by
     rcases Nat.lt_or_ge i j with h1 | h1
     ·exact hne.out i L' h1 hq
     ·rw [show i = j by omega, hp.out] at hq
      injection hq with hq
      rw [← hq]
      exact HALL.out)
    have HB3 := Lib.hid hB3
    clear hE hEl hEn hb3 ho4 hB3 hB hM4 HO hne hM hall
    go_wp2_with (at_builtin; refine wpList_append_own _ rfl _ _ 30 rfl w.heap.size 73 i0 (.slice none 0 0) 1 24 Tryz.underlying30 hi hz0 hz1 hz2 rfl (by decide) _ _ _ rfl (HE.out.alloc _) ⟨W3.heap.size, 0, none⟩ 1 1 [.slice A4 n4 c4] rfl rfl (pcell_new _ _ _) (by simp [Value.oneCell']) (by unfold maxLen; omega) (by omega) (by have := HB3.out.size; simp; omega) ?_; intro v' w1 hown' hgrow _)
    have hmore := ps_more (e := (A4, n4, c4)) (L := M4) HO4.out rfl (HE.out.alloc _) HEN.out.1 HEN.out.2 hown' hgrow
    have HB5 := Lib.hid ((HB3.out.alloc HB3.out.size (.cells #[.slice A4 n4 c4] 73)).grown hgrow (by have := HB3.out.size; simp; omega) (own_block HE.out))
    obtain ⟨A5, c5, rfl, ho5⟩ := hmore
    clear hown' hgrow HE HEN HO4
    go_wp2
    go_roundw
    case rel => exact ⟨j + 1, c5, A5, M ++ [M4], rfl, by go_num, by omega, ho5, HM2, HNE2, HB5.out⟩
    case measure => simp [intOf]; omega
   ·have HEX := Lib.hid (show ∃ L ∈ LL, ∃ p ∈ L, p.2 = 0 from ⟨L, List.mem_of_getElem? hp.out, hex⟩)
    go_wp2
    exact bodyPost_ret (by simp [results, Tryz.results147, go_sem]) rfl (.inr ⟨HEX.out, rfl, hB.trans (hb3.mono hB.size)⟩)
end Go.Proofs.YtjnklbfhelbjgaaGreat

/- qpoly: the same?; Equal, Degree as exported. -/
namespace Go.Proofs.YtjnklbfhelbjgaaGreat
open Go.RowKit Go.IntWalk
attribute [local go_sem ↓] Go.wp_at_zero Go.wp_at_succ
def RetOb (ok : Prop) (P : Prop) (w : World) (e : Ending) (w' : World) : Prop :=
 ∃ (v : Bool) (kk : Int), e = .returned (.tuple #[.bool v, .int .i64 kk]) ∧ Hid ((ok ∧ (v = true ↔ P) ∧ kk = 0) ∨ (¬ok ∧ v = false ∧ kk = 6)) ∧ Below w.heap.size w w'
end Go.Proofs.YtjnklbfhelbjgaaGreat

/- qpoly: does one divide the other?; Divides as exported. -/
namespace Go.Proofs.YtjnklbfhelbjgaaGreat
open Go.RowKit Go.IntWalk
attribute [local go_sem ↓] Go.wp_at_zero Go.wp_at_succ
def Dvd (a b : List Rat) : Prop := (a = [] ∧ b = []) ∨ (a ≠ [] ∧ ∀ Q R, Pq.IsD b a Q R → R = [])
theorem dvd_nil {b : List Rat} : Dvd [] b ↔ b = [] := by
 constructor
 ·rintro (h | h)
  ·exact h.2
  ·exact absurd rfl h.1
 ·intro h; exact .inl ⟨rfl, h⟩
theorem dvd_of {a b Q R : List Rat} (ha : a ≠ []) (hz : Pq.Nz a) (h : Pq.IsD b a Q R) : Dvd a b ↔ R = [] := by
 constructor
 ·rintro (h1 | h1)
  ·exact absurd h1.1 ha
  ·exact h1.2 Q R h
 ·intro e
  refine .inr ⟨ha, fun Q' R' h' => ?_⟩
  rw [(Pq.IsD.unique hz h' h).2, e]
set_option maxRecDepth 100000 in
set_option maxHeartbeats 4000000 in
theorem qdivides_any {b N : Nat} {A A' : Option Addr} {n c n' c' : Nat} {La Lb : List Rat} {w : World} (ha : RdQs w w.heap.size N A n c (La.map pr)) (hb : OwQp w b A' n' c' Lb) (hza : Pq.Nz La) (hzb : Pq.Nz Lb) (hw : b ≤ w.heap.size) (hS : 0 < La.length → ∀ j, SzQ N (Pq.drest La j Lb)) (hn : n' ≤ 1048576) (hN : N ≤ 60000000000) (h1N : 1 ≤ N) :
  Calls Tryz.prog 149 #[.slice A n c, .slice A' n' c'] w (RetBo (Dvd La Lb) w) := by
 have hla : La.length = n := ha.lenp
 have hlb : Lb.length = n' := hb.len
 go_enter Tryz.func149, Tryz.ntmps149
 by_cases h0 : n = 0
 ·have HL := Lib.hid (show La = [] from List.eq_nil_of_length_eq_zero (by omega))
  have HLB := Lib.hid hlb
  subst h0
  clear ha hb hza hzb hS hla hlb
  by_cases h1 : n' = 0
  ·have HB := Lib.hid (show Lb = [] from List.eq_nil_of_length_eq_zero (by rw [HLB.out]; exact h1))
   subst h1
   go_wp2
   go_ret
   exact ⟨true, rfl, Lib.hid ⟨fun _ => by rw [HL.out, dvd_nil]; exact HB.out, fun _ => rfl⟩, Below.refl _ _⟩
  ·have hbb : ((n' : Int) == 0) = false := by simp; omega
   have HB := Lib.hid (show Lb ≠ [] from fun e => h1 (by rw [← HLB.out, e]; rfl))
   clear h1
   go_wp2
   go_ret
   exact ⟨false, rfl, Lib.hid ⟨fun e => by simp at e, fun e => absurd (dvd_nil.1 (by rw [← HL.out]; exact e)) HB.out⟩, Below.refl _ _⟩
 ·have hbb : ((n : Int) == 0) = false := by simp; omega
  have HL := Lib.hid (show La ≠ [] from fun e => h0 (by rw [← hla, e]; rfl))
  have h0l : 0 < La.length := by omega
  have HZ := Lib.hid hza
  clear h0
  go_wp2_with fail
  refine (qdiv_all hb ha hzb hza h0l hw (hS h0l) hn hN h1N).mono ?_
  rintro _ W2 ⟨A2, n2, c2, Q, A3, n3, c3, R, rfl, ho2, ho3, hD, hb2⟩
  have HD := Lib.hid (dvd_of HL.out HZ.out hD.out)
  have HR := Lib.hid ho3.len
  clear ho2 ho3 hS ha hb hza hzb hla hlb
  by_cases h3 : n3 = 0
  ·have HN3 := Lib.hid (show R = [] from List.eq_nil_of_length_eq_zero (by rw [HR.out]; exact h3))
   subst h3
   go_wp2
   go_ret
   exact ⟨true, rfl, Lib.hid ⟨fun _ => HD.out.2 HN3.out, fun _ => rfl⟩, hb2⟩
  ·have hb3 : ((n3 : Int) == 0) = false := by simp; omega
   have HN3 := Lib.hid (show R ≠ [] from fun e => h3 (by rw [← HR.out, e]; rfl))
   clear h3
   go_wp2
   go_ret
   exact ⟨false, rfl, Lib.hid ⟨fun e => by simp at e, fun e => absurd (HD.out.1 e) HN3.out⟩, hb2⟩
set_option maxRecDepth 100000 in
set_option maxHeartbeats 4000000 in
theorem qDividesIn_any {b N c : Nat} {A : Option Addr} {P Q : List Rat} {w : World} (h : OwPs w b A 2 c [P, Q]) (hP : ∀ x ∈ P, Qs N x) (hzp : Pq.Nz P) (hzq : Pq.Nz Q) (hw : b ≤ w.heap.size) (hS : 0 < P.length → ∀ j, SzQ N (Pq.drest P j Q)) (hq : Q.length ≤ 1048576) (hN : N ≤ 60000000000) (h1N : 1 ≤ N) :
  Calls Tryz.prog 148 #[.slice A 2 c] w (RetBE (fun v kk => (v = true ↔ Dvd P Q) ∧ kk = 0) w) := by
 obtain ⟨g, A1, n1, c1, L1, rfl, hbk, hx, ho1, hL1⟩ := opl_at h (show 0 < 2 by decide)
 obtain ⟨g', A2, n2, c2, L2, e, _, hy, ho2, hL2⟩ := opl_at h (show 1 < 2 by decide)
 injection e with e
 injection e with e
 subst e
 obtain rfl : P = L1 := by simpa using hL1.out
 obtain rfl : Q = L2 := by simpa using hL2.out
 have hn2 : n2 ≤ 1048576 := by rw [← ho2.len]; exact hq
 have HX := Lib.hid (show ∀ W, Below w.heap.size w W → (W.cell? ⟨g, 0, none⟩ = some (.slice A1 n1 c1) ∧ W.cell? ⟨g, 1, none⟩ = some (.slice A2 n2 c2)) ∧ RdQs W W.heap.size N A1 n1 c1 (P.map pr) ∧ OwQp W b A2 n2 c2 Q ∧ b ≤ W.heap.size from fun W hb => ⟨⟨(hb.cell (p := ⟨g, 0, none⟩) hbk).trans hx, (hb.cell (p := ⟨g, 1, none⟩) hbk).trans hy⟩, (ho1.next hb).rd hP, ho2.next hb, Nat.le_trans hw hb.size⟩)
 have HBD := Lib.hid (Below.refl w.heap.size w).drew
 have HCX := Lib.hid (show ∀ W, Below w.heap.size w W → _ from fun W hb => (HX.out W hb).1)
 clear h hL1 hL2 ho1 ho2 hP
 go_enter Tryz.func148, Tryz.ntmps148
 go_wp2_with fail
 go_region_held3 (fun w' => w'.cell? ⟨g, 0, none⟩ = some (.slice A1 n1 c1) ∧ w'.cell? ⟨g, 1, none⟩ = some (.slice A2 n2 c2))
  (first | exact HCX.out _ HB3.out | exact HCX.out _ HBD.out)
  (first
   | (go_at_call 149; refine (qdivides_any (HX.out _ HBD.out).2.1 (HX.out _ HBD.out).2.2.1 hzp hzq (HX.out _ HBD.out).2.2.2 hS hn2 hN h1N).mono ?_; rintro _ W3 ⟨v, rfl, hv, hb3⟩; have HB3 := Lib.hid (HBD.out.trans (hb3.mono HBD.out.size))))
 all_goals
  go_wp2
  go_ret2
  exact ⟨v, 0, rfl, Lib.hid ⟨hv.out, rfl⟩, HB3.out⟩
set_option maxRecDepth 100000 in
set_option maxHeartbeats 4000000 in
theorem qDivides_any {N N' : Nat} {A A' : Option Addr} {n c n' c' : Nat} {L L' : List (Int × Int)} {w : World} (h : RdQs w w.heap.size N A n c L) (h' : RdQs w w.heap.size N A' n' c' L') (hn : n ≤ 1048576) (hn' : n' ≤ 1048576) (hN : N ≤ N') (hN' : N' ≤ 60000000000) (h1N : 1 ≤ N) (hS : okD L → okD L' → 0 < (nq L).length → ∀ j, SzQ N' (Pq.drest (nq L) j (nq L'))) :
  Calls Tryz.prog 94 #[.slice A n c, .slice A' n' c'] w (RetOb (okD L ∧ okD L') (Dvd (nq L) (nq L')) w) := by
 have HEG := Lib.hid (enters_of Tryz.func148 (by kernel_rfl) rfl)
 have HH := Lib.hid (And.intro h h')
 have HSS := Lib.hid hS
 obtain ⟨W2, HW2⟩ : ∃ W, W = w.alloc (.cells #[.slice A n c, .slice A' n' c'] 73) := ⟨_, rfl⟩
 have hps := Lib.hid (ps_two (K := 1048576) h h' hn hn' HW2)
 have HB2 := Lib.hid (show Below w.heap.size w W2 by rw [HW2]; exact (Below.refl _ _).alloc (Nat.le_refl _) _)
 have HW2 := Lib.hid HW2
 clear h h' hS
 go_enter Tryz.func94, Tryz.ntmps94
 go_wp2_with fail
 rw [← HW2.out]
 clear HW2
 clear HW2
 refine (norms_bool (f := 148) (Φ := fun v kk => (v = true ↔ Dvd (nq L) (nq L')) ∧ kk = 0) hps.out (by decide) (by decide) (by omega) h1N HEG.out (fun hall W A' c' hb ho => qDividesIn_any (N := N') (P := nq L) (Q := nq L') ho (fun x hx => (nq_qs HH.out.1 (hall L (by simp)) h1N x hx).mono hN) (Pq.nz_nrm _) (Pq.nz_nrm _) hb.size (HSS.out (hall L (by simp)) (hall L' (by simp))) (Nat.le_trans (nq_len L') (by rw [HH.out.2.len]; exact hn')) hN' (Nat.le_trans h1N hN))).mono ?_
 intro e W3 hpost
 rcases hpost with ⟨hall, v, kk, rfl, hM2, hb2⟩ | ⟨hex, rfl, hb2⟩
 ·have HOK := Lib.hid (show (((okD L ∧ okD L') ∧ (v = true ↔ Dvd (nq L) (nq L')) ∧ kk = 0) ∨ (¬(okD L ∧ okD L') ∧ v = false ∧ kk = 6)) from .inl ⟨⟨hall L (by simp), hall L' (by simp)⟩, hM2.out⟩)
  have HB4 := Lib.hid (HB2.out.trans (hb2.mono HB2.out.size))
  clear hall hb2 hM2
  go_wp2
  go_ret2
  exact ⟨v, kk, rfl, HOK, HB4.out⟩
 ·have HOK := Lib.hid (show ¬(okD L ∧ okD L') from fun ⟨h1, h2⟩ => by
   obtain ⟨L0, hL0, p, hp, hp0⟩ := hex
   rcases List.mem_cons.1 hL0 with rfl | h3
   ·exact h1 p hp hp0
   ·obtain rfl := List.mem_singleton.1 h3
    exact h2 p hp hp0)
  have HB4 := Lib.hid (HB2.out.trans (hb2.mono HB2.out.size))
  clear hex hb2
  go_wp2
  go_ret2
  exact ⟨false, 6, rfl, Lib.hid (.inr ⟨HOK.out, rfl, rfl⟩), HB4.out⟩
end Go.Proofs.YtjnklbfhelbjgaaGreat

/- Reference 09: the derivative. -/
namespace Go.Proofs.YtjnklbfhelbjgaaGreat
open Go.RowKit Go.IntWalk
attribute [local go_sem ↓] Go.wp_at_zero Go.wp_at_succ
end Go.Proofs.YtjnklbfhelbjgaaGreat

/- Integer polynomials as fractions; reference 09: degree, lead, by the lead. -/
namespace Go.Proofs.YtjnklbfhelbjgaaGreat
open Go.RowKit Go.IntWalk
attribute [local go_sem ↓] Go.wp_at_zero Go.wp_at_succ
end Go.Proofs.YtjnklbfhelbjgaaGreat

/- Fractions' cells that are stored into: what stays. -/
namespace Go.Proofs.YtjnklbfhelbjgaaGreat
open Go.RowKit Go.IntWalk
section
variable {w w' : World} {g b B : Nat} {s s' t t' : Bool} {A A' D D' : Option Addr} {n c n' c' k m k' m' : Nat} {x : Rat} {z : Int}
end
end Go.Proofs.YtjnklbfhelbjgaaGreat

/- Reference 05: the quotient; reference 09: times a power of x. -/
namespace Go.Proofs.YtjnklbfhelbjgaaGreat
open Go.RowKit Go.IntWalk
attribute [local go_sem ↓] Go.wp_at_zero Go.wp_at_succ
end Go.Proofs.YtjnklbfhelbjgaaGreat

/- Reference 09: division; does one divide the other? -/
namespace Go.Proofs.YtjnklbfhelbjgaaGreat
open Go.RowKit Go.IntWalk
attribute [local go_sem ↓] Go.wp_at_zero Go.wp_at_succ
end Go.Proofs.YtjnklbfhelbjgaaGreat

/- Reference 09: does one divide the other?; the law QpolyDivides. -/
namespace Go.Proofs.YtjnklbfhelbjgaaGreat
open Go.RowKit Go.IntWalk
attribute [local go_sem ↓] Go.wp_at_zero Go.wp_at_succ
end Go.Proofs.YtjnklbfhelbjgaaGreat

/- Small polynomials of the call's own: sum, product, a number's multiple. -/
namespace Go.Proofs.YtjnklbfhelbjgaaGreat
open Go.RowKit Go.IntWalk
attribute [local go_sem ↓] Go.wp_at_zero Go.wp_at_succ
abbrev Tiny (L : List Rat) : Prop := Pq.nrm L = L ∧ L.length ≤ 16 ∧ ∀ x ∈ L, x.num.natAbs < 4294967296 ∧ x.den < 4294967296
theorem Tiny.nz {L : List Rat} (h : Tiny L) : Pq.Nz L := by rw [← h.1]; exact Pq.nz_nrm L
theorem Tiny.qs {L : List Rat} (h : Tiny L) : ∀ x ∈ L, Qs 1 x := fun x hx => ⟨Zz.zl_small (h.2.2 x hx).1, Zz.zl_small (by simpa using (h.2.2 x hx).2)⟩
theorem pr_map (L : List Rat) : (L.map pr).map qval = L := by
 rw [List.map_map]
 conv => rhs; rw [← List.map_id L]
 exact List.map_congr_left fun x _ => qval_pr x
theorem pr_okD (L : List Rat) : okD (L.map pr) := fun p hp => by
 obtain ⟨x, _, rfl⟩ := List.mem_map.1 hp
 exact pr_ne x
theorem pr_nq {L : List Rat} (h : Pq.Nz L) : nq (L.map pr) = L := by
 unfold nq
 rw [pr_map, Pq.nrm_id h]
theorem tiny_qsz {L : List Rat} (h : Tiny L) : qsz (L.map pr) ≤ 32 := by
 have key : ∀ M : List Rat, (∀ x ∈ M, x.num.natAbs < 4294967296 ∧ x.den < 4294967296) → qsz (M.map pr) ≤ 2 * M.length := by
  intro M
  induction M with
  | nil => intro _; exact Nat.le_refl _
  | cons x M ih =>
    intro hM
    rw [List.map_cons, qsz_cons, List.length_cons]
    have h1 := ih fun y hy => hM y (List.mem_cons_of_mem _ hy)
    have h2 := hM x (List.mem_cons_self ..)
    have h3 : Zz.zl (pr x).1 ≤ 1 := Zz.zl_small h2.1
    have h4 : Zz.zl (pr x).2 ≤ 1 := Zz.zl_small (by simpa [pr] using h2.2)
    omega
 have := key L h.2.2
 have := h.2.1
 omega
theorem Tiny.com {L : List Rat} (h : Tiny L) : ∃ Z D, Com 33 (Pq.co L) Z D := by
 obtain ⟨Z, D, hC⟩ := com_list (L.map pr) (pr_okD L)
 rw [pr_map] at hC
 exact ⟨Z, D, hC.mono (by have := tiny_qsz h; omega)⟩
theorem Tiny.div {a b : List Rat} (h : Tiny a) (h' : Tiny b) (h0 : 0 < b.length) : DivSz 60000000000 a b := by
 obtain ⟨Z, D, hZ⟩ := h.com
 obtain ⟨Y, E, hY⟩ := h'.com
 have := h.2.1
 have := Nat.mul_le_mul_right (33 + 1) h.2.1
 exact div_sz hZ hY h'.nz h0 (by decide) (by omega)
def padd (P Q : List Rat) : List Rat := Pq.nrm ((List.range (max P.length Q.length)).map fun i => Pq.co P i + Pq.co Q i)
def pmul (P Q : List Rat) : List Rat := Pq.nrm ((List.range (P.length + Q.length)).map (Pq.cv (Pq.co P) (Pq.co Q)))
def pscl (P : List Rat) (x : Rat) : List Rat := Pq.nrm (P.map (· * x))
theorem isP_padd (P Q : List Rat) : Pq.IsP (fun i => Pq.co P i + Pq.co Q i) (padd P Q) := ⟨Pq.nz_nrm _, fun i => by
 unfold padd
 rw [Pq.co_nrm, Pq.co_range]
 by_cases h : i < max P.length Q.length
 ·rw [if_pos h]
 ·rw [if_neg h]
  show 0 = Pq.co P i + Pq.co Q i
  rw [Pq.co_ge (by omega), Pq.co_ge (by omega), Rat.add_zero]⟩
theorem isP_pmul (P Q : List Rat) : Pq.IsP (Pq.cv (Pq.co P) (Pq.co Q)) (pmul P Q) := ⟨Pq.nz_nrm _, fun i => by
 unfold pmul
 rw [Pq.co_nrm, Pq.co_range]
 by_cases h : i < P.length + Q.length
 ·rw [if_pos h]
 ·rw [if_neg h]
  exact (Pq.cv_up (Pq.up_co P) (Pq.up_co Q) i (by omega)).symm⟩
theorem isP_pscl (P : List Rat) (x : Rat) : Pq.IsP (fun i => Pq.co P i * x) (pscl P x) := ⟨Pq.nz_nrm _, fun i => by
 unfold pscl
 rw [Pq.co_nrm, Pq.co_map (φ := (· * x)) (by simp)]⟩
def RetPl (L : List Rat) (w : World) (e : Ending) (w' : World) : Prop := ∃ (A : Option Addr) (n c : Nat), e = .returned (.slice A n c) ∧ OwQp w' w.heap.size A n c L ∧ Below w.heap.size w w'
def RetPe (L : List Rat) (w : World) (e : Ending) (w' : World) : Prop := ∃ (A : Option Addr) (n c : Nat), e = .returned (.tuple #[.slice A n c, .int .i64 0]) ∧ OwQp w' w.heap.size A n c L ∧ Below w.heap.size w w'
theorem RetPe.of {f : Nat → Rat} {L : List Rat} {w w' : World} {e : Ending} (hL : Pq.IsP f L) (h : RetPqE w.heap.size (fun M kk => Pq.IsP f M ∧ kk = 0) w e w') : RetPe L w e w' := by
 obtain ⟨A, n, c, M, kk, rfl, ho, hM, hb⟩ := h
 obtain ⟨h1, rfl⟩ := hM.out
 obtain rfl := h1.unique hL
 exact ⟨A, n, c, rfl, ho, hb⟩
section
variable {b b' n c n' c' : Nat} {A A' : Option Addr} {P Q : List Rat} {w : World}
theorem OwQp.small (h : OwQp w b A n c P) (hP : Tiny P) : n ≤ 1048576 := by rw [← h.len]; have := hP.2.1; omega
theorem padd_any (h : OwQp w b A n c P) (h' : OwQp w b' A' n' c' Q) (hP : Tiny P) (hQ : Tiny Q) :
  Calls Tryz.prog 128 #[.slice A n c, .slice A' n' c'] w (RetPe (padd P Q) w) := by
 refine (qAdd_any (h.rd hP.qs) (h'.rd hQ.qs) (h.small hP) (h'.small hQ) (by decide) (by decide)).mono ?_
 rintro e w' (⟨_, h⟩ | ⟨hn, _⟩)
 ·rw [pr_map, pr_map] at h
  exact .of (isP_padd P Q) h
 ·exact absurd ⟨pr_okD _, pr_okD _⟩ hn
theorem pscale_any {s s' : Bool} {A'' : Option Addr} {n'' c'' : Nat} {x : Rat} (h : OwQp w b A n c P) (h' : OwQ w b' s A' n' c' s' A'' n'' c'' x) (hP : Tiny P) (hx : Qs 1 x) :
  Calls Tryz.prog 248 #[.slice A n c, .agg #[.bool s, .slice A' n' c', .bool s', .slice A'' n'' c'']] w (RetPe (pscl P x) w) := by
 refine (qScale_any (N := 1) (h.rd hP.qs) h'.num.rd h'.den.rd (h.small hP) (by rw [h'.num.len]; exact hx.1) (by rw [h'.den.len]; exact hx.2) (by decide) (by decide)).mono ?_
 rintro e w' (⟨_, h⟩ | ⟨hn, _⟩)
 ·rw [pr_map, Rat.num_divInt_den] at h
  exact .of (isP_pscl P x) h
 ·exact absurd ⟨pr_okD _, qden_ne x⟩ hn
theorem pdiv_any {X R : List Rat} (h : OwQp w b A n c P) (h' : OwQp w b' A' n' c' Q) (hP : Tiny P) (hQ : Tiny Q) (h0 : Q ≠ []) (hD : Pq.IsD P Q X R) :
  Calls Tryz.prog 247 #[.slice A n c, .slice A' n' c'] w fun e w' => ∃ (A1 : Option Addr) (n1 c1 : Nat) (A2 : Option Addr) (n2 c2 : Nat), e = .returned (.tuple #[.slice A1 n1 c1, .slice A2 n2 c2, .int .i64 0]) ∧ OwQp w' w.heap.size A1 n1 c1 X ∧ Below w.heap.size w w' := by
 refine (qDiv_any (N := 1) (N' := 60000000000) (h.rd hP.qs) (h'.rd hQ.qs) (h.small hP) (h'.small hQ) (by decide) (by decide) (by decide) (fun _ _ hl => by
  rw [pr_nq hP.nz, pr_nq hQ.nz]
  rw [pr_nq hQ.nz] at hl
  exact (hP.div hQ hl).rest)).mono ?_
 rintro e w' ⟨A1, n1, c1, X', A2, n2, c2, Y', kk, rfl, ho, _, hM, hb⟩
 rw [pr_nq hP.nz, pr_nq hQ.nz] at hM
 rcases hM.out with ⟨_, ⟨e0, _⟩ | ⟨_, hd, rfl⟩⟩ | ⟨hn, _⟩
 ·exact absurd e0 h0
 ·obtain ⟨rfl, rfl⟩ := hd.unique hQ.nz hD
  exact ⟨A1, n1, c1, A2, n2, c2, rfl, ho, hb⟩
 ·exact absurd ⟨pr_okD _, pr_okD _⟩ hn
theorem pdivides_any {X R : List Rat} (h : OwQp w b A n c P) (h' : OwQp w b' A' n' c' Q) (hP : Tiny P) (hQ : Tiny Q) (h0 : P ≠ []) (hD : Pq.IsD Q P X R) :
  Calls Tryz.prog 94 #[.slice A n c, .slice A' n' c'] w fun e w' => e = .returned (.tuple #[.bool (decide (R = [])), .int .i64 0]) ∧ Below w.heap.size w w' := by
 refine (qDivides_any (N := 1) (N' := 60000000000) (h.rd hP.qs) (h'.rd hQ.qs) (h.small hP) (h'.small hQ) (by decide) (by decide) (by decide) (fun _ _ hl => by
  rw [pr_nq hP.nz, pr_nq hQ.nz]
  rw [pr_nq hP.nz] at hl
  exact (hQ.div hP hl).rest)).mono ?_
 rintro e w' ⟨v, kk, rfl, hM, hb⟩
 rw [pr_nq hP.nz, pr_nq hQ.nz] at hM
 rcases hM.out with ⟨_, hv, rfl⟩ | ⟨hn, _⟩
 ·rw [dvd_of h0 hP.nz hD] at hv
  refine ⟨?_, hb⟩
  rw [show v = decide (R = []) by
   cases v with
   | true => rw [decide_eq_true (hv.1 rfl)]
   | false => rw [decide_eq_false fun e => Bool.noConfusion (hv.2 e)]]
 ·exact absurd ⟨pr_okD _, pr_okD _⟩ hn
theorem OwQ.cell1 {s s' : Bool} {x : Rat} (h : OwQ w b s A n c s' A' n' c' x) (hb : b ≤ w.heap.size) : OwQp (w.alloc (.cells #[.bool s, .slice A n c, .bool s', .slice A' n' c'] 47)) b (some ⟨w.heap.size, 0, none⟩) 1 1 [x] := by
 have h2 := h.next ((Below.refl w.heap.size w).alloc (Nat.le_refl _) (.cells #[.bool s, .slice A n c, .bool s', .slice A' n' c'] 47))
 refine ⟨[((s, A, n, c), (s', A', n', c'))], rfl, ⟨rfl, fun j e y he hy => ?_⟩, Nat.le_refl _, by unfold maxLen; omega, .inr ⟨w.heap.size, _, rfl, hb, heap_alloc_new w _, fun i v hv => by simpa [qcs, qc] using hv⟩⟩
 match j, he, hy with
 | 0, he, hy =>
   simp at he hy
   subst he hy
   exact h2
 | j + 1, he, hy => simp at he
theorem qone_any (w : World) : Calls Tryz.prog 182 #[] w (RetPl [1] w) := by
 go_enter Tryz.func182, Tryz.ntmps182
 go_wp2_with fail
 refine (qof_any 1 (by decide) (by decide) w).mono ?_
 rintro _ W1 ⟨s, A, n, c, s', A', n', c', y, rfl, ho, hy, hb⟩
 have HO := Lib.hid (show OwQp (W1.alloc (.cells #[.bool s, .slice A n c, .bool s', .slice A' n' c'] 47)) w.heap.size (some ⟨W1.heap.size, 0, none⟩) 1 1 [1] from by
  have h1 := ho.cell1 hb.size
  rw [hy.out] at h1
  exact h1)
 have HB := Lib.hid (hb.alloc hb.size (.cells #[.bool s, .slice A n c, .bool s', .slice A' n' c'] 47))
 clear ho hy hb
 go_wp2
 go_ret
 exact ⟨_, _, _, rfl, HO.out, HB.out⟩
end
end Go.Proofs.YtjnklbfhelbjgaaGreat

/- qpoly.Mul of two small polynomials; smith: constant, minus. -/
namespace Go.Proofs.YtjnklbfhelbjgaaGreat
open Go.RowKit Go.IntWalk
attribute [local go_sem ↓] Go.wp_at_zero Go.wp_at_succ
theorem one_com : Com 33 (Pq.co [1]) (fun i => if i = 0 then 1 else 0) 1 := ⟨by decide, fun i => by
 cases i with
 | zero => rfl
 | succ i => rw [Pq.co_ge (by simp)]; simp, fun i => Nat.le_trans (Zz.zl_small (by split <;> decide)) (by decide), Nat.le_trans (Zz.zl_small (by decide)) (by decide)⟩
theorem one_cv {P M : List Rat} (hP : Pq.Nz P) (h : Pq.IsP (Pq.cv (Pq.co [1]) (Pq.co P)) M) : M = P := by
 refine h.unique ⟨hP, fun i => ?_⟩
 rw [← Pq.cv_one (Pq.co P) i]
 refine Pq.cv_congr (fun j _ => ?_) fun j _ => rfl
 unfold Pq.mono
 cases j with
 | zero => rfl
 | succ j => rw [if_neg (by omega), Pq.co_ge (by simp)]
theorem one_qs : ∀ x ∈ ([1] : List Rat), Qs 1 x := fun x hx => by
 simp at hx
 subst hx
 exact Qs.one (Nat.le_refl _)
set_option maxRecDepth 100000 in
set_option maxHeartbeats 4000000 in
theorem qMulIn_any {b c : Nat} {A : Option Addr} {P Q : List Rat} {w : World} (h : OwPs w b A 2 c [P, Q]) (hP : Tiny P) (hQ : Tiny Q) :
  Calls Tryz.prog 181 #[.slice A 2 c] w (RetPqE w.heap.size (fun M kk => Pq.IsP (Pq.cv (Pq.co P) (Pq.co Q)) M ∧ kk = 0) w) := by
 obtain ⟨g, A1, n1, c1, L1, rfl, hbk, hx, ho1, hL1⟩ := opl_at h (show 0 < 2 by decide)
 obtain ⟨g', A2, n2, c2, L2, e, _, hy, ho2, hL2⟩ := opl_at h (show 1 < 2 by decide)
 injection e with e
 injection e with e
 subst e
 obtain rfl : P = L1 := by simpa using hL1.out
 obtain rfl : Q = L2 := by simpa using hL2.out
 have HX := Lib.hid (show ∀ W, Below w.heap.size w W → (W.cell? ⟨g, 0, none⟩ = some (.slice A1 n1 c1) ∧ W.cell? ⟨g, 1, none⟩ = some (.slice A2 n2 c2)) ∧ RdQs W W.heap.size 1 A1 n1 c1 (P.map pr) ∧ RdQs W W.heap.size 1 A2 n2 c2 (Q.map pr) from fun W hb => ⟨⟨(hb.cell (p := ⟨g, 0, none⟩) hbk).trans hx, (hb.cell (p := ⟨g, 1, none⟩) hbk).trans hy⟩, (ho1.next hb).rd hP.qs, (ho2.next hb).rd hQ.qs⟩)
 have HLN := Lib.hid (show n1 ≤ 16 ∧ n2 ≤ 16 from ⟨by rw [← ho1.len]; exact hP.2.1, by rw [← ho2.len]; exact hQ.2.1⟩)
 have HPQ := Lib.hid (And.intro hP hQ)
 clear h hL1 hL2 ho1 ho2 hP hQ
 go_enter Tryz.func181, Tryz.ntmps181
 go_wp2_with fail
 refine (qone_any w).mono ?_
 rintro _ W1 ⟨A3, n3, c3, rfl, ho3, hb3⟩
 obtain rfl : n3 = 1 := ho3.len.symm
 have HB3 := Lib.hid hb3
 have HO3 := Lib.hid ho3
 have hc0 := (HX.out W1 hb3).1.1
 have hc1 := (HX.out W1 hb3).1.2
 clear hx hy hb3 ho3
 go_wp2_with fail
 refine wp_loop_rounds 3 ?_
 rw [rounds_succ]
 go_wp2_with fail
 obtain ⟨Z, D, hC⟩ := HPQ.out.1.com
 refine (qmul_poly (HO3.out.rd one_qs) (HX.out _ HB3.out).2.1 one_com hC (by have := HLN.out.1; omega) (by decide) (by decide) (by decide)).mono ?_
 rintro _ W4 ⟨A4, n4, c4, M4, rfl, ho4, hM4, hb4⟩
 obtain rfl := one_cv HPQ.out.1.nz hM4.out
 have HB4 := Lib.hid (HB3.out.trans (hb4.mono HB3.out.size))
 have hd0 := (HX.out W4 HB4.out).1.1
 have hd1 := (HX.out W4 HB4.out).1.2
 have HO4 := Lib.hid ho4
 clear hb4 ho4 hM4 hC hc0 hc1
 go_wp2_with fail
 rw [rounds_succ]
 go_wp2_with fail
 obtain ⟨Z, D, hC⟩ := HPQ.out.1.com
 obtain ⟨Y, E, hC'⟩ := HPQ.out.2.com
 refine (qmul_poly (HO4.out.rd HPQ.out.1.qs) (HX.out _ HB4.out).2.2 hC hC' (by have := HLN.out.2; have := HO4.out.len; have := HPQ.out.1.2.1; omega) (by decide) (by decide) (by decide)).mono ?_
 rintro _ W5 ⟨A5, n5, c5, M5, rfl, ho5, hM5, hb5⟩
 have HB5 := Lib.hid (HB4.out.trans (hb5.mono HB4.out.size))
 have HO5 := Lib.hid (ho5.base (b' := w.heap.size) HB4.out.size)
 clear hb5 ho5 hC hC' hd0 hd1
 go_wp2_with fail
 rw [rounds_succ]
 go_wp2
 go_ret2
 exact ⟨_, _, _, M5, 0, rfl, HO5.out, Lib.hid ⟨hM5.out, rfl⟩, HB5.out⟩
set_option maxRecDepth 100000 in
set_option maxHeartbeats 4000000 in
theorem pmul_any {A : Option Addr} {c : Nat} {P Q : List Rat} {w1 : World} (hps : RdPs w1 w1.heap.size 1 1048576 A 2 c [P.map pr, Q.map pr]) (hP : Tiny P) (hQ : Tiny Q) :
  Calls Tryz.prog 127 #[.slice A 2 c] w1 (RetPe (pmul P Q) w1) := by
 have HEG := Lib.hid (enters_of Tryz.func181 (by kernel_rfl) rfl)
 have hps := Lib.hid hps
 have HPQ := Lib.hid (And.intro hP hQ)
 clear hP hQ
 go_enter Tryz.func127, Tryz.ntmps127
 go_wp2_with fail
 refine (norms_poly (f := 181) (Φ := fun M kk => Pq.IsP (Pq.cv (Pq.co P) (Pq.co Q)) M ∧ kk = 0) hps.out (by decide) (by decide) (by decide) (by decide) HEG.out (fun hall W A' c' hb ho => by
  have ho' : OwPs W w1.heap.size A' 2 c' [P, Q] := by
   have h3 := ho
   rw [show [P.map pr, Q.map pr].map nq = [P, Q] by rw [List.map_cons, List.map_cons, List.map_nil, pr_nq HPQ.out.1.nz, pr_nq HPQ.out.2.nz]] at h3
   exact h3
  refine (qMulIn_any ho' HPQ.out.1 HPQ.out.2).mono ?_
  rintro e w' ⟨A2, n2, c2, M2, kk, h1, h2, h3, h4⟩
  exact ⟨A2, n2, c2, M2, kk, h1, h2.base hb.size, h3, h4⟩)).mono ?_
 intro e W3 hpost
 rcases hpost with ⟨hall, A2, n2, c2, M2, kk, rfl, ho2, hM2, hb2⟩ | ⟨hex, rfl, hb2⟩
 ·have HR := Lib.hid (RetPe.of (isP_pmul P Q) ⟨A2, n2, c2, M2, kk, rfl, ho2, hM2, hb2⟩)
  clear hall ho2 hb2
  obtain ⟨_, rfl⟩ := hM2.out
  go_wp2
  go_ret2
  exact HR.out
 ·exfalso
  obtain ⟨L0, hL0, p, hp, hp0⟩ := hex
  rcases List.mem_cons.1 hL0 with rfl | h3
  ·exact pr_okD _ p hp hp0
  ·rcases List.mem_cons.1 h3 with rfl | h4
   ·exact pr_okD _ p hp hp0
   ·cases h4
set_option maxRecDepth 100000 in
set_option maxHeartbeats 4000000 in
theorem constant_any (w : World) : Calls Tryz.prog 130 #[.int .i64 1] w (RetPl [1] w) := by
 go_enter Tryz.func130, Tryz.ntmps130
 go_wp2_with fail
 refine (qof_any 1 (by decide) (by decide) w).mono ?_
 rintro _ W1 ⟨s, A, n, c, s', A', n', c', y, rfl, ho, hy, hb⟩
 have HO := Lib.hid (show OwQp (W1.alloc (.cells #[.bool s, .slice A n c, .bool s', .slice A' n' c'] 47)) w.heap.size (some ⟨W1.heap.size, 0, none⟩) 1 1 [1] from by
  have h1 := ho.cell1 hb.size
  rw [hy.out] at h1
  exact h1)
 have HB := Lib.hid (hb.alloc hb.size (.cells #[.bool s, .slice A n c, .bool s', .slice A' n' c'] 47))
 clear ho hy hb
 go_wp2
 go_ret
 exact ⟨_, _, _, rfl, HO.out, HB.out⟩
set_option maxRecDepth 100000 in
set_option maxHeartbeats 4000000 in
theorem minus_any {b b' : Nat} {A A' : Option Addr} {n c n' c' : Nat} {P Q X R : List Rat} {w : World} (h : OwQp w b A n c P) (h' : OwQp w b' A' n' c' Q) (hP : Tiny P) (hQ : Tiny Q) (h0 : Q ≠ []) (hD : Pq.IsD P Q X R) (hX : Tiny X) :
  Calls Tryz.prog 231 #[.slice A n c, .slice A' n' c'] w (RetPl (pscl X (-1)) w) := by
 have HD := Lib.hid (show _ ∧ _ ∧ _ ∧ _ ∧ _ from ⟨h, h', hP, hQ, hD⟩)
 have HX := Lib.hid hX
 have H0 := Lib.hid h0
 clear h h' hP hQ hD hX h0
 go_enter Tryz.func231, Tryz.ntmps231
 go_wp2_with fail
 obtain ⟨h, h', hP, hQ, hD⟩ := HD.out
 refine (pdiv_any h h' hP hQ H0.out hD).mono ?_
 rintro _ W1 ⟨A1, n1, c1, A2, n2, c2, rfl, ho1, hb1⟩
 have HO1 := Lib.hid ho1
 have HB1 := Lib.hid hb1
 clear h h' hP hQ hD ho1 hb1
 go_wp2_with fail
 refine (qof_any (-1) (by decide) (by decide) W1).mono ?_
 rintro _ W2 ⟨s, A3, n3, c3, s', A4, n4, c4, y, rfl, ho, hy, hb⟩
 have HO2 := Lib.hid (And.intro (HO1.out.next hb) ho)
 have HY := Lib.hid (show y = -1 by rw [hy.out]; rfl)
 have HB2 := Lib.hid (HB1.out.trans (hb.mono HB1.out.size))
 clear ho hy hb
 go_wp2_with fail
 refine (pscale_any HO2.out.1 HO2.out.2 HX.out (by rw [HY.out]; exact (Qs.one (Nat.le_refl _)).neg)).mono ?_
 rintro _ W3 ⟨A5, n5, c5, rfl, ho5, hb5⟩
 have HB5 := Lib.hid (HB2.out.trans (hb5.mono HB2.out.size))
 have HO5 := Lib.hid (show OwQp W3 w.heap.size A5 n5 c5 (pscl X (-1)) from by
  rw [HY.out] at ho5
  exact ho5.base HB2.out.size)
 clear ho5 hb5
 go_wp2
 go_ret
 exact ⟨_, _, _, rfl, HO5.out, HB5.out⟩
end Go.Proofs.YtjnklbfhelbjgaaGreat
