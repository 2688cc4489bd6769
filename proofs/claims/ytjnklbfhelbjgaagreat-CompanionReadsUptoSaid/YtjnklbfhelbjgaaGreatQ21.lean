/- The faults of a matrix that should be fit: the program's and the reference's. -/
import Derived.Test.YtjnklbfhelbjgaaGreatQ20
namespace Go.Proofs.YtjnklbfhelbjgaaGreat
open Go.RowKit Go.IntWalk
attribute [local go_sem ↓] Go.wp_at_zero Go.wp_at_succ
theorem RdRss.cols {w : World} {B N K : Nat} {A : Option Addr} {n c : Nat} {RR : List RawRow} (h : RdRss w B N K A n c RR) {q : Nat} (hq : ∀ R ∈ RR, R.length = q) : RdRss w B N q A n c RR :=
 ⟨h.len, h.le, h.mx, fun j R hp => by
  obtain ⟨ad, A1, n1, c1, h1, h2, h3, h4, _⟩ := h.at_ j R hp
  exact ⟨ad, A1, n1, c1, h1, h2, h3, h4, by rw [← h4.len, hq R (List.mem_of_getElem? hp)]; exact Nat.le_refl _⟩⟩
set_option maxRecDepth 100000 in
set_option maxHeartbeats 8000000 in
theorem rFit_any {N K : Nat} {s : Bool} {A G : Option Addr} {n c r k : Nat} {d : Int} {RR : List RawRow} {w : World} (h : RdZ w w.heap.size s A n c d) (h' : RdRss w w.heap.size N K G r k RR) (hn : n ≤ N) (hN : N ≤ 1000000000000) (h1N : 1 ≤ N) (hr : r ≤ 1048576) :
  Calls Tryz.prog 11 #[.agg #[.bool s, .slice A n c, .slice G r k]] w (RetK (fitv d RR) w) := by
 obtain ⟨W1, HW1⟩ : ∃ W, W = w.alloc (.cells #[.bool s, .slice A n c, .slice G r k] 28) := ⟨_, rfl⟩
 have hM : MC W1 w.heap.size s A n c G r k := by rw [HW1]; exact MC.new w s A n c G r k
 have hB : Below w.heap.size w W1 := by rw [HW1]; exact (Below.refl _ _).alloc (Nat.le_refl _) _
 have HB := Lib.hid hB
 have HX := Lib.hid (show ∀ W, Below W1.heap.size W1 W → MC W w.heap.size s A n c G r k ∧ RdZ W W.heap.size s A n c d ∧ RdRss W W.heap.size N K G r k RR from fun W hb => ⟨hM.next hb, (h.next hB).next hb, (h'.next hB).next hb⟩)
 have HL := Lib.hid h'.len
 have HW1 := Lib.hid HW1
 clear h h' hM hB
 go_enter Tryz.func11, Tryz.ntmps11
 go_wp2_with fail
 rw [← HW1.out]
 clear HW1
 clear HW1
 refine (rMCheck_any (HX.out _ (Below.refl _ _)).2.1 (HX.out _ (Below.refl _ _)).2.2 (by omega) hr).mono ?_
 rintro _ W2 ⟨v, rfl, hv, hb2⟩
 have HB2 := Lib.hid hb2
 have q0 := (HX.out _ hb2).1.c0
 have q1 := (HX.out _ hb2).1.c1
 have q2 := (HX.out _ hb2).1.c2
 clear hb2
 by_cases h0 : v = 0
 case neg =>
  have hvb : (v == 0) = false := by simp [h0]
  have HC := Lib.hid (show fitv d RR = v from by rw [fitv_chk (by rw [← hv.out]; exact h0), hv.out])
  clear q0 q1 q2
  go_wp2
  go_ret
  exact ⟨v, rfl, Lib.hid HC.out.symm, HB.out.trans (HB2.out.mono HB.out.size)⟩
 have HC := Lib.hid (show chk d RR = 0 from by rw [← hv.out]; exact h0)
 have HCZ := Lib.hid (chk_zero HC.out)
 subst h0
 clear hv
 go_wp2_with fail
 refine (rMSize_any (HX.out _ HB2.out).2.2 hr).mono ?_
 rintro _ W3 ⟨x, y, rfl, hxy, hb3⟩
 obtain ⟨q, hq⟩ : ∃ q, q = colsOf RR := ⟨_, rfl⟩
 obtain rfl : x = (r : Int) := by rw [hxy.out.1, HL.out]
 obtain rfl : y = (q : Int) := by rw [hxy.out.2, hq]
 have HB3 := Lib.hid (HB2.out.trans (hb3.mono HB2.out.size))
 have HQ := Lib.hid hq
 have z0 := (HX.out _ HB3.out).1.c0
 have z1 := (HX.out _ HB3.out).1.c1
 have z2 := (HX.out _ HB3.out).1.c2
 clear hxy hb3 q0 q1 q2 hq
 by_cases hbad : r ≠ q ∨ r = 0
 ·have HV := Lib.hid (show fitv d RR = 3 from fitv_sq HC.out (by rw [HL.out, ← HQ.out]; exact hbad))
  clear z0 z1 z2
  by_cases hr0 : r = 0
  ·subst hr0
   clear hbad
   go_wp2
   go_ret
   exact ⟨3, rfl, Lib.hid HV.out.symm, HB.out.trans (HB3.out.mono HB.out.size)⟩
  ·have hrb : ((r : Int) == 0) = false := by simp; omega
   have hrq : ((r : Int) == (q : Int)) = false := by simp; omega
   clear hr0 hbad
   go_wp2
   go_ret
   exact ⟨3, rfl, Lib.hid HV.out.symm, HB.out.trans (HB3.out.mono HB.out.size)⟩
 ·have hr0 : r ≠ 0 := fun e => hbad (.inr e)
  have hrq : r = q := Classical.byContradiction fun e => hbad (.inl e)
  subst hrq
  have HNB := Lib.hid (show ¬(RR.length ≠ colsOf RR ∨ RR.length = 0) by rw [HL.out, ← HQ.out]; exact hbad)
  have hrb : ((r : Int) == 0) = false := by simp; omega
  clear hbad hr0
  by_cases h24 : 24 < r
  ·have HV := Lib.hid (show fitv d RR = 4 from fitv_big HC.out HNB.out (.inl (by rw [HL.out]; exact h24)))
   have h24i : (24 : Int) < (r : Int) := by omega
   clear h24 z0 z1 z2
   go_wp2
   go_ret
   exact ⟨4, rfl, Lib.hid HV.out.symm, HB.out.trans (HB3.out.mono HB.out.size)⟩
  ·have h24i : decide ((24 : Int) < (r : Int)) = false := by simp only [decide_eq_false_iff_not]; omega
   have H24 := Lib.hid h24
   clear h24
   go_wp2_with fail
   refine (rMHeight_any (q := r) (HX.out _ HB3.out).2.1 (HX.out _ HB3.out).2.2 HCZ.out.1 (fun R hR => by rw [HQ.out]; exact HCZ.out.2 R hR) hn hN h1N hr hr).mono ?_
   rintro _ W4 ⟨z, rfl, hz, hb4⟩
   have HB4 := Lib.hid (HB.out.trans ((HB3.out.trans (hb4.mono HB3.out.size)).mono HB.out.size))
   have HZ := Lib.hid hz.out
   clear hz hb4 z0 z1 z2
   by_cases h4k : 4096 < z
   ·have HV := Lib.hid (show fitv d RR = 4 from fitv_big HC.out HNB.out (.inr (by have := HZ.out; omega)))
    go_wp2
    go_ret
    exact ⟨4, rfl, Lib.hid HV.out.symm, HB4.out⟩
   ·have h4b : decide (4096 < z) = false := by simp only [decide_eq_false_iff_not]; exact h4k
    have HV := Lib.hid (show fitv d RR = 0 from fitv_ok HC.out HNB.out (fun e => by rw [HL.out] at e; rcases e with e | e; exact H24.out e; have := HZ.out; omega))
    clear h4k
    go_wp2
    go_ret
    exact ⟨0, rfl, Lib.hid HV.out.symm, HB4.out⟩
set_option maxRecDepth 100000 in
set_option maxHeartbeats 8000000 in
theorem cfit_any {N K : Nat} {s : Bool} {A G : Option Addr} {n c r k : Nat} {d : Int} {RR : List RawRow} {w : World} (h : RdZ w w.heap.size s A n c d) (h' : RdRss w w.heap.size N K G r k RR) (hn : n ≤ N) (hN : N ≤ 1000000000000) (h1N : 1 ≤ N) (hr : r ≤ 1048576) (hrk : Evn RR → r * colsOf RR ≤ 1048576) :
  Calls Tryz.prog 34 #[.agg #[.bool s, .slice A n c, .slice G r k]] w (RetK (fitv d RR) w) := by
 obtain ⟨W1, HW1⟩ : ∃ W, W = w.alloc (.cells #[.bool s, .slice A n c, .slice G r k] 28) := ⟨_, rfl⟩
 have hM : MC W1 w.heap.size s A n c G r k := by rw [HW1]; exact MC.new w s A n c G r k
 have hB : Below w.heap.size w W1 := by rw [HW1]; exact (Below.refl _ _).alloc (Nat.le_refl _) _
 have HB := Lib.hid hB
 have HX := Lib.hid (show ∀ W, Below W1.heap.size W1 W → MC W w.heap.size s A n c G r k ∧ RdZ W W.heap.size s A n c d ∧ RdRss W W.heap.size N K G r k RR from fun W hb => ⟨hM.next hb, (h.next hB).next hb, (h'.next hB).next hb⟩)
 have HL := Lib.hid h'.len
 have HRK := Lib.hid hrk
 have HW1 := Lib.hid HW1
 clear h h' hM hB hrk
 go_enter Tryz.func34, Tryz.ntmps34
 go_wp2_with fail
 rw [← HW1.out]
 clear HW1
 clear HW1
 refine (mSize_any (HX.out _ (Below.refl _ _)).2.1 (HX.out _ (Below.refl _ _)).2.2 (by omega) hr).mono ?_
 rintro _ W2 ⟨x, y, v, rfl, hv, hb2⟩
 have HB2 := Lib.hid hb2
 have q0 := (HX.out _ hb2).1.c0
 have q1 := (HX.out _ hb2).1.c1
 have q2 := (HX.out _ hb2).1.c2
 clear hb2
 by_cases h0 : v = 0
 case neg =>
  have hvb : (v == 0) = false := by simp [h0]
  have HC := Lib.hid (show fitv d RR = v from by
   rcases hv.out with ⟨_, _, _, e⟩ | ⟨e1, _, _, e2⟩
   ·exact absurd e h0
   ·rw [fitv_chk e1, e2])
  clear q0 q1 q2 hv
  go_wp2
  go_ret
  exact ⟨v, rfl, Lib.hid HC.out.symm, HB.out.trans (HB2.out.mono HB.out.size)⟩
 have HC := Lib.hid (show chk d RR = 0 ∧ x = RR.length ∧ y = colsOf RR from by
  rcases hv.out with ⟨e1, e2, e3, _⟩ | ⟨e1, _, _, e2⟩
  ·exact ⟨e1, e2, e3⟩
  ·exact absurd (e2.symm.trans h0) e1)
 have HCZ := Lib.hid (chk_zero HC.out.1)
 obtain ⟨q, hq⟩ : ∃ q, q = colsOf RR := ⟨_, rfl⟩
 obtain rfl : x = (r : Int) := by rw [HC.out.2.1, HL.out]
 obtain rfl : y = (q : Int) := by rw [HC.out.2.2, hq]
 have HQ := Lib.hid hq
 subst h0
 clear hv hq
 by_cases hbad : r ≠ q ∨ r = 0
 ·have HV := Lib.hid (show fitv d RR = 3 from fitv_sq HC.out.1 (by rw [HL.out, ← HQ.out]; exact hbad))
  clear q0 q1 q2
  by_cases hrq : r = q
  ·have hr0 : r = 0 := hbad.resolve_left (fun e => e hrq)
   subst hrq
   subst hr0
   clear hbad
   go_wp2
   go_ret
   exact ⟨3, rfl, Lib.hid HV.out.symm, HB.out.trans (HB2.out.mono HB.out.size)⟩
  ·have hrqb : ((r : Int) == (q : Int)) = false := by simp; omega
   clear hrq hbad
   go_wp2
   go_ret
   exact ⟨3, rfl, Lib.hid HV.out.symm, HB.out.trans (HB2.out.mono HB.out.size)⟩
 ·have hr0 : r ≠ 0 := fun e => hbad (.inr e)
  have hrq : r = q := Classical.byContradiction fun e => hbad (.inl e)
  subst hrq
  have HNB := Lib.hid (show ¬(RR.length ≠ colsOf RR ∨ RR.length = 0) by rw [HL.out, ← HQ.out]; exact hbad)
  have hrb : ((r : Int) == 0) = false := by simp; omega
  clear hbad hr0
  go_wp2_with fail
  refine (mHeight_any (K := r) (HX.out _ HB2.out).2.1 ((HX.out _ HB2.out).2.2.cols (fun R hR => by rw [HQ.out]; exact HCZ.out.2 R hR)) hn hN h1N hr hr (by have := HRK.out HCZ.out.2; rw [← HQ.out] at this; exact this)).mono ?_
  rintro _ W4 ⟨z, kk, rfl, hz, hb4⟩
  have HB4 := Lib.hid (HB.out.trans ((HB2.out.trans (hb4.mono HB2.out.size)).mono HB.out.size))
  have HZ := Lib.hid (show z = (ht (ent d RR).flatten : Int) from hz.out.elim (fun e => e.2.1) (fun e => absurd HC.out.1 e.1))
  clear hz hb4 q0 q1 q2
  by_cases h24 : 24 < r
  ·have HV := Lib.hid (show fitv d RR = 4 from fitv_big HC.out.1 HNB.out (.inl (by rw [HL.out]; exact h24)))
   have h24i : (24 : Int) < (r : Int) := by omega
   clear h24
   go_wp2
   go_ret
   exact ⟨4, rfl, Lib.hid HV.out.symm, HB4.out⟩
  ·have h24i : decide ((24 : Int) < (r : Int)) = false := by simp only [decide_eq_false_iff_not]; omega
   have H24 := Lib.hid h24
   clear h24
   by_cases h4k : 4096 < z
   ·have HV := Lib.hid (show fitv d RR = 4 from fitv_big HC.out.1 HNB.out (.inr (by have := HZ.out; omega)))
    go_wp2
    go_ret
    exact ⟨4, rfl, Lib.hid HV.out.symm, HB4.out⟩
   ·have h4b : decide (4096 < z) = false := by simp only [decide_eq_false_iff_not]; exact h4k
    have HV := Lib.hid (show fitv d RR = 0 from fitv_ok HC.out.1 HNB.out (fun e => by rw [HL.out] at e; rcases e with e | e; exact H24.out e; have := HZ.out; omega))
    clear h4k
    go_wp2
    go_ret
    exact ⟨0, rfl, Lib.hid HV.out.symm, HB4.out⟩
end Go.Proofs.YtjnklbfhelbjgaaGreat

/- companion.Read: the blocks of a matrix. -/
namespace Go.Proofs.YtjnklbfhelbjgaaGreat
open Go.RowKit Go.IntWalk
attribute [local go_sem ↓] Go.wp_at_zero Go.wp_at_succ
theorem RdRss.wide {w : World} {B N K N' K' : Nat} {A : Option Addr} {n c : Nat} {RR : List RawRow} (h : RdRss w B N K A n c RR) (hN : N ≤ N') (hK : K ≤ K') : RdRss w B N' K' A n c RR :=
 ⟨h.len, h.le, h.mx, fun j R hp => by
  obtain ⟨ad, A1, n1, c1, h1, h2, h3, h4, h5⟩ := h.at_ j R hp
  exact ⟨ad, A1, n1, c1, h1, h2, h3, ⟨h4.len, h4.le, h4.mx, fun i x hx => by
   obtain ⟨ad', A', n', c', k1, k2, k3, k4, k5, k6⟩ := h4.at_ i x hx
   exact ⟨ad', A', n', c', k1, k2, k3, k4, k5, Nat.le_trans k6 hN⟩⟩, Nat.le_trans h5 hK⟩⟩
theorem OwPs.rds {w : World} {b N K : Nat} {A : Option Addr} {n c : Nat} {LL : List (List Rat)} (h : OwPs w b A n c LL) (hs : ∀ L ∈ LL, L.length ≤ K ∧ ∀ x ∈ L, Qs N x) : RdPs w w.heap.size N K A n c (LL.map fun L => L.map pr) := by
 have hl := h.len
 have hf : n ≤ c ∧ c ≤ maxLen := by
  rcases h.form with ⟨_, rfl, rfl⟩ | ⟨g, _, _, _, h3, h4⟩
  ·exact ⟨Nat.le_refl _, Nat.zero_le _⟩
  ·exact ⟨h3, h4⟩
 refine ⟨by rw [List.length_map]; exact hl, hf.1, hf.2, fun j R hR => ?_⟩
 rw [List.getElem?_map] at hR
 obtain ⟨L, hL, rfl⟩ := Option.map_eq_some_iff.1 hR
 have hj : j < LL.length := by
  rcases Nat.lt_or_ge j LL.length with h6 | h6
  ·exact h6
  ·rw [List.getElem?_eq_none h6] at hL; cases hL
 obtain ⟨g, A1, n1, c1, L', rfl, h2, h3, h4, h5⟩ := opl_at h (show j < n by omega)
 rw [h5.out] at hL
 injection hL with hL
 subst hL
 have hm := hs L' (List.mem_of_getElem? h5.out)
 exact ⟨_, A1, n1, c1, rfl, h2, by rw [add_base]; exact h3, h4.rd hm.2, by rw [← h4.len]; exact hm.1⟩
theorem rd_good {d : Int} {RR : List RawRow} (hf : Fits d RR) {MM : List (List Rat)} (h : Mx.IsRd (me d RR) RR.length RR.length MM) : Good 4097 MM := by
 have hme : ∀ i, i < RR.length → ∀ k, k < RR.length → Qs 4097 (me d RR i k) := fun i hi k hk => by
  have e := ent_tab (d := d) hf.sq
  have hr : (List.range RR.length).map (me d RR i) ∈ ent d RR := by
   rw [e]
   exact List.mem_of_getElem? (Mx.tab_row hi)
  exact hf.sz _ hr _ (List.mem_map.2 ⟨k, List.mem_range.2 hk, rfl⟩)
 refine ⟨fun p hp => ?_, fun p hp => ?_, fun p hp x hx => ?_, by rw [h.dsz]; exact hf.le⟩
 ·obtain ⟨a, t, he, rfl⟩ := h.mem p hp
  rw [Mx.pol_len]
  have := he.le
  omega
 ·obtain ⟨a, t, he, rfl⟩ := h.mem p hp
  rw [Mx.pol_len, Nat.add_sub_cancel]
  refine Pq.co_get ?_
  unfold Mx.pol
  rw [List.getElem?_append_right (by simp)]
  simp
 ·obtain ⟨a, t, he, rfl⟩ := h.mem p hp
  unfold Mx.pol at hx
  rcases List.mem_append.1 hx with h1 | h1
  ·obtain ⟨i, hi, rfl⟩ := List.mem_map.1 h1
   have hi2 := List.mem_range.1 hi
   have h3 := he.le
   have h4 := he.lt
   exact (hme _ (by omega) _ h4).neg
  ·simp at h1
   subst h1
   exact Qs.one (by decide)
def RdV (d : Int) (RR : List RawRow) (LL : List (List Rat)) (b : Bool) (kk : Int) : Prop :=
 (fitv d RR ≠ 0 ∧ LL = [] ∧ b = false ∧ kk = fitv d RR) ∨ (fitv d RR = 0 ∧ kk = 0 ∧ ∃ MM, Mx.IsRd (me d RR) RR.length RR.length MM ∧ ((ent d RR = Mx.tab RR.length RR.length (Mx.ds MM) ∧ b = true ∧ LL = MM) ∨ (¬ent d RR = Mx.tab RR.length RR.length (Mx.ds MM) ∧ b = false ∧ LL = [])))
def RetRd (d : Int) (RR : List RawRow) (w : World) (e : Ending) (w' : World) : Prop :=
 ∃ (A : Option Addr) (n c : Nat) (LL : List (List Rat)) (b : Bool) (kk : Int), e = .returned (.tuple #[.slice A n c, .bool b, .int .i64 kk]) ∧ OwPs w' w.heap.size A n c LL ∧ Hid (RdV d RR LL b kk) ∧ Below w.heap.size w w'
theorem pol_take {E : Nat → Nat → Rat} {a t i : Nat} (ha : a ≤ i) (hi : i ≤ t) : (Mx.pol E a t).take (i - a) ++ [-(E i t)] = (Mx.pol E a t).take (i + 1 - a) := by
 have e : (Mx.pol E a t)[i - a]? = some (-(E i t)) := by
  unfold Mx.pol
  rw [List.getElem?_append_left (by simp; omega), List.getElem?_map, List.getElem?_range (by omega)]
  show some (-(E (a + (i - a)) t)) = _
  rw [show a + (i - a) = i by omega]
 rw [show i + 1 - a = i - a + 1 by omega, List.take_add_one, e]
 rfl
theorem pol_end (E : Nat → Nat → Rat) (a t : Nat) : (Mx.pol E a t).take (t + 1 - a) ++ [1] = Mx.pol E a t := by
 unfold Mx.pol
 rw [List.take_append_of_le_length (by simp), List.take_of_length_le (by simp)]
theorem me_ent {d : Int} {RR : List RawRow} {N : Nat} (h : ∀ R ∈ RR, R.length = N) {i k : Nat} {L : List Rat} {x : Rat} (hL : (ent d RR)[i]? = some L) (hx : L[k]? = some x) : me d RR i k = x := by
 have hi : i < RR.length := by
  rcases Nat.lt_or_ge i (ent d RR).length with h1 | h1
  ·rw [ent_len] at h1; exact h1
  ·rw [List.getElem?_eq_none h1] at hL; cases hL
 rw [ent_tab h, Mx.tab_row hi] at hL
 injection hL with hL
 subst hL
 rw [List.getElem?_map] at hx
 obtain ⟨q, hq, rfl⟩ := Option.map_eq_some_iff.1 hx
 have hk : k < N := by
  rcases Nat.lt_or_ge k N with h1 | h1
  ·exact h1
  ·rw [List.getElem?_eq_none (by simpa using h1)] at hq; cases hq
 rw [List.getElem?_range hk] at hq
 injection hq with hq
 rw [hq]
set_option maxRecDepth 100000 in
set_option maxHeartbeats 16000000 in
theorem cRead_any {N K : Nat} {s : Bool} {A G : Option Addr} {n c r k : Nat} {d : Int} {RR : List RawRow} {w : World} (h : RdZ w w.heap.size s A n c d) (h' : RdRss w w.heap.size N K G r k RR) (hn : n ≤ N) (hN : N ≤ 100000000000) (h1N : 1 ≤ N) (hr : r ≤ 1048576) (hK : K ≤ 1048576) (hrk : Evn RR → r * colsOf RR ≤ 1048576) :
  Calls Tryz.prog 8 #[.agg #[.bool s, .slice A n c, .slice G r k]] w (RetRd d RR w) := by
 obtain ⟨i0, hi, hz0, hz1, hz2⟩ := info_parts infoQ
 obtain ⟨i1, hjf, hy0, hy1, hy2⟩ := info_parts infoPoly
 obtain ⟨W1, HW1⟩ : ∃ W, W = w.alloc (.cells #[.bool s, .slice A n c, .slice G r k] 28) := ⟨_, rfl⟩
 have hM : MC W1 w.heap.size s A n c G r k := by rw [HW1]; exact MC.new w s A n c G r k
 have hB : Below w.heap.size w W1 := by rw [HW1]; exact (Below.refl _ _).alloc (Nat.le_refl _) _
 have HB := Lib.hid hB
 have HX := Lib.hid (show ∀ W, Below W1.heap.size W1 W → MC W w.heap.size s A n c G r k ∧ RdZ W W.heap.size s A n c d ∧ RdRss W W.heap.size N K G r k RR from fun W hb => ⟨hM.next hb, (h.next hB).next hb, (h'.next hB).next hb⟩)
 have HL := Lib.hid h'.len
 have HRK := Lib.hid hrk
 have HW1 := Lib.hid HW1
 clear h h' hM hB hrk
 go_enter Tryz.func8, Tryz.ntmps8
 go_wp2_with fail
 go_step3
 go_wp2_with fail
 rw [← HW1.out]
 clear HW1
 clear HW1
 refine (cfit_any (HX.out _ (Below.refl _ _)).2.1 (HX.out _ (Below.refl _ _)).2.2 hn (by omega) h1N hr HRK.out).mono ?_
 rintro _ W2 ⟨v, rfl, hv, hb2⟩
 have HB2 := Lib.hid hb2
 have q0 := (HX.out _ hb2).1.c0
 have q1 := (HX.out _ hb2).1.c1
 have q2 := (HX.out _ hb2).1.c2
 clear hb2
 by_cases h0 : v = 0
 case neg =>
  have hvb : (v == 0) = false := by simp [h0]
  have HC := Lib.hid (show fitv d RR ≠ 0 ∧ v = fitv d RR from ⟨by rw [← hv.out]; exact h0, hv.out⟩)
  clear q0 q1 q2 hv
  go_wp2
  go_ret3
  exact ⟨none, 0, 0, [], false, v, rfl, OwPs.nil _ _, Lib.hid (.inl ⟨HC.out.1, rfl, rfl, HC.out.2⟩), HB.out.trans (HB2.out.mono HB.out.size)⟩
 have HC := Lib.hid (show fitv d RR = 0 from by rw [← hv.out]; exact h0)
 have HF := Lib.hid (fits_of HC.out)
 subst h0
 clear hv
 have hr24 : r ≤ 24 := by rw [← HL.out]; exact HF.out.le
 have hr0 : 0 < r := by rw [← HL.out]; exact HF.out.pos
 have HSQ := Lib.hid (show ∀ R ∈ RR, R.length = r by rw [← HL.out]; exact HF.out.sq)
 go_wp2_with fail
 clear q0 q1 q2
 refine (mRows_any (HX.out _ HB2.out).2.1 (HX.out _ HB2.out).2.2 (by omega) (by omega) hr hK).mono ?_
 rintro _ W3 ⟨A3, n3, c3, LL3, kk3, rfl, ho3, hv3, hb3⟩
 obtain ⟨rfl, rfl⟩ : LL3 = ent d RR ∧ kk3 = 0 := by
  rcases hv3.out with ⟨_, e1, e2⟩ | ⟨e1, _⟩
  ·exact ⟨e1, e2⟩
  ·exact absurd (chk_ok HF.out.den (fun R hR => by
    rw [HSQ.out R hR]
    unfold colsOf
    have e := HSQ.out
    have e2 := HL.out
    cases hh : RR with
    | nil => rw [hh] at hR; cases hR
    | cons R0 t =>
      rw [hh] at e
      exact (e R0 (List.mem_cons_self ..)).symm)) e1
 have hn3 : n3 = r := by rw [← ho3.len, ent_len, HL.out]
 subst hn3
 have HB3 := Lib.hid (HB2.out.trans (hb3.mono HB2.out.size))
 have HO3 := Lib.hid (show ∀ W, Below W3.heap.size W3 W → OwQss W W2.heap.size A3 n3 c3 (ent d RR) from fun W hb => ho3.next hb)
 clear hv3 hb3 ho3
 go_wp2_with fail
 go_step3
 go_wp2_with fail
 go_loopw [8, 9] (fun ov av wr => ∃ (a j : Nat) (A' : Option Addr) (c' : Nat) (MM : List (List Rat)), ov = .slice A' j c' ∧ av = .int .i64 (a : Int) ∧ a ≤ n3 ∧ OwPs wr W3.heap.size A' j c' MM ∧ Hid (Mx.IsRd (me d RR) n3 a MM) ∧ Below W3.heap.size W3 wr) (fun _ av _ => n3 - (intOf av).toNat)
 case atStart => exact ⟨0, 0, none, 0, [], rfl, rfl, Nat.zero_le _, OwPs.nil _ _, Lib.hid Mx.IsRd.nil, Below.refl _ _⟩
 case round =>
  obtain ⟨a, j, A', c', MM, rfl, rfl, ha, ho, hrd, hB⟩ := hrel
  by_cases han : a = n3
  ·have HRD := Lib.hid (show Mx.IsRd (me d RR) RR.length RR.length MM by rw [HL.out, ← han]; rw [han]; exact han ▸ hrd.out)
   have HG := Lib.hid (rd_good HF.out HRD.out)
   have HDZ := Lib.hid (show Mx.dsz MM = n3 by rw [HRD.out.dsz, HL.out])
   have hj0 : 0 < j := by
    rcases Nat.eq_zero_or_pos j with e | e
    ·have e1 := ho.len
     rw [e] at e1
     have e2 := HDZ.out
     rw [List.eq_nil_of_length_eq_zero e1] at e2
     have e3 : Mx.dsz [] = 0 := rfl
     omega
    ·exact e
   have HO := Lib.hid ho
   have HBO := Lib.hid hB
   have HRDP := Lib.hid (ho.rds (N := 4097) (K := 25) (fun L hL => ⟨HG.out.le L hL, HG.out.sz L hL⟩))
   subst han
   clear ho hB hrd
   go_wp2_with fail
   refine (cSum_any HRDP.out HG.out (by decide) (by decide) hj0).mono ?_
   rintro _ W5 ⟨s5, A5, n5, c5, G5, r5, k5, y5, NN, kk5, rfl, ho5, hm5, hy5, hb5⟩
   obtain ⟨rfl, rfl, rfl⟩ := hy5.out
   obtain ⟨W6, HW6⟩ : ∃ W, W = W5.alloc (.cells #[.bool s5, .slice A5 n5 c5, .slice G5 r5 k5] 28) := ⟨_, rfl⟩
   have hb6 : Below W5.heap.size W5 W6 := by rw [HW6]; exact (Below.refl _ _).alloc (Nat.le_refl _) _
   have hb56 := hb5.trans (hb6.mono hb5.size)
   have hb36 := HBO.out.trans (hb56.mono HBO.out.size)
   have hb16 := HB3.out.trans (hb36.mono HB3.out.size)
   have HSS := Lib.hid (sum_sz HG.out (by decide) (by decide))
   have hr5 : r5 = a := by rw [← hm5.len, sumN_len, HDZ.out]
   subst hr5
   obtain ⟨hMm, hdm, hrm⟩ := HX.out W6 hb16
   have HZ6 := Lib.hid (show RdZ W6 W6.heap.size s5 A5 n5 c5 (sumD MM) ∧ RdRss W6 W6.heap.size 100000000000 1048576 G5 r5 k5 ((sumN MM).map fun L => L.map ofZ) from ⟨(ho5.next hb6).rd, ((hm5.next hb6).rd (N := 100000000000) (K := 24) (fun L hL => ⟨by rw [(HSS.out.2 L hL).1, HDZ.out]; exact hr24, (HSS.out.2 L hL).2⟩)).wide (Nat.le_refl _) (by decide)⟩)
   have HM6 := Lib.hid (show RdZ W6 W6.heap.size s A n c d ∧ RdRss W6 W6.heap.size 100000000000 1048576 G r5 k RR from ⟨hdm, hrm.wide hN hK⟩)
   have HOL := Lib.hid (show OwPs W6 W3.heap.size A' j c' MM from HO.out.next hb56)
   have HB6 := Lib.hid (HB.out.trans (hb16.mono HB.out.size))
   have HSB := Lib.hid (show w.heap.size ≤ W3.heap.size from Nat.le_trans HB.out.size HB3.out.size)
   have HN5 := Lib.hid (show n5 ≤ 400000000000 by rw [ho5.len]; have := HSS.out.1; omega)
   have HEV := Lib.hid (show ent (sumD MM) ((sumN MM).map fun L => L.map ofZ) = Mx.tab RR.length RR.length (Mx.ds MM) by rw [ent_ofZ, sum_ent HG.out (by decide) (by decide), HDZ.out, HL.out])
   have HC1 := Lib.hid (show chk (sumD MM) ((sumN MM).map fun L => L.map ofZ) = 0 from chk_ok (sumD_ne HG.out (by decide) (by decide)) (evn_sq (fun R hR => by rw [(HSS.out.2 R hR).1, sumN_len])))
   have HC2 := Lib.hid (show chk d RR = 0 by
    refine Classical.byContradiction fun e => ?_
    have e1 := HC.out
    rw [fitv_chk e] at e1
    exact e e1)
   have m0 := hMm.c0
   have m1 := hMm.c1
   have m2 := hMm.c2
   rw [HW6] at m0 m1 m2
   have HW6 := Lib.hid HW6
   clear ho5 hm5 hy5 hb5 hb6 hb56 hb36 hb16 hMm hdm hrm
   go_wp2_with fail
   rw [← HW6.out]
   clear HW6 m0 m1 m2
   clear HW6
   refine (mEqual_any (q := r5) HZ6.out.1 HZ6.out.2 HM6.out.1 HM6.out.2 HC1.out HC2.out (fun R hR => by
    obtain ⟨L, hL, rfl⟩ := List.mem_map.1 hR
    rw [List.length_map, (HSS.out.2 L hL).1, HDZ.out]) HSQ.out ⟨HN5.out, by omega⟩ (by decide) (by omega) (by omega)).mono ?_
   rintro _ W7 ⟨b7, rfl, hb7v, hb7⟩
   have HF7 := Lib.hid (HB6.out.trans (hb7.mono HB6.out.size))
   have HO7 := Lib.hid ((HOL.out.next hb7).base HSB.out)
   have HV7 := Lib.hid (show b7 = true ↔ ent d RR = Mx.tab RR.length RR.length (Mx.ds MM) by rw [hb7v.out, HEV.out]; exact ⟨fun e => e.symm, fun e => e.symm⟩)
   clear hb7v hb7
   cases b7
   case true =>
    have hE := HV7.out.1 rfl
    have HE := Lib.hid hE
    clear hE
    go_wp2
    first
     | rw [Exit.noGoto_ret]
     | rw [Exit.noGoto_normal]
     | skip
    go_ret3
    exact ⟨A', j, c', MM, true, 0, rfl, HO7.out, Lib.hid (.inr ⟨HC.out, rfl, MM, HRD.out, .inl ⟨HE.out, rfl, rfl⟩⟩), HF7.out⟩
   case false =>
    have HE := Lib.hid (show ¬ent d RR = Mx.tab RR.length RR.length (Mx.ds MM) from fun e => by have := HV7.out.2 e; simp at this)
    go_wp2
    first
     | rw [Exit.noGoto_ret]
     | rw [Exit.noGoto_normal]
     | skip
    go_ret3
    exact ⟨none, 0, 0, [], false, 0, rfl, OwPs.nil _ _, Lib.hid (.inr ⟨HC.out, rfl, MM, HRD.out, .inr ⟨HE.out, rfl, rfl⟩⟩), HF7.out⟩
  ·have hal : a < n3 := by omega
   have hali : (a : Int) < (n3 : Int) := by omega
   clear han
   obtain ⟨wo, rfl⟩ : ∃ V, V = wr := ⟨_, rfl⟩
   have HO := Lib.hid ho
   have HBO := Lib.hid hB
   clear ho hB
   go_wp2_with fail
   go_loopw [8, 9, 10] (fun ov av tv wr => ∃ t : Nat, ov = .slice A' j c' ∧ av = .int .i64 (a : Int) ∧ tv = .int .i64 (t : Int) ∧ a ≤ t ∧ t < n3 ∧ Hid (∀ s, a ≤ s → s < t → s + 1 < n3 ∧ me d RR (s + 1) s ≠ 0) ∧ Below wo.heap.size wo wr) (fun _ _ tv _ => n3 - (intOf tv).toNat)
   case atStart => exact ⟨a, rfl, rfl, rfl, Nat.le_refl _, hal, Lib.hid fun s h1 h2 => absurd h2 (by omega), Below.refl _ _⟩
   case round =>
    obtain ⟨t, rfl, rfl, rfl, hat, htn, hon, hB5⟩ := hrel
    have htni : (t : Int) < (n3 : Int) := by omega
    have HB5 := Lib.hid hB5
    have HBW := Lib.hid (HBO.out.trans (hB5.mono HBO.out.size))
    have hwt : IntKind.i64.wrap ((t : Int) + 1) = (t : Int) + 1 := IntWalk.i64_in _ (by omega)
    clear hB5
    go_upto_region 11 with fail
    go_cut [57] from 40 to 57 (fun cv V => cv = .bool (decide (t + 1 < n3 ∧ me d RR (t + 1) t ≠ 0)) ∧ Below wo.heap.size wo V)
    case first =>
     by_cases h1 : t + 1 < n3
     ·have h1i : (t : Int) + 1 < (n3 : Int) := by omega
      obtain ⟨g, A4, n4, c4, L4, rfl, hbk, hx, ho4, hp4⟩ := oql_at (HO3.out wr HBW.out) h1
      have hn4 : n4 = n3 := by
       rw [← ho4.len]
       have e := hp4.out
       rw [ent_tab HSQ.out, HL.out, Mx.tab_row h1] at e
       injection e with e
       rw [← e]
       simp
      subst hn4
      obtain ⟨ad, s1, B1, m1, k1, s2, B2, m2, k2, x, rfl, hbk2, hx0, hx1, hx2, hx3, hq, hqx⟩ := op_at ho4 htn
      have HME := Lib.hid (show me d RR (t + 1) t = x from me_ent HSQ.out hp4.out hqx.out)
      have HQ := Lib.hid hq
      have HLN := Lib.hid (show m1 ≤ 4097 by
       rw [hq.num.len]
       exact (HF.out.sz L4 (List.mem_of_getElem? hp4.out) x (List.mem_of_getElem? hqx.out)).1)
      clear ho4 hp4 hq hqx
      go_wp2_with fail
      refine (sign_any HQ.out.num.rd (by have := HLN.out; omega)).mono ?_
      rintro _ W6 ⟨kz, rfl, hkz, hb6⟩
      have HZ := Lib.hid (show kz = 0 ↔ x = 0 by rw [hkz.out, Int.sign_eq_zero_iff_zero, Rat.num_eq_zero])
      have HBF := Lib.hid (HB5.out.trans (hb6.mono HB5.out.size))
      clear hkz hb6 hx hx0 hx1 hx2 hx3
      by_cases hk0 : kz = 0
      ·have hG := Lib.hid (show decide (t + 1 < n4 ∧ me d RR (t + 1) t ≠ 0) = false from decide_eq_false fun e => e.2 (by rw [HME.out]; exact HZ.out.1 hk0))
       subst hk0
       go_wp2_with fail
       go_meet
       exact ⟨by rw [hG.out], HBF.out⟩
      ·have hG := Lib.hid (show decide (t + 1 < n4 ∧ me d RR (t + 1) t ≠ 0) = true from decide_eq_true ⟨h1, fun e => hk0 (HZ.out.2 (by rw [← HME.out]; exact e))⟩)
       have hkb : (kz == 0) = false := by simp [hk0]
       have HK0 := Lib.hid hk0
       go_wp2_with fail
       go_meet
       exact ⟨by rw [hG.out]; simp [HK0.out], HBF.out⟩
     ·have h1i : decide ((t : Int) + 1 < (n3 : Int)) = false := by simp only [decide_eq_false_iff_not]; omega
      have h1j : ¬(t : Int) + 1 < (n3 : Int) := by omega
      have hG := Lib.hid (show decide (t + 1 < n3 ∧ me d RR (t + 1) t ≠ 0) = false from decide_eq_false fun e => h1 e.1)
      go_wp2_with fail
      go_meet
      exact ⟨by rw [hG.out], HB5.out⟩
    case rest =>
     obtain ⟨rfl, hBc⟩ := hcut
     by_cases hP : t + 1 < n3 ∧ me d RR (t + 1) t ≠ 0
     ·have HN := Lib.hid (show ∀ s, a ≤ s → s < t + 1 → s + 1 < n3 ∧ me d RR (s + 1) s ≠ 0 from fun s h1 h2 => by
       rcases Nat.lt_or_ge s t with h3 | h3
       ·exact hon.out s h1 h3
       ·rw [show s = t by omega]; exact hP)
      have h1 := hP.1
      have hg : decide (t + 1 < n3 ∧ me d RR (t + 1) t ≠ 0) = true := decide_eq_true hP
      rw [hg]
      have HBc := Lib.hid hBc
      clear hg hP hBc hon
      go_wp2
      go_roundw
      case rel => exact ⟨t + 1, rfl, rfl, by go_num, by omega, by omega, HN, HBc.out⟩
      case measure => simp [intOf]; omega
     ·have HE0 := Lib.hid (show Mx.IsEnd (me d RR) n3 a t from ⟨hat, htn, hon.out, hP⟩)
      have hg : decide (t + 1 < n3 ∧ me d RR (t + 1) t ≠ 0) = false := decide_eq_false hP
      rw [hg]
      have HBc := Lib.hid hBc
      clear hg hP hBc hon
      obtain ⟨wp, rfl⟩ : ∃ V, V = wc := ⟨_, rfl⟩
      go_wp2_with fail
      go_loopw [11, 12] (fun pv iv wr => ∃ (i m c5 : Nat) (A5 : Option Addr), pv = .slice A5 m c5 ∧ iv = .int .i64 (i : Int) ∧ a ≤ i ∧ i ≤ t + 1 ∧ OwQs wr wp.heap.size A5 m c5 ((Mx.pol (me d RR) a t).take (i - a)) ∧ Below wp.heap.size wp wr) (fun _ iv _ => t + 1 - (intOf iv).toNat)
      case atStart => exact ⟨a, 0, 0, none, rfl, rfl, Nat.le_refl _, by omega, by rw [Nat.sub_self]; exact OwQs.nil _ _, Below.refl _ _⟩
      case round =>
       obtain ⟨i, m, c5, A5, rfl, rfl, hai, hit, ho5, hB5⟩ := hrel
       by_cases hie : i = t + 1
       ·have hdle : decide ((i : Int) ≤ (t : Int)) = false := by simp only [decide_eq_false_iff_not]; omega
        have hdle2 : ¬(i : Int) ≤ (t : Int) := by omega
        have HO5 := Lib.hid (show OwQs wr wp.heap.size A5 m c5 ((Mx.pol (me d RR) a t).take (t + 1 - a)) by rw [← hie]; exact ho5)
        have HBC := Lib.hid (HBc.out.trans (hB5.mono HBc.out.size))
        have HBP := Lib.hid hB5
        have HM := Lib.hid (show m + 1 ≤ 1000 by
         have e := ho5.len
         rw [List.length_take, Mx.pol_len] at e
         omega)
        clear ho5 hB5
        go_wp2_with fail
        refine (qof_any 1 (by decide) (by decide) wr).mono ?_
        rintro _ W7 ⟨s7, A7, n7, c7, s8, A8, n8, c8, y, rfl, ho7, hy, hb7⟩
        obtain ⟨E, hE, hEl, hEn⟩ := HO5.out.next hb7
        have HE := Lib.hid hE
        have HEN := Lib.hid (And.intro hEl hEn)
        have HO8 := Lib.hid (ho7.base (b' := wp.heap.size) HBP.out.size)
        have HY := Lib.hid (show (Mx.pol (me d RR) a t).take (t + 1 - a) ++ [y] = Mx.pol (me d RR) a t by rw [hy.out]; exact pol_end _ a t)
        have HB7 := Lib.hid (HBC.out.trans (hb7.mono HBC.out.size))
        have HBQ := Lib.hid (HBP.out.trans (hb7.mono HBP.out.size))
        have HOL := Lib.hid (HO.out.next (HBC.out.trans (hb7.mono HBC.out.size)))
        clear hE hEl hEn hb7 ho7 hy
        go_wp2_with (first
         | (at_builtin; refine wpList_append_own _ rfl _ _ 30 rfl W3.heap.size 73 i1 (.slice none 0 0) 1 24 Tryz.underlying30 hjf hy0 hy1 hy2 rfl (by decide) _ _ _ rfl (HE2.out.alloc _) ⟨w1.heap.size, 0, none⟩ 1 1 [.slice A9 (m + 1) c9] rfl rfl (scell_new w1 (.slice A9 (m + 1) c9) 73) (by simp [Value.oneCell']) (by have := HJ.out; unfold maxLen; omega) (by have := HJ.out; omega) (by have := HSZ.out; simp; omega) ?_; intro v' w2 hown' hgrow _; obtain ⟨A10, c10, rfl, ho10⟩ := ps_more (e := (A9, m + 1, c9)) (L := Mx.pol (me d RR) a t) HPP.out rfl (HE2.out.alloc _) HEN2.out.1 (HEN2.out.2.next ((Below.refl _ _).alloc (Nat.le_refl _) (.cells #[.slice A9 (m + 1) c9] 73))) hown' hgrow; have HP10 := Lib.hid ho10; have HGW2 := Lib.hid hgrow; clear hown' hgrow ho10)
         | (
           at_builtin; refine wpList_append_own _ rfl _ _ 73 rfl wp.heap.size 47 i0 (.agg #[.bool false, .slice none 0 0, .bool false, .slice none 0 0]) 4 64 Tryz.underlying73 hi hz0 hz1 hz2 rfl (by decide) _ _ _ rfl (HE.out.alloc _) ⟨W7.heap.size, 0, none⟩ 1 1 [.bool s7, .slice A7 n7 c7, .bool s8, .slice A8 n8 c8] rfl rfl (qcell_new W7 (.bool s7) (.slice A7 n7 c7) (.bool s8) (.slice A8 n8 c8) 47) (by simp [Value.oneCell']) (by have := HM.out; unfold maxLen; omega) (by have := HM.out; omega) (by have := HBQ.out.size; simp at this ⊢; omega) ?_; intro v' w1 hown' hgrow _; obtain ⟨A9, c9, rfl, ho9⟩ := qs_more (e := ((s7, A7, n7, c7), (s8, A8, n8, c8))) (x := y) HO8.out rfl (HE.out.alloc _) HEN.out.1 HEN.out.2 hown' hgrow; have HP9 := Lib.hid ho9; have HGW := Lib.hid hgrow; clear hown' hgrow ho9
           have HBG := Lib.hid ((HB7.out.alloc HB7.out.size (.cells #[.bool s7, .slice A7 n7 c7, .bool s8, .slice A8 n8 c8] 47)).grown HGW.out (by have := HB7.out.size; simp; omega) (fun k e => Nat.le_trans HBc.out.size (own_block HE.out k e)))
           have HPP := Lib.hid (show OwQp w1 W3.heap.size A9 (m + 1) c9 (Mx.pol (me d RR) a t) by
            have := HP9.out
            rw [HY.out] at this
            exact this.p.base (Nat.le_trans HBO.out.size HBc.out.size))
           obtain ⟨E2, hE2, hEl2, hEn2⟩ := HO.out.next HBG.out
           have HE2 := Lib.hid hE2
           have HEN2 := Lib.hid (And.intro hEl2 hEn2)
           have HJ := Lib.hid (show j + 1 ≤ 1000 by
            have e := HO.out.len
            have e2 := hrd.out.count
            omega)
           have HRD2 := Lib.hid (Mx.IsRd.snoc hrd.out HE0.out)
           have HSZ := Lib.hid (show W3.heap.size ≤ w1.heap.size from Nat.le_trans HBO.out.size HBG.out.size)
           clear hE2 hEl2 hEn2 HE HEN))
        have hbx := HBO.out.trans (HBG.out.mono HBO.out.size)
        have HBZ := Lib.hid ((hbx.alloc hbx.size (.cells #[.slice A9 (m + 1) c9] 73)).grown HGW2.out (by have := hbx.size; simp; omega) (own_block HE2.out))
        clear hbx
        go_wp2
        go_roundw
        case rel => exact ⟨t + 1, j + 1, A10, c10, _, rfl, by go_num, by omega, HP10.out, HRD2, HBZ.out⟩
        case measure => simp [intOf]; omega
       ·have hil : i ≤ t := by omega
        have hili : (i : Int) ≤ (t : Int) := by omega
        clear hie
        obtain ⟨g, A4, n4, c4, L4, rfl, hbk, hx, ho4, hp4⟩ := oql_at (HO3.out wr (HBO.out.trans ((HBc.out.trans (hB5.mono HBc.out.size)).mono HBO.out.size))) (show i < n3 by omega)
        have hn4 : n4 = n3 := by
         rw [← ho4.len]
         have e := hp4.out
         rw [ent_tab HSQ.out, HL.out, Mx.tab_row (by omega)] at e
         injection e with e
         rw [← e]
         simp
        subst hn4
        obtain ⟨ad, s1, B1, m1, k1, s2, B2, m2, k2, x, rfl, hbk2, hx0, hx1, hx2, hx3, hq, hqx⟩ := op_at ho4 htn
        have HME := Lib.hid (show me d RR i t = x from me_ent HSQ.out hp4.out hqx.out)
        have HQ := Lib.hid hq
        have HLN := Lib.hid (HF.out.sz L4 (List.mem_of_getElem? hp4.out) x (List.mem_of_getElem? hqx.out))
        have HB5 := Lib.hid hB5
        have HO5 := Lib.hid ho5
        have hini : (i : Int) < (n4 : Int) := by omega
        have HM := Lib.hid (show m + 1 ≤ 1000 by
         have e := ho5.len
         rw [List.length_take, Mx.pol_len] at e
         omega)
        clear ho4 hp4 hq hqx hB5 ho5
        go_wp2_with fail
        refine (qneg_any (N := 4097) HQ.out.num.rd HQ.out.den.rd ⟨by rw [HQ.out.num.len]; exact HLN.out.1, by rw [HQ.out.den.len]; exact HLN.out.2⟩ (by decide)).mono ?_
        rintro _ W7 ⟨s7, A7, n7, c7, y7, s8, A8, n8, c8, y8, kk, rfl, ho7, ho8, hy, hb7⟩
        obtain ⟨e1, e2, rfl⟩ : y7 = (-x).num ∧ y8 = ((-x).den : Int) ∧ kk = 0 := by
         rcases hy.out with ⟨_, f1, f2, f3⟩ | ⟨f0, _⟩
         ·rw [Rat.num_divInt_den] at f1 f2; exact ⟨f1, f2, f3⟩
         ·exact absurd (qden_ne x) f0
        subst e1 e2
        obtain ⟨W8, HW8⟩ : ∃ W, W = W7.alloc (.cells #[.bool s7, .slice A7 n7 c7, .bool s8, .slice A8 n8 c8] 47) := ⟨_, rfl⟩
        have hb8 : Below W7.heap.size W7 W8 := by rw [HW8]; exact (Below.refl _ _).alloc (Nat.le_refl _) _
        have hB8 := HB5.out.trans ((hb7.trans (hb8.mono hb7.size)).mono HB5.out.size)
        obtain ⟨E, hE, hEl, hEn⟩ := (HO5.out.next hb7).next hb8
        have HO8 := Lib.hid (show OwQ W8 wp.heap.size s7 A7 n7 c7 s8 A8 n8 c8 (-x) from ⟨(ho7.next hb8).base HB5.out.size, (ho8.next hb8).base HB5.out.size⟩)
        rw [HW8] at hE hB8 hEn
        rw [HW8] at HO8
        have HE := Lib.hid hE
        have HEN := Lib.hid (And.intro hEl hEn)
        have HY := Lib.hid (show (Mx.pol (me d RR) a t).take (i - a) ++ [-x] = (Mx.pol (me d RR) a t).take (i + 1 - a) by rw [← HME.out]; exact pol_take hai hil)
        have HB8 := Lib.hid hB8
        have hwi : IntKind.i64.wrap ((i : Int) + 1) = (i : Int) + 1 := IntWalk.i64_in _ (by omega)
        clear hE hEl hEn hb7 ho7 ho8 hb8 hB8 hy hx hx0 hx1 hx2 hx3
        clear HW8
        go_wp2_with (at_builtin; refine wpList_append_own _ rfl _ _ 73 rfl wp.heap.size 47 i0 (.agg #[.bool false, .slice none 0 0, .bool false, .slice none 0 0]) 4 64 Tryz.underlying73 hi hz0 hz1 hz2 rfl (by decide) _ _ _ rfl (HE.out.alloc _) ⟨W7.heap.size + 1, 0, none⟩ 1 1 [.bool s7, .slice A7 n7 c7, .bool s8, .slice A8 n8 c8] rfl rfl (by simpa using qcell_new (W7.alloc (.cells #[.bool s7, .slice A7 n7 c7, .bool s8, .slice A8 n8 c8] 47)) (.bool s7) (.slice A7 n7 c7) (.bool s8) (.slice A8 n8 c8) 47) (by simp [Value.oneCell']) (by have := HM.out; unfold maxLen; omega) (by have := HM.out; omega) (by have := HB8.out.size; simp at this ⊢; omega) ?_; intro v' w1 hown' hgrow _)
        obtain ⟨A9, c9, rfl, ho9⟩ := qs_more (e := ((s7, A7, n7, c7), (s8, A8, n8, c8))) (x := -x) HO8.out rfl (HE.out.alloc _) HEN.out.1 HEN.out.2 hown' hgrow
        have HB9 := Lib.hid ((HB8.out.alloc HB8.out.size (.cells #[.bool s7, .slice A7 n7 c7, .bool s8, .slice A8 n8 c8] 47)).grown hgrow (by have := HB8.out.size; simp at this ⊢; omega) (own_block HE.out))
        have HO9 := Lib.hid (show OwQs w1 wp.heap.size A9 (m + 1) c9 ((Mx.pol (me d RR) a t).take (i + 1 - a)) by rw [← HY.out]; exact ho9)
        clear hown' hgrow HE HEN HO8 ho9
        go_wp2
        go_roundw
        case rel => exact ⟨i + 1, m + 1, c9, A9, rfl, by go_num, by omega, by omega, HO9.out, HB9.out⟩
        case measure => simp [intOf]; omega
end Go.Proofs.YtjnklbfhelbjgaaGreat
