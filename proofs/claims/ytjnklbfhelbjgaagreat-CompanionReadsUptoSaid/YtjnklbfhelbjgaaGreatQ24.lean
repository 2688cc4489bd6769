/- companion: chain, IsForm, Commuting. -/
import Derived.Test.YtjnklbfhelbjgaaGreatQ21
import Derived.Test.YtjnklbfhelbjgaaGreatQ23
import Derived.Test.YtjnklbfhelbjgaaGreatQ16
namespace Go.Proofs.YtjnklbfhelbjgaaGreat
open Go.RowKit Go.IntWalk
attribute [local go_sem ↓] Go.wp_at_zero Go.wp_at_succ
theorem qsz_pr {N : Nat} : ∀ L : List Rat, (∀ x ∈ L, Qs N x) → qsz (L.map pr) ≤ L.length * (2 * N)
 | [], _ => by simp [qsz]
 | x :: L, h => by
   have ih := qsz_pr L fun y hy => h y (List.mem_cons_of_mem _ hy)
   have h1 := h x (List.mem_cons_self ..)
   have e1 : Zz.zl (pr x).1 ≤ N := h1.1
   have e2 : Zz.zl (pr x).2 ≤ N := h1.2
   rw [List.map_cons, qsz_cons, List.length_cons, Nat.succ_mul]
   omega
theorem nq_pr {L : List Rat} (h : Pq.Nz L) : nq (L.map pr) = L := by
 unfold nq
 rw [map_qval_pr]
 exact Pq.nrm_id h
theorem good_div {N : Nat} {LL : List (List Rat)} (h : Good N LL) (hN : N ≤ 1000000) {p q : List Rat} (hp : p ∈ LL) (hq : q ∈ LL) : DivSz 60000000000 q p := by
 obtain ⟨Z, D, hZ⟩ := com_list (q.map pr) (fun x hx => by
  obtain ⟨y, _, rfl⟩ := List.mem_map.1 hx
  exact pr_ne y)
 obtain ⟨Y, E, hY⟩ := com_list (p.map pr) (fun x hx => by
  obtain ⟨y, _, rfl⟩ := List.mem_map.1 hx
  exact pr_ne y)
 rw [map_qval_pr] at hZ hY
 have e1 := qsz_pr q (h.sz q hq)
 have e2 := qsz_pr p (h.sz p hp)
 have l1 := h.le q hq
 have l2 := h.le p hp
 have l3 := h.len p hp
 have e3 : q.length * (2 * N) ≤ 25 * (2 * 1000000) := Nat.mul_le_mul l1 (by omega)
 have e4 : p.length * (2 * N) ≤ 25 * (2 * 1000000) := Nat.mul_le_mul l2 (by omega)
 refine div_sz hZ hY (h.nz p hp) (by omega) (by omega) ?_
 have e5 : q.length * (1 + qsz (p.map pr) + 1) ≤ 25 * 50000002 := Nat.mul_le_mul l1 (by omega)
 omega
def Chn (LL : List (List Rat)) : Prop := ∀ i, i + 1 < LL.length → Dvd (LL.getD i []) (LL.getD (i + 1) [])
set_option maxRecDepth 100000 in
set_option maxHeartbeats 8000000 in
theorem chain_any {N b : Nat} {A : Option Addr} {n c : Nat} {LL : List (List Rat)} {w : World} (h : OwPs w b A n c LL) (hg : Good N LL) (hN : N ≤ 1000000) (h1N : 1 ≤ N) :
  Calls Tryz.prog 41 #[.slice A n c] w (RetBo (Chn LL) w) := by
 have HO := Lib.hid (show ∀ W, Below w.heap.size w W → OwPs W b A n c LL from fun W hb => h.next hb)
 have HL := Lib.hid h.len
 have HG := Lib.hid hg
 have hn24 : n ≤ 24 := by rw [← h.len]; exact hg.count
 clear h hg
 go_enter Tryz.func41, Tryz.ntmps41
 go_wp2_with fail
 go_loopw [3] (fun iv wr => ∃ (i y : Nat), iv = .int .i64 (y : Int) ∧ y = i + 1 ∧ (i + 1 ≤ n ∨ i = 0) ∧ Hid (∀ j, j < i → Dvd (LL.getD j []) (LL.getD (j + 1) [])) ∧ Below w.heap.size w wr) (fun iv _ => n + 1 - (intOf iv).toNat)
 case atStart => exact ⟨0, 1, by go_num, rfl, .inr rfl, Lib.hid fun j hj => absurd hj (Nat.not_lt_zero _), Below.refl _ _⟩
 case round =>
  obtain ⟨i, y, rfl, hyi, hi, hall, hB⟩ := hrel
  by_cases hin : i + 1 < n
  case neg =>
   have hnl : decide ((y : Int) < (n : Int)) = false := by simp only [decide_eq_false_iff_not]; omega
   have hnl2 : ¬(y : Int) < (n : Int) := by omega
   have HC := Lib.hid (show Chn LL from fun j hj => hall.out j (by rw [HL.out] at hj; omega))
   have HF := Lib.hid hB
   clear hB hall
   go_wp2
   go_ret
   exact ⟨true, rfl, Lib.hid ⟨fun _ => HC.out, fun _ => rfl⟩, HF.out⟩
  case pos =>
   have hini : (y : Int) < (n : Int) := by omega
   have hini0 : (i : Int) < (n : Int) := by omega
   have hym : (y : Int) - 1 = (i : Int) := by omega
   have HYI := Lib.hid hyi
   obtain ⟨g, A1, n1, c1, L1, rfl, hbk, hx, ho1, hp1⟩ := opl_at (HO.out wr hB) (show i < n by omega)
   obtain ⟨g', A2, n2, c2, L2, e, _, hy, ho2, hp2⟩ := opl_at (HO.out wr hB) hin
   injection e with e
   injection e with e _ _
   subst e
   have hm1 := List.mem_of_getElem? hp1.out
   have hm2 := List.mem_of_getElem? hp2.out
   have HR := Lib.hid (show ∀ W, Below wr.heap.size wr W → RdQs W W.heap.size N A1 n1 c1 (L1.map pr) ∧ RdQs W W.heap.size N A2 n2 c2 (L2.map pr) from fun W hb => ⟨(ho1.next hb).rd (HG.out.sz L1 hm1), (ho2.next hb).rd (HG.out.sz L2 hm2)⟩)
   have HNN := Lib.hid (show n1 ≤ 25 ∧ n2 ≤ 25 from ⟨by rw [← ho1.len]; exact HG.out.le L1 hm1, by rw [← ho2.len]; exact HG.out.le L2 hm2⟩)
   have HDS := Lib.hid (good_div HG.out hN hm1 hm2)
   have HNZ := Lib.hid (And.intro (nq_pr (HG.out.nz L1 hm1)) (nq_pr (HG.out.nz L2 hm2)))
   have HV := Lib.hid (show LL.getD i [] = L1 ∧ LL.getD (i + 1) [] = L2 from ⟨by rw [List.getD_eq_getElem?_getD, hp1.out]; rfl, by rw [List.getD_eq_getElem?_getD, hp2.out]; rfl⟩)
   have HCC := Lib.hid (show ∀ W, Below wr.heap.size wr W → W.cell? ⟨g, i, none⟩ = some (.slice A1 n1 c1) ∧ W.cell? ⟨g, y, none⟩ = some (.slice A2 n2 c2) from fun W hb => ⟨(hb.cell (p := ⟨g, i, none⟩) hbk).trans hx, by rw [hyi]; exact (hb.cell (p := ⟨g, i + 1, none⟩) hbk).trans hy⟩)
   have HB := Lib.hid hB
   have HB6 := Lib.hid (Below.refl wr.heap.size wr).drew
   have hw1 : IntKind.i64.wrap (i : Int) = (i : Int) := IntWalk.i64_in _ (by omega)
   have hw2 : IntKind.i64.wrap ((y : Int) + 1) = (y : Int) + 1 := IntWalk.i64_in _ (by omega)
   rw [← hyi] at hy
   clear ho1 ho2 hp1 hp2 hm1 hm2 hB hi hyi
   go_upto_region 4 with fail
   go_region_held3 (fun W => W.cell? ⟨g, i, none⟩ = some (.slice A1 n1 c1) ∧ W.cell? ⟨g, y, none⟩ = some (.slice A2 n2 c2))
    (first | exact HCC.out _ HB9.out | exact HCC.out _ HB6.out)
    ((go_at_call 94; refine (qDivides_any (N' := 60000000000) (HR.out _ HB6.out).1 (HR.out _ HB6.out).2 (by have := HNN.out; omega) (by have := HNN.out; omega) (by omega) (Nat.le_refl _) h1N (fun _ _ _ => by rw [HNZ.out.1, HNZ.out.2]; exact HDS.out.rest)).mono ?_; rintro _ W9 ⟨v9, kk9, rfl, hv9, hb9⟩; have HB9 := Lib.hid (HB6.out.trans (hb9.mono HB6.out.size)); have HV9 := Lib.hid (show v9 = true ↔ Dvd L1 L2 by rw [HNZ.out.1, HNZ.out.2] at hv9; exact hv9.out.elim (fun e => e.2.1) (fun e => absurd ⟨fun p hp => by obtain ⟨x, _, rfl⟩ := List.mem_map.1 hp; exact pr_ne x, fun p hp => by obtain ⟨x, _, rfl⟩ := List.mem_map.1 hp; exact pr_ne x⟩ e.1))))
   all_goals
    have HF := Lib.hid (HB.out.trans (HB9.out.mono HB.out.size))
    clear hx hy hv9 hb9
    cases v9
    case true =>
     have HA := Lib.hid (show ∀ j, j < i + 1 → Dvd (LL.getD j []) (LL.getD (j + 1) []) from fun j hj => by
      rcases Nat.lt_or_ge j i with h1 | h1
      ·exact hall.out j h1
      ·rw [show j = i by omega, HV.out.1, HV.out.2]
       exact HV9.out.1 (by first | rfl | trivial))
     clear hall HV9
     go_wp2
     go_roundw
     case rel => exact ⟨i + 1, y + 1, by go_num, by rw [HYI.out], .inl (by omega), HA, HF.out⟩
     case measure => simp [intOf]; omega
    case false =>
     have HN := Lib.hid (show ¬Chn LL from fun e => by
      have e1 := e i (by rw [HL.out]; exact hin)
      rw [HV.out.1, HV.out.2] at e1
      have := HV9.out.2 e1
      simp at this)
     clear hall HV9
     go_wp2
     go_ret
     exact ⟨false, rfl, Lib.hid ⟨fun e => by simp at e, fun e => absurd e HN.out⟩, HF.out⟩
end Go.Proofs.YtjnklbfhelbjgaaGreat

/- companion: IsForm, Commuting. -/
namespace Go.Proofs.YtjnklbfhelbjgaaGreat
open Go.RowKit Go.IntWalk
attribute [local go_sem ↓] Go.wp_at_zero Go.wp_at_succ
def FmV (d : Int) (RR : List RawRow) (b : Bool) (kk : Int) : Prop :=
 (fitv d RR ≠ 0 ∧ b = false ∧ kk = fitv d RR) ∨ (fitv d RR = 0 ∧ kk = 0 ∧ ∃ MM, Mx.IsRd (me d RR) RR.length RR.length MM ∧ (b = true ↔ ent d RR = Mx.tab RR.length RR.length (Mx.ds MM) ∧ Chn MM))
set_option maxRecDepth 100000 in
set_option maxHeartbeats 8000000 in
theorem isForm_any {N K : Nat} {s : Bool} {A G : Option Addr} {n c r k : Nat} {d : Int} {RR : List RawRow} {w : World} (h : RdZ w w.heap.size s A n c d) (h' : RdRss w w.heap.size N K G r k RR) (hn : n ≤ N) (hN : N ≤ 100000000000) (h1N : 1 ≤ N) (hr : r ≤ 1048576) (hK : K ≤ 1048576) (hrk : Evn RR → r * colsOf RR ≤ 1048576) :
  Calls Tryz.prog 9 #[.agg #[.bool s, .slice A n c, .slice G r k]] w (fun e w' => ∃ (b : Bool) (kk : Int), e = .returned (.tuple #[.bool b, .int .i64 kk]) ∧ Hid (FmV d RR b kk) ∧ Below w.heap.size w w') := by
 obtain ⟨W1, HW1⟩ : ∃ W, W = w.alloc (.cells #[.bool s, .slice A n c, .slice G r k] 28) := ⟨_, rfl⟩
 have hB : Below w.heap.size w W1 := by rw [HW1]; exact (Below.refl _ _).alloc (Nat.le_refl _) _
 have HB := Lib.hid hB
 have HX := Lib.hid (And.intro (h.next hB) (h'.next hB))
 have HRK := Lib.hid hrk
 have HW1 := Lib.hid HW1
 clear h h' hB hrk
 go_enter Tryz.func9, Tryz.ntmps9
 go_wp2_with fail
 rw [← HW1.out]
 clear HW1
 clear HW1
 refine (cRead_any HX.out.1 HX.out.2 hn hN h1N hr hK HRK.out).mono ?_
 rintro _ W2 ⟨A2, n2, c2, LL, b, kk, rfl, ho, hv, hb2⟩
 have HB2 := Lib.hid (HB.out.trans (hb2.mono HB.out.size))
 have HO := Lib.hid ho
 have HV := Lib.hid hv.out
 clear ho hv hb2
 cases b
 case false =>
  have HF := Lib.hid (show FmV d RR false kk from by
   rcases HV.out with ⟨e1, _, _, e4⟩ | ⟨e1, e2, MM, e3, e4⟩
   ·exact .inl ⟨e1, rfl, e4⟩
   ·refine .inr ⟨e1, e2, MM, e3, ⟨fun e => by simp at e, fun e => ?_⟩⟩
    rcases e4 with ⟨_, e5, _⟩ | ⟨e5, _⟩
    ·simp at e5
    ·exact absurd e.1 e5)
  go_wp2
  go_ret2
  exact ⟨false, kk, rfl, HF, HB2.out⟩
 case true =>
  have HT := Lib.hid (show fitv d RR = 0 ∧ kk = 0 ∧ Mx.IsRd (me d RR) RR.length RR.length LL ∧ ent d RR = Mx.tab RR.length RR.length (Mx.ds LL) by
   rcases HV.out with ⟨_, _, e3, _⟩ | ⟨e1, e2, MM, e3, e4⟩
   ·simp at e3
   ·rcases e4 with ⟨e5, _, e6⟩ | ⟨_, e5, _⟩
    ·rw [e6]; exact ⟨e1, e2, e3, e5⟩
    ·simp at e5)
  have HG := Lib.hid (rd_good (fits_of HT.out.1) HT.out.2.2.1)
  go_wp2_with fail
  refine (chain_any HO.out HG.out (by decide) (by decide)).mono ?_
  rintro _ W3 ⟨b3, rfl, hb3v, hb3⟩
  have HF := Lib.hid (show FmV d RR b3 kk from .inr ⟨HT.out.1, HT.out.2.1, LL, HT.out.2.2.1, by rw [hb3v.out]; exact ⟨fun e => ⟨HT.out.2.2.2, e⟩, fun e => e.2⟩⟩)
  have HB3 := Lib.hid (HB2.out.trans (hb3.mono HB2.out.size))
  clear hb3v hb3
  go_wp2
  go_ret2
  exact ⟨b3, kk, rfl, HF, HB3.out⟩
def cmS (LL : List (List Rat)) (j : Nat) : Int := ((List.range j).map fun i => (2 * ((LL.length : Int) - i) - 1) * (((LL.getD i []).length : Int) - 1)).sum
theorem cmS_succ (LL : List (List Rat)) (j : Nat) : cmS LL (j + 1) = cmS LL j + (2 * ((LL.length : Int) - j) - 1) * (((LL.getD j []).length : Int) - 1) := by
 unfold cmS
 rw [List.range_succ, List.map_append, List.sum_append]
 simp
theorem cmS_term {N : Nat} {LL : List (List Rat)} (h : Good N LL) {j : Nat} (hj : j < LL.length) : 0 ≤ (2 * ((LL.length : Int) - j) - 1) * (((LL.getD j []).length : Int) - 1) ∧ (2 * ((LL.length : Int) - j) - 1) * (((LL.getD j []).length : Int) - 1) ≤ 1128 := by
 have e : LL.getD j [] ∈ LL := by
  rw [List.getD_eq_getElem?_getD, List.getElem?_eq_getElem hj]
  exact List.getElem_mem hj
 have h1 := h.len _ e
 have h2 := h.le _ e
 have h3 := h.count
 obtain ⟨p, hp⟩ : ∃ p : Nat, (p : Int) = 2 * ((LL.length : Int) - j) - 1 := ⟨2 * (LL.length - j) - 1, by omega⟩
 obtain ⟨q, hq⟩ : ∃ q : Nat, (q : Int) = ((LL.getD j []).length : Int) - 1 := ⟨(LL.getD j []).length - 1, by omega⟩
 rw [← hp, ← hq]
 have h4 : p * q ≤ 47 * 24 := Nat.mul_le_mul (by omega) (by omega)
 rw [← Int.natCast_mul]
 omega
theorem cmS_le {N : Nat} {LL : List (List Rat)} (h : Good N LL) : ∀ j, j ≤ LL.length → 0 ≤ cmS LL j ∧ cmS LL j ≤ j * 1128
 | 0, _ => by simp [cmS]
 | j + 1, hj => by
   have ih := cmS_le h j (by omega)
   have ht := cmS_term h (j := j) (by omega)
   rw [cmS_succ]
   omega
set_option maxRecDepth 100000 in
set_option maxHeartbeats 8000000 in
theorem commuting_any {N K : Nat} {A : Option Addr} {n c : Nat} {LL : List (List Rat)} {w : World} (h : RdPs w w.heap.size N K A n c (LL.map fun L => L.map pr)) (hg : Good N LL) (hN : N ≤ 1000000) (h1N : 1 ≤ N) (hc : Chn LL) :
  Calls Tryz.prog 49 #[.slice A n c] w (RetKE (fun v kk => v = cmS LL LL.length ∧ kk = 0) w) := by
 have HG := Lib.hid hg
 have HC := Lib.hid hc
 have HL := Lib.hid (show LL.length = n by rw [← h.len, List.length_map])
 have H := Lib.hid h
 clear h hg hc
 go_enter Tryz.func49, Tryz.ntmps49
 go_wp2_with fail
 refine (monics_any H.out HG.out hN h1N).mono ?_
 rintro _ W2 ⟨A2, n2, c2, rfl, ho2, hb2⟩
 have hn2 : n2 = n := by rw [← ho2.len, HL.out]
 subst hn2
 have hn24 : n2 ≤ 24 := by rw [← HL.out]; exact HG.out.count
 have HO2 := Lib.hid ho2
 have HB2 := Lib.hid hb2
 clear ho2 hb2
 go_wp2_with fail
 refine (chain_any HO2.out HG.out hN h1N).mono ?_
 rintro _ W3 ⟨b3, rfl, hb3v, hb3⟩
 obtain rfl : b3 = true := hb3v.out.2 HC.out
 have HB3 := Lib.hid (HB2.out.trans (hb3.mono HB2.out.size))
 have HO3 := Lib.hid (show ∀ W, Below W3.heap.size W3 W → OwPs W w.heap.size A2 n2 c2 LL from fun W hb => (HO2.out.next hb3).next hb)
 clear hb3v hb3
 go_wp2_with fail
 go_loopw [5, 21] (fun nv iv wr => ∃ (t : Nat) (v : Int), nv = .int .i64 v ∧ iv = .int .i64 (t : Int) ∧ t ≤ n2 ∧ Hid (v = cmS LL t) ∧ Below W3.heap.size W3 wr) (fun _ iv _ => n2 - (intOf iv).toNat)
 case atStart => exact ⟨0, 0, rfl, rfl, Nat.zero_le _, Lib.hid rfl, Below.refl _ _⟩
 case round =>
  obtain ⟨t, v, rfl, rfl, ht, hv, hB⟩ := hrel
  by_cases htn : t = n2
  ·have HV := Lib.hid (show v = cmS LL LL.length by rw [hv.out, HL.out, htn])
   have HF := Lib.hid (HB3.out.trans (hB.mono HB3.out.size))
   subst htn
   clear hB hv
   go_wp2
   go_ret2
   exact ⟨v, 0, rfl, Lib.hid ⟨HV.out, rfl⟩, HF.out⟩
  ·have htl : t < n2 := by omega
   have htli : (t : Int) < (n2 : Int) := by omega
   clear htn
   obtain ⟨g, A1, n1, c1, L1, rfl, hbk, hx, ho1, hp1⟩ := opl_at (HO3.out wr hB) htl
   have hm1 := List.mem_of_getElem? hp1.out
   have hlen := ho1.len
   have h2 := HG.out.len L1 hm1
   have h25 := HG.out.le L1 hm1
   have hgd : LL.getD t [] = L1 := by rw [List.getD_eq_getElem?_getD, hp1.out]; rfl
   have ht1 := cmS_term HG.out (j := t) (by rw [HL.out]; exact htl)
   have hs1 := cmS_succ LL t
   have hle := cmS_le HG.out t (by rw [HL.out]; omega)
   rw [hgd, hlen, HL.out] at ht1 hs1
   obtain ⟨m, rfl⟩ : ∃ m, n1 = m + 1 := ⟨n1 - 1, by omega⟩
   have hmm : ((m + 1 : Nat) : Int) - 1 = (m : Int) := by omega
   rw [hmm] at ht1 hs1
   obtain ⟨u, hu⟩ : ∃ u : Int, u = (2 * ((n2 : Int) - t) - 1) * (m : Int) := ⟨_, rfl⟩
   rw [← hu] at ht1 hs1
   have HVN := Lib.hid (show v + u = cmS LL (t + 1) by rw [hs1, hv.out])
   have hvb : 0 ≤ v ∧ v ≤ 27072 := by
    rw [hv.out]
    have : (t : Int) * 1128 ≤ 24 * 1128 := by omega
    omega
   have w1 : IntKind.i64.wrap ((n2 : Int) - (t : Int)) = (n2 : Int) - (t : Int) := IntWalk.i64_in _ (by omega)
   have w2 : IntKind.i64.wrap (2 * ((n2 : Int) - (t : Int))) = 2 * ((n2 : Int) - (t : Int)) := IntWalk.i64_in _ (by omega)
   have w3 : IntKind.i64.wrap (2 * ((n2 : Int) - (t : Int)) - 1) = 2 * ((n2 : Int) - (t : Int)) - 1 := IntWalk.i64_in _ (by omega)
   have w4 : IntKind.i64.wrap (m : Int) = (m : Int) := IntWalk.i64_in _ (by omega)
   have w5 : IntKind.i64.wrap u = u := IntWalk.i64_in _ (by omega)
   have w6 : IntKind.i64.wrap (v + u) = v + u := IntWalk.i64_in _ (by omega)
   have hu' := hu.symm
   have HB := Lib.hid hB
   clear hB ho1 hp1 hm1 hlen h2 h25 hgd ht1 hs1 hle hv hu hmm
   go_wp2
   go_roundw
   case rel => exact ⟨t + 1, v + u, rfl, by go_num, by omega, HVN, HB.out⟩
   case measure => simp [intOf]; omega
end Go.Proofs.YtjnklbfhelbjgaaGreat

/- simileref03.Lcm at positive integers. -/
namespace Go.Proofs.YtjnklbfhelbjgaaGreat
open Go.RowKit Go.IntWalk
attribute [local go_sem ↓] Go.wp_at_zero Go.wp_at_succ
abbrev lcF (L : List Int) : Int := L.foldl (fun (g x : Int) => ((Nat.lcm g.natAbs x.natAbs : Nat) : Int)) 1
theorem lcm_valP {y x : Int} (hy : 0 < y) : y * ((x.natAbs : Int).tdiv (Int.gcd y x : Int)) = ((Nat.lcm y.natAbs x.natAbs : Nat) : Int) := by
 have h := lcm_val x y
 rw [Int.gcd_comm, show ((y.natAbs : Nat) : Int) = y by omega, Nat.lcm_comm] at h
 rw [← h, Int.mul_comm]
set_option maxRecDepth 100000 in
set_option maxHeartbeats 8000000 in
theorem rLcm_any {N M : Nat} {A : Option Addr} {n c : Nat} {L : List Int} {w : World} (h : RdZs w w.heap.size N A n c L) (hp : ∀ x ∈ L, 0 < x) (hN : N ≤ 1000000000000) (hM : M ≤ 1000000000000) (hS : ∀ j, Zz.zl (lcF (L.take j)) ≤ M) :
  Calls Tryz.prog 177 #[.slice A n c] w (RetI (lcF L) w) := by
 have HLEN := Lib.hid h.len
 have HP := Lib.hid hp
 have HSZ := Lib.hid hS
 clear hp hS
 have hn48 : n ≤ 9223372036854775807 := by
  have h1 := h.mx
  have h2 := h.le
  unfold maxLen at h1
  omega
 obtain ⟨W1, HW1⟩ : ∃ W, W = w.alloc (.cells #[.bool false, .slice none 0 0] 25) := ⟨_, rfl⟩
 have hR : ZC W1 w.heap.size false none 0 0 := by rw [HW1]; exact ZC.new w false none 0 0
 have hB : Below w.heap.size w W1 := by rw [HW1]; exact (Below.refl _ _).alloc (Nat.le_refl _) _
 have HW1 := Lib.hid HW1
 go_enter Tryz.func177, Tryz.ntmps177
 go_wp2_with fail
 rw [← HW1.out]
 clear HW1
 clear HW1
 refine (rIOf_any 1 (by decide) (by decide) W1).mono ?_
 rintro _ W2 ⟨s2, A2, n2, c2, y2, rfl, ho2, hy2, hb2⟩
 obtain rfl : y2 = 1 := hy2.out
 obtain ⟨W3, HW3⟩ : ∃ W, W = W2.alloc (.cells #[.bool s2, .slice A2 n2 c2] 25) := ⟨_, rfl⟩
 have hb3 : Below W2.heap.size W2 W3 := by rw [HW3]; exact (Below.refl _ _).alloc (Nat.le_refl _) _
 have hb13 := hb2.trans (hb3.mono hb2.size)
 have hC : ZC W3 W2.heap.size s2 A2 n2 c2 := by rw [HW3]; exact ZC.new W2 s2 A2 n2 c2
 have hR3 := hR.next hb13
 have hB3 := hB.trans (hb13.mono hB.size)
 have ho3 := ho2.next hb3
 have HGR := Lib.hid (show w.heap.size < W1.heap.size ∧ W1.heap.size ≤ W2.heap.size from ⟨hR.lt, hb2.size⟩)
 have HG3 := Lib.hid (show W2.heap.size < W3.heap.size from hC.lt)
 have HW3 := Lib.hid HW3
 clear hR hB hb2 hb3 hb13 ho2 hy2
 obtain ⟨gm, hgm⟩ : ∃ g, g = W2.heap.size := ⟨_, rfl⟩
 go_wp2_with fail
 rw [← HW3.out]
 clear HW3
 clear HW3
 rw [← hgm] at hC HG3 HGR ⊢
 clear hgm
 go_loopw [11] (fun iv wr => ∃ (j : Nat) (s : Bool) (A' : Option Addr) (n' c' : Nat) (y : Int), iv = .int .i64 j ∧ j ≤ n ∧ ZC wr gm s A' n' c' ∧ ZC wr w.heap.size false none 0 0 ∧ Hid (W3.heap.size ≤ wr.heap.size) ∧ OwZ wr W1.heap.size s A' n' c' y ∧ Hid (y = lcF (L.take j) ∧ 0 < y) ∧ Below w.heap.size w wr) (fun iv _ => n - (intOf iv).toNat)
 case atStart => exact ⟨0, s2, A2, n2, c2, 1, rfl, Nat.zero_le _, hC, hR3, Lib.hid (Nat.le_refl _), ho3, Lib.hid ⟨rfl, by decide⟩, hB3⟩
 case round =>
  clear hC hR3 ho3 hB3
  obtain ⟨j, s, A', n', c', y, rfl, hj, hZ, hR, HSW, ho, hy, hB⟩ := hrel
  by_cases hjn : j = n
  ·subst hjn
   have hc0 := hZ.c0
   have hc1 := hZ.c1
   have hr0 := hR.c0
   have hr1 := hR.c1
   have hf0 := hR.fz 0
   have hf1 := hR.fz 1
   have HZ5 := Lib.hid (hR.store s A' n' c')
   have HO5 := Lib.hid (((ho.keep (keep_set2 hR (.bool s) (.slice A' n' c')))).base (b' := w.heap.size) (Nat.le_of_lt HGR.out.1))
   have HB5 := Lib.hid (below_put2 hB (Nat.le_refl w.heap.size) (.bool s) (.slice A' n' c'))
   go_wp2
   generalize (wr.setCell ⟨w.heap.size, 0, none⟩ (.bool s)).setCell ⟨w.heap.size, 1, none⟩ (.slice A' n' c') = W5 at *
   exact bodyPost_ret (by simp [results, Tryz.results177, go_sem, HZ5.out.c0, HZ5.out.c1]) rfl ⟨s, A', n', c', y, rfl, HO5.out, Lib.hid (by rw [hy.out.1, List.take_of_length_le (by rw [HLEN.out]; exact Nat.le_refl _)]), HB5.out⟩
  ·have hjl : j < n := by omega
   clear hjn
   have hjl' : (j : Int) < (n : Int) := by omega
   obtain ⟨ad, s1, A1, n1, c1, x, rfl, hbk, hx0, hx1, hr, hn1, hp⟩ := zs_at h hjl
   obtain ⟨hy0, hy1⟩ := zs_cells hB hbk hx0 hx1
   have HXP := Lib.hid (show 0 < x from HP.out x (List.mem_of_getElem? hp.out))
   obtain ⟨W4, HW4⟩ : ∃ W, W = wr.alloc (.cells #[.bool s1, .slice A1 n1 c1] 25) := ⟨_, rfl⟩
   have hX : ZC W4 wr.heap.size s1 A1 n1 c1 := by rw [HW4]; exact ZC.new wr s1 A1 n1 c1
   have hb4 : Below wr.heap.size wr W4 := by rw [HW4]; exact (Below.refl wr.heap.size wr).alloc (Nat.le_refl _) _
   have hB4 := hB.trans (hb4.mono hB.size)
   have a0 := hX.c0
   have a1 := hX.c1
   rw [HW4] at a0 a1
   have HNY := Lib.hid (show n' ≤ 1000000000000 ∧ n1 ≤ 1000000000000 from ⟨by rw [ho.len, hy.out.1]; exact Nat.le_trans (HSZ.out j) hM, Nat.le_trans hn1 hN⟩)
   have HX4 := Lib.hid (And.intro hX (hZ.next hb4))
   have HR4 := Lib.hid (And.intro (hR.next hb4) (And.intro (ho.next hb4) (hr.next hB4)))
   have HB4 := Lib.hid hB4
   have HS4 := Lib.hid (show W3.heap.size ≤ wr.heap.size ∧ wr.heap.size < W4.heap.size from ⟨HSW.out, hX.lt⟩)
   have HW4 := Lib.hid HW4
   clear hX hb4 hB4 hZ hR ho hr hB hx0 hx1
   go_wp2_with fail
   rw [← HW4.out]
   clear HW4 a0 a1 hy0 hy1
   clear HW4
   generalize wr.heap.size = gx at *
   refine (rISign_any HR4.out.2.2 (by have := HNY.out; omega)).mono ?_
   rintro _ V ⟨k, rfl, hk, hbv⟩
   have hkb : (k == 0) = false := by
    have e := hk.out
    rw [Int.sign_eq_one_of_pos HXP.out] at e
    rw [e]
    rfl
   have HBV := Lib.hid (HB4.out.trans (hbv.mono HB4.out.size))
   have HSV := Lib.hid (show W4.heap.size ≤ V.heap.size from hbv.size)
   have HFV := Lib.hid (show ∀ W : World, Below V.heap.size V W → (ZC W gm s A' n' c' ∧ ZC W gx s1 A1 n1 c1) ∧ ZC W w.heap.size false none 0 0 ∧ OwZ W W1.heap.size s A' n' c' y ∧ RdZ W W.heap.size s1 A1 n1 c1 x from fun W hb => ⟨⟨(HX4.out.2.next hbv).next hb, (HX4.out.1.next hbv).next hb⟩, (HR4.out.1.next hbv).next hb, (HR4.out.2.1.next hbv).next hb, (HR4.out.2.2.next hbv).next hb⟩)
   clear hbv hk HX4 HR4 HB4
   go_upto_region 7 with fail
   go_cut [6, 7] from 19 to 27 (fun pv _ U => ∃ (gq : Nat) (s5 : Bool) (A5 : Option Addr) (n5 c5 : Nat) (q : Int), pv = .pointer (some ⟨gq, 0, none⟩) ∧ ZC U gq s5 A5 n5 c5 ∧ OwZ U W1.heap.size s5 A5 n5 c5 q ∧ Hid (q = ((x.natAbs : Int).tdiv (Int.gcd y x : Int)) ∧ V.heap.size ≤ gq) ∧ Below V.heap.size V U)
   case first =>
    have HBD := Lib.hid (Below.refl V.heap.size V).drew
    have HXX := Lib.hid (show ∀ W : World, Below V.heap.size V W → (W.cell? ⟨gm, 0, none⟩ = some (.bool s) ∧ W.cell? ⟨gm, 1, none⟩ = some (.slice A' n' c') ∧ W.cell? ⟨gx, 0, none⟩ = some (.bool s1) ∧ W.cell? ⟨gx, 1, none⟩ = some (.slice A1 n1 c1)) from fun W hb => ⟨(HFV.out _ hb).1.1.c0, (HFV.out _ hb).1.1.c1, (HFV.out _ hb).1.2.c0, (HFV.out _ hb).1.2.c1⟩)
    have HRZ := Lib.hid (show ∀ W : World, Below V.heap.size V W → RdZ W W.heap.size s1 A1 n1 c1 x ∧ OwZ W W1.heap.size s A' n' c' y from fun W hb => ⟨(HFV.out _ hb).2.2.2, (HFV.out _ hb).2.2.1⟩)
    have HGZ := Lib.hid (show (Int.gcd y x : Int) ≠ 0 by
     have : Int.gcd y x ≠ 0 := fun e => by have := (Int.gcd_eq_zero_iff.1 e).2; have := HXP.out; omega
     omega)
    obtain ⟨x0, x1, x2, x3⟩ := HXX.out _ (Below.refl _ _)
    go_region_held3 (fun w' => w'.cell? ⟨gm, 0, none⟩ = some (.bool s) ∧ w'.cell? ⟨gm, 1, none⟩ = some (.slice A' n' c') ∧ w'.cell? ⟨gx, 0, none⟩ = some (.bool s1) ∧ w'.cell? ⟨gx, 1, none⟩ = some (.slice A1 n1 c1))
     (first | exact HXX.out _ HB7.out | exact HXX.out _ HB6.out | exact HXX.out _ HB5.out | exact HXX.out _ HBD.out | exact HXX.out _ (HBD.out.alloc HBD.out.size _) | exact HXX.out _ (HB5.out.alloc HB5.out.size _) | exact HXX.out _ (HB6.out.alloc HB6.out.size _) | exact HXX.out _ (HB7.out.alloc HB7.out.size _) | exact HXX.out _ (below_put2 HB7.out (by first | exact Nat.le_refl _ | exact HB5.out.size | exact HB6.out.size | exact HB7.out.size) _ _))
     (first
      | (go_at_call 216; refine (rIAbs_any (HRZ.out _ (by first | exact HBD.out | exact HBD.out.alloc HBD.out.size _)).1 (by have := HNY.out; omega)).mono ?_; rintro _ W5 ⟨t5, D5, m5, l5, y5, rfl, ho5, hy5, hb5⟩; have HB5 : Hid (Below V.heap.size V W5) := Lib.hid (by first | exact HBD.out.trans hb5 | exact (HBD.out.alloc HBD.out.size _).trans (hb5.mono (by simp))); (first | have HA5 : Hid (ZC W5 V.heap.size false none 0 0) := Lib.hid (zcG1 hb5) | skip); have HO5 : Hid (OwZ W5 V.heap.size t5 D5 m5 l5 y5) := Lib.hid (by first | exact ho5 | exact ho5.base (by simp)); have HN5 := Lib.hid (show m5 ≤ 1000000000000 by { rw [ho5.len, hy5.out, Zz.zl_abs]; have := (HRZ.out _ (Below.refl _ _)).1.len; have := HNY.out; omega }))
      | (go_at_call 152; refine (rIGcd_any (HRZ.out _ (by first | exact HB5.out | exact HB5.out.alloc HB5.out.size _)).2.rd (HRZ.out _ (by first | exact HB5.out | exact HB5.out.alloc HB5.out.size _)).1 (by have := HNY.out; omega) (by have := HNY.out; omega)).mono ?_; rintro _ W6 ⟨t6, D6, m6, l6, y6, rfl, ho6, hy6, hb6⟩; have HB56 : Hid (Below W5.heap.size W5 W6) := Lib.hid (by first | exact hb6 | exact ((Below.refl W5.heap.size W5).alloc (Nat.le_refl _) _).trans (hb6.mono (by simp))); have HB6 := Lib.hid (HB5.out.trans (HB56.out.mono HB5.out.size)); (first | have HA6 : Hid (ZC W6 V.heap.size false none 0 0) := Lib.hid (HA5.out.next HB56.out) | have HA6 : Hid (ZC W6 W5.heap.size false none 0 0) := Lib.hid (zcG2 hb6) | skip); have HO6 : Hid (OwZ W6 V.heap.size t6 D6 m6 l6 y6 ∧ OwZ W6 V.heap.size t5 D5 m5 l5 y5) := Lib.hid ⟨by first | exact ho6.base HB5.out.size | exact ho6.base (by have := HB5.out.size; simp; omega), HO5.out.next HB56.out⟩; have HN6 := Lib.hid (show m6 ≤ 2000000000000 by { rw [ho6.len, hy6.out]; have := Zz.zl_gcd y x; have := (HRZ.out _ (Below.refl _ _)).1.len; have := (HRZ.out _ (Below.refl _ _)).2.len; have := HNY.out; omega }))
      | (go_at_call 153; refine (rIExact_any (HO6.out.2.next (by first | exact Below.refl _ _ | exact (Below.refl _ _).alloc (Nat.le_refl _) _)).rd (HO6.out.1.next (by first | exact Below.refl _ _ | exact (Below.refl _ _).alloc (Nat.le_refl _) _)).rd (by have := HN5.out; omega) (by have := HN6.out; omega) (by rw [hy6.out]; exact HGZ.out)).mono ?_; rintro _ W7 ⟨s7, A7, n7, c7, q, e7, rfl, ho7, hq, hb7⟩; have HB67 : Hid (Below W6.heap.size W6 W7) := Lib.hid (by first | exact hb7 | exact ((Below.refl W6.heap.size W6).alloc (Nat.le_refl _) _).trans (hb7.mono (by simp))); have HB7 := Lib.hid (HB6.out.trans (HB67.out.mono HB6.out.size)); have HO7 : Hid (OwZ W7 W1.heap.size s7 A7 n7 c7 q) := Lib.hid (ho7.base (by have := HB6.out.size; have := HSV.out; have := HS4.out; have := HG3.out; have := HGR.out; first | omega | (simp; omega))); (first | have hA7 : ZC W7 V.heap.size false none 0 0 := HA6.out.next HB67.out | have hA7 : ZC W7 W5.heap.size false none 0 0 := HA6.out.next HB67.out | have hA7 : ZC W7 W6.heap.size false none 0 0 := zcG2 hb7 | skip); (try have r0 := hA7.c0); (try have r1 := hA7.c1); (try have f0 := hA7.fz 0); (try have f1 := hA7.fz 1)))
    all_goals
     have HV := Lib.hid (show q = ((x.natAbs : Int).tdiv (Int.gcd y x : Int)) by
      rw [← hy6.out, ← hy5.out]
      rcases hq.out with ⟨_, f2, _⟩ | ⟨f1, _, _⟩
      ·exact f2
      ·exact absurd (Int.tmod_eq_zero_of_dvd (by rw [hy5.out, hy6.out]; exact Int.dvd_natAbs.2 (Int.gcd_dvd_right y x))) f1)
     go_wp2
     go_meet
     first
      | exact ⟨V.heap.size, s7, A7, n7, c7, q, rfl, hA7.store s7 A7 n7 c7, HO7.out.keep (keep_set2 hA7 (.bool s7) (.slice A7 n7 c7)), Lib.hid ⟨HV.out, Nat.le_refl _⟩, below_put2 HB7.out (Nat.le_refl _) _ _⟩
      | exact ⟨W5.heap.size, s7, A7, n7, c7, q, rfl, hA7.store s7 A7 n7 c7, HO7.out.keep (keep_set2 hA7 (.bool s7) (.slice A7 n7 c7)), Lib.hid ⟨HV.out, HB5.out.size⟩, below_put2 HB7.out HB5.out.size _ _⟩
      | exact ⟨W6.heap.size, s7, A7, n7, c7, q, rfl, hA7.store s7 A7 n7 c7, HO7.out.keep (keep_set2 hA7 (.bool s7) (.slice A7 n7 c7)), Lib.hid ⟨HV.out, HB6.out.size⟩, below_put2 HB7.out HB6.out.size _ _⟩
      | exact ⟨W7.heap.size, s7, A7, n7, c7, q, rfl, ZC.new W7 s7 A7 n7 c7, HO7.out.next ((Below.refl _ _).alloc (Nat.le_refl _) _), Lib.hid ⟨HV.out, HB7.out.size⟩, HB7.out.alloc HB7.out.size _⟩
   case rest =>
    obtain ⟨gq, s5, A5, n5, c5, q, rfl, hQ, hoq, hq, hbq⟩ := hcut
    obtain ⟨⟨hM5, _⟩, hR5, hy5, hx5⟩ := HFV.out wc hbq
    have HBQ := Lib.hid (HBV.out.trans (hbq.mono HBV.out.size))
    have m0 := hM5.c0
    have m1 := hM5.c1
    have q0 := hQ.c0
    have q1 := hQ.c1
    have HNQ := Lib.hid (show n5 ≤ 1000000000000 by
     rw [hoq.len, hq.out.1]
     have h1 := Zz.zl_tdiv (x.natAbs : Int) (Int.gcd y x : Int)
     rw [Zz.zl_abs] at h1
     have h2 := hx5.len
     have := HNY.out
     omega)
    have HSQ := Lib.hid (show W3.heap.size ≤ wc.heap.size by have := HS4.out; have := HSV.out; have := hbq.size; omega)
    go_wp2_with fail
    refine (rIMul_any hy5.rd hoq.rd (by have := HNY.out; omega) (by have := HNQ.out; omega)).mono ?_
    rintro _ W6 ⟨s6, A6, n6, c6, y6, rfl, ho6, hy6, hb6⟩
    have hM6 := hM5.next hb6
    have f0 := hM6.fz 0
    have f1 := hM6.fz 1
    have g0 := hM6.c0
    have g1 := hM6.c1
    have HV6 := Lib.hid (show y6 = lcF (L.take (j + 1)) ∧ 0 < y6 by
     have e : y6 = ((Nat.lcm y.natAbs x.natAbs : Nat) : Int) := by rw [hy6.out, hq.out.1]; exact lcm_valP hy.out.2
     refine ⟨by rw [e]; unfold lcF; rw [foldl_take hp.out, hy.out.1], ?_⟩
     rw [e]
     have h1 := hy.out.2
     have h2 := HXP.out
     have := Nat.lcm_pos (m := y.natAbs) (n := x.natAbs) (by omega) (by omega)
     omega)
    have HM9 := Lib.hid (hM6.store s6 A6 n6 c6)
    have HR9 := Lib.hid (((hR5.next hb6).far (p := ⟨gm, 0, none⟩) (by have := HGR.out; simp; omega) (.bool s6)).far (p := ⟨gm, 1, none⟩) (by have := HGR.out; simp; omega) (.slice A6 n6 c6))
    have HO9 := Lib.hid ((ho6.base (b' := W1.heap.size) (by have := HSQ.out; have := HG3.out; have := HGR.out; omega)).keep (keep_set2 hM6 (.bool s6) (.slice A6 n6 c6)))
    have HB9 := Lib.hid (below_put2 (HBQ.out.trans (hb6.mono HBQ.out.size)) (show w.heap.size ≤ gm by have := HGR.out; omega) (.bool s6) (.slice A6 n6 c6))
    have HS9 := Lib.hid (show W3.heap.size ≤ ((W6.setCell ⟨gm, 0, none⟩ (.bool s6)).setCell ⟨gm, 1, none⟩ (.slice A6 n6 c6)).heap.size by have := HSQ.out; have := hb6.size; simp; omega)
    clear hM5 hR5 hy5 hx5 hQ hoq hq hbq hM6 ho6 hb6 hy6 m0 m1 q0 q1
    go_wp2
    generalize (W6.setCell ⟨gm, 0, none⟩ (.bool s6)).setCell ⟨gm, 1, none⟩ (.slice A6 n6 c6) = W9 at *
    go_roundw
    case rel => exact ⟨j + 1, s6, A6, n6, c6, y6, by go_num, by omega, HM9.out, HR9.out, HS9, HO9.out, HV6, HB9.out⟩
    case measure => simp [intOf]; omega
end Go.Proofs.YtjnklbfhelbjgaaGreat

/- simileref05.Common. -/
namespace Go.Proofs.YtjnklbfhelbjgaaGreat
open Go.RowKit Go.IntWalk
attribute [local go_sem ↓] Go.wp_at_zero Go.wp_at_succ
theorem num_mul {x : Rat} {D : Int} (h : (x.den : Int) ∣ D) : (x * (D : Rat)).num = x.num * D.tdiv x.den := by
 obtain ⟨k, rfl⟩ := h
 have hd := qden_ne x
 rw [Int.mul_tdiv_cancel_left _ hd]
 have e : x * (((x.den : Int) * k : Int) : Rat) = ((x.num * k : Int) : Rat) := by
  have h1 : x = Rat.divInt x.num x.den := (Rat.num_divInt_den x).symm
  conv => lhs; rw [h1]
  have e1 : ∀ a : Int, (a : Rat) = Rat.divInt a 1 := fun a => (Rat.num_divInt_den (a : Rat)).symm
  rw [e1, Rat.divInt_mul_divInt, e1, Rat.divInt_eq_divInt_iff (by simpa using hd) (by decide)]
  grind
 rw [e]
 rfl
theorem fieldQ0 (s : Bool) (A : Option Addr) (n c : Nat) (s' : Bool) (A' : Option Addr) (n' c' : Nat) (w : World) : (Instr.field 47 (.agg #[.bool s, .slice A n c, .bool s', .slice A' n' c']) 0).run Tryz.prog w = .ok (.agg #[.bool s, .slice A n c]) w := by kernel_rfl
theorem fieldQ1 (s : Bool) (A : Option Addr) (n c : Nat) (s' : Bool) (A' : Option Addr) (n' c' : Nat) (w : World) : (Instr.field 47 (.agg #[.bool s, .slice A n c, .bool s', .slice A' n' c']) 1).run Tryz.prog w = .ok (.agg #[.bool s', .slice A' n' c']) w := by kernel_rfl
def RetRC (d : Int) (P : List Int) (w : World) (e : Ending) (w' : World) : Prop :=
 ∃ (s : Bool) (A : Option Addr) (n c : Nat) (y : Int) (A' : Option Addr) (n' c' : Nat) (M : List Int), e = .returned (.tuple #[.agg #[.bool s, .slice A n c], .slice A' n' c']) ∧ OwZ w' w.heap.size s A n c y ∧ OwZs w' w.heap.size A' n' c' M ∧ Hid (y = d ∧ M = P) ∧ Below w.heap.size w w'
set_option maxRecDepth 100000 in
set_option maxHeartbeats 8000000 in
theorem rCommon_any {N M : Nat} {A : Option Addr} {n c : Nat} {L : List Rat} {w : World} (h : RdQs w w.heap.size N A n c (L.map pr)) (hS : ∀ j, Zz.zl (denF 1 (L.take j)) ≤ M) (hn : n ≤ 1048576) (hN : N ≤ 100000000000) (hM : M ≤ 100000000000) :
  Calls Tryz.prog 125 #[.slice A n c] w (RetRC (denL L) (numL L) w) := by
 have HLEN := Lib.hid (show L.length = n by have := h.len; rwa [List.length_map] at this)
 have HSZ := Lib.hid hS
 have HRD := Lib.hid h
 clear h hS
 obtain ⟨i0, hi, hz0, hz1, hz2⟩ := info_parts infoZ
 have hfq0 := fieldQ0
 have hfq1 := fieldQ1
 obtain ⟨W1, HW1⟩ : ∃ W, W = w.alloc (.cells #[.bool false, .slice none 0 0] 25) := ⟨_, rfl⟩
 have hR : ZC W1 w.heap.size false none 0 0 := by rw [HW1]; exact ZC.new w false none 0 0
 have hB : Below w.heap.size w W1 := by rw [HW1]; exact (Below.refl _ _).alloc (Nat.le_refl _) _
 have HW1 := Lib.hid HW1
 go_enter Tryz.func125, Tryz.ntmps125
 go_wp2_with fail
 rw [← HW1.out]
 clear HW1
 clear HW1
 refine (rIOf_any 1 (by decide) (by decide) W1).mono ?_
 rintro _ W2 ⟨s2, A2, n2, c2, y2, rfl, ho2, hy2, hb2⟩
 obtain rfl : y2 = 1 := hy2.out
 obtain ⟨W3, HW3⟩ : ∃ W, W = W2.alloc (.cells #[.bool s2, .slice A2 n2 c2] 25) := ⟨_, rfl⟩
 have hb3 : Below W2.heap.size W2 W3 := by rw [HW3]; exact (Below.refl _ _).alloc (Nat.le_refl _) _
 have hb13 := hb2.trans (hb3.mono hb2.size)
 have hC : ZC W3 W2.heap.size s2 A2 n2 c2 := by rw [HW3]; exact ZC.new W2 s2 A2 n2 c2
 have hR3 := hR.next hb13
 have hB3 := hB.trans (hb13.mono hB.size)
 have ho3 := ho2.next hb3
 have HGR := Lib.hid (show w.heap.size < W1.heap.size ∧ W1.heap.size ≤ W2.heap.size from ⟨hR.lt, hb2.size⟩)
 have HG3 := Lib.hid (show W2.heap.size < W3.heap.size from hC.lt)
 have HW3 := Lib.hid HW3
 clear hR hB hb2 hb3 hb13 ho2 hy2
 obtain ⟨gm, hgm⟩ : ∃ g, g = W2.heap.size := ⟨_, rfl⟩
 go_wp2_with fail
 rw [← HW3.out]
 clear HW3
 clear HW3
 rw [← hgm] at hC HG3 HGR ⊢
 clear hgm
 go_loopw [13] (fun iv wr => ∃ (j : Nat) (s : Bool) (A' : Option Addr) (n' c' : Nat) (y : Int), iv = .int .i64 j ∧ j ≤ n ∧ ZC wr gm s A' n' c' ∧ ZC wr w.heap.size false none 0 0 ∧ Hid (W3.heap.size ≤ wr.heap.size) ∧ OwZ wr W1.heap.size s A' n' c' y ∧ Hid (y = denF 1 (L.take j)) ∧ Below w.heap.size w wr) (fun iv _ => n - (intOf iv).toNat)
 case atStart => exact ⟨0, s2, A2, n2, c2, 1, rfl, Nat.zero_le _, hC, hR3, Lib.hid (Nat.le_refl _), ho3, Lib.hid rfl, hB3⟩
 case round =>
  clear hC hR3 ho3 hB3
  obtain ⟨j, s, A', n', c', y, rfl, hj, hZ, hR, HSW, ho, hy, hB⟩ := hrel
  by_cases hjn : j = n
  ·subst hjn
   have HDN := Lib.hid (show y = denL L by rw [hy.out, List.take_of_length_le (by rw [HLEN.out]; exact Nat.le_refl _)])
   have HYN := Lib.hid (show n' ≤ M by rw [ho.len, hy.out]; exact HSZ.out j)
   obtain ⟨wo, rfl⟩ : ∃ V, V = wr := ⟨_, rfl⟩
   have HF := Lib.hid (show ∀ W : World, Below wo.heap.size wo W → ZC W gm s A' n' c' ∧ ZC W w.heap.size false none 0 0 ∧ OwZ W W1.heap.size s A' n' c' y from fun W hb => ⟨hZ.next hb, hR.next hb, ho.next hb⟩)
   have HBO := Lib.hid hB
   clear hZ hR ho hB hy
   go_wp2_with fail
   go_loopw [7, 26] (fun ov iv wr => ∃ (i : Nat) (A5 : Option Addr) (c5 : Nat) (M5 : List Int), ov = .slice A5 i c5 ∧ iv = .int .i64 i ∧ i ≤ j ∧ OwZs wr wo.heap.size A5 i c5 M5 ∧ Hid (M5 = (L.take i).map (fun x => x.num * y.tdiv x.den)) ∧ Below wo.heap.size wo wr) (fun _ iv _ => j - (intOf iv).toNat)
   case atStart => exact ⟨0, none, 0, [], rfl, rfl, Nat.zero_le _, OwZs.nil _ _, Lib.hid rfl, Below.refl _ _⟩
   case round =>
    obtain ⟨i, A5, c5, M5, rfl, rfl, hij, hoz, hM5, hB5⟩ := hrel
    by_cases hin : i = j
    ·subst hin
     obtain ⟨hZ, hR, ho⟩ := HF.out _ hB5
     have hc0 := hZ.c0
     have hc1 := hZ.c1
     have hr0 := hR.c0
     have hr1 := hR.c1
     have hf0 := hR.fz 0
     have hf1 := hR.fz 1
     have HW := Lib.hid (show w.heap.size < wo.heap.size ∧ w.heap.size ≤ wo.heap.size from ⟨by have := HSW.out; have := HG3.out; have := HGR.out; omega, HBO.out.size⟩)
     have HZ5 := Lib.hid (hR.store s A' n' c')
     have HO5 := Lib.hid (((ho.keep (keep_set2 hR (.bool s) (.slice A' n' c')))).base (b' := w.heap.size) (Nat.le_of_lt HGR.out.1))
     have HL5 := Lib.hid (((hoz.far (p := ⟨w.heap.size, 0, none⟩) HW.out.1 (.bool s)).far (p := ⟨w.heap.size, 1, none⟩) HW.out.1 (.slice A' n' c')).base (b' := w.heap.size) HW.out.2)
     have HB5 := Lib.hid (below_put2 (HBO.out.trans (hB5.mono HBO.out.size)) (Nat.le_refl w.heap.size) (.bool s) (.slice A' n' c'))
     have HM5 := Lib.hid (show y = denL L ∧ M5 = numL L from ⟨HDN.out, by
      rw [hM5.out, List.take_of_length_le (by rw [HLEN.out]; exact Nat.le_refl _), HDN.out]
      rfl⟩)
     clear hZ hR ho hoz hM5 hB5
     go_wp2
     generalize (wr.setCell ⟨w.heap.size, 0, none⟩ (.bool s)).setCell ⟨w.heap.size, 1, none⟩ (.slice A' n' c') = W5 at *
     exact bodyPost_ret (by simp [results, Tryz.results125, go_sem, HZ5.out.c0, HZ5.out.c1]) rfl ⟨s, A', n', c', y, A5, i, c5, M5, rfl, HO5.out, HL5.out, HM5, HB5.out⟩
    ·have hil : i < j := by omega
     clear hin
     have hili : (i : Int) < (j : Int) := by omega
     obtain ⟨ad, s1, A1, n1, c1, s4, A4, n4, c4, x, hA, hbk, hx0, hx1, hx2, hx3, hr1, hr2, hn1, hn2, hp⟩ := qp_at HRD.out hil
     subst hA
     have hBW := HBO.out.trans (hB5.mono HBO.out.size)
     obtain ⟨hy0, hy1, hy2, hy3⟩ := qs_cells hBW hbk hx0 hx1 hx2 hx3
     obtain ⟨W4, HW4⟩ : ∃ W, W = wr.alloc (.cells #[.bool s1, .slice A1 n1 c1, .bool s4, .slice A4 n4 c4] 47) := ⟨_, rfl⟩
     have hb4 : Below wr.heap.size wr W4 := by rw [HW4]; exact (Below.refl _ _).alloc (Nat.le_refl _) _
     have hX4 : QC W4 wr.heap.size s1 A1 n1 c1 s4 A4 n4 c4 := by rw [HW4]; exact QC.new wr s1 A1 n1 c1 s4 A4 n4 c4
     have HB4 := Lib.hid (hB5.trans (hb4.mono hB5.size))
     have HFX := Lib.hid (show ∀ W : World, Below W4.heap.size W4 W → QC W wr.heap.size s1 A1 n1 c1 s4 A4 n4 c4 ∧ RdZ W W.heap.size s1 A1 n1 c1 x.num ∧ RdZ W W.heap.size s4 A4 n4 c4 x.den from fun W hb => ⟨hX4.next hb, ((hr1.next hBW).next hb4).next hb, ((hr2.next hBW).next hb4).next hb⟩)
     have HOZ := Lib.hid (hoz.next hb4)
     have HNX := Lib.hid (And.intro (Nat.le_trans hn1 hN) (Nat.le_trans hn2 hN))
     have HW4 := Lib.hid HW4
     have HIL := Lib.hid hil
     clear hX4 hb4 hoz hr1 hr2 hx0 hx1 hx2 hx3 hBW hB5 hil
     go_upto_region 11 with fail
     rw [← HW4.out]
     clear HW4 hy0 hy1 hy2 hy3
     clear HW4
     generalize wr.heap.size = gx at *
     have HBD := Lib.hid (Below.refl W4.heap.size W4).drew
     have HFF := Lib.hid (show ∀ W : World, Below W4.heap.size W4 W → ZC W gm s A' n' c' ∧ ZC W w.heap.size false none 0 0 ∧ OwZ W W1.heap.size s A' n' c' y from fun W hb => HF.out W (HB4.out.trans (hb.mono HB4.out.size)))
     have hX4 := (HFX.out W4 (Below.refl _ _)).1
     have hZ4 := (HFF.out W4 (Below.refl _ _)).1
     have x0 := hX4.c0
     have x1 := hX4.c1
     have x2 := hX4.c2
     have x3 := hX4.c3
     have x4 := hZ4.c0
     have x5 := hZ4.c1
     clear hX4 hZ4
     go_region_law (first
      | (refine step_append_sl rfl _ _ 65 rfl wo.heap.size 25 i0 (.agg #[.bool false, .slice none 0 0]) 2 32 Tryz.underlying65 hi hz0 hz1 hz2 rfl (by decide) _ _ _ rfl (HE.out.alloc _) (some ⟨W7.heap.size, 0, none⟩) 1 1 [.bool s7, .slice A7 n7 c7] rfl rfl (fun e => by cases e) (fun ad e => by cases e; exact zcell_new _ _ _ _) (by simp [Value.oneCell']) (by have := HIL.out; unfold maxLen; omega) (by have := HIL.out; omega) (by have := HB7.out.size; have := HB4.out.size; simp; omega) ?_; intro A9 c9 W9 hown9 hgrow9)
      | (go_simp; go_at_call 178; refine (rQInt_any (HFF.out _ HBD.out).2.2.rd (by have := HYN.out; omega)).mono ?_; rintro _ W5 ⟨s5, D5, n5, c6, s6, D6, n6, l6, y5, rfl, ho5, hy5, hb5⟩; have HB5 := Lib.hid (HBD.out.trans hb5); have hX5 := (HFX.out W5 HB5.out).1; have la0 := hX5.c0; have la1 := hX5.c1; have la2 := hX5.c2; have la3 := hX5.c3; have HN5 := Lib.hid (show n5 ≤ 100000000000 ∧ n6 ≤ 100000000000 from ⟨by { rw [ho5.num.len, hy5.out]; have e := (HFF.out _ HBD.out).2.2.len; have := HYN.out; show Zz.zl y ≤ _; omega }, by { rw [ho5.den.len, hy5.out, show (((y : Rat).den : Nat) : Int) = 1 from rfl]; exact Nat.le_trans (Zz.zl_small (by decide)) (by decide) }⟩); clear hX5)
      | (go_simp; go_at_call 124; refine (rQMul_any (N := 100000000000) (HFX.out _ HB5.out).2.1 (HFX.out _ HB5.out).2.2 ho5.num.rd ho5.den.rd ⟨HNX.out.1, HNX.out.2, HN5.out.1, HN5.out.2⟩ (by decide) (qden_ne x) (qden_ne y5)).mono ?_; rintro _ W7 ⟨s7, A7, n7, c7, s8, A8, n8, c8, q, rfl, ho7, hq, hb7⟩; have HB7 := Lib.hid (HB5.out.trans (hb7.mono HB5.out.size)); have HQ := Lib.hid (show q = x * (y : Rat) by rw [hq.out, hy5.out, Rat.num_divInt_den, Rat.num_divInt_den]); obtain ⟨E, hE, hEl, hEn⟩ := HOZ.out.next HB7.out; have HE := Lib.hid hE; have HEN := Lib.hid (And.intro hEl hEn); have HO7 := Lib.hid (ho7.num.base (b' := wo.heap.size) (by have := HB4.out.size; have := HB5.out.size; omega)); clear hE hEl hEn hq hb7 ho7))
     all_goals
      have hB7 := HB4.out.trans (HB7.out.mono HB4.out.size)
      obtain ⟨A0, k0, e0, ho9⟩ := zs_more (e := (s7, A7, n7, c7)) (z := q.num) HO7.out rfl (HE.out.alloc _) HEN.out.1 HEN.out.2 hown9 hgrow9
      injection e0 with e1 e2 e3
      subst e1 e3
      have HO9 := Lib.hid ho9
      have HB9 := Lib.hid ((hB7.alloc hB7.size (.cells #[.bool s7, .slice A7 n7 c7] 25)).grown hgrow9 (by have := hB7.size; simp; omega) (own_block HE.out))
      have HM9 := Lib.hid (show M5 ++ [q.num] = (L.take (i + 1)).map (fun x => x.num * y.tdiv x.den) by
       rw [List.take_add_one, hp.out, List.map_append, hM5.out, HQ.out, num_mul (show (x.den : Int) ∣ y by rw [HDN.out]; exact den_dvd L 1 x (List.mem_of_getElem? hp.out))]
       rfl)
      clear ho9 hown9 hgrow9 hB7 x0 x1 x2 x3 x4 x5 la0 la1 la2 la3
      go_wp2
      go_roundw
      case rel => exact ⟨i + 1, A9, c9, M5 ++ [q.num], rfl, by go_num, by have := HIL.out; omega, HO9.out, HM9, HB9.out⟩
      case measure => simp [intOf]; have := HIL.out; omega
  ·have hjl : j < n := by omega
   clear hjn
   have hjli : (j : Int) < (n : Int) := by omega
   obtain ⟨ad, s1, A1, n1, c1, s4, A4, n4, c4, x, hA, hbk, hx0, hx1, hx2, hx3, hr1, hr2, hn1, hn2, hp⟩ := qp_at HRD.out hjl
   subst hA
   obtain ⟨hy0, hy1, hy2, hy3⟩ := qs_cells hB hbk hx0 hx1 hx2 hx3
   have HYP := Lib.hid (show 0 < y by rw [hy.out]; exact denF_pos _ 1 (by decide))
   have HYN := Lib.hid (show Zz.zl y ≤ M ∧ Zz.zl ((Nat.lcm y.natAbs x.den : Nat) : Int) ≤ M from ⟨by rw [hy.out]; exact HSZ.out j, by rw [hy.out, ← denF_take hp.out]; exact HSZ.out (j + 1)⟩)
   obtain ⟨W4, HW4⟩ : ∃ W, W = wr.alloc (.cells #[.bool s1, .slice A1 n1 c1, .bool s4, .slice A4 n4 c4] 47) := ⟨_, rfl⟩
   have hb4 : Below wr.heap.size wr W4 := by rw [HW4]; exact (Below.refl _ _).alloc (Nat.le_refl _) _
   have hX4 : QC W4 wr.heap.size s1 A1 n1 c1 s4 A4 n4 c4 := by rw [HW4]; exact QC.new wr s1 A1 n1 c1 s4 A4 n4 c4
   have HB4 := Lib.hid (hB.trans (hb4.mono hB.size))
   have HS4 := Lib.hid (show W3.heap.size ≤ W4.heap.size from Nat.le_trans HSW.out hb4.size)
   have HFX := Lib.hid (show ∀ W : World, Below W4.heap.size W4 W → QC W wr.heap.size s1 A1 n1 c1 s4 A4 n4 c4 ∧ RdZ W W.heap.size s1 A1 n1 c1 x.num ∧ RdZ W W.heap.size s4 A4 n4 c4 x.den from fun W hb => ⟨hX4.next hb, ((hr1.next hB).next hb4).next hb, ((hr2.next hB).next hb4).next hb⟩)
   have HFF := Lib.hid (show ∀ W : World, Below W4.heap.size W4 W → ZC W gm s A' n' c' ∧ ZC W w.heap.size false none 0 0 ∧ OwZ W W1.heap.size s A' n' c' y from fun W hb => ⟨(hZ.next hb4).next hb, (hR.next hb4).next hb, (ho.next hb4).next hb⟩)
   have HNX := Lib.hid (And.intro hn1 hn2)
   have HW4 := Lib.hid HW4
   clear hX4 hb4 hr1 hr2 hx0 hx1 hx2 hx3 hB hZ hR ho
   go_upto_region 5 with fail
   rw [← HW4.out]
   clear HW4 hy0 hy1 hy2 hy3
   clear HW4
   generalize wr.heap.size = gx at *
   have HBD := Lib.hid (Below.refl W4.heap.size W4).drew
   have hX4 := (HFX.out W4 (Below.refl _ _)).1
   have hZ4 := (HFF.out W4 (Below.refl _ _)).1
   have x0 := hX4.c0
   have x1 := hX4.c1
   have x2 := hX4.c2
   have x3 := hX4.c3
   have x4 := hZ4.c0
   have x5 := hZ4.c1
   clear hX4 hZ4
   go_region_law (first
    | (go_simp; go_at_call 100; refine (rQNorm_any (HFX.out _ HBD.out).2.1 (HFX.out _ HBD.out).2.2 (by have := HNX.out; omega) (by have := HNX.out; omega) (qden_ne x)).mono ?_; rintro _ W5 ⟨s5, A5, n5, c5, s6, A6, n6, c6, y5, rfl, ho5, hy5, hb5⟩; obtain rfl : y5 = x := (by rw [hy5.out, Rat.num_divInt_den]); have HB5 := Lib.hid (HBD.out.trans hb5); have hZ5 := (HFF.out W5 HB5.out).1; have la0 := hZ5.c0; have la1 := hZ5.c1; clear hZ5)
    | (go_simp; go_at_call 177; refine (rLcm_any (N := max N M) (M := M + 1) (zs_two (N := max N M) (HFF.out W5 HB5.out).2.2.rd ho5.den.rd (by have e := (HFF.out W5 HB5.out).2.2.len; have := HYN.out; omega) (by rw [ho5.den.len]; have e := (HFX.out _ HB5.out).2.2.len; have := HNX.out; omega) rfl) (fun u hu => by
      simp at hu
      rcases hu with rfl | rfl
      ·exact HYP.out
      ·exact Int.natCast_pos.2 (Rat.den_pos _)) (by omega) (by omega) (fun t => by
      match t with
      | 0 =>
        show Zz.zl 1 ≤ M + 1
        exact Nat.le_trans (Zz.zl_small (by decide)) (by omega)
      | 1 =>
        have e : lcF ([y, (y5.den : Int)].take 1) = (y.natAbs : Int) := by simp [lcF, Nat.lcm_one_left]
        rw [e, Zz.zl_abs]
        have := HYN.out.1
        omega
      | t + 2 =>
        rw [List.take_of_length_le (by simp)]
        unfold lcF
        rw [two_lcm HYP.out]
        have := HYN.out.2
        omega)).mono ?_; rintro _ W6 ⟨t6, D6, m6, l6, y6, rfl, ho6, hy6, hb6⟩; have HB56 := Lib.hid (((Below.refl W5.heap.size W5).alloc (Nat.le_refl _) (.cells #[.bool s, .slice A' n' c', .bool s6, .slice A6 n6 c6] 25)).trans (hb6.mono (by simp))); have HB6 := Lib.hid (HB5.out.trans (HB56.out.mono HB5.out.size)); have hM6 := (HFF.out W6 HB6.out).1; have f0 := hM6.fz 0; have f1 := hM6.fz 1; have g0 := hM6.c0; have g1 := hM6.c1))
   all_goals
    have HV6 := Lib.hid (show y6 = denF 1 (L.take (j + 1)) by
     rw [hy6.out, denF_take hp.out, ← hy.out]
     exact two_lcm HYP.out _)
    have HM9 := Lib.hid (hM6.store t6 D6 m6 l6)
    have HR9 := Lib.hid (((HFF.out W6 HB6.out).2.1.far (p := ⟨gm, 0, none⟩) (by have := HGR.out; simp; omega) (.bool t6)).far (p := ⟨gm, 1, none⟩) (by have := HGR.out; simp; omega) (.slice D6 m6 l6))
    have HO9 := Lib.hid ((ho6.base (b' := W1.heap.size) (by have := HB5.out.size; have := HS4.out; have := HG3.out; have := HGR.out; simp; omega)).keep (keep_set2 hM6 (.bool t6) (.slice D6 m6 l6)))
    have HB9 := Lib.hid (below_put2 (HB4.out.trans (HB6.out.mono HB4.out.size)) (show w.heap.size ≤ gm by have := HGR.out; omega) (.bool t6) (.slice D6 m6 l6))
    have HS9 := Lib.hid (show W3.heap.size ≤ ((W6.setCell ⟨gm, 0, none⟩ (.bool t6)).setCell ⟨gm, 1, none⟩ (.slice D6 m6 l6)).heap.size by have := HS4.out; have := HB6.out.size; simp; omega)
    clear hM6 ho6 hb6 hy6 ho5 hb5 hy5 x0 x1 x2 x3 x4 x5 la0 la1 f0 f1 g0 g1
    go_wp2
    generalize (W6.setCell ⟨gm, 0, none⟩ (.bool t6)).setCell ⟨gm, 1, none⟩ (.slice D6 m6 l6) = W9 at *
    go_roundw
    case rel => exact ⟨j + 1, t6, D6, m6, l6, y6, by go_num, by omega, HM9.out, HR9.out, HS9, HO9.out, HV6, HB9.out⟩
    case measure => simp [intOf]; omega
end Go.Proofs.YtjnklbfhelbjgaaGreat
