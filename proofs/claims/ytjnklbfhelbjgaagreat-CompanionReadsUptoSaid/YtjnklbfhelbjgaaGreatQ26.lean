/- Reference 11: Blocks at companion matrices. -/
import Derived.Test.YtjnklbfhelbjgaaGreatQ25
import Derived.Test.YtjnklbfhelbjgaaGreatQ19
import Derived.Test.YtjnklbfhelbjgaaGreatQ18
import Derived.Test.YtjnklbfhelbjgaaGreatQ21
import Derived.Test.YtjnklbfhelbjgaaGreatQ24
namespace Go.Proofs.YtjnklbfhelbjgaaGreat
open Go.RowKit Go.IntWalk
attribute [local go_sem ↓] Go.wp_at_zero Go.wp_at_succ
def gmr (p : List Rat) : Int × List (List Int) := (rD (p.length - 1) (p.length - 1) (Mx.cmp p), rN (p.length - 1) (p.length - 1) (Mx.cmp p))
theorem ds_sz {N : Nat} (h1N : 1 ≤ N) : ∀ (LL : List (List Rat)) (a t : Nat), (∀ p ∈ LL, ∀ x ∈ p, Qs N x) → Qs N (Mx.ds LL a t)
 | [], _, _, _ => Qs.zero h1N
 | p :: LL, a, t, h => by
   unfold Mx.ds
   by_cases h1 : a < p.length - 1
   ·rw [if_pos h1]
    by_cases h2 : t < p.length - 1
    ·rw [if_pos h2]
     exact cmp_sz (h p (List.mem_cons_self ..)) h1N a t
    ·rw [if_neg h2]
     exact Qs.zero h1N
   ·rw [if_neg h1]
    by_cases h2 : t < p.length - 1
    ·rw [if_pos h2]
     exact Qs.zero h1N
    ·rw [if_neg h2]
     exact ds_sz h1N LL _ _ fun q hq => h q (List.mem_cons_of_mem _ hq)
def PF (LL : List (List Rat)) (u v a t : Nat) : Rat := if a < u ∨ (a = u ∧ t < v) then Mx.ds LL a t else 0
theorem pf_start {LL : List (List Rat)} {j i : Nat} {p : List Rat} (h : LL[j]? = some p) (hi : i < p.length - 1) (a t : Nat) : PF LL (Mx.dsz (LL.take j) + i) 0 a t = PF LL (Mx.dsz (LL.take j) + i) (Mx.dsz (LL.take j)) a t := by
 unfold PF
 by_cases h1 : a < Mx.dsz (LL.take j) + i
 ·rw [if_pos (.inl h1), if_pos (.inl h1)]
 ·rw [if_neg (by omega)]
  by_cases h2 : a = Mx.dsz (LL.take j) + i ∧ t < Mx.dsz (LL.take j)
  ·rw [if_pos (.inr h2), h2.1, Mx.ds_at LL j p i t h hi, if_neg (by omega)]
  ·rw [if_neg (by omega)]
theorem pf_next {LL : List (List Rat)} {j i : Nat} {p : List Rat} (h : LL[j]? = some p) (hi : i < p.length - 1) (a t : Nat) : PF LL (Mx.dsz (LL.take j) + i) (Mx.dsz (LL.take j) + (p.length - 1)) a t = PF LL (Mx.dsz (LL.take j) + (i + 1)) 0 a t := by
 unfold PF
 by_cases h1 : a < Mx.dsz (LL.take j) + i
 ·rw [if_pos (.inl h1), if_pos (.inl (by omega))]
 ·by_cases h2 : a = Mx.dsz (LL.take j) + i
  ·rw [if_pos (c := a < Mx.dsz (LL.take j) + (i + 1) ∨ _) (.inl (by omega))]
   by_cases h3 : t < Mx.dsz (LL.take j) + (p.length - 1)
   ·rw [if_pos (.inr ⟨h2, h3⟩)]
   ·rw [if_neg (by omega), h2, Mx.ds_at LL j p i t h hi, if_neg (by omega)]
  ·rw [if_neg (by omega), if_neg (by omega)]
theorem pf_set {LL : List (List Rat)} {j i k : Nat} {p : List Rat} (h : LL[j]? = some p) (hi : i < p.length - 1) (hk : k < p.length - 1) (a t : Nat) : upd (PF LL (Mx.dsz (LL.take j) + i) (Mx.dsz (LL.take j) + k)) (Mx.dsz (LL.take j) + i) (Mx.dsz (LL.take j) + k) (Mx.cmp p i k) a t = PF LL (Mx.dsz (LL.take j) + i) (Mx.dsz (LL.take j) + (k + 1)) a t := by
 unfold upd PF
 by_cases h1 : a = Mx.dsz (LL.take j) + i ∧ t = Mx.dsz (LL.take j) + k
 ·rw [if_pos h1, if_pos (.inr ⟨h1.1, by omega⟩), h1.1, h1.2, Mx.ds_at LL j p i _ h hi, if_pos (by omega), Nat.add_sub_cancel_left]
 ·rw [if_neg h1]
  by_cases h2 : a < Mx.dsz (LL.take j) + i ∨ (a = Mx.dsz (LL.take j) + i ∧ t < Mx.dsz (LL.take j) + k)
  ·rw [if_pos h2, if_pos (by omega)]
  ·rw [if_neg h2, if_neg (by omega)]
theorem MQ.farQ {w : World} {b B : Nat} {A : Option Addr} {k c N : Nat} {G : List Nat} {EE : Nat → List (Ent × Ent)} {F : Nat → Nat → Rat} {g : Nat} {E : List (Ent × Ent)} (h : MQ w b B A k c N G EE F) (hz : QB w g E) (hg : g < B) (j : Nat) (e : Ent × Ent) : MQ (setQ w g j e) b B A k c N G EE F :=
 ⟨row_setQ h.own (by decide) hz j e, h.len, h.nod, fun i x hx => by
  obtain ⟨h1, h2, h3, h4⟩ := h.row i x hx
  exact ⟨h1, h2.farQ hz (by omega) e, h3, h4.keep (hz.keep j e)⟩⟩
set_option maxRecDepth 100000 in
set_option maxHeartbeats 16000000 in
theorem rBlocks_any {N b n c : Nat} {A : Option Addr} {LL : List (List Rat)} {w : World} (h : OwMts w b A n c (LL.map gmr)) (hg : Good N LL) (hN : N ≤ 1000000) (h1N : 1 ≤ N) (hn0 : 0 < n) :
  Calls Tryz.prog 103 #[.slice A n c] w (RetMt (rD (Mx.dsz LL) (Mx.dsz LL) (Mx.ds LL)) (rN (Mx.dsz LL) (Mx.dsz LL) (Mx.ds LL)) w) := by
 have HG := Lib.hid hg
 have HL := Lib.hid (show LL.length = n by rw [← h.len, List.length_map])
 have hn24 : n ≤ 24 := by rw [← HL.out]; exact hg.count
 obtain ⟨D, hD⟩ : ∃ D, D = Mx.dsz LL := ⟨_, rfl⟩
 have hD24 : D ≤ 24 := by rw [hD]; exact hg.sum
 have HD := Lib.hid hD
 rw [← hD]
 have HIT := Lib.hid (show ∀ (j : Nat) (p : List Rat), LL[j]? = some p → 0 < p.length - 1 ∧ Mx.dsz (LL.take j) + (p.length - 1) ≤ D ∧ (∀ i, i < p.length - 1 → ∀ k, k < p.length - 1 → Qs N (Mx.cmp p i k)) from fun j p hp => ⟨by have := hg.len p (List.mem_of_getElem? hp); omega, by rw [← Mx.dsz_take hp, hD]; exact Mx.dsz_le, fun i _ k _ => cmp_sz (hg.sz p (List.mem_of_getElem? hp)) h1N i k⟩)
 have HX0 := Lib.hid (show ∀ W, Below w.heap.size w W → OwMts W b A n c (LL.map gmr) from fun W hb => h.next hb)
 obtain ⟨W1, HW1⟩ : ∃ W, W = w.alloc (.cells #[.bool false, .slice none 0 0, .slice none 0 0] 28) := ⟨_, rfl⟩
 have HM1 := Lib.hid (show MC W1 w.heap.size false none 0 0 none 0 0 by rw [HW1]; exact MC.new w false none 0 0 none 0 0)
 have HB1 := Lib.hid (show Below w.heap.size w W1 by rw [HW1]; exact (Below.refl _ _).alloc (Nat.le_refl _) _)
 have HW1 := Lib.hid HW1
 have hdpos : 0 < D := by
  obtain ⟨p, hp⟩ : ∃ p, LL[0]? = some p := ⟨LL[0]'(by rw [HL.out]; exact hn0), List.getElem?_eq_getElem _⟩
  have := HIT.out 0 p hp
  omega
 clear h hg hD
 go_enter Tryz.func103, Tryz.ntmps103
 go_wp2_with fail
 rw [← HW1.out]
 clear HW1
 clear HW1
 go_loopw [3, 4, 21] (fun av lv iv wr => ∃ (j v : Nat), av = .int .i64 (v : Int) ∧ lv = .int .i64 (v : Int) ∧ iv = .int .i64 (j : Int) ∧ j ≤ n ∧ Hid (v = Mx.dsz (LL.take j)) ∧ Below W1.heap.size W1 wr) (fun _ _ iv _ => n - (intOf iv).toNat)
 case atStart => exact ⟨0, 0, rfl, rfl, rfl, Nat.zero_le _, Lib.hid (by simp [Mx.dsz]), Below.refl _ _⟩
 case round =>
  obtain ⟨j, v, rfl, rfl, rfl, hj, hv, hB⟩ := hrel
  by_cases hjn : j = n
  ·obtain rfl : v = D := by rw [hv.out, hjn, List.take_of_length_le (by rw [HL.out]; exact Nat.le_refl _), HD.out]
   subst hjn
   have HBO := Lib.hid hB
   obtain ⟨wo, rfl⟩ : ∃ V, V = wr := ⟨_, rfl⟩
   have HMO := Lib.hid (HM1.out.next hB)
   clear hB hv
   go_wp2_with fail
   refine (rFill_any (r := v) (q := v) (w := wo) (by omega) (by omega)).mono ?_
   rintro _ W4 ⟨A4, c4, G4, E4, rfl, hm4, hb4⟩
   obtain ⟨a4, rfl⟩ : ∃ a, A4 = some ⟨a, 0, none⟩ := by
    rcases hm4.form with ⟨_, h0, _⟩ | ⟨g, e, _⟩
    ·omega
    ·exact ⟨g, e⟩
   have HM4 := Lib.hid (hm4.to (F' := PF LL 0 0) (fun a _ t _ => by unfold PF; rw [if_neg (by omega)]))
   have HL4 := Lib.hid (show ∀ W, Below wo.heap.size W4 W → MC W w.heap.size false none 0 0 none 0 0 ∧ OwMts W b A j c (LL.map gmr) ∧ Below w.heap.size w W ∧ wo.heap.size ≤ W.heap.size from fun W hb => by
    have h1 := hb4.trans hb
    have h2 := HB1.out.trans ((HBO.out.trans (h1.mono HBO.out.size)).mono HB1.out.size)
    exact ⟨HMO.out.next h1, HX0.out W h2, h2, h1.size⟩)
   have HSZ4 := Lib.hid (show w.heap.size < wo.heap.size from HMO.out.lt)
   clear hm4 hb4
   go_wp2_with fail
   go_loopw [10, 11, 42] (fun av lv iv wr => ∃ (t o : Nat) (EE : Nat → List (Ent × Ent)), av = .int .i64 (o : Int) ∧ lv = .int .i64 (o : Int) ∧ iv = .int .i64 (t : Int) ∧ t ≤ j ∧ Hid (o = Mx.dsz (LL.take t)) ∧ MQ wr wo.heap.size wo.heap.size (some ⟨a4, 0, none⟩) v c4 v G4 EE (PF LL o 0) ∧ Below wo.heap.size W4 wr) (fun _ _ iv _ => j - (intOf iv).toNat)
   case atStart => exact ⟨0, 0, E4, rfl, rfl, rfl, Nat.zero_le _, Lib.hid (by simp [Mx.dsz]), HM4.out, Below.refl _ _⟩
   case round =>
    obtain ⟨t, o, EE, rfl, rfl, rfl, ht, ho, hm, hB⟩ := hrel
    by_cases htn : t = j
    ·subst htn
     have hov : o = v := by rw [ho.out, List.take_of_length_le (by rw [HL.out]; exact Nat.le_refl _), HD.out]
     have HM := Lib.hid (hm.to (F' := Mx.ds LL) (fun a ha s _ => by unfold PF; rw [if_pos (.inl (by omega))]))
     have HSW := Lib.hid (HL4.out wr hB).2.2.2
     have HBW := Lib.hid hB
     have HCS := Lib.hid (show ∀ i, i < v → ∀ k, k < v → Qs N (Mx.ds LL i k) from fun i _ k _ => ds_sz h1N LL i k HG.out.sz)
     clear hm hB
     go_wp2_with fail
     refine (rFrom_tab HM.out (Nat.le_refl _) HSW.out HCS.out hN h1N ⟨hdpos, by omega⟩ ⟨hdpos, by omega⟩).mono ?_
     rintro _ W8 ⟨s8, A8, n8, c8, G8, r8, k8, y8, MM, rfl, ho8, hm8, hy8, hb8⟩
     have hb48 := HBW.out.trans (hb8.mono HSW.out)
     obtain ⟨hMz, _, hbw, _⟩ := HL4.out W8 hb48
     have r0 := hMz.c0
     have r1 := hMz.c1
     have r2 := hMz.c2
     have f0 := hMz.fz 0
     have f1 := hMz.fz 1
     have f2 := hMz.fz 2
     have HWL := Lib.hid (show w.heap.size < wr.heap.size from Nat.lt_of_lt_of_le HSZ4.out HSW.out)
     have HSS := Lib.hid (hMz.store s8 A8 n8 c8 G8 r8 k8)
     have HU := Lib.hid ((ho8.keep (keepI_put hMz s8 A8 n8 c8 G8 r8 k8).1).base (b' := w.heap.size) (Nat.le_of_lt HWL.out))
     have HQQ := Lib.hid ((hm8.put hMz HWL.out s8 A8 n8 c8 G8 r8 k8).base (b' := w.heap.size) (Nat.le_of_lt HWL.out))
     have HF := Lib.hid (below_putM hbw (Nat.le_refl w.heap.size) s8 A8 n8 c8 G8 r8 k8)
     unfold putM at HSS HU HQQ HF
     clear hMz ho8 hm8 hb8 hb48 hbw
     go_wp2
     generalize ((W8.setCell ⟨w.heap.size, 0, none⟩ (.bool s8)).setCell ⟨w.heap.size, 1, none⟩ (.slice A8 n8 c8)).setCell ⟨w.heap.size, 2, none⟩ (.slice G8 r8 k8) = V9 at *
     exact bodyPost_ret (by simp [results, Tryz.results103, go_sem, HSS.out.c0, HSS.out.c1, HSS.out.c2]) rfl ⟨s8, A8, n8, c8, G8, r8, k8, y8, MM, rfl, HU.out, HQQ.out, hy8, HF.out⟩
    ·have htl : t < j := by omega
     have htli : (t : Int) < (j : Int) := by omega
     clear htn
     obtain ⟨ad, s1, A1, n1, c1, G1, r1, k1, d, MM, rfl, hbk, hx0, hx1, hx2, hod, hom, hp⟩ := omt_at (HL4.out wr hB).2.1 htl
     obtain ⟨p, hpp⟩ : ∃ p, LL[t]? = some p := ⟨LL[t]'(by rw [HL.out]; exact htl), List.getElem?_eq_getElem _⟩
     have hdm := hp.out
     rw [List.getElem?_map, hpp, Option.map_some] at hdm
     injection hdm with hdm
     unfold gmr at hdm
     injection hdm with hd1 hd2
     subst hd1 hd2
     obtain ⟨m, hmm⟩ : ∃ m, m = p.length - 1 := ⟨_, rfl⟩
     have hr1 : r1 = m := by rw [← hom.len, rN_len, hmm]
     subst hr1
     obtain ⟨hpos, hfit, hcs⟩ := HIT.out t p hpp
     rw [← hmm] at hpos hfit hcs hod hom
     rw [← ho.out] at hfit
     have HPP := Lib.hid (And.intro hpp hmm)
     have hom' : o + r1 ≤ v := hfit
     have HCS := Lib.hid hcs
     have HDZ := Lib.hid (rD_sz hcs hN (by omega) (by omega))
     have HRZ := Lib.hid (rN_sz hcs hN (by omega) (by omega))
     obtain ⟨W5, HW5⟩ : ∃ W, W = wr.alloc (.cells #[.bool s1, .slice A1 n1 c1, .slice G1 r1 k1] 28) := ⟨_, rfl⟩
     have hb5 : Below wr.heap.size wr W5 := by rw [HW5]; exact (Below.refl _ _).alloc (Nat.le_refl _) _
     have HM5 := Lib.hid (show MC W5 wr.heap.size s1 A1 n1 c1 G1 r1 k1 by rw [HW5]; exact MC.new wr s1 A1 n1 c1 G1 r1 k1)
     have HR5 := Lib.hid (And.intro (hod.next hb5) ((hom.next hb5).rd HRZ.out))
     have HN1 := Lib.hid (show n1 ≤ 1000000000000 by rw [hod.len]; exact Nat.le_trans HDZ.out (by decide))
     have HSW := Lib.hid (show wo.heap.size ≤ wr.heap.size from (HL4.out wr hB).2.2.2)
     have HO5 := Lib.hid (hm.next hb5)
     have HB5 := Lib.hid (hB.trans (hb5.mono HSW.out))
     have HSW5 := Lib.hid (show wo.heap.size ≤ W5.heap.size from Nat.le_trans HSW.out hb5.size)
     have HCQ := Lib.hid (show (((rN r1 r1 (Mx.cmp p)).map (·.map ofZ)).length : Int) = r1 ∧ (colsOf ((rN r1 r1 (Mx.cmp p)).map (·.map ofZ)) : Int) = r1 from ⟨by rw [List.length_map, rN_len], by rw [cols_q (rN_rows _ _ _) (by rw [List.length_map, rN_len]; exact hpos)]⟩)
     have HW5 := Lib.hid HW5
     clear hB hb5 hod hom hp hpp hmm hm hcs
     go_wp2_with fail
     rw [← HW5.out]
     clear HW5 hx0 hx1 hx2
     clear HW5
     refine (rMSize_any HR5.out.2 (by omega)).mono ?_
     rintro _ W6 ⟨x6, y6, rfl, hxy, hb6⟩
     obtain rfl : x6 = (r1 : Int) := hxy.out.1.trans HCQ.out.1
     obtain rfl : y6 = (r1 : Int) := hxy.out.2.trans HCQ.out.2
     have hM6 := HM5.out.next hb6
     have b0 := hM6.c0
     have b1 := hM6.c1
     have b2 := hM6.c2
     have HR6 := Lib.hid (And.intro (HR5.out.1.next hb6) (HR5.out.2.next hb6))
     have HO6 := Lib.hid (HO5.out.next hb6)
     have HB6 := Lib.hid (HB5.out.trans (hb6.mono HSW5.out))
     have HSW6 := Lib.hid (show wo.heap.size ≤ W6.heap.size from Nat.le_trans HSW5.out hb6.size)
     clear hM6 hb6 hxy
     go_wp2_with fail
     clear b0 b1 b2
     refine (rMRows_any HR6.out.1.rd HR6.out.2 (rD_ne _ _ _) (rN_rows _ _ _) HN1.out (by decide) (by omega) (by omega)).mono ?_
     rintro _ W7 ⟨A7, c7, G7, E7, rfl, hm7, hb7⟩
     have hm7' := hm7.to (F' := Mx.cmp p) (fun i hi k hk => me_rN hi hk)
     obtain ⟨a7, rfl⟩ : ∃ a, A7 = some ⟨a, 0, none⟩ := by
      rcases hm7.form with ⟨_, h0, _⟩ | ⟨g, e, _⟩
      ·omega
      ·exact ⟨g, e⟩
     have HT7 := Lib.hid hm7'
     have HO7 := Lib.hid (HO6.out.next hb7)
     have HB7 := Lib.hid (HB6.out.trans (hb7.mono HSW6.out))
     have HO := Lib.hid ho.out
     clear hm7 hm7' hb7 ho
     go_wp2_with fail
     go_loopw [17] (fun iv wr => ∃ (i : Nat) (EE : Nat → List (Ent × Ent)), iv = .int .i64 (i : Int) ∧ i ≤ r1 ∧ MQ wr wo.heap.size wo.heap.size (some ⟨a4, 0, none⟩) v c4 v G4 EE (PF LL (o + i) 0) ∧ MQ wr W6.heap.size W6.heap.size (some ⟨a7, 0, none⟩) r1 c7 r1 G7 E7 (Mx.cmp p) ∧ Below wo.heap.size W4 wr) (fun iv _ => r1 - (intOf iv).toNat)
     case atStart => exact ⟨0, _, rfl, Nat.zero_le _, HO7.out, HT7.out, HB7.out⟩
     case round =>
      clear HO7 HT7 HB7
      obtain ⟨i, EI, rfl, hi, hmo, hmt, hB⟩ := hrel
      by_cases hir : i = r1
      ·subst hir
       have hwo : IntKind.i64.wrap ((o : Int) + (i : Int)) = ((o + i : Nat) : Int) := by
        rw [show (o : Int) + (i : Int) = ((o + i : Nat) : Int) by omega]
        exact IntWalk.i64_in _ (by omega)
       have HV := Lib.hid (show o + i = Mx.dsz (LL.take (t + 1)) by rw [Mx.dsz_take HPP.out.1, ← HO.out, ← HPP.out.2])
       have HMO2 := Lib.hid hmo
       have HBE := Lib.hid hB
       clear hmo hmt hB
       go_wp2
       go_roundw
       case rel => exact ⟨t + 1, o + i, EI, by go_num, by go_num, by go_num, by omega, HV, HMO2.out, HBE.out⟩
       case measure => simp [intOf]; omega
      ·have hil : i < r1 := by omega
       have hili : (i : Int) < (r1 : Int) := by omega
       clear hir
       obtain ⟨x, hx⟩ : ∃ x, x = o + i := ⟨_, rfl⟩
       have hwx : IntKind.i64.wrap ((o : Int) + (i : Int)) = (x : Int) := by
        rw [show (o : Int) + (i : Int) = (x : Int) by omega]
        exact IntWalk.i64_in _ (by omega)
       have hxv : x < v := by omega
       have hxvi : (x : Int) < (v : Int) := by omega
       have HXX := Lib.hid hx
       rw [← hx] at hmo
       have HMO2 := Lib.hid (hmo.to (F' := PF LL x o) (fun a _ s _ => by rw [hx, HO.out]; exact pf_start HPP.out.1 (by rw [← HPP.out.2]; exact hil) a s))
       have HMT := Lib.hid hmt
       have HBE := Lib.hid hB
       clear hmo hmt hB hx
       go_wp2_with fail
       go_loopw [18] (fun iv wr => ∃ (k : Nat) (EE : Nat → List (Ent × Ent)), iv = .int .i64 (k : Int) ∧ k ≤ r1 ∧ MQ wr wo.heap.size wo.heap.size (some ⟨a4, 0, none⟩) v c4 v G4 EE (PF LL x (o + k)) ∧ MQ wr W6.heap.size W6.heap.size (some ⟨a7, 0, none⟩) r1 c7 r1 G7 E7 (Mx.cmp p) ∧ Below wo.heap.size W4 wr) (fun iv _ => r1 - (intOf iv).toNat)
       case atStart => exact ⟨0, _, rfl, Nat.zero_le _, HMO2.out, HMT.out, HBE.out⟩
       case round =>
        clear HMO2 HMT HBE
        obtain ⟨k, EK, rfl, hk, hmo, hmt, hB⟩ := hrel
        by_cases hkr : k = r1
        ·subst hkr
         have HMO3 := Lib.hid (hmo.to (F' := PF LL (o + (i + 1)) 0) (fun a _ s _ => by rw [HXX.out, HO.out, HPP.out.2]; exact pf_next HPP.out.1 (by rw [← HPP.out.2]; exact hil) a s))
         have HMT := Lib.hid hmt
         have HBE := Lib.hid hB
         clear hmo hmt hB
         go_wp2
         go_roundw
         case rel => exact ⟨i + 1, EK, by go_num, by omega, HMO3.out, HMT.out, HBE.out⟩
         case measure => simp [intOf]; omega
        ·have hkl : k < r1 := by omega
         have hkli : (k : Int) < (r1 : Int) := by omega
         clear hkr
         obtain ⟨y, hy⟩ : ∃ y, y = o + k := ⟨_, rfl⟩
         have hwy : IntKind.i64.wrap ((o : Int) + (k : Int)) = (y : Int) := by
          rw [show (o : Int) + (k : Int) = (y : Int) by omega]
          exact IntWalk.i64_in _ (by omega)
         have hyv : y < v := by omega
         have hyvi : (y : Int) < (v : Int) := by omega
         have HYY := Lib.hid hy
         rw [← hy] at hmo
         obtain ⟨g, e, hgg, hxa, haa, hBg, hqb, hee⟩ := hmo.pt hxv hyv
         obtain ⟨g', e', hgg', hxa', haa', hBg', hqb', hee'⟩ := hmt.pt hil hkl
         have hent := (hmt.row i g' hgg').2.2.2 k e' hee' hkl
         obtain ⟨k0, k1', k2, k3⟩ := hqb.cells hee
         obtain ⟨l0, l1, l2, l3⟩ := hqb'.cells hee'
         have f0 := hqb.frozen (y * 4)
         have f1 := hqb.frozen (y * 4 + 1)
         have f2 := hqb.frozen (y * 4 + 2)
         have f3 := hqb.frozen (y * 4 + 3)
         have hgg2 : g < W6.heap.size := (HO6.out.row x g hgg).2.1.lt
         have HM8 := Lib.hid ((hmo.set hgg hyv (e := e') (hent.base (b' := wo.heap.size) HSW6.out)).to (F' := PF LL x (o + (k + 1))) (fun a _ s _ => by rw [hy, HXX.out, HO.out]; exact pf_set HPP.out.1 (by rw [← HPP.out.2]; exact hil) (by rw [← HPP.out.2]; exact hkl) a s))
         have HT8 := Lib.hid (hmt.farQ hqb hgg2 y e')
         have HB8 := Lib.hid (below_setQ hB hBg y e')
         obtain ⟨⟨e1, e2, e3, e4⟩, ⟨e5, e6, e7, e8⟩⟩ := e'
         unfold setQ at HM8 HT8 HB8
         clear hmo hmt hB hgg haa hBg hqb hee hgg' haa' hBg' hqb' hee' hent hy
         go_upto_region 21 with fail
         go_region_law fail
         all_goals
          clear hxa hxa' k0 k1' k2 k3 l0 l1 l2 l3 f0 f1 f2 f3
          go_wp2
          go_roundw
          case rel => exact ⟨k + 1, _, by go_num, by omega, HM8.out.next (Below.refl _ _).drew, HT8.out.next (Below.refl _ _).drew, HB8.out.drew⟩
          case measure => simp [intOf]; omega
  ·have hjl : j < n := by omega
   have hjli : (j : Int) < (n : Int) := by omega
   clear hjn
   obtain ⟨ad, s1, A1, n1, c1, G1, r1, k1, d, MM, rfl, hbk, hx0, hx1, hx2, hod, hom, hp⟩ := omt_at (HX0.out wr (HB1.out.trans (hB.mono HB1.out.size))) hjl
   obtain ⟨p, hpp⟩ : ∃ p, LL[j]? = some p := ⟨LL[j]'(by rw [HL.out]; exact hjl), List.getElem?_eq_getElem _⟩
   have hdm := hp.out
   rw [List.getElem?_map, hpp, Option.map_some] at hdm
   injection hdm with hdm
   unfold gmr at hdm
   injection hdm with hd1 hd2
   subst hd1 hd2
   obtain ⟨m, hmm⟩ : ∃ m, m = p.length - 1 := ⟨_, rfl⟩
   have hr1 : r1 = m := by rw [← hom.len, rN_len, hmm]
   subst hr1
   obtain ⟨hpos, hfit, hcs⟩ := HIT.out j p hpp
   rw [← hmm] at hpos hfit hcs hod hom
   have HV := Lib.hid (show v + r1 = Mx.dsz (LL.take (j + 1)) by rw [Mx.dsz_take hpp, ← hv.out, ← hmm])
   rw [← hv.out] at hfit
   have HRZ := Lib.hid (rN_sz hcs hN (by omega) (by omega))
   obtain ⟨W5, HW5⟩ : ∃ W, W = wr.alloc (.cells #[.bool s1, .slice A1 n1 c1, .slice G1 r1 k1] 28) := ⟨_, rfl⟩
   have hb5 : Below wr.heap.size wr W5 := by rw [HW5]; exact (Below.refl _ _).alloc (Nat.le_refl _) _
   have HR5 := Lib.hid ((hom.next hb5).rd HRZ.out)
   have HB5 := Lib.hid (hB.trans (hb5.mono hB.size))
   have HCQ := Lib.hid (show (((rN r1 r1 (Mx.cmp p)).map (·.map ofZ)).length : Int) = r1 ∧ (colsOf ((rN r1 r1 (Mx.cmp p)).map (·.map ofZ)) : Int) = r1 from ⟨by rw [List.length_map, rN_len], by rw [cols_q (rN_rows _ _ _) (by rw [List.length_map, rN_len]; exact hpos)]⟩)
   have hwv : IntKind.i64.wrap ((v : Int) + (r1 : Int)) = ((v + r1 : Nat) : Int) := by
    rw [show (v : Int) + (r1 : Int) = ((v + r1 : Nat) : Int) by omega]
    exact IntWalk.i64_in _ (by omega)
   have HW5 := Lib.hid HW5
   clear hB hb5 hod hom hp hpp hmm hcs hv
   go_wp2_with fail
   rw [← HW5.out]
   clear HW5 hx0 hx1 hx2
   clear HW5
   refine (rMSize_any HR5.out (by omega)).mono ?_
   rintro _ W6 ⟨x6, y6, rfl, hxy, hb6⟩
   obtain rfl : x6 = (r1 : Int) := hxy.out.1.trans HCQ.out.1
   obtain rfl : y6 = (r1 : Int) := hxy.out.2.trans HCQ.out.2
   have HB6 := Lib.hid (HB5.out.trans (hb6.mono HB5.out.size))
   clear hxy hb6
   go_wp2
   go_roundw
   case rel => exact ⟨j + 1, v + r1, by go_num, by go_num, by go_num, by omega, HV, HB6.out⟩
   case measure => simp [intOf]; omega
end Go.Proofs.YtjnklbfhelbjgaaGreat

/- Reference 17: Sum. -/
namespace Go.Proofs.YtjnklbfhelbjgaaGreat
open Go.RowKit Go.IntWalk
attribute [local go_sem ↓] Go.wp_at_zero Go.wp_at_succ
set_option maxRecDepth 100000 in
set_option maxHeartbeats 8000000 in
theorem rSum_any {N b n c : Nat} {A : Option Addr} {LL : List (List Rat)} {w : World} (h : OwPs w b A n c LL) (hg : Good N LL) (hN : N ≤ 1000000) (h1N : 1 ≤ N) (hn0 : 0 < n) :
  Calls Tryz.prog 57 #[.slice A n c] w (RetMt (rD (Mx.dsz LL) (Mx.dsz LL) (Mx.ds LL)) (rN (Mx.dsz LL) (Mx.dsz LL) (Mx.ds LL)) w) := by
 obtain ⟨i0, hi, hz0, hz1, hz2⟩ := info_parts infoMat
 have HG := Lib.hid hg
 have HL := Lib.hid h.len
 have hn24 : n ≤ 24 := by rw [← HL.out]; exact hg.count
 obtain ⟨W2, HW1⟩ : ∃ W, W = w.alloc (.cells #[.bool false, .slice none 0 0, .slice none 0 0] 28) := ⟨_, rfl⟩
 have HM2 := Lib.hid (show MC W2 w.heap.size false none 0 0 none 0 0 by rw [HW1]; exact MC.new w false none 0 0 none 0 0)
 have HB2 := Lib.hid (show Below w.heap.size w W2 by rw [HW1]; exact (Below.refl _ _).alloc (Nat.le_refl _) _)
 have HO2 := Lib.hid (show ∀ W, Below W2.heap.size W2 W → OwPs W b A n c LL from fun W hb => (h.next HB2.out).next hb)
 have HW1 := Lib.hid HW1
 clear h hg
 go_enter Tryz.func57, Tryz.ntmps57
 go_wp2_with fail
 rw [← HW1.out]
 clear HW1
 clear HW1
 go_loopw [3, 8] (fun ov iv wr => ∃ (j : Nat) (A' : Option Addr) (c' : Nat), ov = .slice A' j c' ∧ iv = .int .i64 (j : Int) ∧ j ≤ n ∧ OwMts wr W2.heap.size A' j c' ((LL.map gmr).take j) ∧ Below W2.heap.size W2 wr) (fun _ iv _ => n - (intOf iv).toNat)
 case atStart => exact ⟨0, none, 0, rfl, rfl, Nat.zero_le _, OwMts.nil _ _, Below.refl _ _⟩
 case round =>
  obtain ⟨j, A', c', rfl, rfl, hj, ho, hB⟩ := hrel
  by_cases hjn : j = n
  ·have HO := Lib.hid (show OwMts wr W2.heap.size A' j c' (LL.map gmr) by rw [List.take_of_length_le (by rw [List.length_map, HL.out, hjn]; exact Nat.le_refl _)] at ho; exact ho)
   have HBF := Lib.hid (HB2.out.trans (hB.mono HB2.out.size))
   have HMF := Lib.hid (HM2.out.next hB)
   subst hjn
   clear ho hB
   go_wp2_with fail
   refine (rBlocks_any HO.out HG.out hN h1N hn0).mono ?_
   rintro _ W8 ⟨s8, A8, n8, c8, G8, r8, k8, y8, MM, rfl, ho8, hm8, hy8, hb8⟩
   have hMz := HMF.out.next hb8
   have r0 := hMz.c0
   have r1 := hMz.c1
   have r2 := hMz.c2
   have f0 := hMz.fz 0
   have f1 := hMz.fz 1
   have f2 := hMz.fz 2
   have HSS := Lib.hid (hMz.store s8 A8 n8 c8 G8 r8 k8)
   have HU := Lib.hid ((ho8.base (b' := w.heap.size) HBF.out.size).keep (keepI_put hMz s8 A8 n8 c8 G8 r8 k8).1)
   have HQQ := Lib.hid ((hm8.put hMz HMF.out.lt s8 A8 n8 c8 G8 r8 k8).base (b' := w.heap.size) HBF.out.size)
   have HF := Lib.hid (below_putM (HBF.out.trans (hb8.mono HBF.out.size)) (Nat.le_refl w.heap.size) s8 A8 n8 c8 G8 r8 k8)
   unfold putM at HSS HU HQQ HF
   clear hMz ho8 hm8 hb8
   go_wp2_with fail
   generalize ((W8.setCell ⟨w.heap.size, 0, none⟩ (.bool s8)).setCell ⟨w.heap.size, 1, none⟩ (.slice A8 n8 c8)).setCell ⟨w.heap.size, 2, none⟩ (.slice G8 r8 k8) = W9 at *
   exact bodyPost_ret (by simp [results, Tryz.results57, go_sem, HSS.out.c0, HSS.out.c1, HSS.out.c2]) rfl ⟨s8, A8, n8, c8, G8, r8, k8, _, _, rfl, HU.out, HQQ.out, hy8, HF.out⟩
  ·have hjl : j < n := by omega
   have hjli : (j : Int) < (n : Int) := by omega
   clear hjn
   obtain ⟨gp, A3, n3, c3, L, rfl, hbk, hx, ho3, hp⟩ := opl_at (HO2.out wr hB) hjl
   have hLm := List.mem_of_getElem? hp.out
   have hlen := ho3.len
   have h2 := HG.out.len L hLm
   have h25 := HG.out.le L hLm
   have HRD := Lib.hid (ho3.rd (N := N) (fun x hx => HG.out.sz L hLm x hx))
   have HSZ := Lib.hid (HG.out.sz L hLm)
   have HNZ := Lib.hid (HG.out.nz L hLm)
   have HLL := Lib.hid (show L.length = (L.length - 1) + 1 ∧ 0 < L.length - 1 ∧ L.length - 1 ≤ 100 by omega)
   have HTK := Lib.hid (show (LL.map gmr).take j ++ [gmr L] = (LL.map gmr).take (j + 1) by
    rw [List.take_add_one, List.getElem?_map, hp.out]
    rfl)
   have HOT := Lib.hid ho
   have HBT := Lib.hid hB
   clear ho hB ho3 hlen h2 h25 hLm
   go_wp2_with fail
   refine (rOf_any HRD.out HNZ.out HLL.out.1 HSZ.out hN h1N HLL.out.2).mono ?_
   rintro _ W5 ⟨s5, A5, n5, c5, G5, r5, k5, y5, MM, rfl, ho5, hm5, hy5, hb5⟩
   obtain ⟨rfl, rfl⟩ := hy5.out
   obtain ⟨E, hE, hEl, hEn⟩ := HOT.out.next hb5
   have HE := Lib.hid hE
   have HEN := Lib.hid (And.intro hEl hEn)
   have HP5 := Lib.hid (And.intro (ho5.base (b' := W2.heap.size) HBT.out.size) (hm5.base (b' := W2.heap.size) HBT.out.size))
   have HB5 := Lib.hid (HBT.out.trans (hb5.mono HBT.out.size))
   clear hE hEl hEn ho5 hm5 hb5 hx
   go_wp2_with (at_builtin; refine wpList_append_own _ rfl _ _ 125 rfl W2.heap.size 28 i0 (.agg #[.bool false, .slice none 0 0, .slice none 0 0]) 3 56 Tryz.underlying125 hi hz0 hz1 hz2 rfl (by decide) _ _ _ rfl (HE.out.alloc _) ⟨W5.heap.size, 0, none⟩ 1 1 [.bool s5, .slice A5 n5 c5, .slice G5 r5 k5] rfl rfl (mcell_new W5 (.bool s5) (.slice A5 n5 c5) (.slice G5 r5 k5) 28) (by simp [Value.oneCell']) (by unfold maxLen; omega) (by omega) (by have := HB5.out.size; simp; omega) ?_; intro v' w1 hown' hgrow _)
   obtain ⟨A9, c9, rfl, ho9⟩ := mts_more (e := ((s5, A5, n5, c5), (G5, r5, k5))) (x := gmr L) HP5.out rfl (HE.out.alloc _) HEN.out.1 (HEN.out.2.next ((Below.refl _ _).alloc (Nat.le_refl _) (.cells #[.bool s5, .slice A5 n5 c5, .slice G5 r5 k5] 28))) hown' hgrow
   have HB9 := Lib.hid ((HB5.out.alloc HB5.out.size (.cells #[.bool s5, .slice A5 n5 c5, .slice G5 r5 k5] 28)).grown hgrow (by have := HB5.out.size; simp; omega) (own_block HE.out))
   have HO9 := Lib.hid (show OwMts w1 W2.heap.size A9 (j + 1) c9 ((LL.map gmr).take (j + 1)) by rw [← HTK.out]; exact ho9)
   clear hown' hgrow HE HEN ho9
   go_wp2
   go_roundw
   case rel => exact ⟨j + 1, A9, c9, rfl, by go_num, by omega, HO9.out, HB9.out⟩
   case measure => simp [intOf]; omega
end Go.Proofs.YtjnklbfhelbjgaaGreat

/- Reference 17: Read of a matrix that fits. -/
namespace Go.Proofs.YtjnklbfhelbjgaaGreat
open Go.RowKit Go.IntWalk
attribute [local go_sem ↓] Go.wp_at_zero Go.wp_at_succ
def RetRr (d : Int) (RR : List RawRow) (w : World) (e : Ending) (w' : World) : Prop :=
 ∃ (A : Option Addr) (n c : Nat) (LL : List (List Rat)) (b : Bool), e = .returned (.tuple #[.slice A n c, .bool b]) ∧ OwPs w' w.heap.size A n c LL ∧ Hid (∃ MM, Mx.IsRd (me d RR) RR.length RR.length MM ∧ ((ent d RR = Mx.tab RR.length RR.length (Mx.ds MM) ∧ b = true ∧ LL = MM) ∨ (¬ent d RR = Mx.tab RR.length RR.length (Mx.ds MM) ∧ b = false ∧ LL = []))) ∧ Below w.heap.size w w'
theorem me_mem {d : Int} {RR : List RawRow} {q : Nat} (h : ∀ R ∈ RR, R.length = q) {i k : Nat} (hi : i < RR.length) (hk : k < q) : ∃ L ∈ ent d RR, me d RR i k ∈ L := by
 refine ⟨_, List.mem_of_getElem? (i := i) (by rw [ent_tab h]; exact Mx.tab_row hi), ?_⟩
 exact List.mem_map.2 ⟨k, List.mem_range.2 hk, rfl⟩
set_option maxRecDepth 100000 in
set_option maxHeartbeats 16000000 in
theorem rRead_any {N K : Nat} {s : Bool} {A G : Option Addr} {n c r k : Nat} {d : Int} {RR : List RawRow} {w : World} (h : RdZ w w.heap.size s A n c d) (h' : RdRss w w.heap.size N K G r k RR) (hn : n ≤ 1000000000000) (hN : N ≤ 1000000000000) (hf : Fits d RR) :
  Calls Tryz.prog 13 #[.agg #[.bool s, .slice A n c, .slice G r k]] w (RetRr d RR w) := by
 obtain ⟨i0, hi, hz0, hz1, hz2⟩ := info_parts infoQ
 obtain ⟨i1, hjf, hy0, hy1, hy2⟩ := info_parts infoPoly
 obtain ⟨W1, HW1⟩ : ∃ W, W = w.alloc (.cells #[.bool s, .slice A n c, .slice G r k] 28) := ⟨_, rfl⟩
 have hM : MC W1 w.heap.size s A n c G r k := by rw [HW1]; exact MC.new w s A n c G r k
 have hB : Below w.heap.size w W1 := by rw [HW1]; exact (Below.refl _ _).alloc (Nat.le_refl _) _
 have HB := Lib.hid hB
 have HX := Lib.hid (show ∀ W, Below W1.heap.size W1 W → MC W w.heap.size s A n c G r k ∧ RdZ W W.heap.size s A n c d ∧ RdRss W W.heap.size N K G r k RR from fun W hb => ⟨hM.next hb, (h.next hB).next hb, (h'.next hB).next hb⟩)
 have HL := Lib.hid h'.len
 have HF := Lib.hid hf
 have hr24 : r ≤ 24 := by rw [← HL.out]; exact HF.out.le
 have hr0 : 0 < r := by rw [← HL.out]; exact HF.out.pos
 have HSQ := Lib.hid (show ∀ R ∈ RR, R.length = r by rw [← HL.out]; exact HF.out.sq)
 have q0 := hM.c0
 have q1 := hM.c1
 have q2 := hM.c2
 rw [HW1] at q0 q1 q2
 have HW1 := Lib.hid HW1
 clear h h' hM hB hf
 go_enter Tryz.func13, Tryz.ntmps13
 go_wp2_with fail
 rw [← HW1.out]
 clear HW1 q0 q1 q2
 clear HW1
 refine (rMRows_any (HX.out _ (Below.refl _ _)).2.1 (HX.out _ (Below.refl _ _)).2.2 HF.out.den HSQ.out hn hN (by omega) (by omega)).mono ?_
 rintro _ W3 ⟨A3, c3, G3, E3, rfl, hm3, hb3⟩
 obtain ⟨n3, hn3⟩ : ∃ n3, n3 = r := ⟨_, rfl⟩
 have HO3 := Lib.hid (show ∀ W, Below W3.heap.size W3 W → OwQss W W1.heap.size A3 r c3 (ent d RR) from fun W hb => by
  have := (hm3.rows (Nat.le_refl _) (by unfold maxLen; omega)).next hb
  rw [ent_tab HSQ.out, HL.out]
  exact this)
 have HB3 := Lib.hid hb3
 have HBW3 := Lib.hid (HB.out.trans (hb3.mono HB.out.size))
 subst hn3
 clear hm3 hb3
 go_wp2_with fail
 go_loopw [5, 6] (fun ov av wr => ∃ (a j : Nat) (A' : Option Addr) (c' : Nat) (MM : List (List Rat)), ov = .slice A' j c' ∧ av = .int .i64 (a : Int) ∧ a ≤ n3 ∧ OwPs wr W3.heap.size A' j c' MM ∧ Hid (Mx.IsRd (me d RR) n3 a MM) ∧ Below W3.heap.size W3 wr) (fun _ av _ => n3 - (intOf av).toNat)
 case atStart => exact ⟨0, 0, none, 0, [], rfl, rfl, Nat.zero_le _, OwPs.nil _ _, Lib.hid Mx.IsRd.nil, Below.refl _ _⟩
 case round =>
  obtain ⟨a, j, A', c', MM, rfl, rfl, ha, ho, hrd, hB⟩ := hrel
  by_cases han : a = n3
  ·have HRD := Lib.hid (show Mx.IsRd (me d RR) RR.length RR.length MM by rw [HL.out]; exact han ▸ hrd.out)
   have HG := Lib.hid (rd_good HF.out HRD.out)
   have HDZ := Lib.hid (show Mx.dsz MM = n3 by rw [HRD.out.dsz, HL.out])
   have hj0 : 0 < j := by
    rcases Nat.eq_zero_or_pos j with e | e
    ·have e1 := ho.len
     rw [e] at e1
     have e2 := HDZ.out
     rw [List.eq_nil_of_length_eq_zero e1] at e2
     have e3 : Mx.dsz [] = 0 := rfl
     omega
    ·exact e
   have HO := Lib.hid ho
   have HBO := Lib.hid hB
   have HXO := Lib.hid (show ∀ W, Below wr.heap.size wr W → (MC W w.heap.size s A n c G n3 k ∧ RdZ W W.heap.size s A n c d ∧ RdRss W W.heap.size N K G n3 k RR) ∧ OwPs W W3.heap.size A' j c' MM ∧ Below w.heap.size w W from fun W hb => by
    have h1 := hB.trans (hb.mono hB.size)
    exact ⟨HX.out W (HB3.out.trans (h1.mono HB3.out.size)), ho.next hb, HBW3.out.trans (h1.mono HBW3.out.size)⟩)
   have HBD := Lib.hid (Below.refl wr.heap.size wr).drew
   have HCX := Lib.hid (show ∀ W, Below wr.heap.size wr W → W.cell? ⟨w.heap.size, 0, none⟩ = some (.bool s) ∧ W.cell? ⟨w.heap.size, 1, none⟩ = some (.slice A n c) ∧ W.cell? ⟨w.heap.size, 2, none⟩ = some (.slice G n3 k) from fun W hb => ⟨(HXO.out W hb).1.1.c0, (HXO.out W hb).1.1.c1, (HXO.out W hb).1.1.c2⟩)
   have HES := Lib.hid (show (∀ i, i < n3 → ∀ k, k < n3 → Qs 4097 (Mx.ds MM i k)) ∧ (∀ i, i < n3 → ∀ k, k < n3 → Qs 4097 (me d RR i k)) from ⟨fun i _ k _ => ds_sz (by decide) MM i k HG.out.sz, fun i hi k hk => by
    obtain ⟨L, hL, hm⟩ := me_mem (d := d) HSQ.out (show i < RR.length by rw [HL.out]; exact hi) hk
    exact HF.out.sz L hL _ hm⟩)
   have HSB := Lib.hid (show w.heap.size ≤ W3.heap.size from HBW3.out.size)
   subst han
   clear ho hB hrd
   go_upto_region 15 with fail
   obtain ⟨x0, x1, x2⟩ := HCX.out _ (Below.refl _ _)
   go_region_held3 (fun w' => w'.cell? ⟨w.heap.size, 0, none⟩ = some (.bool s) ∧ w'.cell? ⟨w.heap.size, 1, none⟩ = some (.slice A n c) ∧ w'.cell? ⟨w.heap.size, 2, none⟩ = some (.slice G a k))
    (first | exact HCX.out _ HB7.out | exact HCX.out _ HB5.out | exact HCX.out _ HBD.out)
    (first
     | (go_at_call 57; refine (rSum_any ((HXO.out _ HBD.out).2.1) HG.out (by decide) (by decide) hj0).mono ?_; rintro _ W5 ⟨s5, A5, n5, c5, G5, r5, k5, y5, NN, rfl, ho5, hm5, hy5, hb5⟩; obtain ⟨rfl, rfl⟩ := hy5.out; have HB5 := Lib.hid (HBD.out.trans hb5); have hr5 : r5 = a := (by rw [← hm5.len, rN_len, HDZ.out]); subst hr5; have HM5 := Lib.hid (And.intro ho5 hm5); have HN5 := Lib.hid (show n5 ≤ 1000000000000 by rw [ho5.len, HDZ.out]; exact Nat.le_trans (rD_sz HES.out.1 (by decide) (by omega) (by omega)) (by decide)); clear ho5 hm5 hy5 hb5)
     | (go_at_call 56; refine (rMEqual_any (M := 4097) (q := r5) HM5.out.1.rd (HM5.out.2.rd (K := r5) (N := 20000000000) (by rw [HDZ.out]; exact rN_sz HES.out.1 (by decide) (by omega) (by omega))) (rD_ne _ _ _) (by rw [HDZ.out]; exact rN_rows _ _ _) HN5.out (by decide) (by rw [HDZ.out]; exact fun i hi k hk => by rw [me_rN hi hk]; exact HES.out.1 i hi k hk) (HXO.out _ HB5.out).1.2.1 (HXO.out _ HB5.out).1.2.2 HF.out.den HSQ.out hn hN HES.out.2 (by decide) (by decide) ⟨hr0, by omega⟩ ⟨hr0, by omega⟩).mono ?_; rintro _ W7 ⟨b7, rfl, hb7v, hb7⟩; have HB7 := Lib.hid (HB5.out.trans (hb7.mono HB5.out.size))))
   all_goals
    have HV7 := Lib.hid (show b7 = true ↔ ent d RR = Mx.tab RR.length RR.length (Mx.ds MM) by rw [hb7v.out, ent_rN, HDZ.out, HL.out]; exact ⟨fun e => e.symm, fun e => e.symm⟩)
    have HO7 := Lib.hid ((HXO.out _ HB7.out).2.1.base HSB.out)
    have HF7 := Lib.hid (HXO.out _ HB7.out).2.2
    clear hb7v hb7 x0 x1 x2
    cases b7
    case true =>
     have HE := Lib.hid (HV7.out.1 rfl)
     go_wp2
     go_ret2
     exact ⟨A', j, c', MM, true, rfl, HO7.out, Lib.hid ⟨MM, HRD.out, .inl ⟨HE.out, rfl, rfl⟩⟩, HF7.out⟩
    case false =>
     have HE := Lib.hid (show ¬ent d RR = Mx.tab RR.length RR.length (Mx.ds MM) from fun e => by have := HV7.out.2 e; simp at this)
     go_wp2
     go_ret2
     exact ⟨none, 0, 0, [], false, rfl, OwPs.nil _ _, Lib.hid ⟨MM, HRD.out, .inr ⟨HE.out, rfl, rfl⟩⟩, HF7.out⟩
  ·have hal : a < n3 := by omega
   have hali : (a : Int) < (n3 : Int) := by omega
   clear han
   obtain ⟨wo, rfl⟩ : ∃ V, V = wr := ⟨_, rfl⟩
   have HO := Lib.hid ho
   have HBO := Lib.hid hB
   clear ho hB
   go_wp2_with fail
   go_loopw [7] (fun sv wr => ∃ z : Nat, sv = .int .i64 (z : Int) ∧ 1 ≤ z ∧ a + z ≤ n3 ∧ Hid (∀ u, a ≤ u → u + 1 < a + z → u + 1 < n3 ∧ me d RR (u + 1) u ≠ 0) ∧ Below wo.heap.size wo wr) (fun sv _ => n3 - (intOf sv).toNat)
   case atStart => exact ⟨1, rfl, Nat.le_refl _, hal, Lib.hid fun u h1 h2 => absurd h2 (by omega), Below.refl _ _⟩
   case round =>
    obtain ⟨z, rfl, hzp, hzn, hon, hB5⟩ := hrel
    obtain ⟨x, hx⟩ : ∃ x, x = a + z := ⟨_, rfl⟩
    obtain ⟨y, hy⟩ : ∃ y, x = y + 1 := ⟨x - 1, by omega⟩
    have hwx : IntKind.i64.wrap ((a : Int) + (z : Int)) = (x : Int) := by
     rw [show (a : Int) + (z : Int) = (x : Int) by omega]
     exact IntWalk.i64_in _ (by omega)
    have hwy : IntKind.i64.wrap ((x : Int) - 1) = (y : Int) := by
     rw [show (x : Int) - 1 = (y : Int) by omega]
     exact IntWalk.i64_in _ (by omega)
    have hyn : y < n3 := by omega
    have hyni : (y : Int) < (n3 : Int) := by omega
    have hay : a ≤ y := by omega
    have HXY := Lib.hid (And.intro hx hy)
    have HB5 := Lib.hid hB5
    have HBW := Lib.hid (HBO.out.trans (hB5.mono HBO.out.size))
    clear hB5 hx hy
    go_upto_region 6 with fail
    go_cut [37] from 16 to 37 (fun cv V => cv = .bool (decide (y + 1 < n3 ∧ me d RR (y + 1) y ≠ 0)) ∧ Below wo.heap.size wo V)
    case first =>
     by_cases h1 : x < n3
     ·have h1i : (x : Int) < (n3 : Int) := by omega
      obtain ⟨g, A4, n4, c4, L4, rfl, hbk, hxc, ho4, hp4⟩ := oql_at (HO3.out wr HBW.out) h1
      have hn4 : n4 = n3 := by
       rw [← ho4.len]
       have e := hp4.out
       rw [ent_tab HSQ.out, HL.out, Mx.tab_row h1] at e
       injection e with e
       rw [← e]
       simp
      subst hn4
      obtain ⟨ad, s1, B1, m1, k1, s2, B2, m2, k2, v, rfl, hbk2, hx0, hx1, hx2, hx3, hq, hqx⟩ := op_at ho4 hyn
      have HME := Lib.hid (show me d RR (y + 1) y = v from by rw [← HXY.out.2]; exact me_ent HSQ.out hp4.out hqx.out)
      have HQ := Lib.hid hq
      have HLN := Lib.hid (show m1 ≤ 4097 ∧ m2 ≤ 4097 by
       rw [hq.num.len, hq.den.len]
       exact HF.out.sz L4 (List.mem_of_getElem? hp4.out) v (List.mem_of_getElem? hqx.out))
      clear ho4 hp4 hq hqx
      go_wp2_with fail
      refine (rQSign_any HQ.out.num.rd HQ.out.den.rd (by have := HLN.out; omega) (by have := HLN.out; omega)).mono ?_
      rintro _ W6 ⟨kz, rfl, hkz, hb6⟩
      have HZ := Lib.hid (show kz = 0 ↔ v = 0 by
       rw [hkz.out, ← Rat.num_eq_zero]
       have := qden_ne v
       constructor
       ·rintro (e | e)
        ·exact e
        ·exact absurd e this
       ·exact fun e => .inl e)
      have HBF := Lib.hid (HB5.out.trans (hb6.mono HB5.out.size))
      clear hkz hb6 hxc hx0 hx1 hx2 hx3
      by_cases hk0 : kz = 0
      ·have hG := Lib.hid (show decide (y + 1 < n4 ∧ me d RR (y + 1) y ≠ 0) = false from decide_eq_false fun e => e.2 (by rw [HME.out]; exact HZ.out.1 hk0))
       subst hk0
       go_wp2_with fail
       go_meet
       exact ⟨by rw [hG.out], HBF.out⟩
      ·have hG := Lib.hid (show decide (y + 1 < n4 ∧ me d RR (y + 1) y ≠ 0) = true from decide_eq_true ⟨by have := HXY.out; omega, fun e => hk0 (HZ.out.2 (by rw [← HME.out]; exact e))⟩)
       have hkb : (kz == 0) = false := by simp [hk0]
       have HK0 := Lib.hid hk0
       go_wp2_with fail
       go_meet
       exact ⟨by rw [hG.out]; simp [HK0.out], HBF.out⟩
     ·have h1i : decide ((x : Int) < (n3 : Int)) = false := by simp only [decide_eq_false_iff_not]; omega
      have h1j : ¬(x : Int) < (n3 : Int) := by omega
      have hG := Lib.hid (show decide (y + 1 < n3 ∧ me d RR (y + 1) y ≠ 0) = false from decide_eq_false fun e => h1 (by have := HXY.out; omega))
      go_wp2_with fail
      go_meet
      exact ⟨by rw [hG.out], HB5.out⟩
    case rest =>
     obtain ⟨rfl, hBc⟩ := hcut
     by_cases hP : y + 1 < n3 ∧ me d RR (y + 1) y ≠ 0
     ·have HN := Lib.hid (show ∀ u, a ≤ u → u + 1 < a + (z + 1) → u + 1 < n3 ∧ me d RR (u + 1) u ≠ 0 from fun u h1 h2 => by
       rcases Nat.lt_or_ge (u + 1) (a + z) with h3 | h3
       ·exact hon.out u h1 h3
       ·rw [show u = y by have := HXY.out; omega]; exact hP)
      have HP1 := Lib.hid (show a + (z + 1) ≤ n3 by have := hP.1; have := HXY.out; omega)
      have hg : decide (y + 1 < n3 ∧ me d RR (y + 1) y ≠ 0) = true := decide_eq_true hP
      rw [hg]
      have HBc := Lib.hid hBc
      have hwz : IntKind.i64.wrap ((z : Int) + 1) = (z : Int) + 1 := IntWalk.i64_in _ (by omega)
      clear hg hP hBc hon
      go_wp2
      go_roundw
      case rel => exact ⟨z + 1, by go_num, by omega, HP1.out, HN, HBc.out⟩
      case measure => simp [intOf]; have := HP1.out; omega
     ·have HE0 := Lib.hid (show Mx.IsEnd (me d RR) n3 a y from ⟨hay, hyn, fun u h1 h2 => hon.out u h1 (by have := HXY.out; omega), hP⟩)
      have hg : decide (y + 1 < n3 ∧ me d RR (y + 1) y ≠ 0) = false := decide_eq_false hP
      rw [hg]
      have HBc := Lib.hid hBc
      clear hg hP hBc hon
      obtain ⟨wp, rfl⟩ : ∃ V, V = wc := ⟨_, rfl⟩
      go_wp2_with fail
      go_loopw [8, 9] (fun pv iv wr => ∃ (i c5 : Nat) (A5 : Option Addr), pv = .slice A5 i c5 ∧ iv = .int .i64 (i : Int) ∧ i ≤ z ∧ OwQs wr wp.heap.size A5 i c5 ((Mx.pol (me d RR) a y).take i) ∧ Below wp.heap.size wp wr) (fun _ iv _ => z - (intOf iv).toNat)
      case atStart => exact ⟨0, 0, none, rfl, rfl, Nat.zero_le _, OwQs.nil _ _, Below.refl _ _⟩
      case round =>
       obtain ⟨i, c5, A5, rfl, rfl, hiz, ho5, hB5⟩ := hrel
       by_cases hie : i = z
       ·subst hie
        have HO5 := Lib.hid ho5
        have HBC := Lib.hid (HBc.out.trans (hB5.mono HBc.out.size))
        have HBP := Lib.hid hB5
        clear ho5 hB5
        go_wp2_with fail
        refine (rQOf_any 1 (by decide) (by decide) wr).mono ?_
        rintro _ W7 ⟨s7, A7, n7, c7, s8, A8, n8, c8, v, rfl, ho7, hv, hb7⟩
        obtain ⟨E, hE, hEl, hEn⟩ := HO5.out.next hb7
        have HE := Lib.hid hE
        have HEN := Lib.hid (And.intro hEl hEn)
        have HO8 := Lib.hid (ho7.base (b' := wp.heap.size) HBP.out.size)
        have HY := Lib.hid (show (Mx.pol (me d RR) a y).take i ++ [v] = Mx.pol (me d RR) a y by
         rw [hv.out]
         have := pol_end (me d RR) a y
         rw [show y + 1 - a = i by have := HXY.out; omega] at this
         exact this)
        have HB7 := Lib.hid (HBC.out.trans (hb7.mono HBC.out.size))
        have HBQ := Lib.hid (HBP.out.trans (hb7.mono HBP.out.size))
        clear hE hEl hEn hb7 ho7 hv
        go_wp2_with (at_builtin; refine wpList_append_own _ rfl _ _ 73 rfl wp.heap.size 47 i0 (.agg #[.bool false, .slice none 0 0, .bool false, .slice none 0 0]) 4 64 Tryz.underlying73 hi hz0 hz1 hz2 rfl (by decide) _ _ _ rfl (HE.out.alloc _) ⟨W7.heap.size, 0, none⟩ 1 1 [.bool s7, .slice A7 n7 c7, .bool s8, .slice A8 n8 c8] rfl rfl (qcell_new W7 (.bool s7) (.slice A7 n7 c7) (.bool s8) (.slice A8 n8 c8) 47) (by simp [Value.oneCell']) (by unfold maxLen; omega) (by omega) (by have := HBQ.out.size; simp at this ⊢; omega) ?_; intro v' w1 hown' hgrow _)
        obtain ⟨A9, c9, rfl, ho9⟩ := qs_more (e := ((s7, A7, n7, c7), (s8, A8, n8, c8))) (x := v) HO8.out rfl (HE.out.alloc _) HEN.out.1 HEN.out.2 hown' hgrow
        have HBG := Lib.hid ((HB7.out.alloc HB7.out.size (.cells #[.bool s7, .slice A7 n7 c7, .bool s8, .slice A8 n8 c8] 47)).grown hgrow (by have := HB7.out.size; simp; omega) (fun k e => Nat.le_trans HBc.out.size (own_block HE.out k e)))
        have HRD2 := Lib.hid (Mx.IsRd.snoc hrd.out HE0.out)
        have hp9 : OwQp w1 wp.heap.size A9 (i + 1) c9 (Mx.pol (me d RR) a y) := by
         rw [HY.out] at ho9
         exact ho9.p
        have HPR := Lib.hid (hp9.rd (N := 4097) (fun v hv => by
         have hpm : Good 4097 [Mx.pol (me d RR) a y] ∨ True := .inr trivial
         unfold Mx.pol at hv
         rcases List.mem_append.1 hv with h1 | h1
         ·obtain ⟨u, hu, rfl⟩ := List.mem_map.1 h1
          have hu2 := List.mem_range.1 hu
          obtain ⟨L, hL, hm⟩ := me_mem (d := d) HSQ.out (show a + u < RR.length by rw [HL.out]; omega) hyn
          have hq := HF.out.sz L hL _ hm
          exact hq.neg
         ·rw [List.mem_singleton.1 h1]
          exact Qs.int (z := 1) (Nat.le_trans (Zz.zl_small (by decide)) (by decide)) (by decide)))
        clear hown' hgrow HE HEN ho9 hp9
        go_wp2_with fail
        refine (rqnorm_own HPR.out (by omega) (by decide)).mono ?_
        rintro _ W9 ⟨A10, n10, c10, P10, rfl, ho10, hp10, hb10⟩
        obtain rfl : P10 = Mx.pol (me d RR) a y := hp10.out.unique (Pq.IsP.self (Mx.pol_top _ _ _))
        have HSZ := Lib.hid (show W3.heap.size ≤ w1.heap.size from Nat.le_trans HBO.out.size HBG.out.size)
        have HPP := Lib.hid (ho10.base (b' := W3.heap.size) HSZ.out)
        have HBX := Lib.hid (HBG.out.trans (hb10.mono HBG.out.size))
        obtain ⟨E2, hE2, hEl2, hEn2⟩ := HO.out.next HBX.out
        have HE2 := Lib.hid hE2
        have HEN2 := Lib.hid (And.intro hEl2 hEn2)
        have HJ := Lib.hid (show j + 1 ≤ 1000 by
         have e := HO.out.len
         have e2 := hrd.out.count
         omega)
        have HSZ9 := Lib.hid (show W3.heap.size ≤ W9.heap.size from Nat.le_trans HSZ.out hb10.size)
        clear ho10 hp10 hb10 hE2 hEl2 hEn2
        go_wp2_with (at_builtin; refine wpList_append_own _ rfl _ _ 30 rfl W3.heap.size 73 i1 (.slice none 0 0) 1 24 Tryz.underlying30 hjf hy0 hy1 hy2 rfl (by decide) _ _ _ rfl (HE2.out.alloc _) ⟨W9.heap.size, 0, none⟩ 1 1 [.slice A10 n10 c10] rfl rfl (scell_new W9 (.slice A10 n10 c10) 73) (by simp [Value.oneCell']) (by have := HJ.out; unfold maxLen; omega) (by have := HJ.out; omega) (by have := HSZ9.out; simp; omega) ?_; intro v' w2 hown' hgrow _)
        obtain ⟨A11, c11, rfl, ho11⟩ := ps_more (e := (A10, n10, c10)) (L := Mx.pol (me d RR) a y) HPP.out rfl (HE2.out.alloc _) HEN2.out.1 (HEN2.out.2.next ((Below.refl _ _).alloc (Nat.le_refl _) (.cells #[.slice A10 n10 c10] 73))) hown' hgrow
        have hbx := HBO.out.trans (HBX.out.mono HBO.out.size)
        have HBZ := Lib.hid ((hbx.alloc hbx.size (.cells #[.slice A10 n10 c10] 73)).grown hgrow (by have := hbx.size; simp; omega) (own_block HE2.out))
        have HP11 := Lib.hid ho11
        have HXE := Lib.hid (show x = y + 1 ∧ x ≤ n3 ∧ a < x by have := HXY.out; omega)
        have HRD3 := Lib.hid (show Mx.IsRd (me d RR) n3 x (MM ++ [Mx.pol (me d RR) a y]) by rw [HXE.out.1]; exact HRD2.out)
        clear hbx hown' hgrow ho11
        go_wp2
        go_roundw
        case rel => exact ⟨x, j + 1, A11, c11, _, rfl, by go_num, HXE.out.2.1, HP11.out, HRD3, HBZ.out⟩
        case measure => simp [intOf]; have := HXE.out; omega
       ·have hil : i < z := by omega
        have hili : (i : Int) < (z : Int) := by omega
        clear hie
        obtain ⟨q, hq'⟩ : ∃ q, q = a + i := ⟨_, rfl⟩
        have hwq : IntKind.i64.wrap ((a : Int) + (i : Int)) = (q : Int) := by
         rw [show (a : Int) + (i : Int) = (q : Int) by omega]
         exact IntWalk.i64_in _ (by omega)
        have hqn : q < n3 := by omega
        have hqni : (q : Int) < (n3 : Int) := by omega
        have HQE := Lib.hid hq'
        clear hq'
        obtain ⟨g, A4, n4, c4, L4, rfl, hbk, hxc, ho4, hp4⟩ := oql_at (HO3.out wr (HBO.out.trans ((HBc.out.trans (hB5.mono HBc.out.size)).mono HBO.out.size))) hqn
        have hn4 : n4 = n3 := by
         rw [← ho4.len]
         have e := hp4.out
         rw [ent_tab HSQ.out, HL.out, Mx.tab_row hqn] at e
         injection e with e
         rw [← e]
         simp
        subst hn4
        obtain ⟨ad, s1, B1, m1, k1, s2, B2, m2, k2, v, rfl, hbk2, hx0, hx1, hx2, hx3, hq, hqx⟩ := op_at ho4 hyn
        have HME := Lib.hid (show me d RR q y = v from me_ent HSQ.out hp4.out hqx.out)
        have HQ := Lib.hid hq
        have HLN := Lib.hid (HF.out.sz L4 (List.mem_of_getElem? hp4.out) v (List.mem_of_getElem? hqx.out))
        have HB5 := Lib.hid hB5
        have HO5 := Lib.hid ho5
        clear ho4 hp4 hq hqx hB5 ho5
        go_wp2_with fail
        refine (rQNeg_any (N := 4097) HQ.out.num.rd HQ.out.den.rd ⟨by rw [HQ.out.num.len]; exact HLN.out.1, by rw [HQ.out.den.len]; exact HLN.out.2⟩ (by decide) (qden_ne v)).mono ?_
        rintro _ W7 ⟨s7, A7, n7, c7, s8, A8, n8, c8, v7, rfl, ho7, hv7, hb7⟩
        obtain rfl : v7 = -v := by rw [hv7.out, Rat.num_divInt_den]
        obtain ⟨E, hE, hEl, hEn⟩ := HO5.out.next hb7
        have HE := Lib.hid hE
        have HEN := Lib.hid (And.intro hEl hEn)
        have HO8 := Lib.hid (ho7.base (b' := wp.heap.size) HB5.out.size)
        have HB7 := Lib.hid (HB5.out.trans (hb7.mono HB5.out.size))
        have HTK := Lib.hid (show (Mx.pol (me d RR) a y).take i ++ [-v] = (Mx.pol (me d RR) a y).take (i + 1) by
         have := pol_take (E := me d RR) (a := a) (t := y) (i := q) (by have := HQE.out; omega) (by have := HQE.out; have := HXY.out; omega)
         rw [HME.out, show q - a = i by have := HQE.out; omega, show q + 1 - a = i + 1 by have := HQE.out; omega] at this
         exact this)
        clear hE hEl hEn hb7 ho7 hv7 hxc hx0 hx1 hx2 hx3
        go_wp2_with (at_builtin; refine wpList_append_own _ rfl _ _ 73 rfl wp.heap.size 47 i0 (.agg #[.bool false, .slice none 0 0, .bool false, .slice none 0 0]) 4 64 Tryz.underlying73 hi hz0 hz1 hz2 rfl (by decide) _ _ _ rfl (HE.out.alloc _) ⟨W7.heap.size, 0, none⟩ 1 1 [.bool s7, .slice A7 n7 c7, .bool s8, .slice A8 n8 c8] rfl rfl (qcell_new W7 (.bool s7) (.slice A7 n7 c7) (.bool s8) (.slice A8 n8 c8) 47) (by simp [Value.oneCell']) (by unfold maxLen; omega) (by omega) (by have := HB7.out.size; simp at this ⊢; omega) ?_; intro v' w1 hown' hgrow _)
        obtain ⟨A9, c9, rfl, ho9⟩ := qs_more (e := ((s7, A7, n7, c7), (s8, A8, n8, c8))) (x := -v) HO8.out rfl (HE.out.alloc _) HEN.out.1 HEN.out.2 hown' hgrow
        have HO9 := Lib.hid (show OwQs w1 wp.heap.size A9 (i + 1) c9 ((Mx.pol (me d RR) a y).take (i + 1)) by rw [← HTK.out]; exact ho9)
        have HB9 := Lib.hid ((HB7.out.alloc HB7.out.size (.cells #[.bool s7, .slice A7 n7 c7, .bool s8, .slice A8 n8 c8] 47)).grown hgrow (by have := HB7.out.size; simp; omega) (own_block HE.out))
        have hwi : IntKind.i64.wrap ((i : Int) + 1) = (i : Int) + 1 := IntWalk.i64_in _ (by omega)
        clear hown' hgrow HE HEN ho9
        go_wp2
        go_roundw
        case rel => exact ⟨i + 1, c9, A9, rfl, by go_num, by omega, HO9.out, HB9.out⟩
        case measure => simp [intOf]; omega
end Go.Proofs.YtjnklbfhelbjgaaGreat

/- Reference 17: Chain. -/
namespace Go.Proofs.YtjnklbfhelbjgaaGreat
open Go.RowKit Go.IntWalk
attribute [local go_sem ↓] Go.wp_at_zero Go.wp_at_succ
set_option maxRecDepth 100000 in
set_option maxHeartbeats 8000000 in
theorem rChain_any {N b : Nat} {A : Option Addr} {n c : Nat} {LL : List (List Rat)} {w : World} (h : OwPs w b A n c LL) (hg : Good N LL) (hN : N ≤ 1000000) (h1N : 1 ≤ N) :
  Calls Tryz.prog 15 #[.slice A n c] w (RetBo (Chn LL) w) := by
 have HO := Lib.hid (show ∀ W, Below w.heap.size w W → OwPs W b A n c LL from fun W hb => h.next hb)
 have HL := Lib.hid h.len
 have HG := Lib.hid hg
 have hn24 : n ≤ 24 := by rw [← h.len]; exact hg.count
 clear h hg
 go_enter Tryz.func15, Tryz.ntmps15
 go_wp2_with fail
 go_loopw [3] (fun iv wr => ∃ (i y : Nat), iv = .int .i64 (y : Int) ∧ y = i + 1 ∧ (i + 1 ≤ n ∨ i = 0) ∧ Hid (∀ j, j < i → Dvd (LL.getD j []) (LL.getD (j + 1) [])) ∧ Below w.heap.size w wr) (fun iv _ => n + 1 - (intOf iv).toNat)
 case atStart => exact ⟨0, 1, by go_num, rfl, .inr rfl, Lib.hid fun j hj => absurd hj (Nat.not_lt_zero _), Below.refl _ _⟩
 case round =>
  obtain ⟨i, y, rfl, hyi, hi, hall, hB⟩ := hrel
  by_cases hin : i + 1 < n
  case neg =>
   have hnl : decide ((y : Int) < (n : Int)) = false := by simp only [decide_eq_false_iff_not]; omega
   have hnl2 : ¬(y : Int) < (n : Int) := by omega
   have HC := Lib.hid (show Chn LL from fun j hj => hall.out j (by rw [HL.out] at hj; omega))
   have HF := Lib.hid hB
   clear hB hall
   go_wp2
   go_ret
   exact ⟨true, rfl, Lib.hid ⟨fun _ => HC.out, fun _ => rfl⟩, HF.out⟩
  case pos =>
   have hini : (y : Int) < (n : Int) := by omega
   have hini0 : (i : Int) < (n : Int) := by omega
   have hym : (y : Int) - 1 = (i : Int) := by omega
   have HYI := Lib.hid hyi
   obtain ⟨g, A1, n1, c1, L1, rfl, hbk, hx, ho1, hp1⟩ := opl_at (HO.out wr hB) (show i < n by omega)
   obtain ⟨g', A2, n2, c2, L2, e, _, hy, ho2, hp2⟩ := opl_at (HO.out wr hB) hin
   injection e with e
   injection e with e _ _
   subst e
   have hm1 := List.mem_of_getElem? hp1.out
   have hm2 := List.mem_of_getElem? hp2.out
   have HR := Lib.hid (show ∀ W, Below wr.heap.size wr W → RdQs W W.heap.size N A1 n1 c1 (L1.map pr) ∧ RdQs W W.heap.size N A2 n2 c2 (L2.map pr) from fun W hb => ⟨(ho1.next hb).rd (HG.out.sz L1 hm1), (ho2.next hb).rd (HG.out.sz L2 hm2)⟩)
   have HNN := Lib.hid (show n1 ≤ 25 ∧ n2 ≤ 25 from ⟨by rw [← ho1.len]; exact HG.out.le L1 hm1, by rw [← ho2.len]; exact HG.out.le L2 hm2⟩)
   have HDS := Lib.hid (good_div HG.out hN hm1 hm2)
   have HNZ := Lib.hid (And.intro (nq_pr (HG.out.nz L1 hm1)) (nq_pr (HG.out.nz L2 hm2)))
   have HV := Lib.hid (show LL.getD i [] = L1 ∧ LL.getD (i + 1) [] = L2 from ⟨by rw [List.getD_eq_getElem?_getD, hp1.out]; rfl, by rw [List.getD_eq_getElem?_getD, hp2.out]; rfl⟩)
   have HCC := Lib.hid (show ∀ W, Below wr.heap.size wr W → W.cell? ⟨g, i, none⟩ = some (.slice A1 n1 c1) ∧ W.cell? ⟨g, y, none⟩ = some (.slice A2 n2 c2) from fun W hb => ⟨(hb.cell (p := ⟨g, i, none⟩) hbk).trans hx, by rw [hyi]; exact (hb.cell (p := ⟨g, i + 1, none⟩) hbk).trans hy⟩)
   have HB := Lib.hid hB
   have HB6 := Lib.hid (Below.refl wr.heap.size wr).drew
   have hw1 : IntKind.i64.wrap (i : Int) = (i : Int) := IntWalk.i64_in _ (by omega)
   have hw2 : IntKind.i64.wrap ((y : Int) + 1) = (y : Int) + 1 := IntWalk.i64_in _ (by omega)
   rw [← hyi] at hy
   clear ho1 ho2 hp1 hp2 hm1 hm2 hB hi hyi
   go_upto_region 4 with fail
   go_region_held3 (fun W => W.cell? ⟨g, i, none⟩ = some (.slice A1 n1 c1) ∧ W.cell? ⟨g, y, none⟩ = some (.slice A2 n2 c2))
    (first | exact HCC.out _ HB9.out | exact HCC.out _ HB6.out)
    ((go_at_call 59; refine (rqDivides_any (N := 60000000000) (HR.out _ HB6.out).1 (HR.out _ HB6.out).2 (fun p hp => by obtain ⟨x, _, rfl⟩ := List.mem_map.1 hp; exact pr_ne x) (fun p hp => by obtain ⟨x, _, rfl⟩ := List.mem_map.1 hp; exact pr_ne x) (by have := HNN.out; omega) (by have := HNN.out; omega) (by omega) h1N (fun _ => by rw [HNZ.out.1, HNZ.out.2]; exact HDS.out) (Nat.le_refl _)).mono ?_; rintro _ W9 ⟨v9, rfl, hv9, hb9⟩; have HB9 := Lib.hid (HB6.out.trans (hb9.mono HB6.out.size)); have HV9 := Lib.hid (show v9 = true ↔ Dvd L1 L2 by rw [HNZ.out.1, HNZ.out.2] at hv9; exact hv9.out)))
   all_goals
    have HF := Lib.hid (HB.out.trans (HB9.out.mono HB.out.size))
    clear hx hy hv9 hb9
    cases v9
    case true =>
     have HA := Lib.hid (show ∀ j, j < i + 1 → Dvd (LL.getD j []) (LL.getD (j + 1) []) from fun j hj => by
      rcases Nat.lt_or_ge j i with h1 | h1
      ·exact hall.out j h1
      ·rw [show j = i by omega, HV.out.1, HV.out.2]
       exact HV9.out.1 (by first | rfl | trivial))
     clear hall HV9
     go_wp2
     go_roundw
     case rel => exact ⟨i + 1, y + 1, by go_num, by rw [HYI.out], .inl (by omega), HA, HF.out⟩
     case measure => simp [intOf]; omega
    case false =>
     have HN := Lib.hid (show ¬Chn LL from fun e => by
      have e1 := e i (by rw [HL.out]; exact hin)
      rw [HV.out.1, HV.out.2] at e1
      have := HV9.out.2 e1
      simp at this)
     clear hall HV9
     go_wp2
     go_ret
     exact ⟨false, rfl, Lib.hid ⟨fun e => by simp at e, fun e => absurd e HN.out⟩, HF.out⟩
end Go.Proofs.YtjnklbfhelbjgaaGreat
