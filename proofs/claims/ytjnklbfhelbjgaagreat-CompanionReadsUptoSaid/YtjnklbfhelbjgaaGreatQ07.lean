/- Are two integers, two lists, the very same? -/
import Derived.Test.YtjnklbfhelbjgaaGreatQ06
import Derived.Deep.AppendLies
import Derived.Deep.AppendSrc
import Derived.Deep.Upon
import Derived.Deep.RegionLaw
import Derived.Deep.CutBlock
import Derived.Deep.CutRange
import Derived.Deep.RegionWith
import Derived.Test.YtjnklbfhelbjgaaGreatQ03
import Derived.Test.YtjnklbfhelbjgaaGreatQ05
namespace Go.Proofs.YtjnklbfhelbjgaaGreat
open Go.RowKit Go.IntWalk
attribute [local go_sem ↓] Go.wp_at_zero Go.wp_at_succ
set_option maxRecDepth 100000 in
set_option maxHeartbeats 2000000 in
theorem same03_any {s s' : Bool} {A A' : Option Addr} {n c n' c' : Nat} {M M' : List Nat} {w : World} (h : RdU w w.heap.size A n c M) (h' : RdU w w.heap.size A' n' c' M') :
  Calls Tryz.prog 42 #[.agg #[.bool s, .slice A n c], .agg #[.bool s', .slice A' n' c']] w (RetBo ((s, M) = (s', M')) w) := by
 obtain ⟨W1, HW1⟩ : ∃ W, W = (w.alloc (.cells #[.bool s, .slice A n c] 25)).alloc (.cells #[.bool s', .slice A' n' c'] 25) := ⟨_, rfl⟩
 have hZ : ZC W1 w.heap.size s A n c := by rw [HW1]; exact (ZC.new w s A n c).alloc _
 have hY : ZC W1 (w.heap.size + 1) s' A' n' c' := by rw [HW1]; simpa using ZC.new (w.alloc (.cells #[.bool s, .slice A n c] 25)) s' A' n' c'
 have hB : Below w.heap.size w W1 := by rw [HW1]; exact ((Below.refl w.heap.size w).alloc (Nat.le_refl _) _).alloc (by simp) _
 have h1 := h.next hB
 have h1' := h'.next hB
 have HB := Lib.hid hB
 by_cases hss : s = s'
 ·subst hss
  have HW1 := Lib.hid HW1
  go_enter Tryz.func42, Tryz.ntmps42
  go_wp2_with fail
  rw [← HW1.out]
  clear HW1
  clear HW1
  refine (same01_any h1 h1').mono ?_
  rintro _ W2 ⟨b, rfl, hb, hb2⟩
  go_wp2
  go_ret
  exact ⟨b, rfl, Lib.hid ⟨fun e => by rw [hb.out.1 e], fun e => hb.out.2 (by injection e)⟩, HB.out.trans (hb2.mono HB.out.size)⟩
 ·have hbe : (s == s') = false := by simpa using hss
  have HSS := Lib.hid hss
  have HB0 := Lib.hid (show Below w.heap.size w ((w.alloc (.cells #[.bool s, .slice A n c] 25)).alloc (.cells #[.bool s', .slice A' n' c'] 25)) by rw [← HW1]; exact hB)
  clear hss hZ hY hB h1 h1'
  clear HW1
  go_enter Tryz.func42, Tryz.ntmps42
  go_wp2
  go_ret
  exact ⟨false, rfl, Lib.hid ⟨fun e => by simp at e, fun e => absurd (by injection e) HSS.out⟩, HB0.out⟩
theorem rs_at {w : World} {B N : Nat} {A : Option Addr} {n c : Nat} {R : List (Bool × List Nat)} (h : RdRs w B N A n c R) {j : Nat} (hj : j < n) :
  ∃ (ad : Addr) (s : Bool) (M : List Nat) (A' : Option Addr) (n' c' : Nat), A = some ad ∧ ad.block < B ∧ w.cell? (ad.add (j * 2)) = some (.bool s) ∧ w.cell? ⟨(ad.add (j * 2)).block, (ad.add (j * 2)).off + 1, none⟩ = some (.slice A' n' c') ∧ RdU w B A' n' c' M ∧ n' ≤ N ∧ Hid (R[j]? = some (s, M)) := by
 have hz : R[j]? = some (R[j]'(by rw [h.len]; exact hj)) := List.getElem?_eq_getElem _
 obtain ⟨ad, A', n', c', h1, h2, h3, h4, h5, h6⟩ := h.at_ j _ hz
 exact ⟨ad, _, _, A', n', c', h1, h2, h3, h4, h5, h6, Lib.hid hz⟩
set_option maxRecDepth 100000 in
set_option maxHeartbeats 2000000 in
theorem sameAll_any {N N' : Nat} {A A' : Option Addr} {n c n' c' : Nat} {R R' : List (Bool × List Nat)} {w : World} (h : RdRs w w.heap.size N A n c R) (h' : RdRs w w.heap.size N' A' n' c' R') :
  Calls Tryz.prog 43 #[.slice A n c, .slice A' n' c'] w (RetBo (R = R') w) := by
 have hlen := Lib.hid (And.intro h.len h'.len)
 have hn : n ≤ 9223372036854775807 := by
  have h1 := h.mx
  have h2 := h.le
  unfold maxLen at h1
  omega
 go_enter Tryz.func43, Tryz.ntmps43
 by_cases hne : n = n'
 ·subst hne
  go_wp2_with fail
  go_loopw [13] (fun iv wr => ∃ i : Nat, iv = .int .i64 i ∧ i ≤ n ∧ Hid (∀ t, t < i → R[t]? = R'[t]?) ∧ Below w.heap.size w wr) (fun iv _ => n - (intOf iv).toNat)
  case atStart => exact ⟨0, rfl, Nat.zero_le _, Lib.hid fun t ht => by omega, Below.refl _ _⟩
  case round =>
   obtain ⟨i, rfl, hi, hE, hB⟩ := hrel
   by_cases hin : i = n
   ·have hni := hin.symm
    subst hni
    clear hin
    go_wp2
    go_ret
    exact ⟨true, rfl, Lib.hid ⟨fun _ => by
     apply List.ext_getElem?
     intro t
     rcases Nat.lt_or_ge t n with ht | ht
     ·exact hE.out t ht
     ·rw [List.getElem?_eq_none (by rw [hlen.out.1]; exact ht), List.getElem?_eq_none (by rw [hlen.out.2]; exact ht)], fun _ => rfl⟩, hB⟩
   ·have hil : i < n := by omega
    clear hin
    have hili : (i : Int) < (n : Int) := by omega
    obtain ⟨ad, s, M, A1, n1, c1, rfl, hbk, hx0, hx1, hrx, hn1, hx⟩ := rs_at h hil
    obtain ⟨ad', s', M', A2, n2, c2, rfl, hbk', hy0, hy1, hry, hn2, hy⟩ := rs_at h' hil
    obtain ⟨k0, k1⟩ := zs_cells hB hbk hx0 hx1
    obtain ⟨l0, l1⟩ := zs_cells hB hbk' hy0 hy1
    have HBD := Lib.hid (Below.refl wr.heap.size wr).drew
    have HSA := Lib.hid (same03_any (s := s) (s' := s') ((hrx.next hB).next HBD.out) ((hry.next hB).next HBD.out))
    have HCX := Lib.hid (show ∀ W : World, Below wr.heap.size wr W → _ from fun W hb => zs_cells (hB.trans (hb.mono hB.size)) hbk hx0 hx1)
    have HCY := Lib.hid (show ∀ W : World, Below wr.heap.size wr W → _ from fun W hb => zs_cells (hB.trans (hb.mono hB.size)) hbk' hy0 hy1)
    clear hx0 hx1 hy0 hy1 hrx hry
    go_upto_region 6 with fail
    go_region_held3 (fun w' => w'.cell? (ad.add (i * 2)) = some (.bool s) ∧ w'.cell? ⟨(ad.add (i * 2)).block, (ad.add (i * 2)).off + 1, none⟩ = some (.slice A1 n1 c1) ∧ w'.cell? (ad'.add (i * 2)) = some (.bool s') ∧ w'.cell? ⟨(ad'.add (i * 2)).block, (ad'.add (i * 2)).off + 1, none⟩ = some (.slice A2 n2 c2)) (go_keep)
     (first
      | (go_at_call 42; refine HSA.out.mono ?_; rintro _ W2 ⟨b, rfl, hb, hb2⟩; have HB2 := Lib.hid (HBD.out.trans hb2); have a0 := (HCX.out W2 HB2.out).1; have a1 := (HCX.out W2 HB2.out).2; have a2 := (HCY.out W2 HB2.out).1; have a3 := (HCY.out W2 HB2.out).2))
    have hB2 := hB.trans (HB2.out.mono hB.size)
    clear k0 k1 l0 l1 a0 a1 a2 a3 hb2
    cases b
    ·have HNE := Lib.hid (show (s, M) ≠ (s', M') from fun e => by have := hb.out.2 e; simp at this)
     go_wp2
     go_ret
     exact ⟨false, rfl, Lib.hid ⟨fun e => by simp at e, fun e => absurd (by
      have e1 := hx.out
      rw [e, hy.out] at e1
      injection e1 with e1
      exact e1.symm) HNE.out⟩, hB2⟩
    ·have HEQ := Lib.hid (hb.out.1 rfl)
     go_wp2
     go_roundw
     case rel => exact ⟨i + 1, by go_num, by omega, Lib.hid fun t ht => by
      rcases Nat.lt_or_ge t i with h1 | h1
      ·exact hE.out t h1
      ·rw [show t = i by omega, hx.out, hy.out, HEQ.out], hB2⟩
     case measure => simp [intOf]; omega
 ·have hb : ((n : Int) != (n' : Int)) = true := by simp; omega
  have HNE := Lib.hid hne
  clear hne
  go_wp2
  go_ret
  exact ⟨false, rfl, Lib.hid ⟨fun e => by simp at e, fun e => absurd (by rw [← hlen.out.1, ← hlen.out.2, e]) HNE.out⟩, Below.refl _ _⟩
end Go.Proofs.YtjnklbfhelbjgaaGreat

/- Copies; append in any case. -/
namespace Go.Proofs.YtjnklbfhelbjgaaGreat
open Go.RowKit Go.IntWalk
attribute [local go_sem ↓] Go.wp_at_zero Go.wp_at_succ
theorem wp_append_sl {P : Program} {w : World} {o : Oper} {a : Act} {K : Act → World → Prop} {Q : Exit → Act → World → Prop} (s x : Operand) (t : TypeId)
  (ho : o.op = .call { callee := .builtin .append, args := #[s, x], argTypes := #[t, t] })
  (base : Nat) (e : TypeId) (i : TypeInfo) (z : Value) (size bytes : Nat) (ht : P.underlying t = some (.slice e)) (hi : P.info? e = some i) (hz : i.zero = some z)
  (hsize : i.size = size) (hby : i.bytes = bytes) (hzs : z.cells.size = size) (hsz : 0 < size)
  (v : Value) (n : Nat) (xs : List Value) (hs : a.eval s = v) (hown : w.ownsRow base e size v n xs)
  (X : Option Addr) (m c : Nat) (news : List Value) (hx : a.eval x = .slice X m c) (hl : news.length = m * size) (hnil : X = none → m = 0) (hnews : ∀ ad, X = some ad → ∀ j u, news[j]? = some u → w.cell? (ad.add j) = some u) (h1 : ∀ u ∈ news, u.oneCell' = true)
  (h63 : n + m ≤ maxLen) (hbytes : (n + m) * bytes ≤ 140737488355328) (hbase : base ≤ w.heap.size)
  (h : ∀ A' c' w', w'.ownsRow base e size (.slice A' (n + m) c') (n + m) (xs ++ news) → w.grownBy w' v.ownBlock → K (a.put o.dst (.slice A' (n + m) c')) w') : o.wp P a w K Q := by
 rcases X with _ | ad
 ·obtain rfl := hnil rfl
  have hn0 : news = [] := List.eq_nil_of_length_eq_zero (by simpa using hl)
  subst hn0
  obtain ⟨A', c', rfl⟩ := row_sl hown
  have hle : n ≤ c' := by
   rcases hown.2 with ⟨e1, e2⟩ | ⟨g, cap, cur, e1, _, _, e4, _⟩
   ·omega
   ·injection e1 with e1 e2 e3
    omega
  have hr := run_append_nothing (P := P) w t t o.type e i ht hi A' n c' hle (.slice none 0 c) (Src.ofNil w ht c)
  unfold Oper.wp execOp
  simp only [ho, resolve, invoke, builtin, Sem.run_bind, Sem.run_pure, Result.andThen_ok, List.map_toArray, List.map_cons, List.map_nil, hs, hx, hr]
  exact h A' c' w (by simpa using hown) (World.grownBy.refl w _)
 ·obtain ⟨v', w', hr, h2, h3, _⟩ := run_append_own_at (P := P) w base t o.type e i z size bytes ht hi hz hsize hby hzs hsz v n xs hown ad m c news hl (hnews ad rfl) h1 h63 hbytes hbase
  obtain ⟨A', c', rfl⟩ := row_sl h2
  unfold Oper.wp execOp
  simp only [ho, resolve, invoke, builtin, Sem.run_bind, Sem.run_pure, Result.andThen_ok, List.map_toArray, List.map_cons, List.map_nil, hs, hx, hr]
  exact h A' c' w' h2 h3
theorem step_append_sl {P : Program} {ops : Array Oper} {w : World} {o : Oper} {a : Act} {K : Act → World → Prop} {Q : Exit → Act → World → Prop} {E : Prop} (hgd : o.guard = none) (s x : Operand) (t : TypeId)
  (ho : o.op = .call { callee := .builtin .append, args := #[s, x], argTypes := #[t, t] })
  (base : Nat) (e : TypeId) (i : TypeInfo) (z : Value) (size bytes : Nat) (ht : P.underlying t = some (.slice e)) (hi : P.info? e = some i) (hz : i.zero = some z)
  (hsize : i.size = size) (hby : i.bytes = bytes) (hzs : z.cells.size = size) (hsz : 0 < size)
  (v : Value) (n : Nat) (xs : List Value) (hs : a.eval s = v) (hown : w.ownsRow base e size v n xs)
  (X : Option Addr) (m c : Nat) (news : List Value) (hx : a.eval x = .slice X m c) (hl : news.length = m * size) (hnil : X = none → m = 0) (hnews : ∀ ad, X = some ad → ∀ j u, news[j]? = some u → w.cell? (ad.add j) = some u) (h1 : ∀ u ∈ news, u.oneCell' = true)
  (h63 : n + m ≤ maxLen) (hbytes : (n + m) * bytes ≤ 140737488355328) (hbase : base ≤ w.heap.size)
  (h : ∀ A' c' w', w'.ownsRow base e size (.slice A' (n + m) c') (n + m) (xs ++ news) → w.grownBy w' v.ownBlock → K (a.put o.dst (.slice A' (n + m) c')) w') :
  if Region.wanted o (yielded ops a.tmps) = true then Oper.wp P o a w K Q else E := by
 have hw : Region.wanted o (yielded ops a.tmps) = true := by simp [Region.wanted, hgd]
 rw [if_pos hw]
 exact wp_append_sl s x t ho base e i z size bytes ht hi hz hsize hby hzs hsz v n xs hs hown X m c news hx hl hnil hnews h1 h63 hbytes hbase h
theorem RdU.news {w : World} {B : Nat} {A : Option Addr} {n c : Nat} {L : List Nat} (h : RdU w B A n c L) : (uc L).length = n * 1 ∧ (A = none → n = 0) ∧ ∀ ad, A = some ad → ∀ j u, (uc L)[j]? = some u → w.cell? (ad.add j) = some u := by
 refine ⟨by rw [uc_len, h.len, Nat.mul_one], fun e => ?_, fun ad e j u hu => ?_⟩
 ·rcases Nat.eq_zero_or_pos n with h0 | h0
  ·exact h0
  ·obtain ⟨_, ad, e1, _⟩ := h.at_ 0 (Dg.ld L 0) (Dg.get_of_ld (by rw [h.len]; exact h0))
   rw [e] at e1
   cases e1
 ·obtain ⟨ad', e1, hc⟩ := (h.src ad (by
   have : j < (uc L).length := by
    rcases Nat.lt_or_ge j (uc L).length with h1 | h1
    ·exact h1
    ·rw [List.getElem?_eq_none h1] at hu; cases hu
   omega)).2
  rw [e] at e1
  injection e1 with e1
  subst e1
  exact hc j u hu
theorem built_own (w : World) : OwU (w.alloc (.cells #[] 171)) w.heap.size (some ⟨w.heap.size, 0, none⟩) 0 0 [] := by
 have h := UB.own (b := w.heap.size) (UB.new w []) Dg.Wd.nil (Nat.le_refl _) (k := 0) (Nat.le_refl _) (Nat.zero_le _)
 exact h
def RetW (r : Bool × List Nat) (w : World) (e : Ending) (w' : World) : Prop :=
 ∃ (s : Bool) (A : Option Addr) (n c : Nat) (M : List Nat), e = .returned (.agg #[.bool s, .slice A n c]) ∧ OwU w' w.heap.size A n c M ∧ Hid ((s, M) = r) ∧ Below w.heap.size w w'
set_option maxRecDepth 100000 in
set_option maxHeartbeats 2000000 in
theorem rICopy_any {s : Bool} {A : Option Addr} {n c : Nat} {M : List Nat} {w : World} (h : RdU w w.heap.size A n c M) (hn : n ≤ 4398046511103) :
  Calls Tryz.prog 32 #[.agg #[.bool s, .slice A n c]] w (RetW (s, M) w) := by
 obtain ⟨hZ, hR, hB⟩ := boxed1 w s A n c
 obtain ⟨i0, hi, hz0, hz1, hz2⟩ := info_parts infoW
 have hRW := h.next hB
 go_enter Tryz.func32, Tryz.ntmps32
 go_upto_region 1 with fail
 generalize (w.alloc (.cells #[.bool s, .slice A n c] 25)).alloc (.cells #[.bool false, .slice none 0 0] 25) = W1 at *
 have HS := Lib.hid (RdU.news (hRW.next ((Below.refl W1.heap.size W1).alloc (Nat.le_refl _) (.cells #[] 171)).drew))
 have HO := Lib.hid (built_own W1)
 have HZ := Lib.hid hZ
 have HWD := Lib.hid h.wd
 have hZ2 := hZ.alloc (.cells #[] 171)
 have HLT := Lib.hid (show ∀ (g : Nat) (W : World), g < W1.heap.size → (W1.alloc (.cells #[] 171)).drew.grownBy W (some W1.heap.size) → W.heap[g]? = W1.heap[g]? from fun g W hl hg => (hg.block g (by simp; omega) (fun e => by injection e with e; omega)).trans (Below.heap_alloc W1 (.cells #[] 171) g hl))
 have hB2 := hB.alloc hB.size (.cells #[] 171)
 have HB := Lib.hid (And.intro hB (And.intro hB2.drew (And.intro hZ.lt hR.lt)))
 have HR := Lib.hid hR
 have c0 := hZ.c0
 have c1 := hZ.c1
 have d0 := hZ2.c0
 have d1 := hZ2.c1
 clear hZ hR hB hZ2 hB2
 go_region_law (refine step_append_sl rfl _ _ 23 rfl W1.heap.size 171 i0 (.int .u32 0) 1 4 Tryz.underlying23 hi hz0 hz1 hz2 rfl (by decide) _ _ _ rfl HO.out.own A n c (uc M) rfl HS.out.1 HS.out.2.1 HS.out.2.2 (uc_one _) (by unfold maxLen; omega) (by omega) (by simp) ?_; intro A3 c3 W3 hown3 hgrow3; have hZ3 : ZC W3 w.heap.size s A n c := (HLT.out _ _ HB.out.2.2.1 hgrow3).trans HZ.out; have hR3 : ZC W3 (w.heap.size + 1) false none 0 0 := (HLT.out _ _ HB.out.2.2.2 hgrow3).trans HR.out; have d2 := hZ3.c0; have e0 := hR3.c0; have e1 := hR3.c1; have f0 := hR3.fz 0; have f1 := hR3.fz 1; clear hZ3 d0 d1 c0 c1)
 all_goals
  obtain ⟨HB1, HB2, _, _⟩ := HB.out
  have hO3 : OwU W3 W1.heap.size A3 n c3 M := ⟨by simpa [uc] using hown3, HWD.out⟩
  have hB3 := HB2.grown hgrow3 HB2.size (fun k e => by cases e; exact HB1.size)
  have hz := hR3.store s A3 n c3
  have ho := own_far (own_far hO3 (p := ⟨w.heap.size + 1, 0, none⟩) (by simpa using HB.out.2.2.2) (.bool s)) (p := ⟨w.heap.size + 1, 1, none⟩) (by simpa using HB.out.2.2.2) (.slice A3 n c3)
  have hb := (hB3.setCell (p := ⟨w.heap.size + 1, 0, none⟩) (by simp) (.bool s)).setCell (p := ⟨w.heap.size + 1, 1, none⟩) (by simp) (.slice A3 n c3)
  generalize (W3.setCell ⟨w.heap.size + 1, 0, none⟩ (.bool s)).setCell ⟨w.heap.size + 1, 1, none⟩ (.slice A3 n c3) = W4 at hz ho hb ⊢
  clear d2 e0 e1 f0 f1
  have e0 := hz.c0
  have e1 := hz.c1
  clear hz hO3 hB3 hgrow3 hown3 hR3 HB2
  have HF := Lib.hid (And.intro (ho.base HB1.size) hb)
  clear ho hb HB1
  go_wp2
  exact bodyPost_ret (by simp [results, Tryz.results32, go_sem, e0, e1]) rfl ⟨_, _, _, _, M, rfl, HF.out.1, Lib.hid rfl, HF.out.2⟩
def EntW (w : World) (b : Nat) (E : List Ent) (F : Nat → Bool × List Nat) : Prop := ∀ (i : Nat) (e : Ent), E[i]? = some e → e.1 = (F i).1 ∧ OwU w b e.2.1 e.2.2.1 e.2.2.2 (F i).2
section
variable {w w' : World} {g b : Nat} {E : List Ent} {F : Nat → Bool × List Nat}
theorem own_put {A : Option Addr} {k m : Nat} {M : List Nat} (h : OwU w b A k m M) (hz : ZB w g E) (j : Nat) (e : Ent) : OwU ((w.setCell ⟨g, j * 2, none⟩ (.bool e.1)).setCell ⟨g, j * 2 + 1, none⟩ (.slice e.2.1 e.2.2.1 e.2.2.2)) b A k m M :=
 own_other h hz fun i _ hne => (Below.heap_setCell _ (⟨g, j * 2 + 1, none⟩ : Addr) _ i hne).trans (Below.heap_setCell _ (⟨g, j * 2, none⟩ : Addr) _ i hne)
theorem EntW.next (h : EntW w b E F) (hb : Below w.heap.size w w') : EntW w' b E F := fun i e he => ⟨(h i e he).1, (h i e he).2.next hb⟩
theorem EntW.congr {F' : Nat → Bool × List Nat} (h : EntW w b E F) (e : ∀ i, F i = F' i) : EntW w b E F' := fun i x hx => by rw [← e]; exact h i x hx
theorem EntW.store (h : EntW w b E F) (hz : ZB w g E) {j : Nat} {e : Ent} {r : Bool × List Nat} (he : e.1 = r.1 ∧ OwU w b e.2.1 e.2.2.1 e.2.2.2 r.2) : EntW ((w.setCell ⟨g, j * 2, none⟩ (.bool e.1)).setCell ⟨g, j * 2 + 1, none⟩ (.slice e.2.1 e.2.2.1 e.2.2.2)) b (E.set j e) (fun i => if i = j then r else F i) := by
 intro i e' h'
 by_cases hij : i = j
 ·subst hij
  simp only [if_true]
  have hl : i < E.length := by
   rcases Nat.lt_or_ge i E.length with h1 | h1
   ·exact h1
   ·rw [List.getElem?_eq_none (by rw [List.length_set]; exact h1)] at h'; cases h'
  rw [List.getElem?_set_self hl] at h'
  injection h' with h'
  subst h'
  exact ⟨he.1, own_put he.2 hz i e⟩
 ·simp only [if_neg hij]
  rw [List.getElem?_set_ne (Ne.symm hij)] at h'
  exact ⟨(h i e' h').1, own_put (h i e' h').2 hz j e⟩
theorem EntW.zeros (w : World) (b n : Nat) : EntW w b (List.replicate n (false, none, 0, 0)) (fun _ => (false, [])) := by
 intro i e he
 have e1 := List.eq_of_mem_replicate (List.mem_of_getElem? he)
 subst e1
 exact ⟨rfl, OwU.nil w b⟩
theorem ZB.rs (h : ZB w g E) (hE : EntW w b E F) {n N : Nat} (hn : E.length = n) (hx : n ≤ maxLen) {R : List (Bool × List Nat)} (hR : R.length = n) (hF : ∀ j r, R[j]? = some r → F j = r ∧ r.2.length ≤ N) : RdRs w w.heap.size N (some ⟨g, 0, none⟩) n n R := by
 refine ⟨hR, Nat.le_refl _, hx, fun j r hr => ?_⟩
 have hj : j < R.length := by
  rcases Nat.lt_or_ge j R.length with h5 | h5
  ·exact h5
  ·rw [List.getElem?_eq_none h5] at hr; cases hr
 have he := List.getElem?_eq_getElem (l := E) (i := j) (by omega)
 obtain ⟨h1, h2⟩ := hE j _ he
 obtain ⟨h3, h4⟩ := hF j r hr
 rw [h3] at h1 h2
 obtain ⟨c0, c1⟩ := h.cells he
 have e1 : (⟨g, 0, none⟩ : Addr).add (j * 2) = ⟨g, j * 2, none⟩ := add_base g _
 refine ⟨_, _, _, _, rfl, h.lt, ?_, ?_, h2.rd, ?_⟩
 ·rw [e1, ← h1]; exact c0
 ·rw [e1]; exact c1
 ·rw [← h2.len]; exact h4
end
theorem make_il (n : Nat) (hn : n ≤ 8796093022208) (w : World) :
  (Instr.makeSlice 65 (.int .i64 (n : Int)) (.int .i64 (n : Int))).run Tryz.prog w = .ok (.slice (some ⟨w.heap.size, 0, none⟩) n n) (w.alloc (.cells (zcs (List.replicate n (false, none, 0, 0))).toArray 25)) := by
 obtain ⟨i0, hi, hz0, hz1, hz2⟩ := info_parts infoZ
 have h := run_make (P := Tryz.prog) w 65 25 i0 _ Tryz.underlying65 hi hz0 .i64 .i64 (n : Int) (n : Int) (by omega) (Int.le_refl _) (by rw [hz2]; omega) (by omega)
 rw [hz1] at h
 rw [zcs_zeros]
 exact h
end Go.Proofs.YtjnklbfhelbjgaaGreat

/- The law's polynomials of written numbers. -/
namespace Go.Proofs.YtjnklbfhelbjgaaGreat
open Go.RowKit Go.IntWalk
attribute [local go_sem ↓] Go.wp_at_zero Go.wp_at_succ
structure RdK (w : World) (B : Nat) (A : Option Addr) (n c : Nat) (L : List Int) : Prop where
 len : L.length = n
 le : n ≤ c
 mx : c ≤ maxLen
 at_ : ∀ (j : Nat) (z : Int), L[j]? = some z → -9223372036854775808 ≤ z ∧ z < 9223372036854775808 ∧ ∃ ad, A = some ad ∧ ad.block < B ∧ w.cell? (ad.add j) = some (.int .i64 z)
theorem RdK.next {w w' : World} {A : Option Addr} {n c : Nat} {L : List Int} (h : RdK w w.heap.size A n c L) (hb : Below w.heap.size w w') : RdK w' w'.heap.size A n c L :=
 ⟨h.len, h.le, h.mx, fun j z hz => by
  obtain ⟨h1, h2, ad, h3, h4, h5⟩ := h.at_ j z hz
  exact ⟨h1, h2, ad, h3, by have := hb.size; omega, (hb.cell (p := ad.add j) (by rw [add_blk]; exact h4)).trans h5⟩⟩
theorem RdK.new (w : World) (t : TypeId) (L : List Int) (hL : ∀ z ∈ L, -9223372036854775808 ≤ z ∧ z < 9223372036854775808) (hm : L.length ≤ maxLen) {C : Array Value} (hC : C = (L.map fun z : Int => Value.int .i64 z).toArray) {n : Nat} (hn : n = L.length) :
  RdK (w.alloc (.cells C t)) (w.alloc (.cells C t)).heap.size (some ⟨w.heap.size, 0, none⟩) n n L := by
 subst hn
 refine ⟨rfl, Nat.le_refl _, hm, fun j z hz => ?_⟩
 obtain ⟨h1, h2⟩ := hL z (List.mem_of_getElem? hz)
 refine ⟨h1, h2, _, rfl, by simp, ?_⟩
 have e : (⟨w.heap.size, 0, none⟩ : Addr).add j = ⟨w.heap.size, j, none⟩ := by unfold Addr.add; by_cases h : j = 0 <;> simp [h]
 rw [e, cell_of_row _ w.heap.size j _ _ _ (heap_alloc_new w _), hC]
 simp [hz]
end Go.Proofs.YtjnklbfhelbjgaaGreat

/- zpoly: a coefficient; two lists coefficient by coefficient; sum and difference; times a number. -/
namespace Go.Proofs.YtjnklbfhelbjgaaGreat
open Go.RowKit Go.IntWalk
attribute [local go_sem ↓] Go.wp_at_zero Go.wp_at_succ
theorem EntF.congr {w : World} {b : Nat} {E : List Ent} {f g : Nat → Int} (h : EntF w b E f) (e : ∀ i, f i = g i) : EntF w b E g := fun i x hx => by rw [← e]; exact h i x hx
end Go.Proofs.YtjnklbfhelbjgaaGreat

/- Tables of integers in memory; a row of Sylvester's table. -/
namespace Go.Proofs.YtjnklbfhelbjgaaGreat
open Go.RowKit Go.IntWalk
attribute [local go_sem ↓] Go.wp_at_zero Go.wp_at_succ
def KeepT (w w' : World) : Prop := ∀ (i : Nat) (c : Array Value) (f : Nat × Nat), w.heap[i]? = some (.cells c 171 f) → w'.heap[i]? = some (.cells c 171 f)
section
variable {w w' : World} {b B g : Nat} {A : Option Addr} {n c : Nat}
theorem KeepT.trans {w'' : World} (h : KeepT w w') (h' : KeepT w' w'') : KeepT w w'' := fun i c f e => h' i c f (h i c f e)
theorem KeepT.below (h : Below w.heap.size w w') : KeepT w w' := fun i _ _ e => (h.block i (Array.getElem?_eq_some_iff.1 e).1).trans e
theorem KeepT.set {p : Addr} {cs : Array Value} {t : TypeId} {f : Nat × Nat} (h : w.heap[p.block]? = some (.cells cs t f)) (ht : t ≠ 171) (v : Value) : KeepT w (w.setCell p v) := fun i c f' e => by
 have hne : i ≠ p.block := by
  rintro rfl
  rw [h] at e
  injection e with e
  injection e with _ e _
  exact ht e
 exact (Below.heap_setCell w p v i hne).trans e
theorem KeepT.grown {e : TypeId} {k : Nat} {v : Value} {xs : List Value} (h : w.ownsRow b e k v n xs) (he : e ≠ 171) (hg : w.grownBy w' v.ownBlock) : KeepT w w' := fun i c f hi => by
 have hne : some i ≠ v.ownBlock := by
  intro h0
  rcases h.2 with ⟨h1, _⟩ | ⟨g, cap, cur, h1, _, h3, _⟩
  ·rw [h1] at h0; cases h0
  ·rw [h1] at h0
   injection h0 with h0
   subst h0
   rw [h3] at hi
   injection hi with hi
   injection hi with _ hi _
   exact he hi
 exact (hg.block i (Array.getElem?_eq_some_iff.1 hi).1 hne).trans hi
theorem OwU.keep {L : List Nat} (h : OwU w b A n c L) (hk : KeepT w w') : OwU w' b A n c L := by
 refine ⟨⟨h.own.1, ?_⟩, h.wd⟩
 rcases h.own.2 with h0 | ⟨g, cap, cur, h1, h2, h3, h4⟩
 ·exact .inl h0
 ·exact .inr ⟨g, cap, cur, h1, h2, hk _ _ _ h3, h4⟩
theorem OwZ.keep {s : Bool} {z : Int} (h : OwZ w b s A n c z) (hk : KeepT w w') : OwZ w' b s A n c z := ⟨h.own.keep hk, h.sgn⟩
theorem row_far {e : TypeId} {k : Nat} {v : Value} {xs : List Value} (h : w.ownsRow b e k v n xs) {p : Addr} (hp : p.block < b) (u : Value) : (w.setCell p u).ownsRow b e k v n xs := by
 refine ⟨h.1, ?_⟩
 rcases h.2 with h0 | ⟨g, cap, cur, h1, h2, h3, h4⟩
 ·exact .inl h0
 ·exact .inr ⟨g, cap, cur, h1, h2, (Below.heap_setCell w p u g (by omega)).trans h3, h4⟩
end
end Go.Proofs.YtjnklbfhelbjgaaGreat

/- zpoly: a division that leaves nothing. -/
namespace Go.Proofs.YtjnklbfhelbjgaaGreat
open Go.RowKit Go.IntWalk
attribute [local go_sem ↓] Go.wp_at_zero Go.wp_at_succ
theorem keep_set2 {w : World} {g : Nat} {s : Bool} {A : Option Addr} {n c : Nat} (h : ZC w g s A n c) (x y : Value) : KeepT w ((w.setCell ⟨g, 0, none⟩ x).setCell ⟨g, 1, none⟩ y) := fun i cs f e => by
 have hne : i ≠ g := by
  rintro rfl
  unfold ZC at h
  rw [h] at e
  simp at e
 exact ((Below.heap_setCell _ (⟨g, 1, none⟩ : Addr) y i hne).trans (Below.heap_setCell _ (⟨g, 0, none⟩ : Addr) x i hne)).trans e
end Go.Proofs.YtjnklbfhelbjgaaGreat

/- Integer polynomials: the degree, the lead. -/
namespace Go.Proofs.YtjnklbfhelbjgaaGreat
open Go.RowKit Go.IntWalk
attribute [local go_sem ↓] Go.wp_at_zero Go.wp_at_succ
theorem OwZs.far {w : World} {b : Nat} {A : Option Addr} {n c : Nat} {L : List Int} (h : OwZs w b A n c L) {p : Addr} (hp : p.block < b) (u : Value) : OwZs (w.setCell p u) b A n c L := by
 obtain ⟨E, h1, h2, h3⟩ := h
 exact ⟨E, row_far h1 hp u, h2, h3.1, fun j e z he hz => (h3.2 j e z he hz).far hp u⟩
end Go.Proofs.YtjnklbfhelbjgaaGreat

