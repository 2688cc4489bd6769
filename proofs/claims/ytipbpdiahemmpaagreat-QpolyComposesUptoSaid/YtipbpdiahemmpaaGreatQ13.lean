/- Copies; append in any case. -/
import Derived.Test.YtipbpdiahemmpaaGreatQ12
import Derived.Deep.AppendLies
import Derived.Deep.AppendSrc
import Derived.Deep.Upon
import Derived.Deep.RegionLaw
namespace Go.Proofs.YtipbpdiahemmpaaGreat
open Go.RowKit Go.IntWalk
attribute [local go_sem ↓] Go.wp_at_zero Go.wp_at_succ

/-- Append onto a row of the call's own, whatever the second slice is. -/
theorem wp_append_sl {P : Program} {w : World} {o : Oper} {a : Act} {K : Act → World → Prop} {Q : Exit → Act → World → Prop} (s x : Operand) (t : TypeId)
    (ho : o.op = .call { callee := .builtin .append, args := #[s, x], argTypes := #[t, t] })
    (base : Nat) (e : TypeId) (i : TypeInfo) (z : Value) (size bytes : Nat) (ht : P.underlying t = some (.slice e)) (hi : P.info? e = some i) (hz : i.zero = some z)
    (hsize : i.size = size) (hby : i.bytes = bytes) (hzs : z.cells.size = size) (hsz : 0 < size)
    (v : Value) (n : Nat) (xs : List Value) (hs : a.eval s = v) (hown : w.ownsRow base e size v n xs)
    (X : Option Addr) (m c : Nat) (news : List Value) (hx : a.eval x = .slice X m c) (hl : news.length = m * size) (hnil : X = none → m = 0) (hnews : ∀ ad, X = some ad → ∀ j u, news[j]? = some u → w.cell? (ad.add j) = some u) (h1 : ∀ u ∈ news, u.oneCell' = true)
    (h63 : n + m ≤ maxLen) (hbytes : (n + m) * bytes ≤ 140737488355328) (hbase : base ≤ w.heap.size)
    (h : ∀ A' c' w', w'.ownsRow base e size (.slice A' (n + m) c') (n + m) (xs ++ news) → w.grownBy w' v.ownBlock → K (a.put o.dst (.slice A' (n + m) c')) w') : o.wp P a w K Q := by
  rcases X with _ | ad
  · obtain rfl := hnil rfl
    have hn0 : news = [] := List.eq_nil_of_length_eq_zero (by simpa using hl)
    subst hn0
    obtain ⟨A', c', rfl⟩ := row_sl hown
    have hle : n ≤ c' := by
      rcases hown.2 with ⟨e1, e2⟩ | ⟨g, cap, cur, e1, _, _, e4, _⟩
      · omega
      · injection e1 with e1 e2 e3
        omega
    have hr := run_append_nothing (P := P) w t t o.type e i ht hi A' n c' hle (.slice none 0 c) (Src.ofNil w ht c)
    unfold Oper.wp execOp
    simp only [ho, resolve, invoke, builtin, Sem.run_bind, Sem.run_pure, Result.andThen_ok, List.map_toArray, List.map_cons, List.map_nil, hs, hx, hr]
    exact h A' c' w (by simpa using hown) (World.grownBy.refl w _)
  · obtain ⟨v', w', hr, h2, h3, _⟩ := run_append_own_at (P := P) w base t o.type e i z size bytes ht hi hz hsize hby hzs hsz v n xs hown ad m c news hl (hnews ad rfl) h1 h63 hbytes hbase
    obtain ⟨A', c', rfl⟩ := row_sl h2
    unfold Oper.wp execOp
    simp only [ho, resolve, invoke, builtin, Sem.run_bind, Sem.run_pure, Result.andThen_ok, List.map_toArray, List.map_cons, List.map_nil, hs, hx, hr]
    exact h A' c' w' h2 h3
/-- The same at a step of a region that draws. -/
theorem step_append_sl {P : Program} {ops : Array Oper} {w : World} {o : Oper} {a : Act} {K : Act → World → Prop} {Q : Exit → Act → World → Prop} {E : Prop} (hgd : o.guard = none) (s x : Operand) (t : TypeId)
    (ho : o.op = .call { callee := .builtin .append, args := #[s, x], argTypes := #[t, t] })
    (base : Nat) (e : TypeId) (i : TypeInfo) (z : Value) (size bytes : Nat) (ht : P.underlying t = some (.slice e)) (hi : P.info? e = some i) (hz : i.zero = some z)
    (hsize : i.size = size) (hby : i.bytes = bytes) (hzs : z.cells.size = size) (hsz : 0 < size)
    (v : Value) (n : Nat) (xs : List Value) (hs : a.eval s = v) (hown : w.ownsRow base e size v n xs)
    (X : Option Addr) (m c : Nat) (news : List Value) (hx : a.eval x = .slice X m c) (hl : news.length = m * size) (hnil : X = none → m = 0) (hnews : ∀ ad, X = some ad → ∀ j u, news[j]? = some u → w.cell? (ad.add j) = some u) (h1 : ∀ u ∈ news, u.oneCell' = true)
    (h63 : n + m ≤ maxLen) (hbytes : (n + m) * bytes ≤ 140737488355328) (hbase : base ≤ w.heap.size)
    (h : ∀ A' c' w', w'.ownsRow base e size (.slice A' (n + m) c') (n + m) (xs ++ news) → w.grownBy w' v.ownBlock → K (a.put o.dst (.slice A' (n + m) c')) w') :
    if Region.wanted o (yielded ops a.tmps) = true then Oper.wp P o a w K Q else E := by
  have hw : Region.wanted o (yielded ops a.tmps) = true := by simp [Region.wanted, hgd]
  rw [if_pos hw]
  exact wp_append_sl s x t ho base e i z size bytes ht hi hz hsize hby hzs hsz v n xs hs hown X m c news hx hl hnil hnews h1 h63 hbytes hbase h
/-- As an append reads it. -/
theorem RdU.news {w : World} {B : Nat} {A : Option Addr} {n c : Nat} {L : List Nat} (h : RdU w B A n c L) : (uc L).length = n * 1 ∧ (A = none → n = 0) ∧ ∀ ad, A = some ad → ∀ j u, (uc L)[j]? = some u → w.cell? (ad.add j) = some u := by
  refine ⟨by rw [uc_len, h.len, Nat.mul_one], fun e => ?_, fun ad e j u hu => ?_⟩
  · rcases Nat.eq_zero_or_pos n with h0 | h0
    · exact h0
    · obtain ⟨_, ad, e1, _⟩ := h.at_ 0 (Dg.ld L 0) (Dg.get_of_ld (by rw [h.len]; exact h0))
      rw [e] at e1
      cases e1
  · obtain ⟨ad', e1, hc⟩ := (h.src ad (by
      have : j < (uc L).length := by
        rcases Nat.lt_or_ge j (uc L).length with h1 | h1
        · exact h1
        · rw [List.getElem?_eq_none h1] at hu; cases hu
      omega)).2
    rw [e] at e1
    injection e1 with e1
    subst e1
    exact hc j u hu
theorem built_own (w : World) : OwU (w.alloc (.cells #[] 35)) w.heap.size (some ⟨w.heap.size, 0, none⟩) 0 0 [] := by
  have h := UB.own (b := w.heap.size) (UB.new w []) Dg.Wd.nil (Nat.le_refl _) (k := 0) (Nat.le_refl _) (Nat.zero_le _)
  exact h

/-- An integer comes back word by word, in memory of its own. -/
def RetW (r : Bool × List Nat) (w : World) (e : Ending) (w' : World) : Prop :=
  ∃ (s : Bool) (A : Option Addr) (n c : Nat) (M : List Nat), e = .returned (.agg #[.bool s, .slice A n c]) ∧ OwU w' w.heap.size A n c M ∧ Hid ((s, M) = r) ∧ Below w.heap.size w w'

set_option maxRecDepth 100000 in
set_option maxHeartbeats 2000000 in
theorem rICopy_any {s : Bool} {A : Option Addr} {n c : Nat} {M : List Nat} {w : World} (h : RdU w w.heap.size A n c M) (hn : n ≤ 4398046511103) :
    Calls Tryz.prog 159 #[.agg #[.bool s, .slice A n c]] w (RetW (s, M) w) := by
  obtain ⟨hZ, hR, hB⟩ := boxed1 w s A n c
  obtain ⟨i0, hi, hz0, hz1, hz2⟩ := info_parts infoW
  have hRW := h.next hB
  go_enter Tryz.func159, Tryz.ntmps159
  go_upto_region 1 with fail
  generalize (w.alloc (.cells #[.bool s, .slice A n c] 28)).alloc (.cells #[.bool false, .slice none 0 0] 28) = W1 at *
  have HS := Lib.hid (RdU.news (hRW.next ((Below.refl W1.heap.size W1).alloc (Nat.le_refl _) (.cells #[] 35)).drew))
  have HO := Lib.hid (built_own W1)
  have HZ := Lib.hid hZ
  have HWD := Lib.hid h.wd
  have hZ2 := hZ.alloc (.cells #[] 35)
  have HLT := Lib.hid (show ∀ (g : Nat) (W : World), g < W1.heap.size → (W1.alloc (.cells #[] 35)).drew.grownBy W (some W1.heap.size) → W.heap[g]? = W1.heap[g]? from fun g W hl hg => (hg.block g (by simp; omega) (fun e => by injection e with e; omega)).trans (Below.heap_alloc W1 (.cells #[] 35) g hl))
  have hB2 := hB.alloc hB.size (.cells #[] 35)
  have HB := Lib.hid (And.intro hB (And.intro hB2.drew (And.intro hZ.lt hR.lt)))
  have HR := Lib.hid hR
  have c0 := hZ.c0
  have c1 := hZ.c1
  have d0 := hZ2.c0
  have d1 := hZ2.c1
  clear hZ hR hB hZ2 hB2
  go_region_law (refine step_append_sl rfl _ _ 26 rfl W1.heap.size 35 i0 (.int .u32 0) 1 4 Tryz.underlying26 hi hz0 hz1 hz2 rfl (by decide) _ _ _ rfl HO.out.own A n c (uc M) rfl HS.out.1 HS.out.2.1 HS.out.2.2 (uc_one _) (by unfold maxLen; omega) (by omega) (by simp) ?_; intro A3 c3 W3 hown3 hgrow3; have hZ3 : ZC W3 w.heap.size s A n c := (HLT.out _ _ HB.out.2.2.1 hgrow3).trans HZ.out; have hR3 : ZC W3 (w.heap.size + 1) false none 0 0 := (HLT.out _ _ HB.out.2.2.2 hgrow3).trans HR.out; have d2 := hZ3.c0; have e0 := hR3.c0; have e1 := hR3.c1; have f0 := hR3.fz 0; have f1 := hR3.fz 1; clear hZ3 d0 d1 c0 c1)
  all_goals
    obtain ⟨HB1, HB2, _, _⟩ := HB.out
    have hO3 : OwU W3 W1.heap.size A3 n c3 M := ⟨by simpa [uc] using hown3, HWD.out⟩
    have hB3 := HB2.grown hgrow3 HB2.size (fun k e => by cases e; exact HB1.size)
    have hz := hR3.store s A3 n c3
    have ho := own_far (own_far hO3 (p := ⟨w.heap.size + 1, 0, none⟩) (by simpa using HB.out.2.2.2) (.bool s)) (p := ⟨w.heap.size + 1, 1, none⟩) (by simpa using HB.out.2.2.2) (.slice A3 n c3)
    have hb := (hB3.setCell (p := ⟨w.heap.size + 1, 0, none⟩) (by simp) (.bool s)).setCell (p := ⟨w.heap.size + 1, 1, none⟩) (by simp) (.slice A3 n c3)
    generalize (W3.setCell ⟨w.heap.size + 1, 0, none⟩ (.bool s)).setCell ⟨w.heap.size + 1, 1, none⟩ (.slice A3 n c3) = W4 at hz ho hb ⊢
    clear d2 e0 e1 f0 f1
    have e0 := hz.c0
    have e1 := hz.c1
    clear hz hO3 hB3 hgrow3 hown3 hR3 HB2
    have HF := Lib.hid (And.intro (ho.base HB1.size) hb)
    clear ho hb HB1
    go_wp2
    exact bodyPost_ret (by simp [results, Tryz.results159, go_sem, e0, e1]) rfl ⟨_, _, _, _, M, rfl, HF.out.1, Lib.hid rfl, HF.out.2⟩

/-- The entries, word by word. -/
def EntW (w : World) (b : Nat) (E : List Ent) (F : Nat → Bool × List Nat) : Prop := ∀ (i : Nat) (e : Ent), E[i]? = some e → e.1 = (F i).1 ∧ OwU w b e.2.1 e.2.2.1 e.2.2.2 (F i).2
section
variable {w w' : World} {g b : Nat} {E : List Ent} {F : Nat → Bool × List Nat}
theorem own_put {A : Option Addr} {k m : Nat} {M : List Nat} (h : OwU w b A k m M) (hz : ZB w g E) (j : Nat) (e : Ent) : OwU ((w.setCell ⟨g, j * 2, none⟩ (.bool e.1)).setCell ⟨g, j * 2 + 1, none⟩ (.slice e.2.1 e.2.2.1 e.2.2.2)) b A k m M :=
  own_other h hz fun i _ hne => (Below.heap_setCell _ (⟨g, j * 2 + 1, none⟩ : Addr) _ i hne).trans (Below.heap_setCell _ (⟨g, j * 2, none⟩ : Addr) _ i hne)
theorem EntW.next (h : EntW w b E F) (hb : Below w.heap.size w w') : EntW w' b E F := fun i e he => ⟨(h i e he).1, (h i e he).2.next hb⟩
theorem EntW.congr {F' : Nat → Bool × List Nat} (h : EntW w b E F) (e : ∀ i, F i = F' i) : EntW w b E F' := fun i x hx => by rw [← e]; exact h i x hx
theorem EntW.store (h : EntW w b E F) (hz : ZB w g E) {j : Nat} {e : Ent} {r : Bool × List Nat} (he : e.1 = r.1 ∧ OwU w b e.2.1 e.2.2.1 e.2.2.2 r.2) : EntW ((w.setCell ⟨g, j * 2, none⟩ (.bool e.1)).setCell ⟨g, j * 2 + 1, none⟩ (.slice e.2.1 e.2.2.1 e.2.2.2)) b (E.set j e) (fun i => if i = j then r else F i) := by
  intro i e' h'
  by_cases hij : i = j
  · subst hij
    simp only [if_true]
    have hl : i < E.length := by
      rcases Nat.lt_or_ge i E.length with h1 | h1
      · exact h1
      · rw [List.getElem?_eq_none (by rw [List.length_set]; exact h1)] at h'; cases h'
    rw [List.getElem?_set_self hl] at h'
    injection h' with h'
    subst h'
    exact ⟨he.1, own_put he.2 hz i e⟩
  · simp only [if_neg hij]
    rw [List.getElem?_set_ne (Ne.symm hij)] at h'
    exact ⟨(h i e' h').1, own_put (h i e' h').2 hz j e⟩
theorem EntW.zeros (w : World) (b n : Nat) : EntW w b (List.replicate n (false, none, 0, 0)) (fun _ => (false, [])) := by
  intro i e he
  have e1 := List.eq_of_mem_replicate (List.mem_of_getElem? he)
  subst e1
  exact ⟨rfl, OwU.nil w b⟩
/-- The whole block as a list that came in. -/
theorem ZB.rs (h : ZB w g E) (hE : EntW w b E F) {n N : Nat} (hn : E.length = n) (hx : n ≤ maxLen) {R : List (Bool × List Nat)} (hR : R.length = n) (hF : ∀ j r, R[j]? = some r → F j = r ∧ r.2.length ≤ N) : RdRs w w.heap.size N (some ⟨g, 0, none⟩) n n R := by
  refine ⟨hR, Nat.le_refl _, hx, fun j r hr => ?_⟩
  have hj : j < R.length := by
    rcases Nat.lt_or_ge j R.length with h5 | h5
    · exact h5
    · rw [List.getElem?_eq_none h5] at hr; cases hr
  have he := List.getElem?_eq_getElem (l := E) (i := j) (by omega)
  obtain ⟨h1, h2⟩ := hE j _ he
  obtain ⟨h3, h4⟩ := hF j r hr
  rw [h3] at h1 h2
  obtain ⟨c0, c1⟩ := h.cells he
  have e1 : (⟨g, 0, none⟩ : Addr).add (j * 2) = ⟨g, j * 2, none⟩ := add_base g _
  refine ⟨_, _, _, _, rfl, h.lt, ?_, ?_, h2.rd, ?_⟩
  · rw [e1, ← h1]; exact c0
  · rw [e1]; exact c1
  · rw [← h2.len]; exact h4
end
theorem make_il (n : Nat) (hn : n ≤ 8796093022208) (w : World) :
    (Instr.makeSlice 22 (.int .i64 (n : Int)) (.int .i64 (n : Int))).run Tryz.prog w = .ok (.slice (some ⟨w.heap.size, 0, none⟩) n n) (w.alloc (.cells (zcs (List.replicate n (false, none, 0, 0))).toArray 28)) := by
  obtain ⟨i0, hi, hz0, hz1, hz2⟩ := info_parts infoZ
  have h := run_make (P := Tryz.prog) w 22 28 i0 _ Tryz.underlying22 hi hz0 .i64 .i64 (n : Int) (n : Int) (by omega) (Int.le_refl _) (by rw [hz2]; omega) (by omega)
  rw [hz1] at h
  rw [zcs_zeros]
  exact h
/-- A list comes back word by word. -/
def RetR (R : List (Bool × List Nat)) (N : Nat) (w : World) (e : Ending) (w' : World) : Prop :=
  ∃ (A : Option Addr) (n c : Nat), e = .returned (.slice A n c) ∧ RdRs w' w'.heap.size N A n c R ∧ Below w.heap.size w w'

set_option maxRecDepth 100000 in
set_option maxHeartbeats 4000000 in
theorem rCopyAll_any {N : Nat} {A : Option Addr} {n c : Nat} {R : List (Bool × List Nat)} {w : World} (h : RdRs w w.heap.size N A n c R) (hn : n ≤ 4398046511103) (hN : N ≤ 4398046511103) :
    Calls Tryz.prog 80 #[.slice A n c] w (RetR R N w) := by
  have HLEN := Lib.hid h.len
  have hmk := make_il n (by omega)
  have hB0 := (Below.refl w.heap.size w).alloc (Nat.le_refl _) (.cells (zcs (List.replicate n (false, none, 0, 0))).toArray 28)
  have hZ0 := ZB.made w n
  have hE0 := EntW.zeros (w.alloc (.cells (zcs (List.replicate n (false, none, 0, 0))).toArray 28)) w.heap.size n
  go_enter Tryz.func80, Tryz.ntmps80
  go_wp2_with fail
  obtain ⟨g, hg⟩ : ∃ g, g = w.heap.size := ⟨_, rfl⟩
  generalize w.alloc (.cells (zcs (List.replicate n (false, none, 0, 0))).toArray 28) = W1 at *
  rw [← hg] at hZ0 ⊢
  have HG := Lib.hid (Nat.le_of_eq hg.symm)
  clear hmk hg
  go_loopw [11] (fun iv wr => ∃ (i : Nat) (E : List Ent), iv = .int .i64 i ∧ i ≤ n ∧ ZB wr g E ∧ Hid (E.length = n) ∧ EntW wr w.heap.size E (fun t => if t < i then R.getD t (false, []) else (false, [])) ∧ Below w.heap.size w wr) (fun iv _ => n - (intOf iv).toNat)
  case atStart => exact ⟨0, _, rfl, Nat.zero_le _, hZ0, Lib.hid (by simp), fun i e he => by simpa using hE0 i e he, hB0⟩
  case round =>
    clear hZ0 hE0 hB0
    obtain ⟨i, E, rfl, hi, hZB, hEl, hE, hBi⟩ := hrel
    by_cases hik : i = n
    · have HO := Lib.hid (hZB.rs (N := N) (R := R) hE hEl.out (by unfold maxLen; omega) HLEN.out (fun j r hr => by
        have hj : j < R.length := by
          rcases Nat.lt_or_ge j R.length with h5 | h5
          · exact h5
          · rw [List.getElem?_eq_none h5] at hr; cases hr
        obtain ⟨ad, A', n', c', _, _, _, _, h5, h6⟩ := h.at_ j r hr
        rw [HLEN.out] at hj
        exact ⟨by rw [if_pos (by omega), List.getD_eq_getElem?_getD, hr]; rfl, by rw [h5.len]; exact h6⟩))
      have hki := hik.symm
      subst hki
      clear hik
      go_wp2
      go_ret
      exact ⟨_, _, _, rfl, HO.out, hBi⟩
    · have hil : i < n := by omega
      clear hik
      have hili : (i : Int) < (n : Nat) := by omega
      obtain ⟨ad, s3, M, A3, n3, c3, rfl, hbk, hz0, hz1, hrx, hn3, hx⟩ := rs_at h hil
      obtain ⟨hw0, hw1⟩ := zs_cells hBi hbk hz0 hz1
      obtain ⟨W2, HW2⟩ : ∃ W, W = wr.alloc (.cells #[.bool s3, .slice A3 n3 c3] 28) := ⟨_, rfl⟩
      have hb2 : Below wr.heap.size wr W2 := by rw [HW2]; exact (Below.refl _ _).alloc (Nat.le_refl _) _
      have HW2 := Lib.hid HW2
      have hB2 := hBi.trans (hb2.mono hBi.size)
      have hrx2 := hrx.next hB2
      go_wp2_with fail
      rw [← HW2.out]
      clear HW2 hw0 hw1 hz0 hz1
      clear HW2
      refine (rICopy_any (s := s3) hrx2 (by omega)).mono ?_
      rintro _ W4 ⟨s4, A4, n4, c4, M4, rfl, ho4, hm4, hb4⟩
      have hB4 := hB2.trans (hb4.mono hB2.size)
      have hZ4 := (hZB.next hb2).next hb4
      have hE4 := (hE.next hb2).next hb4
      obtain ⟨e, he⟩ : ∃ e, E[i]? = some e := ⟨E[i]'(by rw [hEl.out]; exact hil), List.getElem?_eq_getElem _⟩
      obtain ⟨k0, k1⟩ := hZ4.cells he
      have f0 := hZ4.frozen (i * 2)
      have f1 := hZ4.frozen (i * 2 + 1)
      have HZ5 := Lib.hid (hZ4.store i (s4, A4, n4, c4))
      have HE5 := Lib.hid (hE4.store (j := i) (e := (s4, A4, n4, c4)) (r := (s4, M4)) hZ4 ⟨rfl, ho4.base hB2.size⟩)
      have hB5 := (hB4.setCell (p := ⟨g, i * 2, none⟩) HG.out (.bool s4)).setCell (p := ⟨g, i * 2 + 1, none⟩) HG.out (.slice A4 n4 c4)
      have HF := Lib.hid (show (s4, M4) = R.getD i (false, []) by rw [hm4.out, List.getD_eq_getElem?_getD, hx.out]; rfl)
      clear hrx hrx2 hb2 hb4 hZB hE hBi he hB2
      go_wp2_with fail
      go_roundw
      case rel => exact ⟨i + 1, E.set i (s4, A4, n4, c4), by go_num, by omega, HZ5.out, Lib.hid (by rw [List.length_set]; exact hEl.out), HE5.out.congr fun t => (by
          by_cases e1 : t = i
          · subst e1; rw [if_pos rfl, if_pos (Nat.lt_succ_self _), HF.out]
          · rw [if_neg e1]
            by_cases e2 : t < i
            · rw [if_pos e2, if_pos (by omega)]
            · rw [if_neg e2, if_neg (by omega)]), hB5⟩
      case measure => simp [intOf]; omega

set_option maxHeartbeats 400000 in
theorem rCopy_any {N : Nat} {A : Option Addr} {n c : Nat} {R : List (Bool × List Nat)} {w : World} (h : RdRs w w.heap.size N A n c R) (hn : n ≤ 4398046511103) (hN : N ≤ 4398046511103) :
    Calls Tryz.prog 11 #[.slice A n c] w (RetR R N w) := by
  go_enter Tryz.func11, Tryz.ntmps11
  go_wp2_with fail
  refine (rCopyAll_any h hn hN).mono ?_
  rintro _ W2 ⟨A2, n2, c2, rfl, hr2, hb2⟩
  go_wp2
  go_ret
  exact ⟨_, _, _, rfl, hr2, hb2⟩
end Go.Proofs.YtipbpdiahemmpaaGreat

/- The law's polynomials of written numbers. -/
namespace Go.Proofs.YtipbpdiahemmpaaGreat
open Go.RowKit Go.IntWalk
attribute [local go_sem ↓] Go.wp_at_zero Go.wp_at_succ

/-- A slice of written numbers that came in. -/
structure RdK (w : World) (B : Nat) (A : Option Addr) (n c : Nat) (L : List Int) : Prop where
  len : L.length = n
  le : n ≤ c
  mx : c ≤ maxLen
  at_ : ∀ (j : Nat) (z : Int), L[j]? = some z → -9223372036854775808 ≤ z ∧ z < 9223372036854775808 ∧ ∃ ad, A = some ad ∧ ad.block < B ∧ w.cell? (ad.add j) = some (.int .i64 z)
theorem RdK.next {w w' : World} {A : Option Addr} {n c : Nat} {L : List Int} (h : RdK w w.heap.size A n c L) (hb : Below w.heap.size w w') : RdK w' w'.heap.size A n c L :=
  ⟨h.len, h.le, h.mx, fun j z hz => by
    obtain ⟨h1, h2, ad, h3, h4, h5⟩ := h.at_ j z hz
    exact ⟨h1, h2, ad, h3, by have := hb.size; omega, (hb.cell (p := ad.add j) (by rw [add_blk]; exact h4)).trans h5⟩⟩
/-- Written numbers in a new block. -/
theorem RdK.new (w : World) (t : TypeId) (L : List Int) (hL : ∀ z ∈ L, -9223372036854775808 ≤ z ∧ z < 9223372036854775808) (hm : L.length ≤ maxLen) {C : Array Value} (hC : C = (L.map fun z : Int => Value.int .i64 z).toArray) {n : Nat} (hn : n = L.length) :
    RdK (w.alloc (.cells C t)) (w.alloc (.cells C t)).heap.size (some ⟨w.heap.size, 0, none⟩) n n L := by
  subst hn
  refine ⟨rfl, Nat.le_refl _, hm, fun j z hz => ?_⟩
  obtain ⟨h1, h2⟩ := hL z (List.mem_of_getElem? hz)
  refine ⟨h1, h2, _, rfl, by simp, ?_⟩
  have e : (⟨w.heap.size, 0, none⟩ : Addr).add j = ⟨w.heap.size, j, none⟩ := by unfold Addr.add; by_cases h : j = 0 <;> simp [h]
  rw [e, cell_of_row _ w.heap.size j _ _ _ (heap_alloc_new w _), hC]
  simp [hz]

set_option maxRecDepth 100000 in
set_option maxHeartbeats 4000000 in
theorem lof_any {A : Option Addr} {n c : Nat} {L : List Int} {w : World} (h : RdK w w.heap.size A n c L) (hn : n ≤ 4398046511103) :
    Calls Tryz.prog 99 #[.slice A n c] w (RetL L w) := by
  have HLEN := Lib.hid h.len
  obtain ⟨i0, hi, hz0, hz1, hz2⟩ := info_parts infoZ
  go_enter Tryz.func99, Tryz.ntmps99
  go_wp2_with fail
  go_loopw [3, 8] (fun ov iv wr => ∃ (j c' : Nat) (A' : Option Addr) (M : List Int), ov = .slice A' j c' ∧ iv = .int .i64 j ∧ j ≤ n ∧ OwZs wr w.heap.size A' j c' M ∧ Hid (M = L.take j) ∧ Below w.heap.size w wr) (fun _ iv _ => n - (intOf iv).toNat)
  case atStart => exact ⟨0, 0, none, [], rfl, rfl, Nat.zero_le _, OwZs.nil _ _, Lib.hid rfl, Below.refl _ _⟩
  case round =>
    obtain ⟨j, c', A', M, rfl, rfl, hj, ho, hM, hB⟩ := hrel
    by_cases hjn : j = n
    · subst hjn
      go_wp2
      go_ret
      exact ⟨_, _, _, _, rfl, ho, Lib.hid (by rw [hM.out, List.take_of_length_le (by rw [HLEN.out]; exact Nat.le_refl _)]), hB⟩
    · have hjl : j < n := by omega
      clear hjn
      have hjli : (j : Int) < (n : Int) := by omega
      obtain ⟨z, hz⟩ := zs_get (L := L) (j := j) (by rw [h.len]; exact hjl)
      obtain ⟨h1, h2, ad, rfl, hbk, hx⟩ := h.at_ j z hz
      have hy := (hB.cell (p := ad.add j) (by rw [add_blk]; exact hbk)).trans hx
      have HZ := Lib.hid hz
      have HRG := Lib.hid (And.intro h1 h2)
      have HO := Lib.hid ho
      clear hz hx ho h1 h2
      go_wp2_with fail
      refine (rIOf_any z HRG.out.1 HRG.out.2 wr).mono ?_
      rintro _ W3 ⟨s3, A3, m3, c3, z3, rfl, ho3, hz3, hb3⟩
      have hB3 := hB.trans (hb3.mono hB.size)
      obtain ⟨E, hE, hEl, hEn⟩ := HO.out.next hb3
      have HO4 := Lib.hid (ho3.base hB.size)
      have HE := Lib.hid hE
      have HEN := Lib.hid (And.intro hEl hEn)
      have HM2 := Lib.hid (show M ++ [z3] = L.take (j + 1) by rw [hM.out, hz3.out, List.take_add_one, HZ.out]; rfl)
      clear hE hEl hEn hy hb3 ho3
      go_wp2_with (at_builtin; refine wpList_append_own _ rfl _ _ 23 rfl w.heap.size 28 i0 (.agg #[.bool false, .slice none 0 0]) 2 32 Tryz.underlying23 hi hz0 hz1 hz2 rfl (by decide) _ _ _ rfl (HE.out.alloc _) ⟨W3.heap.size, 0, none⟩ 1 1 [.bool s3, .slice A3 m3 c3] rfl rfl (zcell_new _ _ _ _) (by simp [Value.oneCell']) (by unfold maxLen; omega) (by omega) (by have := hB3.size; simp; omega) ?_; intro v' w1 hown' hgrow _)
      have hmore := zs_more (e := (s3, A3, m3, c3)) (z := z3) HO4.out rfl (HE.out.alloc _) HEN.out.1 HEN.out.2 hown' hgrow
      have HB5 := Lib.hid ((hB3.alloc hB3.size (.cells #[.bool s3, .slice A3 m3 c3] 28)).grown hgrow (by have := hB3.size; simp; omega) (own_block HE.out))
      obtain ⟨A5, c5, rfl, ho5⟩ := hmore
      clear hown' hgrow HE HEN HO4 hB3 hB
      go_wp2
      go_roundw
      case rel => exact ⟨j + 1, c5, A5, M ++ [z3], rfl, by go_num, by omega, ho5, HM2, HB5.out⟩
      case measure => simp [intOf]; omega
end Go.Proofs.YtipbpdiahemmpaaGreat
