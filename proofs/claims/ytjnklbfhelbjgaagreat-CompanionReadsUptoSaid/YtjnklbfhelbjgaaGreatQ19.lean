/- Lists of matrices of the call's own; the rows of a direct sum. -/
import Derived.Test.YtjnklbfhelbjgaaGreatQ18
namespace Go.Proofs.YtjnklbfhelbjgaaGreat
open Go.RowKit Go.IntWalk
abbrev EM := Ent × (Option Addr × Nat × Nat)
def mc3 (e : EM) : List Value := [.bool e.1.1, .slice e.1.2.1 e.1.2.2.1 e.1.2.2.2, .slice e.2.1 e.2.2.1 e.2.2.2]
def mcs (E : List EM) : List Value := E.flatMap mc3
theorem mcs_cons (e : EM) (E : List EM) : mcs (e :: E) = mc3 e ++ mcs E := by simp [mcs]
theorem mcs_append (E F : List EM) : mcs (E ++ F) = mcs E ++ mcs F := by simp [mcs]
theorem mcs_one (e : EM) : mcs [e] = [.bool e.1.1, .slice e.1.2.1 e.1.2.2.1 e.1.2.2.2, .slice e.2.1 e.2.2.1 e.2.2.2] := rfl
theorem mcs_at : ∀ (E : List EM) (j : Nat) (e : EM), E[j]? = some e → ∀ i, i < 3 → (mcs E)[j * 3 + i]? = (mc3 e)[i]?
 | [], _, _, h, _, _ => by simp at h
 | x :: E, 0, e, h, i, hi => by
   simp at h
   subst h
   rw [mcs_cons, Nat.zero_mul, Nat.zero_add, List.getElem?_append_left (by simp [mc3]; omega)]
 | x :: E, j + 1, e, h, i, hi => by
   have ih := mcs_at E j e (by simpa using h) i hi
   rw [mcs_cons, List.getElem?_append_right (by simp [mc3]; omega), ← ih]
   congr 1
   simp [mc3]
   omega
def EntMt (w : World) (b : Nat) (E : List EM) (DD : List (Int × List (List Int))) : Prop := E.length = DD.length ∧ ∀ (j : Nat) (e : EM) (x : Int × List (List Int)), E[j]? = some e → DD[j]? = some x → OwZ w b e.1.1 e.1.2.1 e.1.2.2.1 e.1.2.2.2 x.1 ∧ OwMs w b e.2.1 e.2.2.1 e.2.2.2 x.2
def OwMts (w : World) (b : Nat) (A : Option Addr) (n c : Nat) (DD : List (Int × List (List Int))) : Prop :=
 ∃ E : List EM, w.ownsRow b 28 3 (.slice A n c) n (mcs E) ∧ E.length = n ∧ EntMt w b E DD
section
variable {w w' : World} {b b' : Nat} {A : Option Addr} {n c : Nat} {DD : List (Int × List (List Int))} {E : List EM}
theorem EntMt.next (h : EntMt w b E DD) (hb : Below w.heap.size w w') : EntMt w' b E DD := ⟨h.1, fun j e z he hz => ⟨(h.2 j e z he hz).1.next hb, (h.2 j e z he hz).2.next hb⟩⟩
theorem EntMt.snoc (h : EntMt w b E DD) {e : EM} {x : Int × List (List Int)} (he : OwZ w b e.1.1 e.1.2.1 e.1.2.2.1 e.1.2.2.2 x.1 ∧ OwMs w b e.2.1 e.2.2.1 e.2.2.2 x.2) : EntMt w b (E ++ [e]) (DD ++ [x]) := by
 refine ⟨by rw [List.length_append, List.length_append, h.1]; rfl, fun j e' z' h1 h2 => ?_⟩
 rcases Nat.lt_or_ge j E.length with hj | hj
 ·rw [List.getElem?_append_left hj] at h1
  rw [List.getElem?_append_left (by rw [← h.1]; exact hj)] at h2
  exact h.2 j e' z' h1 h2
 ·rw [List.getElem?_append_right hj] at h1
  rw [List.getElem?_append_right (by rw [← h.1]; exact hj)] at h2
  rw [← h.1] at h2
  have hj0 : j - E.length = 0 := by
   rcases Nat.eq_zero_or_pos (j - E.length) with e0 | e0
   ·exact e0
   ·rw [List.getElem?_eq_none (by simp; omega)] at h1; cases h1
  rw [hj0] at h1 h2
  simp at h1 h2
  subst h1 h2
  exact he
theorem OwMts.len (h : OwMts w b A n c DD) : DD.length = n := by
 obtain ⟨E, _, h2, h3⟩ := h
 rw [← h3.1, h2]
theorem OwMts.nil (w : World) (b : Nat) : OwMts w b none 0 0 [] := ⟨[], World.ownsRow_nil _ _ _ _, rfl, rfl, fun j e z he _ => by simp at he⟩
theorem OwMts.next (h : OwMts w b A n c DD) (hb : Below w.heap.size w w') : OwMts w' b A n c DD := by
 obtain ⟨E, h1, h2, h3⟩ := h
 exact ⟨E, row_next h1 hb, h2, h3.next hb⟩
theorem OwMts.form (h : OwMts w b A n c DD) : (A = none ∧ n = 0 ∧ c = 0) ∨ ∃ g, A = some ⟨g, 0, none⟩ ∧ b ≤ g ∧ g < w.heap.size ∧ n ≤ c ∧ c ≤ maxLen := by
 obtain ⟨E, h, _, _⟩ := h
 rcases h.2 with ⟨h1, h2⟩ | ⟨g, cap, cur, h1, h2, h3, h4, h5, _⟩
 ·injection h1 with h1 h1' h1''
  exact .inl ⟨h1, h2, h1''⟩
 ·injection h1 with h1 h1' h1''
  subst h1''
  exact .inr ⟨g, h1, h2, (Array.getElem?_eq_some_iff.1 h3).1, h4, h5⟩
theorem keepI_grownM {w1 : World} {xs : List Value} (hE : w.ownsRow b 28 3 (.slice A n c) n xs) (hg : w.grownBy w1 (Value.slice A n c).ownBlock) : KeepI w w1 :=
 ⟨fun _ _ _ hi => grown_heap hE hg hi (by decide), fun _ _ _ hi => grown_heap hE hg hi (by decide)⟩
theorem OwMs.grownM {w1 : World} {b' r k : Nat} {G : Option Addr} {LL : List (List Int)} {xs : List Value} (h : OwMs w b' G r k LL) (hE : w.ownsRow b 28 3 (.slice A n c) n xs) (hg : w.grownBy w1 (Value.slice A n c).ownBlock) : OwMs w1 b' G r k LL := by
 obtain ⟨E, h1, h2, h3⟩ := h
 refine ⟨E, ⟨h1.1, ?_⟩, h2, h3.keep (keepI_grownM hE hg)⟩
 rcases h1.2 with h0 | ⟨g, cap, cur, e1, e2, e3, e4⟩
 ·exact .inl h0
 ·exact .inr ⟨g, cap, cur, e1, e2, grown_heap hE hg e3 (by decide), e4⟩
theorem mts_more {wb w1 : World} {v' : Value} {e : EM} {x : Int × List (List Int)} {t : TypeId} (he : OwZ w b e.1.1 e.1.2.1 e.1.2.2.1 e.1.2.2.2 x.1 ∧ OwMs w b e.2.1 e.2.2.1 e.2.2.2 x.2) (hwb : wb = w.alloc (.cells #[.bool e.1.1, .slice e.1.2.1 e.1.2.2.1 e.1.2.2.2, .slice e.2.1 e.2.2.1 e.2.2.2] t)) (hE : wb.ownsRow b 28 3 (.slice A n c) n (mcs E)) (hEl : E.length = n) (hEn : EntMt wb b E DD)
  (hown' : w1.ownsRow b 28 3 v' (n + 1) (mcs E ++ [.bool e.1.1, .slice e.1.2.1 e.1.2.2.1 e.1.2.2.2, .slice e.2.1 e.2.2.1 e.2.2.2])) (hg : wb.grownBy w1 (Value.slice A n c).ownBlock) :
  ∃ (A' : Option Addr) (c' : Nat), v' = .slice A' (n + 1) c' ∧ OwMts w1 b A' (n + 1) c' (DD ++ [x]) := by
 obtain ⟨A', c', rfl⟩ := row_sl hown'
 have hba : Below w.heap.size w wb := by rw [hwb]; exact (Below.refl w.heap.size w).alloc (Nat.le_refl _) _
 refine ⟨A', c', rfl, E ++ [e], ?_, by rw [List.length_append, hEl]; rfl, ?_⟩
 ·rw [mcs_append, mcs_one]; exact hown'
 ·have h2 := hEn.snoc (e := e) (x := x) ⟨he.1.next hba, he.2.next hba⟩
  exact ⟨h2.1, fun j e' z' h3 h4 => ⟨(h2.2 j e' z' h3 h4).1.keep (keepI_grownM hE hg).1, (h2.2 j e' z' h3 h4).2.grownM hE hg⟩⟩
theorem omt_at (h : OwMts w b A n c DD) {j : Nat} (hj : j < n) :
  ∃ (ad : Addr) (s : Bool) (A1 : Option Addr) (n1 c1 : Nat) (G1 : Option Addr) (r1 k1 : Nat) (d : Int) (MM : List (List Int)), A = some ad ∧ ad.block < w.heap.size ∧ w.cell? (ad.add (j * 3)) = some (.bool s) ∧ w.cell? ⟨(ad.add (j * 3)).block, (ad.add (j * 3)).off + 1, none⟩ = some (.slice A1 n1 c1) ∧ w.cell? ⟨(ad.add (j * 3)).block, (ad.add (j * 3)).off + 2, none⟩ = some (.slice G1 r1 k1) ∧ OwZ w b s A1 n1 c1 d ∧ OwMs w b G1 r1 k1 MM ∧ Hid (DD[j]? = some (d, MM)) := by
 have hl := h.len
 rcases h.form with ⟨_, h0, _⟩ | ⟨g, rfl, h1, h2, h3, h4⟩
 ·omega
 ·obtain ⟨E, hr, hE, hel⟩ := h
  have hjE : j < E.length := by omega
  have hjL : j < DD.length := by omega
  have he := List.getElem?_eq_getElem hjE
  have hq := mcs_at E j _ he
  have hx := hel.2 j _ _ he (List.getElem?_eq_getElem hjL)
  have hc : ∀ i, i < 3 → ∀ v, (mc3 E[j])[i]? = some v → w.cell? ⟨g, j * 3 + i, none⟩ = some v := fun i hi v hv => by
   rw [hr.cellAt (j * 3 + i) (by omega)]
   exact (hq i hi).trans hv
  exact ⟨⟨g, 0, none⟩, _, _, _, _, _, _, _, _, _, rfl, h2, by rw [add_base]; exact hc 0 (by omega) _ rfl, by rw [add_base]; exact hc 1 (by omega) _ rfl, by rw [add_base]; exact hc 2 (by omega) _ rfl, hx.1, hx.2, Lib.hid (List.getElem?_eq_getElem hjL)⟩
end
theorem infoMat : (Tryz.prog.info? 28).map (fun i => (i.zero, i.size, i.bytes)) = some (some (.agg #[.bool false, .slice none 0 0, .slice none 0 0]), 3, 56) := by kernel_rfl
theorem mcell_new (w : World) (x y z : Value) (t : TypeId) : ∀ j u, [x, y, z][j]? = some u → (w.alloc (.cells #[x, y, z] t)).cell? ((⟨w.heap.size, 0, none⟩ : Addr).add j) = some u := by
 intro j u hj
 match j, hj with
 | 0, hj => simp at hj; subst hj; simp [Addr.add]
 | 1, hj => simp at hj; subst hj; simp [Addr.add]
 | 2, hj => simp at hj; subst hj; simp [Addr.add]
 | (j + 3), hj => simp at hj
def msz (DD : List (Int × List (List Int))) : Nat := (DD.map fun x => x.2.length).sum
def dprod (DD : List (Int × List (List Int))) : Int := DD.foldl (fun D x => D * x.1) 1
def brow (cols from' : Nat) (f : Int) (R : List Int) : List Int := (List.range cols).map fun t => if from' ≤ t ∧ t < from' + R.length then R.getD (t - from') 0 * f else 0
def brows (D : Int) (cols : Nat) : Nat → List (Int × List (List Int)) → List (List Int)
 | _, [] => []
 | q, x :: t => x.2.map (brow cols q (D.tdiv x.1)) ++ brows D cols (q + x.2.length) t
theorem msz_cons (x : Int × List (List Int)) (t : List (Int × List (List Int))) : msz (x :: t) = x.2.length + msz t := by simp [msz]
theorem brows_append (D : Int) (cols : Nat) : ∀ (a b : List (Int × List (List Int))) (q : Nat), brows D cols q (a ++ b) = brows D cols q a ++ brows D cols (q + msz a) b
 | [], b, q => by simp [brows, msz]
 | x :: a, b, q => by
   rw [List.cons_append, brows, brows, brows_append D cols a b, List.append_assoc, msz_cons, Nat.add_assoc]
theorem take_one {α : Type} {L : List α} {j : Nat} {x : α} (h : L[j]? = some x) : L.take (j + 1) = L.take j ++ [x] := by
 rw [List.take_add_one, h]
 rfl
theorem brows_take {D : Int} {cols : Nat} {DD : List (Int × List (List Int))} {j : Nat} {x : Int × List (List Int)} (h : DD[j]? = some x) : brows D cols 0 (DD.take (j + 1)) = brows D cols 0 (DD.take j) ++ x.2.map (brow cols (msz (DD.take j)) (D.tdiv x.1)) := by
 rw [take_one h, brows_append, Nat.zero_add]
 simp [brows]
theorem msz_take {DD : List (Int × List (List Int))} {j : Nat} {x : Int × List (List Int)} (h : DD[j]? = some x) : msz (DD.take (j + 1)) = msz (DD.take j) + x.2.length := by
 rw [take_one h]
 simp [msz]
theorem msz_le {DD : List (Int × List (List Int))} {j : Nat} : msz (DD.take j) ≤ msz DD := by
 have h : DD = DD.take j ++ DD.drop j := (List.take_append_drop j DD).symm
 conv => rhs; rw [h]
 unfold msz
 rw [List.map_append, List.sum_append]
 omega
theorem dprod_take {DD : List (Int × List (List Int))} {j : Nat} {x : Int × List (List Int)} (h : DD[j]? = some x) : dprod (DD.take (j + 1)) = dprod (DD.take j) * x.1 := by
 rw [take_one h]
 unfold dprod
 rw [List.foldl_append]
 rfl
theorem brow_len (cols q : Nat) (f : Int) (R : List Int) : (brow cols q f R).length = cols := by simp [brow]
end Go.Proofs.YtjnklbfhelbjgaaGreat

/- qmat.checks: of matrices that may be. -/
namespace Go.Proofs.YtjnklbfhelbjgaaGreat
open Go.RowKit Go.IntWalk
attribute [local go_sem ↓] Go.wp_at_zero Go.wp_at_succ
structure SqM (S : Nat) (DD : List (Int × List (List Int))) : Prop where
 ne : ∀ x ∈ DD, x.1 ≠ 0
 pos : ∀ x ∈ DD, 0 < x.2.length
 sq : ∀ x ∈ DD, ∀ R ∈ x.2, R.length = x.2.length
 dz : ∀ x ∈ DD, Zz.zl x.1 ≤ S
 nz : ∀ x ∈ DD, ∀ R ∈ x.2, ∀ z ∈ R, Zz.zl z ≤ S
 sum : msz DD ≤ 24
theorem msz_mem {DD : List (Int × List (List Int))} {x : Int × List (List Int)} (h : x ∈ DD) : x.2.length ≤ msz DD := by
 obtain ⟨a, b, rfl⟩ := List.append_of_mem h
 simp [msz]
 omega
theorem SqM.count {S : Nat} {DD : List (Int × List (List Int))} (h : SqM S DD) : DD.length ≤ 24 := by
 have key : ∀ MM : List (Int × List (List Int)), (∀ p ∈ MM, 0 < p.2.length) → MM.length ≤ msz MM := fun MM => by
  induction MM with
  | nil => intro _; simp
  | cons p MM ih =>
    intro hh
    have h1 := ih (fun q hq => hh q (List.mem_cons_of_mem _ hq))
    have h2 := hh p (List.mem_cons_self ..)
    rw [msz_cons, List.length_cons]
    omega
 exact Nat.le_trans (key DD h.pos) h.sum
theorem SqM.rows {S : Nat} {DD : List (Int × List (List Int))} (h : SqM S DD) {x : Int × List (List Int)} (hx : x ∈ DD) : ∀ L ∈ x.2, L.length ≤ 24 ∧ ∀ z ∈ L, Zz.zl z ≤ S := fun L hL => ⟨by rw [h.sq x hx L hL]; exact Nat.le_trans (msz_mem hx) h.sum, h.nz x hx L hL⟩
theorem evn_sq {MM : List (List Int)} (h : ∀ R ∈ MM, R.length = MM.length) : Evn (MM.map fun L => L.map ofZ) := by
 intro R hR
 obtain ⟨L, hL, rfl⟩ := List.mem_map.1 hR
 rw [List.length_map, h L hL]
 unfold colsOf
 cases MM with
 | nil => cases hL
 | cons M MM =>
   simp
   exact (h M (List.mem_cons_self ..)).symm
theorem cols_sq {MM : List (List Int)} (h : ∀ R ∈ MM, R.length = MM.length) (h0 : 0 < MM.length) : colsOf (MM.map fun L => L.map ofZ) = MM.length := by
 unfold colsOf
 cases MM with
 | nil => simp at h0
 | cons M MM =>
   simp
   exact h M (List.mem_cons_self ..)
set_option maxRecDepth 100000 in
set_option maxHeartbeats 4000000 in
theorem checks_any {S b : Nat} {A : Option Addr} {n c : Nat} {DD : List (Int × List (List Int))} {w : World} (h : OwMts w b A n c DD) (hs : SqM S DD) (hS : S ≤ 2000000000) :
  Calls Tryz.prog 92 #[.slice A n c] w (fun e w' => e = .returned (.int .i64 0) ∧ Below w.heap.size w w') := by
 have H := Lib.hid (show ∀ W, Below w.heap.size w W → OwMts W b A n c DD from fun W hb => h.next hb)
 have HS := Lib.hid hs
 have hn : n ≤ 24 := by rw [← h.len]; exact hs.count
 clear h hs
 go_enter Tryz.func92, Tryz.ntmps92
 go_wp2_with fail
 go_loopw [8] (fun iv wr => ∃ (j : Nat), iv = .int .i64 (j : Int) ∧ j ≤ n ∧ Below w.heap.size w wr) (fun iv _ => n - (intOf iv).toNat)
 case atStart => exact ⟨0, rfl, Nat.zero_le _, Below.refl _ _⟩
 case round =>
  obtain ⟨j, rfl, hj, hB⟩ := hrel
  by_cases hjn : j = n
  ·subst hjn
   have HB := Lib.hid hB
   clear hB
   go_wp2
   go_ret
   exact ⟨rfl, HB.out⟩
  ·have hjl : j < n := by omega
   have hjli : (j : Int) < (n : Int) := by omega
   clear hjn
   obtain ⟨ad, s1, A1, n1, c1, G1, r1, k1, d, MM, rfl, hbk, hx0, hx1, hx2, hoz, hom, hp⟩ := omt_at (H.out wr hB) hjl
   have hm := List.mem_of_getElem? hp.out
   obtain ⟨W2, HW2⟩ : ∃ W, W = wr.alloc (.cells #[.bool s1, .slice A1 n1 c1, .slice G1 r1 k1] 28) := ⟨_, rfl⟩
   have hb2 : Below wr.heap.size wr W2 := by rw [HW2]; exact (Below.refl _ _).alloc (Nat.le_refl _) _
   have HC := Lib.hid (show chk d (MM.map fun L => L.map ofZ) = 0 from chk_ok (HS.out.ne _ hm) (evn_sq (HS.out.sq _ hm)))
   have HZ := Lib.hid (And.intro (hoz.next hb2) ((hom.next hb2).rd (HS.out.rows hm)))
   have HN := Lib.hid (show n1 ≤ S ∧ r1 ≤ 24 from ⟨by rw [hoz.len]; exact HS.out.dz _ hm, by rw [← hom.len]; exact Nat.le_trans (msz_mem hm) HS.out.sum⟩)
   have HB2 := Lib.hid (hB.trans (hb2.mono hB.size))
   have HW2 := Lib.hid HW2
   clear hB hb2 hoz hom hp hm
   go_wp2_with fail
   rw [← HW2.out]
   clear HW2 hx0 hx1 hx2
   clear HW2
   refine (mcheck_any HZ.out.1.rd HZ.out.2 (by have := HN.out; omega) (by have := HN.out; omega)).mono ?_
   rintro _ W4 ⟨v, rfl, hv, hb4⟩
   obtain rfl : v = 0 := by rw [hv.out, HC.out]
   have HF := Lib.hid (HB2.out.trans (hb4.mono HB2.out.size))
   clear hb4 hv
   go_wp2
   go_roundw
   case rel => exact ⟨j + 1, by go_num, by omega, HF.out⟩
   case measure => simp [intOf]; omega
end Go.Proofs.YtjnklbfhelbjgaaGreat

/- qmat.Blocks: the direct sum of square matrices. -/
namespace Go.Proofs.YtjnklbfhelbjgaaGreat
open Go.RowKit Go.IntWalk
attribute [local go_sem ↓] Go.wp_at_zero Go.wp_at_succ
theorem dfold_sz {S : Nat} : ∀ (DD : List (Int × List (List Int))) (g : Int), (∀ x ∈ DD, Zz.zl x.1 ≤ S) → Zz.zl (DD.foldl (fun D x => D * x.1) g) ≤ Zz.zl g + DD.length * S
 | [], g, _ => by simp
 | x :: DD, g, h => by
   have ih := dfold_sz DD (g * x.1) (fun y hy => h y (List.mem_cons_of_mem _ hy))
   have h1 := Zz.zl_mul g x.1
   have h2 := h x (List.mem_cons_self ..)
   rw [List.foldl_cons, List.length_cons, Nat.succ_mul]
   omega
theorem dfold_dvd : ∀ (DD : List (Int × List (List Int))) (g : Int), (g ∣ DD.foldl (fun D x => D * x.1) g) ∧ ∀ x ∈ DD, x.1 ∣ DD.foldl (fun D x => D * x.1) g
 | [], g => ⟨Int.dvd_refl _, fun x h => by cases h⟩
 | y :: DD, g => by
   have ih := dfold_dvd DD (g * y.1)
   rw [List.foldl_cons]
   refine ⟨Int.dvd_trans (Int.dvd_mul_right _ _) ih.1, fun x hx => ?_⟩
   rcases List.mem_cons.1 hx with rfl | hx
   ·exact Int.dvd_trans (Int.dvd_mul_left _ _) ih.1
   ·exact ih.2 x hx
theorem dfold_ne : ∀ (DD : List (Int × List (List Int))) (g : Int), g ≠ 0 → (∀ x ∈ DD, x.1 ≠ 0) → DD.foldl (fun D x => D * x.1) g ≠ 0
 | [], _, h, _ => h
 | y :: DD, g, h, hx => dfold_ne DD (g * y.1) (Int.mul_ne_zero h (hx y (List.mem_cons_self ..))) fun x hm => hx x (List.mem_cons_of_mem _ hm)
theorem dprod_sz {S : Nat} {DD : List (Int × List (List Int))} (h : SqM S DD) (hS : S ≤ 2000000000) (j : Nat) : Zz.zl (dprod (DD.take j)) ≤ 50000000000 := by
 have e1 := dfold_sz (S := S) (DD.take j) 1 (fun x hx => h.dz x (List.mem_of_mem_take hx))
 have e2 : Zz.zl 1 ≤ 1 := Zz.zl_small (by decide)
 have e3 : (DD.take j).length ≤ 24 := by rw [List.length_take]; have := h.count; omega
 have e4 : (DD.take j).length * S ≤ 24 * 2000000000 := Nat.mul_le_mul e3 hS
 unfold dprod
 omega
theorem brows_len (D : Int) (cols : Nat) : ∀ (DD : List (Int × List (List Int))) (q : Nat), (brows D cols q DD).length = msz DD
 | [], q => rfl
 | x :: t, q => by rw [brows, List.length_append, List.length_map, brows_len D cols t, msz_cons]
theorem brows_mem (D : Int) (cols : Nat) {P : List Int → Prop} : ∀ (DD : List (Int × List (List Int))) (q : Nat), (∀ x ∈ DD, ∀ R ∈ x.2, ∀ p, P (brow cols p (D.tdiv x.1) R)) → ∀ L ∈ brows D cols q DD, P L
 | [], q, _, L, hL => by cases hL
 | x :: t, q, h, L, hL => by
   rw [brows] at hL
   rcases List.mem_append.1 hL with h1 | h1
   ·obtain ⟨R, hR, rfl⟩ := List.mem_map.1 h1
    exact h x (List.mem_cons_self ..) R hR q
   ·exact brows_mem D cols t _ (fun y hy => h y (List.mem_cons_of_mem _ hy)) L h1
theorem getD_sz {S : Nat} {R : List Int} (h : ∀ z ∈ R, Zz.zl z ≤ S) (t : Nat) : Zz.zl (R.getD t 0) ≤ S := by
 rcases Nat.lt_or_ge t R.length with ht | ht
 ·rw [List.getD_eq_getElem?_getD, List.getElem?_eq_getElem ht]
  exact h _ (List.getElem_mem ht)
 ·rw [List.getD_eq_getElem?_getD, List.getElem?_eq_none ht]
  show Zz.zl 0 ≤ S
  rw [Zz.zl_zero]
  omega
theorem brow_sz {S T cols q : Nat} {f : Int} {R : List Int} (h : ∀ z ∈ R, Zz.zl z ≤ S) (hf : Zz.zl f ≤ T) : ∀ z ∈ brow cols q f R, Zz.zl z ≤ S + T := by
 intro z hz
 obtain ⟨t, _, rfl⟩ := List.mem_map.1 hz
 split
 ·have := Zz.zl_mul (R.getD (t - q) 0) f
  have := getD_sz h (t - q)
  omega
 ·rw [Zz.zl_zero]; omega
theorem mts_cells {w w' : World} {B : Nat} {ad : Addr} {j : Nat} {s : Bool} {A G : Option Addr} {n c r k : Nat} (hb : Below B w w') (h2 : ad.block < B) (h3 : w.cell? (ad.add (j * 3)) = some (.bool s)) (h4 : w.cell? ⟨(ad.add (j * 3)).block, (ad.add (j * 3)).off + 1, none⟩ = some (.slice A n c)) (h5 : w.cell? ⟨(ad.add (j * 3)).block, (ad.add (j * 3)).off + 2, none⟩ = some (.slice G r k)) :
  w'.cell? (ad.add (j * 3)) = some (.bool s) ∧ w'.cell? ⟨(ad.add (j * 3)).block, (ad.add (j * 3)).off + 1, none⟩ = some (.slice A n c) ∧ w'.cell? ⟨(ad.add (j * 3)).block, (ad.add (j * 3)).off + 2, none⟩ = some (.slice G r k) :=
 have hk : (ad.add (j * 3)).block < B := by rw [add_blk]; exact h2
 ⟨(hb.cell (p := ad.add (j * 3)) hk).trans h3, (hb.cell (p := ⟨(ad.add (j * 3)).block, (ad.add (j * 3)).off + 1, none⟩) hk).trans h4, (hb.cell (p := ⟨(ad.add (j * 3)).block, (ad.add (j * 3)).off + 2, none⟩) hk).trans h5⟩
abbrev blR (DD : List (Int × List (List Int))) : List (List Int) := brows (dprod DD) (msz DD) 0 DD
set_option maxRecDepth 100000 in
set_option maxHeartbeats 16000000 in
theorem mBlocks_any {S b : Nat} {A : Option Addr} {n c : Nat} {DD : List (Int × List (List Int))} {w : World} (h : OwMts w b A n c DD) (hs : SqM S DD) (hS : S ≤ 2000000000) (hn0 : 0 < n) :
  Calls Tryz.prog 91 #[.slice A n c] w (RetME ((dprod DD).tdiv (mG (dprod DD) (blR DD))) (mN (dprod DD) (blR DD)) 0 w) := by
 obtain ⟨i1, hjf, hy0, hy1, hy2⟩ := info_parts infoIs
 obtain ⟨W1, HW1⟩ : ∃ W, W = w.alloc (.cells #[.bool false, .slice none 0 0, .slice none 0 0] 28) := ⟨_, rfl⟩
 have hB : Below w.heap.size w W1 := by rw [HW1]; exact (Below.refl _ _).alloc (Nat.le_refl _) _
 have hM : MC W1 w.heap.size false none 0 0 none 0 0 := by rw [HW1]; exact MC.new w false none 0 0 none 0 0
 have H := Lib.hid (show ∀ W, Below w.heap.size w W → OwMts W b A n c DD from fun W hb => h.next hb)
 have HS := Lib.hid hs
 have HL := Lib.hid h.len
 have hn : n ≤ 24 := by rw [← h.len]; exact hs.count
 have HB := Lib.hid hB
 have HM := Lib.hid hM
 have HW1 := Lib.hid HW1
 clear h hs hB hM
 go_enter Tryz.func91, Tryz.ntmps91
 go_wp2_with fail
 rw [← HW1.out]
 clear HW1
 clear HW1
 refine (checks_any (H.out _ HB.out) HS.out hS).mono ?_
 rintro _ W2 ⟨rfl, hb2⟩
 have HB2 := Lib.hid (HB.out.trans (hb2.mono HB.out.size))
 have HM2 := Lib.hid (HM.out.next hb2)
 clear hb2 HM HB
 go_wp2_with fail
 refine (of_any 1 (by decide) (by decide) W2).mono ?_
 rintro _ W3 ⟨s3, A3, n3, c3, z3, rfl, ho3, hz3, hb3⟩
 obtain rfl : z3 = 1 := hz3.out
 obtain ⟨W4, HW4⟩ : ∃ W, W = W3.alloc (.cells #[.bool s3, .slice A3 n3 c3] 25) := ⟨_, rfl⟩
 have hb4 : Below W3.heap.size W3 W4 := by rw [HW4]; exact (Below.refl _ _).alloc (Nat.le_refl _) _
 have HZ4 := Lib.hid (show ZC W4 W3.heap.size s3 A3 n3 c3 by rw [HW4]; exact ZC.new W3 s3 A3 n3 c3)
 have HO4 := Lib.hid (show OwZ W4 w.heap.size s3 A3 n3 c3 1 from (ho3.next hb4).base HB2.out.size)
 have HB4 := Lib.hid (HB2.out.trans ((hb3.trans (hb4.mono hb3.size)).mono HB2.out.size))
 have HM4 := Lib.hid (HM2.out.next (hb3.trans (hb4.mono hb3.size)))
 obtain ⟨gd, hgd⟩ : ∃ gd, gd = W3.heap.size := ⟨_, rfl⟩
 have HGD := Lib.hid (show w.heap.size < gd by rw [hgd]; exact Nat.lt_of_lt_of_le HM2.out.lt hb3.size)
 have HGE := Lib.hid hgd
 have HW4 := Lib.hid HW4
 clear ho3 hz3 hb3 hb4 hgd HM2 HB2
 go_wp2_with fail
 rw [← HW4.out]
 rw [← HGE.out] at HZ4 ⊢
 clear HW4
 clear HW4
 go_loopw [5, 33] (fun nv iv wr => ∃ (j v : Nat) (sd : Bool) (Ad : Option Addr) (nd cd : Nat), nv = .int .i64 (v : Int) ∧ iv = .int .i64 (j : Int) ∧ j ≤ n ∧ Hid (v = msz (DD.take j)) ∧ ZC wr gd sd Ad nd cd ∧ OwZ wr w.heap.size sd Ad nd cd (dprod (DD.take j)) ∧ MC wr w.heap.size false none 0 0 none 0 0 ∧ Below w.heap.size w wr) (fun _ iv _ => n - (intOf iv).toNat)
 case atStart => exact ⟨0, 0, s3, A3, n3, c3, rfl, rfl, Nat.zero_le _, Lib.hid rfl, HZ4.out, HO4.out, HM4.out, HB4.out⟩
 case round =>
  obtain ⟨j, v, sd, Ad, nd, cd, rfl, rfl, hj, hv, hzc, hoz, hmc, hB⟩ := hrel
  by_cases hjn : j = n
  case neg =>
   have hjl : j < n := by omega
   have hjli : (j : Int) < (n : Int) := by omega
   clear hjn
   obtain ⟨ad, s1, A1, n1, c1, G1, r1, k1, d, MM, rfl, hbk, hx0, hx1, hx2, hod, hom, hp⟩ := omt_at (H.out wr hB) hjl
   have hm := List.mem_of_getElem? hp.out
   obtain ⟨W5, HW5⟩ : ∃ W, W = wr.alloc (.cells #[.bool s1, .slice A1 n1 c1, .slice G1 r1 k1] 28) := ⟨_, rfl⟩
   have hb5 : Below wr.heap.size wr W5 := by rw [HW5]; exact (Below.refl _ _).alloc (Nat.le_refl _) _
   have HM5 := Lib.hid (show MC W5 wr.heap.size s1 A1 n1 c1 G1 r1 k1 by rw [HW5]; exact MC.new wr s1 A1 n1 c1 G1 r1 k1)
   have HR5 := Lib.hid (And.intro (hod.next hb5) ((hom.next hb5).rd (HS.out.rows hm)))
   have HX5 := Lib.hid (And.intro (hzc.next hb5) (And.intro (hoz.next hb5) (hmc.next hb5)))
   have HB5 := Lib.hid (hB.trans (hb5.mono hB.size))
   have HN := Lib.hid (show n1 ≤ S ∧ r1 ≤ 24 ∧ MM.length = r1 from ⟨by rw [hod.len]; exact HS.out.dz _ hm, by rw [← hom.len]; exact Nat.le_trans (msz_mem hm) HS.out.sum, hom.len⟩)
   have HCQ := Lib.hid (show colsOf (MM.map fun L => L.map ofZ) = r1 by rw [cols_sq (HS.out.sq _ hm) (HS.out.pos _ hm)]; exact hom.len)
   have HVV := Lib.hid (show v + r1 = msz (DD.take (j + 1)) by rw [msz_take hp.out, ← hv.out]; show v + r1 = v + MM.length; rw [hom.len])
   have hvm : v + r1 ≤ 24 := by rw [HVV.out]; exact Nat.le_trans msz_le HS.out.sum
   have HDP := Lib.hid (show dprod (DD.take j) * d = dprod (DD.take (j + 1)) from (dprod_take hp.out).symm)
   have HW5 := Lib.hid HW5
   clear hB hb5 hod hom hp hm hzc hoz hmc hv
   go_wp2_with fail
   rw [← HW5.out]
   clear HW5 hx0 hx1 hx2
   clear HW5
   refine (msize_any HR5.out.2 (by omega)).mono ?_
   rintro _ W6 ⟨x6, y6, rfl, hxy, hb6⟩
   obtain rfl : y6 = (r1 : Int) := by rw [hxy.out.2, HCQ.out]
   have hwv : IntKind.i64.wrap ((v : Int) + (r1 : Int)) = (v : Int) + (r1 : Int) := IntWalk.i64_in _ (by omega)
   have hM6 := HM5.out.next hb6
   have hz6 := HX5.out.1.next hb6
   have a0 := hz6.c0
   have a1 := hz6.c1
   have b0 := hM6.c0
   have b1 := hM6.c1
   have HX6 := Lib.hid (And.intro hz6 (And.intro (HX5.out.2.1.next hb6) (HX5.out.2.2.next hb6)))
   have HR6 := Lib.hid (HR5.out.1.next hb6)
   have HB6 := Lib.hid (HB5.out.trans (hb6.mono HB5.out.size))
   clear hxy hb6 hM6 hz6
   go_wp2_with fail
   refine (imul_any HX6.out.2.1.rd HR6.out.rd (by rw [HX6.out.2.1.len]; have := dprod_sz HS.out hS j; omega) (by have := HN.out; omega)).mono ?_
   rintro _ W7 ⟨s7, A7, n7, c7, z7, rfl, ho7, hz7, hb7⟩
   have hz9 := HX6.out.1.next hb7
   have f0 := hz9.fz 0
   have f1 := hz9.fz 1
   have e0 := hz9.c0
   have e1 := hz9.c1
   have HP := Lib.hid (And.intro (hz9.store s7 A7 n7 c7) (And.intro (show OwZ ((W7.setCell ⟨gd, 0, none⟩ (.bool s7)).setCell ⟨gd, 1, none⟩ (.slice A7 n7 c7)) w.heap.size s7 A7 n7 c7 (dprod (DD.take (j + 1))) by
    rw [← HDP.out, ← hz7.out]
    exact (ho7.base HB6.out.size).keep (keep_set2 hz9 _ _)) (((HX6.out.2.2.next hb7).far (p := ⟨gd, 0, none⟩) (by have := HGD.out; show w.heap.size ≠ gd; omega) (.bool s7)).far (p := ⟨gd, 1, none⟩) (by have := HGD.out; show w.heap.size ≠ gd; omega) (.slice A7 n7 c7))))
   have HB7 := Lib.hid (below_put2 (HB6.out.trans (hb7.mono HB6.out.size)) (Nat.le_of_lt HGD.out) (.bool s7) (.slice A7 n7 c7))
   clear hz9 hb7 ho7 hz7 a0 a1 b0 b1
   go_wp2
   go_roundw
   case rel => exact ⟨j + 1, v + r1, s7, A7, n7, c7, by go_num, by go_num, by omega, HVV, HP.out.1, HP.out.2.1, HP.out.2.2, HB7.out⟩
   case measure => simp [intOf]; omega
  case pos =>
   obtain ⟨wo, rfl⟩ : ∃ V, V = wr := ⟨_, rfl⟩
   obtain ⟨D, hD⟩ : ∃ D, D = dprod DD := ⟨_, rfl⟩
   obtain ⟨cols, hcols⟩ : ∃ cols, cols = msz DD := ⟨_, rfl⟩
   have hall : DD.take j = DD := List.take_of_length_le (by rw [HL.out, hjn]; exact Nat.le_refl _)
   rw [hall, ← hD] at hoz
   have hvc : v = cols := by rw [hv.out, hall, hcols]
   subst hvc
   have HDD := Lib.hid hD
   have HCO := Lib.hid hcols
   have HDS := Lib.hid (show Zz.zl D ≤ 50000000000 by rw [hD, ← hall]; exact dprod_sz HS.out hS j)
   have HDV := Lib.hid (show ∀ x ∈ DD, x.1 ∣ D by rw [hD]; exact (dfold_dvd DD 1).2)
   have HDN := Lib.hid (show D ≠ 0 by rw [hD]; exact dfold_ne DD 1 (by decide) HS.out.ne)
   have hc24 : v ≤ 24 := by rw [hcols]; exact HS.out.sum
   have HXO := Lib.hid (show ∀ W, Below wo.heap.size wo W → ZC W gd sd Ad nd cd ∧ OwZ W w.heap.size sd Ad nd cd D ∧ MC W w.heap.size false none 0 0 none 0 0 from fun W hb => ⟨hzc.next hb, hoz.next hb, hmc.next hb⟩)
   have HBO := Lib.hid hB
   subst hjn
   clear hzc hoz hmc hB hv hall hD hcols HZ4 HO4 HM4 HB4
   go_wp2_with fail
   go_loopw [11, 12, 52] (fun ov fv iv wr => ∃ (t u q : Nat) (A' : Option Addr) (c' : Nat), ov = .slice A' q c' ∧ fv = .int .i64 (u : Int) ∧ iv = .int .i64 (t : Int) ∧ t ≤ j ∧ Hid (u = msz (DD.take t)) ∧ OwMs wr wo.heap.size A' q c' (brows D v 0 (DD.take t)) ∧ Below wo.heap.size wo wr) (fun _ _ iv _ => j - (intOf iv).toNat)
   case atStart => exact ⟨0, 0, 0, none, 0, rfl, rfl, rfl, Nat.zero_le _, Lib.hid rfl, OwMs.nil _ _, Below.refl _ _⟩
   case round =>
    obtain ⟨t, u, q, A', c', rfl, rfl, rfl, ht, hu, hom, hB⟩ := hrel
    by_cases htj : t = j
    ·have HOM := Lib.hid (show OwMs wr wo.heap.size A' q c' (blR DD) by
      rw [List.take_of_length_le (l := DD) (by rw [HL.out, htj]; exact Nat.le_refl _), HDD.out, HCO.out] at hom
      exact hom)
     have HFS := Lib.hid (show ∀ L ∈ blR DD, L.length ≤ 24 ∧ ∀ z ∈ L, Zz.zl z ≤ 100000000000 from brows_mem _ _ DD 0 (P := fun L => L.length ≤ 24 ∧ ∀ z ∈ L, Zz.zl z ≤ 100000000000) (fun x hx R hR p => ⟨by rw [brow_len]; exact HS.out.sum, fun z hz => by
      have e := brow_sz (S := S) (T := 50000000000) (HS.out.nz x hx R hR) (Nat.le_trans (Zz.zl_tdiv _ _) (by rw [← HDD.out]; exact HDS.out)) z hz
      omega⟩))
     have HRD := Lib.hid (HOM.out.rd HFS.out)
     obtain ⟨hzd, hozd, hmcd⟩ := HXO.out wr hB
     have HOZ := Lib.hid hozd
     have HYL := Lib.hid (show nd ≤ 400000000000 by rw [hozd.len]; have := HDS.out; omega)
     have HQL := Lib.hid (show q ≤ 24 by rw [← HOM.out.len, brows_len]; exact HS.out.sum)
     have HCL := Lib.hid (show colsOf ((blR DD).map fun L => L.map ofZ) ≠ 0 by
      have hl : (blR DD).length = msz DD := brows_len _ _ _ _
      have hpos : 0 < msz DD := by
       cases hd : DD with
       | nil => have := HL.out; rw [hd] at this; simp at this; omega
       | cons x t =>
         have := HS.out.pos x (by rw [hd]; exact List.mem_cons_self ..)
         rw [msz_cons]
         omega
      have hm := brows_mem (dprod DD) (msz DD) (P := fun L => L.length = msz DD) DD 0 (fun x hx R hR p => brow_len _ _ _ _)
      unfold colsOf
      cases hh : blR DD with
      | nil => rw [hh] at hl; simp at hl; omega
      | cons M MM =>
        have := hm M (by rw [show brows (dprod DD) (msz DD) 0 DD = M :: MM from hh]; exact List.mem_cons_self ..)
        simp
        intro h0
        rw [h0] at this
        simp at this
        omega)
     have HBF := Lib.hid (HBO.out.trans (hB.mono HBO.out.size))
     have HMCD := Lib.hid hmcd
     have a0 := hzd.c0
     have a1 := hzd.c1
     subst htj
     clear hom hB hu hzd hozd hmcd
     go_wp2_with fail
     refine (mmade_any HOZ.out.rd HRD.out HDN.out HYL.out (by decide) (by have := HQL.out; omega) (by decide) HCL.out).mono ?_
     rintro _ W8 ⟨s8, A8, n8, c8, G8, r8, k8, y8, NN, rfl, ho8, hm8, hy8, hb8⟩
     have hMz := HMCD.out.next hb8
     have r0 := hMz.c0
     have r1 := hMz.c1
     have r2 := hMz.c2
     have f0 := hMz.fz 0
     have f1 := hMz.fz 1
     have f2 := hMz.fz 2
     have HSS := Lib.hid (hMz.store s8 A8 n8 c8 G8 r8 k8)
     have HU := Lib.hid ((ho8.base (b' := w.heap.size) HBF.out.size).keep (keepI_put hMz s8 A8 n8 c8 G8 r8 k8).1)
     have HWL := Lib.hid (show w.heap.size < wr.heap.size from HMCD.out.lt)
     have HQQ := Lib.hid ((hm8.put hMz HWL.out s8 A8 n8 c8 G8 r8 k8).base (b' := w.heap.size) (Nat.le_of_lt HWL.out))
     have HF := Lib.hid (below_putM (HBF.out.trans (hb8.mono HBF.out.size)) (Nat.le_refl w.heap.size) s8 A8 n8 c8 G8 r8 k8)
     have HY8 := Lib.hid (show y8 = (dprod DD).tdiv (mG (dprod DD) (blR DD)) ∧ NN = mN (dprod DD) (blR DD) by rw [hy8.out.1, hy8.out.2, zss_ofZ, HDD.out]; exact ⟨rfl, rfl⟩)
     unfold putM at HSS HU HQQ HF
     clear hMz ho8 hm8 hy8 hb8 a0 a1
     go_wp2_with fail
     generalize ((W8.setCell ⟨w.heap.size, 0, none⟩ (.bool s8)).setCell ⟨w.heap.size, 1, none⟩ (.slice A8 n8 c8)).setCell ⟨w.heap.size, 2, none⟩ (.slice G8 r8 k8) = W9 at *
     have z0 := HSS.out.c0
     have z1 := HSS.out.c1
     have z2 := HSS.out.c2
     exact bodyPost_ret (by simp [results, Tryz.results91, go_sem, z0, z1, z2]) rfl ⟨s8, A8, n8, c8, G8, r8, k8, _, _, 0, rfl, HU.out, HQQ.out, Lib.hid ⟨HY8.out.1, HY8.out.2, rfl⟩, HF.out⟩
    ·have htl : t < j := by omega
     have htli : (t : Int) < (j : Int) := by omega
     clear htj
     obtain ⟨wa, rfl⟩ : ∃ V, V = wr := ⟨_, rfl⟩
     have hBa := HBO.out.trans (hB.mono HBO.out.size)
     obtain ⟨ad, s1, A1, n1, c1, G1, r1, k1, d, MM, rfl, hbk, hx0', hx1', hx2', hod', hmm', hp⟩ := omt_at (H.out w (Below.refl _ _)) htl
     obtain ⟨hx0, hx1, hx2⟩ := mts_cells hBa hbk hx0' hx1' hx2'
     have hm := List.mem_of_getElem? hp.out
     have HMR := Lib.hid (show ∀ W, Below w.heap.size w W → RdRss W W.heap.size S 24 G1 r1 k1 (MM.map fun L => L.map ofZ) from fun W hb => (hmm'.rd (HS.out.rows hm)).next hb)
     have hod := hod'.next hBa
     have hmm := hmm'.next hBa
     clear hx0' hx1' hx2' hod' hmm' hBa
     obtain ⟨W5, HW5⟩ : ∃ W, W = wa.alloc (.cells #[.bool s1, .slice A1 n1 c1, .slice G1 r1 k1] 28) := ⟨_, rfl⟩
     have hb5 : Below wa.heap.size wa W5 := by rw [HW5]; exact (Below.refl _ _).alloc (Nat.le_refl _) _
     have HM5 := Lib.hid (show MC W5 wa.heap.size s1 A1 n1 c1 G1 r1 k1 by rw [HW5]; exact MC.new wa s1 A1 n1 c1 G1 r1 k1)
     have HR5 := Lib.hid (And.intro (hod.next hb5) ((hmm.next hb5).rd (HS.out.rows hm)))
     have HB5 := Lib.hid (hB.trans (hb5.mono hB.size))
     have HOM := Lib.hid (hom.next hb5)
     have HN := Lib.hid (show n1 ≤ S ∧ r1 ≤ 24 ∧ MM.length = r1 from ⟨by rw [hod.len]; exact HS.out.dz _ hm, by rw [← hmm.len]; exact Nat.le_trans (msz_mem hm) HS.out.sum, hmm.len⟩)
     have HCQ := Lib.hid (show colsOf (MM.map fun L => L.map ofZ) = r1 by rw [cols_sq (HS.out.sq _ hm) (HS.out.pos _ hm)]; exact hmm.len)
     have HSQ := Lib.hid (show ∀ R ∈ MM, R.length = r1 from fun R hR => by rw [HS.out.sq _ hm R hR]; exact hmm.len)
     have HVV := Lib.hid (show u + r1 = msz (DD.take (t + 1)) by rw [msz_take hp.out, ← hu.out]; show u + r1 = u + MM.length; rw [hmm.len])
     have hvm : u + r1 ≤ v := by rw [HVV.out, HCO.out]; exact msz_le
     have HBT := Lib.hid (show brows D v 0 (DD.take (t + 1)) = brows D v 0 (DD.take t) ++ MM.map (brow v u (D.tdiv d)) by rw [brows_take hp.out, ← hu.out])
     have HDN1 := Lib.hid (show d ≠ 0 ∧ d ∣ D from ⟨HS.out.ne _ hm, HDV.out _ hm⟩)
     have HQ := Lib.hid (show q = u by rw [← hom.len, brows_len, ← hu.out])
     obtain ⟨hzd, hozd, _⟩ := HXO.out W5 HB5.out
     have HZD := Lib.hid hozd
     have a0 := hzd.c0
     have a1 := hzd.c1
     have b0 := HM5.out.c0
     have b1 := HM5.out.c1
     rw [HW5] at a0 a1 b0 b1
     have HW5 := Lib.hid HW5
     clear hB hb5 hod hmm hp hm hom hu hzd hozd
     go_wp2_with fail
     rw [← HW5.out]
     clear HW5 hx0 hx1 hx2 a0 a1 b0 b1
     clear HW5
     refine (exact_any HZD.out.rd HR5.out.1.rd (by rw [HZD.out.len]; have := HDS.out; omega) (by have := HN.out; omega) HDN1.out.1).mono ?_
     rintro _ W6 ⟨s6, A6, n6, c6, f6, e6, rfl, ho6, hf6, hb6⟩
     have HF6 := Lib.hid (show f6 = D.tdiv d by
      rcases hf6.out with ⟨_, f2, _⟩ | ⟨f1, _, _⟩
      ·exact f2
      ·exact absurd (Int.tmod_eq_zero_of_dvd HDN1.out.2) f1)
     obtain ⟨W7, HW7⟩ : ∃ W, W = W6.alloc (.cells #[.bool s6, .slice A6 n6 c6] 25) := ⟨_, rfl⟩
     have hb7 : Below W6.heap.size W6 W7 := by rw [HW7]; exact (Below.refl _ _).alloc (Nat.le_refl _) _
     have hb67 := hb6.trans (hb7.mono hb6.size)
     have HM7 := Lib.hid (HM5.out.next hb67)
     have HR7 := Lib.hid (And.intro (HR5.out.1.next hb67) (HR5.out.2.next hb67))
     have HOM7 := Lib.hid (HOM.out.next hb67)
     have HB7 := Lib.hid (HB5.out.trans (hb67.mono HB5.out.size))
     have HZ7 := Lib.hid (show ZC W7 W6.heap.size s6 A6 n6 c6 by rw [HW7]; exact ZC.new W6 s6 A6 n6 c6)
     have HO7 := Lib.hid (show OwZ W7 wo.heap.size s6 A6 n6 c6 (D.tdiv d) by rw [← HF6.out]; exact (ho6.base HB5.out.size).next hb7)
     have HFS := Lib.hid (show Zz.zl (D.tdiv d) ≤ 50000000000 from Nat.le_trans (Zz.zl_tdiv _ _) HDS.out)
     obtain ⟨gm, hgm⟩ : ∃ gm, gm = wa.heap.size := ⟨_, rfl⟩
     obtain ⟨gf, hgf⟩ : ∃ gf, gf = W6.heap.size := ⟨_, rfl⟩
     have m0 := HM7.out.c0
     have m1 := HM7.out.c1
     have m2 := HM7.out.c2
     rw [HW7] at m0 m1 m2
     have HGM := Lib.hid hgm
     have HGF := Lib.hid hgf
     have HW7 := Lib.hid HW7
     clear ho6 hf6 hb6 hb7 hb67 HM5 HR5 HOM HB5 HZD hgm hgf
     go_wp2_with fail
     rw [← HW7.out]
     clear HW7 m0 m1 m2
     clear HW7
     rw [← HGM.out] at HM7 ⊢
     rw [← HGF.out] at HZ7 ⊢
     refine (msize_any HR7.out.2 (by omega)).mono ?_
     rintro _ W8 ⟨x8, y8, rfl, hxy, hb8⟩
     obtain rfl : y8 = (r1 : Int) := by rw [hxy.out.2, HCQ.out]
     have HM8 := Lib.hid (HM7.out.next hb8)
     have HOM8 := Lib.hid (HOM7.out.next hb8)
     have HB8 := Lib.hid (HB7.out.trans (hb8.mono HB7.out.size))
     have HZ8 := Lib.hid (HZ7.out.next hb8)
     have HO8 := Lib.hid (HO7.out.next hb8)
     have m2 := HM8.out.c2
     clear hxy hb8 HM7 HOM7 HB7 HZ7 HO7 HR7
     go_wp2_with fail
     clear m2
     go_loopw [11, 71] (fun ov iv wr => ∃ (a q : Nat) (A' : Option Addr) (c' : Nat), ov = .slice A' q c' ∧ iv = .int .i64 (a : Int) ∧ a ≤ r1 ∧ OwMs wr wo.heap.size A' q c' (brows D v 0 (DD.take t) ++ (MM.take a).map (brow v u (D.tdiv d))) ∧ ZC wr gf s6 A6 n6 c6 ∧ OwZ wr wo.heap.size s6 A6 n6 c6 (D.tdiv d) ∧ Below wo.heap.size wo wr) (fun _ iv _ => r1 - (intOf iv).toNat)
     case atStart => exact ⟨0, q, A', c', rfl, rfl, Nat.zero_le _, by simpa using HOM8.out, HZ8.out, HO8.out, HB8.out⟩
     case round =>
      clear HOM8 HZ8 HO8 HB8 HM8
      obtain ⟨a, q2, A2', c2', rfl, rfl, ha, hom, hzf, hof, hB⟩ := hrel
      by_cases har : a = r1
      ·have HOM := Lib.hid (show OwMs wr wo.heap.size A2' q2 c2' (brows D v 0 (DD.take (t + 1))) by rw [HBT.out]; rw [List.take_of_length_le (l := MM) (by rw [HN.out.2.2, har]; exact Nat.le_refl _)] at hom; exact hom)
       have HBF := Lib.hid hB
       have hwu : IntKind.i64.wrap ((u : Int) + (r1 : Int)) = (u : Int) + (r1 : Int) := IntWalk.i64_in _ (by omega)
       subst har
       clear hom hzf hof hB
       go_wp2
       go_roundw
       case rel => exact ⟨t + 1, u + a, q2, A2', c2', rfl, by go_num, by go_num, by omega, HVV, HOM.out, HBF.out⟩
       case measure => simp [intOf]; omega
      ·have hal : a < r1 := by omega
       have hali : (a : Int) < (r1 : Int) := by omega
       clear har
       obtain ⟨wb, rfl⟩ : ∃ V, V = wr := ⟨_, rfl⟩
       have hBw := HBO.out.trans (hB.mono HBO.out.size)
       obtain ⟨ad2, A9, n9, c9, R9, rfl, hbk2, hy, hr9, hn9, hp9⟩ := rss_at (HMR.out wb hBw) hal
       obtain ⟨L, hL, rfl⟩ : ∃ L, MM[a]? = some L ∧ L.map ofZ = R9 := by
        have e := hp9.out
        rw [List.getElem?_map] at e
        exact Option.map_eq_some_iff.1 e
       have hn9r : n9 = r1 := by rw [← hr9.len, List.length_map]; exact HSQ.out L (List.mem_of_getElem? hL)
       subst hn9r
       have hmk := fun W : World => make_il v (by omega) W
       obtain ⟨W10, HW10⟩ : ∃ W, W = wb.alloc (.cells (zcs (List.replicate v (false, none, 0, 0))).toArray 25) := ⟨_, rfl⟩
       have hb10 : Below wb.heap.size wb W10 := by rw [HW10]; exact (Below.refl _ _).alloc (Nat.le_refl _) _
       have HZB := Lib.hid (show ZB W10 wb.heap.size (List.replicate v (false, none, 0, 0)) by rw [HW10]; exact ZB.made wb v)
       have HEF := Lib.hid (show EntF W10 wo.heap.size (List.replicate v (false, none, 0, 0)) (fun _ => 0) by rw [HW10]; exact EntF.zeros _ _ v)
       have HB10 := Lib.hid hb10
       have HX10 := Lib.hid (show ∀ W, Below wb.heap.size wb W → OwMs W wo.heap.size A2' q2 c2' (brows D v 0 (DD.take t) ++ (MM.take a).map (brow v u (D.tdiv d))) ∧ ZC W gf s6 A6 n6 c6 ∧ OwZ W wo.heap.size s6 A6 n6 c6 (D.tdiv d) from fun W hb => ⟨hom.next hb, hzf.next hb, hof.next hb⟩)
       have HBW := Lib.hid hB
       have HLL := Lib.hid (And.intro hL (HSQ.out L (List.mem_of_getElem? hL)))
       have HRL := Lib.hid hr9
       have HTK := Lib.hid (show (brows D v 0 (DD.take t) ++ (MM.take a).map (brow v u (D.tdiv d))) ++ [brow v u (D.tdiv d) L] = brows D v 0 (DD.take t) ++ (MM.take (a + 1)).map (brow v u (D.tdiv d)) by
        rw [take_one hL, List.map_append, List.append_assoc]
        rfl)
       have HQL := Lib.hid (show q2 + 1 ≤ 1000 by
        have e := hom.len
        rw [List.length_append, brows_len, List.length_map, List.length_take] at e
        have e1 : msz (DD.take t) ≤ 24 := Nat.le_trans msz_le HS.out.sum
        omega)
       obtain ⟨gr, hgr⟩ : ∃ gr, gr = wb.heap.size := ⟨_, rfl⟩
       have HGR := Lib.hid hgr
       have HW10 := Lib.hid HW10
       clear hom hzf hof hB hBw hr9 hb10 hp9 hL hgr
       go_wp2_with fail
       rw [← HW10.out]
       clear HW10 hy
       clear HW10
       clear hmk
       rw [← HGR.out] at HZB ⊢
       go_loopw [79] (fun iv wr => ∃ (i : Nat) (E : List Ent), iv = .int .i64 (i : Int) ∧ i ≤ n9 ∧ ZB wr gr E ∧ Hid (E.length = v) ∧ EntF wr wo.heap.size E (fun x => if u ≤ x ∧ x < u + i then L.getD (x - u) 0 * (D.tdiv d) else 0) ∧ Below wb.heap.size wb wr) (fun iv _ => n9 - (intOf iv).toNat)
       case atStart => exact ⟨0, _, rfl, Nat.zero_le _, HZB.out, Lib.hid (by simp), HEF.out.congr (fun x => by rw [if_neg (by omega)]), HB10.out⟩
       case round =>
        obtain ⟨i, E, rfl, hi9, hzb, hEl, hef, hB9⟩ := hrel
        by_cases hin : i = n9
        ·have HO5 := Lib.hid (show OwIp wr wo.heap.size (some ⟨gr, 0, none⟩) v v (brow v u (D.tdiv d) L) by
          have e := (hzb.own hef (show wo.heap.size ≤ gr by rw [HGR.out]; exact HBW.out.size) hEl.out (by unfold maxLen; omega)).ip
          unfold brow
          rw [HLL.out.2, ← hin]
          exact e)
         have HB9 := Lib.hid hB9
         obtain ⟨hom9, hzf9, hof9⟩ := HX10.out wr hB9
         obtain ⟨F, hE, hFl, hEn⟩ := hom9
         have HE := Lib.hid hE
         have HEN := Lib.hid (And.intro hFl hEn)
         have HZF := Lib.hid (And.intro hzf9 hof9)
         subst hin
         clear hzb hef hB9 hE hFl hEn hzf9 hof9
         go_wp2_with (at_builtin; refine wpList_append_own _ rfl _ _ 26 rfl wo.heap.size 65 i1 (.slice none 0 0) 1 24 Tryz.underlying26 hjf hy0 hy1 hy2 rfl (by decide) _ _ _ rfl (HE.out.alloc _) ⟨wr.heap.size, 0, none⟩ 1 1 [.slice (some ⟨gr, 0, none⟩) v v] rfl rfl (scell_new wr (.slice (some ⟨gr, 0, none⟩) v v) 65) (by simp [Value.oneCell']) (by have := HQL.out; unfold maxLen; omega) (by have := HQL.out; omega) (by have h1 := HB9.out.size; have h2 := HBW.out.size; simp; omega) ?_; intro v' w1 hown' hgrow _)
         have hba : Below wr.heap.size wr (wr.alloc (.cells #[.slice (some ⟨gr, 0, none⟩) v v] 65)) := (Below.refl _ _).alloc (Nat.le_refl _) _
         obtain ⟨B9, c8, rfl, ho9⟩ := ms_more (e := (some ⟨gr, 0, none⟩, v, v)) (L := brow v u (D.tdiv d) L) HO5.out rfl (HE.out.alloc _) HEN.out.1 (HEN.out.2.next hba) hown' hgrow
         have hki := keepI_grown (HE.out.alloc _) hgrow
         have HZW := Lib.hid (show ZC w1 gf s6 A6 n6 c6 from grown_heap (HE.out.alloc _) hgrow (HZF.out.1.alloc _) (by decide))
         have HOW := Lib.hid ((HZF.out.2.next hba).keep hki.1)
         have hbx := HBW.out.trans (HB9.out.mono HBW.out.size)
         have HBX := Lib.hid ((hbx.alloc hbx.size (.cells #[.slice (some ⟨gr, 0, none⟩) v v] 65)).grown hgrow (by have := hbx.size; simp; omega) (own_block HE.out))
         have HO9 := Lib.hid ho9
         clear hown' hgrow hba hki hbx ho9 HE HEN
         go_wp2
         go_roundw
         case rel => exact ⟨a + 1, q2 + 1, B9, c8, rfl, by go_num, by omega, by rw [← HTK.out]; exact HO9.out, HZW.out, HOW.out, HBX.out⟩
         case measure => simp [intOf]; omega
        ·have hil : i < n9 := by omega
         have hili : (i : Int) < (n9 : Int) := by omega
         clear hin
         obtain ⟨ad3, s11, M11, A11, n11, c11, rfl, hbk3, hz0, hz1, hr11, hn11, hp11⟩ := rs_at (HRL.out.next hB9) hil
         obtain ⟨z, hz, hze⟩ : ∃ z, L[i]? = some z ∧ ofZ z = (s11, M11) := by
          have e := hp11.out
          rw [List.getElem?_map] at e
          exact Option.map_eq_some_iff.1 e
         obtain ⟨W11, HW11⟩ : ∃ W, W = wr.alloc (.cells #[.bool s11, .slice A11 n11 c11] 25) := ⟨_, rfl⟩
         have hb11 : Below wr.heap.size wr W11 := by rw [HW11]; exact (Below.refl _ _).alloc (Nat.le_refl _) _
         have hb9b := hB9.trans (hb11.mono hB9.size)
         obtain ⟨_, hzf9, hof9⟩ := HX10.out W11 hb9b
         have HZ11 := Lib.hid (And.intro (show RdZ W11 W11.heap.size s11 A11 n11 c11 z from ⟨M11, hr11.next hb11, by have := toZ_ofZ z; rw [hze] at this; exact this.symm⟩) hof9)
         have HQ11 := Lib.hid (And.intro (hzb.next hb11) (hef.next hb11))
         have HB11 := Lib.hid hb9b
         have HZV := Lib.hid (show L.getD i 0 = z by rw [List.getD_eq_getElem?_getD, hz]; rfl)
         have a0 := hzf9.c0
         have a1 := hzf9.c1
         rw [HW11] at a0 a1
         have HW11 := Lib.hid HW11
         clear hb11 hb9b hzf9 hof9 hr11 hzb hef hB9 hz hze hp11
         obtain ⟨y, hy⟩ : ∃ y, y = u + i := ⟨_, rfl⟩
         have hidx : (u : Int) + (i : Int) = (y : Int) := by omega
         have hwy : IntKind.i64.wrap (y : Int) = (y : Int) := IntWalk.i64_in _ (by omega)
         have hyv : y < v := by omega
         have hyvi : (y : Int) < (v : Int) := by omega
         have HY := Lib.hid hy
         clear hy
         go_wp2_with fail
         rw [← HW11.out]
         clear HW11 a0 a1 hz0 hz1
         clear HW11
         refine (imul_any HZ11.out.1 HZ11.out.2.rd (by omega) (by rw [HZ11.out.2.len]; have := HFS.out; omega)).mono ?_
         rintro _ W12 ⟨s12, A12, n12, c12, z12, rfl, ho12, hz12, hb12⟩
         have hZ4 := HQ11.out.1.next hb12
         have hE4 := HQ11.out.2.next hb12
         have hB12 := HB11.out.trans (hb12.mono HB11.out.size)
         obtain ⟨e, he⟩ : ∃ e, E[y]? = some e := ⟨E[y]'(by rw [hEl.out]; exact hyv), List.getElem?_eq_getElem _⟩
         obtain ⟨k0, k1⟩ := hZ4.cells he
         have f0 := hZ4.frozen (y * 2)
         have f1 := hZ4.frozen (y * 2 + 1)
         have HZ5 := Lib.hid (hZ4.store y (s12, A12, n12, c12))
         have HE5 := Lib.hid (hE4.store (j := y) (e := (s12, A12, n12, c12)) (z := z12) hZ4 (ho12.base (Nat.le_trans HBW.out.size HB11.out.size)))
         have HB5 := Lib.hid ((hB12.setCell (p := ⟨gr, y * 2, none⟩) (show wb.heap.size ≤ gr by rw [HGR.out]; exact Nat.le_refl _) (.bool s12)).setCell (p := ⟨gr, y * 2 + 1, none⟩) (show wb.heap.size ≤ gr by rw [HGR.out]; exact Nat.le_refl _) (.slice A12 n12 c12))
         have HZZ := Lib.hid (show z12 = L.getD i 0 * (D.tdiv d) by rw [hz12.out, HZV.out])
         clear hb12 ho12 hz12 he hZ4 hE4 hB12
         go_wp2_with fail
         go_roundw
         case rel => exact ⟨i + 1, E.set y (s12, A12, n12, c12), by go_num, by omega, HZ5.out, Lib.hid (by rw [List.length_set]; exact hEl.out), HE5.out.congr (fun x => by
          have hy := HY.out
          by_cases e1 : x = y
          ·rw [if_pos e1, if_pos (by omega), HZZ.out]
           congr 2
           omega
          ·rw [if_neg e1]
           by_cases e2 : u ≤ x ∧ x < u + i
           ·rw [if_pos e2, if_pos (by omega)]
           ·rw [if_neg e2, if_neg (by omega)]), HB5.out⟩
         case measure => simp [intOf]; omega
end Go.Proofs.YtjnklbfhelbjgaaGreat

/- The value of a direct sum of companion matrices (plain). -/
namespace Go.Proofs.YtjnklbfhelbjgaaGreat
abbrev gm (p : List Rat) : Int × List (List Int) := (frD (cmpT p), frN (cmpT p))
theorem cmpT_len (p : List Rat) : (cmpT p).length = p.length - 1 := Mx.tab_len _ _ _
theorem frN_len (LL : List (List Rat)) : (frN LL).length = LL.length := by
 unfold frN mN fromN
 rw [List.length_map, List.length_map]
theorem frN_rows {LL : List (List Rat)} {q : Nat} (h : ∀ L ∈ LL, L.length = q) : ∀ R ∈ frN LL, R.length = q := by
 intro R hR
 obtain ⟨M, hM, rfl⟩ := List.mem_map.1 hR
 rw [List.length_map]
 exact fromN_len h M hM
theorem cmp_flat {p : List Rat} (h : p.length ≤ 25) : (cmpT p).flatten.length ≤ 576 := by
 have h1 := flatten_le (K := 24) (cmpT p) (fun L hL => by rw [Mx.tab_mem L hL]; omega)
 rw [cmpT_len] at h1
 have h2 : (p.length - 1) * 24 ≤ 24 * 24 := Nat.mul_le_mul_right _ (by omega)
 omega
theorem sq_good {N : Nat} {LL : List (List Rat)} (h : Good N LL) (hN : N ≤ 1000000) (h1N : 1 ≤ N) : SqM 2000000000 (LL.map gm) := by
 have hsz : msz (LL.map gm) = Mx.dsz LL := by
  unfold msz Mx.dsz
  rw [List.map_map]
  congr 1
  refine List.map_congr_left fun p _ => ?_
  show (frN (cmpT p)).length = p.length - 1
  rw [frN_len, cmpT_len]
 have hden : ∀ p ∈ LL, Zz.zl (denL (cmpT p).flatten) ≤ 576000001 := fun p hp => by
  have e1 := denF_sz (N := N) (cmpT p).flatten 1 (fun x hx => by
   obtain ⟨L, hL, hx⟩ := List.mem_flatten.1 hx
   exact tab_sz (cmp_sz (h.sz p hp) h1N) L hL x hx)
  have e2 := cmp_flat (h.le p hp)
  have e3 : (cmpT p).flatten.length * N ≤ 576 * 1000000 := Nat.mul_le_mul e2 hN
  have e4 : Zz.zl 1 ≤ 1 := Zz.zl_small (by decide)
  show Zz.zl (denF 1 (cmpT p).flatten) ≤ _
  omega
 refine ⟨fun x hx => ?_, fun x hx => ?_, fun x hx => ?_, fun x hx => ?_, fun x hx => ?_, by rw [hsz]; exact h.sum⟩
 ·obtain ⟨p, _, rfl⟩ := List.mem_map.1 hx
  exact fr_ne _
 ·obtain ⟨p, hp, rfl⟩ := List.mem_map.1 hx
  show 0 < (frN (cmpT p)).length
  rw [frN_len, cmpT_len]
  have := h.len p hp
  omega
 ·obtain ⟨p, hp, rfl⟩ := List.mem_map.1 hx
  intro R hR
  show R.length = (frN (cmpT p)).length
  rw [frN_len, cmpT_len]
  exact frN_rows (fun L hL => Mx.tab_mem L hL) R hR
 ·obtain ⟨p, hp, rfl⟩ := List.mem_map.1 hx
  exact Nat.le_trans (Zz.zl_tdiv _ _) (Nat.le_trans (hden p hp) (by decide))
 ·obtain ⟨p, hp, rfl⟩ := List.mem_map.1 hx
  intro R hR z hz
  obtain ⟨M, hM, rfl⟩ := List.mem_map.1 hR
  obtain ⟨y, hy, rfl⟩ := List.mem_map.1 hz
  have e1 : Zz.zl y ≤ N + (1 + (cmpT p).flatten.length * N) := fromN_sz (N := N) (fun L hL x hx => tab_sz (cmp_sz (h.sz p hp) h1N) L hL x hx) M hM y hy
  have e2 := cmp_flat (h.le p hp)
  have e3 : (cmpT p).flatten.length * N ≤ 576 * 1000000 := Nat.mul_le_mul e2 hN
  have e4 := Zz.zl_tdiv y (mG (denL (cmpT p).flatten) (fromN (cmpT p)))
  omega
abbrev sumD (LL : List (List Rat)) : Int := (dprod (LL.map gm)).tdiv (mG (dprod (LL.map gm)) (blR (LL.map gm)))
abbrev sumN (LL : List (List Rat)) : List (List Int) := mN (dprod (LL.map gm)) (blR (LL.map gm))
theorem msz_gm (LL : List (List Rat)) : msz (LL.map gm) = Mx.dsz LL := by
 unfold msz Mx.dsz
 rw [List.map_map]
 congr 1
 refine List.map_congr_left fun p _ => ?_
 show (frN (cmpT p)).length = p.length - 1
 rw [frN_len, cmpT_len]
theorem over_mul {r d D : Int} (hd : d ≠ 0) (h : d ∣ D) (hD : D ≠ 0) : Rat.divInt (r * D.tdiv d) D = Rat.divInt r d := by
 obtain ⟨b, rfl⟩ := h
 have hb : b ≠ 0 := fun e => hD (by rw [e]; exact Int.mul_zero _)
 rw [Int.mul_tdiv_cancel_left _ hd, Rat.divInt_mul_right hb]
theorem brow_ent {D d : Int} {cols q : Nat} {R : List Int} (hd : d ≠ 0) (h : d ∣ D) (hD : D ≠ 0) : (brow cols q (D.tdiv d) R).map (fun z => Rat.divInt z D) = (List.range cols).map fun t => if q ≤ t ∧ t < q + R.length then Rat.divInt (R.getD (t - q) 0) d else 0 := by
 unfold brow
 rw [List.map_map]
 refine List.map_congr_left fun t _ => ?_
 show Rat.divInt (if _ then _ else _) D = _
 split
 ·exact over_mul hd h hD
 ·exact Rat.zero_divInt D
theorem gm_row {p : List Rat} {i : Nat} (h : i < p.length - 1) : ∃ R, (gm p).2[i]? = some R ∧ R.length = p.length - 1 ∧ ∀ t, t < p.length - 1 → Rat.divInt (R.getD t 0) (gm p).1 = Mx.cmp p i t := by
 have hl : i < (gm p).2.length := by
  show i < (frN (cmpT p)).length
  rw [frN_len, cmpT_len]; exact h
 have e := List.getElem?_eq_getElem hl
 have hr : ((gm p).2[i]).length = p.length - 1 := frN_rows (fun L hL => Mx.tab_mem L hL) _ (List.getElem_mem hl)
 refine ⟨_, e, hr, fun t ht => ?_⟩
 have hv := fr_ent (cmpT p)
 have h1 : (entZ (frD (cmpT p)) (frN (cmpT p)))[i]? = some (((gm p).2[i]).map fun z => Rat.divInt z (frD (cmpT p))) := by
  unfold entZ
  rw [List.getElem?_map]
  rw [show (frN (cmpT p))[i]? = some ((gm p).2[i]) from e]
  rfl
 rw [hv, Mx.tab_row h] at h1
 injection h1 with h1
 have h2 := congrArg (fun L : List Rat => L[t]?) h1
 simp only at h2
 have htl : t < ((gm p).2[i]).length := by rw [hr]; exact ht
 rw [List.getElem?_map, List.getElem?_range ht, List.getElem?_map, List.getElem?_eq_getElem htl] at h2
 simp at h2
 rw [List.getD_eq_getElem?_getD, List.getElem?_eq_getElem htl]
 exact h2.symm
theorem brows_ent {D : Int} {cols : Nat} (hD : D ≠ 0) : ∀ (LL : List (List Rat)) (q : Nat), (∀ p ∈ LL, (gm p).1 ∣ D) → entZ D (brows D cols q (LL.map gm)) = (List.range (Mx.dsz LL)).map fun i => (List.range cols).map fun t => if q ≤ t then Mx.ds LL i (t - q) else 0
 | [], q, _ => rfl
 | p :: LL, q, h => by
   have ih := brows_ent (cols := cols) hD LL (q + (p.length - 1)) fun x hx => h x (List.mem_cons_of_mem _ hx)
   have hdv := h p (List.mem_cons_self ..)
   have hne : (gm p).1 ≠ 0 := fr_ne _
   have hln : (gm p).2.length = p.length - 1 := by
    show (frN (cmpT p)).length = _
    rw [frN_len, cmpT_len]
   rw [List.map_cons, brows, hln, Mx.dsz_cons, List.range_add, List.map_append]
   unfold entZ at ih ⊢
   rw [List.map_append, ih, List.map_map, List.map_map]
   congr 1
   ·refine List.ext_getElem? fun i => ?_
    rw [List.getElem?_map, List.getElem?_map]
    rcases Nat.lt_or_ge i (p.length - 1) with hi | hi
    ·obtain ⟨R, hR, hRl, hRv⟩ := gm_row hi
     rw [hR, List.getElem?_range hi]
     show some ((brow cols q (D.tdiv (gm p).1) R).map _) = some _
     rw [brow_ent hne hdv hD]
     congr 1
     refine List.map_congr_left fun t _ => ?_
     rw [hRl]
     by_cases h1 : q ≤ t
     ·rw [if_pos h1, Mx.ds, if_pos hi]
      by_cases h2 : t - q < p.length - 1
      ·rw [if_pos ⟨h1, by omega⟩, if_pos h2, hRv _ h2]
      ·rw [if_neg (by omega), if_neg h2]
     ·rw [if_neg (fun e => h1 e.1), if_neg h1]
    ·rw [List.getElem?_eq_none (by omega), List.getElem?_eq_none (by simp; omega)]
     rfl
   ·refine List.map_congr_left fun i _ => ?_
    refine List.map_congr_left fun t _ => ?_
    have hi : ¬(p.length - 1 + i < p.length - 1) := by omega
    by_cases h1 : q ≤ t
    ·rw [if_pos h1, Mx.ds, if_neg hi, Nat.add_sub_cancel_left]
     by_cases h2 : t - q < p.length - 1
     ·rw [if_pos h2, if_neg (by omega)]
     ·rw [if_neg h2, if_pos (by omega)]
      congr 1
      omega
    ·rw [if_neg h1, if_neg (by omega)]
theorem sum_ent {N : Nat} {LL : List (List Rat)} (h : Good N LL) (hN : N ≤ 1000000) (h1N : 1 ≤ N) : entZ (sumD LL) (sumN LL) = Mx.tab (Mx.dsz LL) (Mx.dsz LL) (Mx.ds LL) := by
 have hs := sq_good h hN h1N
 have hD : dprod (LL.map gm) ≠ 0 := dfold_ne _ 1 (by decide) hs.ne
 unfold sumD sumN
 rw [ent_made hD]
 unfold blR
 rw [brows_ent hD LL 0 fun p hp => (dfold_dvd (LL.map gm) 1).2 _ (List.mem_map.2 ⟨p, hp, rfl⟩), msz_gm]
 unfold Mx.tab
 refine List.map_congr_left fun i _ => List.map_congr_left fun t _ => ?_
 rw [if_pos (Nat.zero_le _), Nat.sub_zero]
theorem sumD_ne {N : Nat} {LL : List (List Rat)} (h : Good N LL) (hN : N ≤ 1000000) (h1N : 1 ≤ N) : sumD LL ≠ 0 := tdiv_mG_ne (dfold_ne _ 1 (by decide) (sq_good h hN h1N).ne)
theorem sum_sz {N : Nat} {LL : List (List Rat)} (h : Good N LL) (hN : N ≤ 1000000) (h1N : 1 ≤ N) : Zz.zl (sumD LL) ≤ 50000000000 ∧ ∀ R ∈ sumN LL, R.length = Mx.dsz LL ∧ ∀ z ∈ R, Zz.zl z ≤ 100000000000 := by
 have hs := sq_good h hN h1N
 have hd := dprod_sz hs (Nat.le_refl _) (LL.map gm).length
 rw [List.take_length] at hd
 refine ⟨Nat.le_trans (Zz.zl_tdiv _ _) hd, fun R hR => ?_⟩
 obtain ⟨M, hM, rfl⟩ := List.mem_map.1 hR
 have e := brows_mem (dprod (LL.map gm)) (msz (LL.map gm)) (P := fun L => L.length = Mx.dsz LL ∧ ∀ z ∈ L, Zz.zl z ≤ 100000000000) (LL.map gm) 0 (fun x hx R hR p => ⟨by rw [brow_len, msz_gm], fun z hz => by
  have e := brow_sz (S := 2000000000) (T := 50000000000) (hs.nz x hx R hR) (Nat.le_trans (Zz.zl_tdiv _ _) hd) z hz
  omega⟩) M hM
 refine ⟨by rw [List.length_map]; exact e.1, fun z hz => ?_⟩
 obtain ⟨y, hy, rfl⟩ := List.mem_map.1 hz
 exact Nat.le_trans (Zz.zl_tdiv _ _) (e.2 y hy)
theorem sumN_len (LL : List (List Rat)) : (sumN LL).length = Mx.dsz LL := by
 unfold sumN mN
 rw [List.length_map]
 unfold blR
 rw [brows_len, msz_gm]
end Go.Proofs.YtjnklbfhelbjgaaGreat
