/- Polynomials over the fractions in memory of the call's own: the first n of what a block holds. -/
import Derived.Test.YtjnklbfhelbjgaaGreatQ09
import Derived.Test.YtjnklbfhelbjgaaGreatQ07
namespace Go.Proofs.YtjnklbfhelbjgaaGreat
open Go.RowKit Go.IntWalk
def pr (x : Rat) : Int × Int := (x.num, (x.den : Int))
theorem qval_pr (x : Rat) : qval (pr x) = x := by unfold qval pr; exact Rat.num_divInt_den x
theorem pr_ne (x : Rat) : (pr x).2 ≠ 0 := qden_ne x
def OwQp (w : World) (b : Nat) (A : Option Addr) (n c : Nat) (L : List Rat) : Prop :=
 ∃ E : List (Ent × Ent), E.length = n ∧ EntQ w b E L ∧ n ≤ c ∧ c ≤ maxLen ∧ (n = 0 ∨ ∃ (g : Nat) (cs : Array Value), A = some ⟨g, 0, none⟩ ∧ b ≤ g ∧ w.heap[g]? = some (.cells cs 47 (0, 0)) ∧ ∀ (i : Nat) (v : Value), (qcs E)[i]? = some v → cs[i]? = some v)
def KeepQ (w w' : World) : Prop := KeepT w w' ∧ ∀ (i : Nat) (cs : Array Value) (f : Nat × Nat), w.heap[i]? = some (.cells cs 47 f) → w'.heap[i]? = some (.cells cs 47 f)
section
variable {w w' : World} {b b' : Nat} {A : Option Addr} {n c : Nat} {L : List Rat}
theorem EntQ.keep {E : List (Ent × Ent)} (h : EntQ w b E L) (hk : KeepT w w') : EntQ w' b E L := ⟨h.1, fun j e z he hz => (h.2 j e z he hz).keep hk⟩
theorem OwQp.len (h : OwQp w b A n c L) : L.length = n := by
 obtain ⟨E, h1, h2, _⟩ := h
 rw [← h2.1, h1]
theorem OwQp.le (h : OwQp w b A n c L) : n ≤ c ∧ c ≤ maxLen := by
 obtain ⟨E, _, _, h3, h4, _⟩ := h
 exact ⟨h3, h4⟩
theorem OwQp.next (h : OwQp w b A n c L) (hb : Below w.heap.size w w') : OwQp w' b A n c L := by
 obtain ⟨E, h1, h2, h3, h4, h5⟩ := h
 refine ⟨E, h1, h2.next hb, h3, h4, h5.imp id ?_⟩
 rintro ⟨g, cs, k1, k2, k3, k4⟩
 exact ⟨g, cs, k1, k2, (hb.block g (Array.getElem?_eq_some_iff.1 k3).1).trans k3, k4⟩
theorem OwQp.base (h : OwQp w b A n c L) (hb : b' ≤ b) : OwQp w b' A n c L := by
 obtain ⟨E, h1, h2, h3, h4, h5⟩ := h
 refine ⟨E, h1, h2.base hb, h3, h4, h5.imp id ?_⟩
 rintro ⟨g, cs, k1, k2, k3, k4⟩
 exact ⟨g, cs, k1, Nat.le_trans hb k2, k3, k4⟩
theorem OwQp.keep (h : OwQp w b A n c L) (hk : KeepQ w w') : OwQp w' b A n c L := by
 obtain ⟨E, h1, h2, h3, h4, h5⟩ := h
 refine ⟨E, h1, h2.keep hk.1, h3, h4, h5.imp id ?_⟩
 rintro ⟨g, cs, k1, k2, k3, k4⟩
 exact ⟨g, cs, k1, k2, hk.2 _ _ _ k3, k4⟩
theorem OwQp.nil (w : World) (b : Nat) (A : Option Addr) : OwQp w b A 0 0 [] := ⟨[], rfl, ⟨rfl, fun j e z he _ => by simp at he⟩, Nat.le_refl _, Nat.zero_le _, .inl rfl⟩
theorem OwQs.p (h : OwQs w b A n c L) : OwQp w b A n c L := by
 rcases h.form with ⟨rfl, rfl, rfl⟩ | ⟨g, rfl, h1, h2, h3, h4⟩
 ·have := h.len
  rw [List.eq_nil_of_length_eq_zero this]
  exact OwQp.nil w b none
 ·obtain ⟨E, hr, hE, hel⟩ := h
  refine ⟨E, hE, hel, h3, h4, .inr ?_⟩
  rcases hr.2 with ⟨k1, _⟩ | ⟨g2, cap, cur, k1, k2, k3, k4, k5, k6, k7⟩
  ·cases k1
  ·injection k1 with k1 _ _
   injection k1 with k1
   injection k1 with k1 _ _
   subst k1
   refine ⟨g, cur, rfl, k2, k3, fun i v hv => ?_⟩
   have hi : i < (qcs E).length := by
    rcases Nat.lt_or_ge i (qcs E).length with h5 | h5
    ·exact h5
    ·rw [List.getElem?_eq_none h5] at hv; cases hv
   have hi2 : i < n * 4 := by rw [qcs_len, hE] at hi; exact hi
   rw [← k7, List.getElem?_take_of_lt hi2] at hv
   simpa using hv
theorem qcs_take (E : List (Ent × Ent)) : ∀ (k i : Nat) (v : Value), (qcs (E.take k))[i]? = some v → (qcs E)[i]? = some v := by
 induction E with
 | nil => intro k i v h; simpa using h
 | cons e E ih =>
   intro k i v h
   cases k with
   | zero => simp [qcs] at h
   | succ k =>
     rw [List.take_succ_cons, qcs_cons] at h
     rw [qcs_cons]
     rcases Nat.lt_or_ge i (qc e).length with h1 | h1
     ·rw [List.getElem?_append_left h1] at h ⊢
      exact h
     ·rw [List.getElem?_append_right h1] at h ⊢
      exact ih k _ v h
theorem EntQ.take {E : List (Ent × Ent)} (h : EntQ w b E L) (k : Nat) : EntQ w b (E.take k) (L.take k) := by
 refine ⟨by rw [List.length_take, List.length_take, h.1], fun j e z he hz => ?_⟩
 have hj : j < k := by
  rcases Nat.lt_or_ge j k with h1 | h1
  ·exact h1
  ·rw [List.getElem?_eq_none (by rw [List.length_take]; omega)] at he; cases he
 rw [List.getElem?_take_of_lt hj] at he hz
 exact h.2 j e z he hz
theorem OwQp.take (h : OwQp w b A n c L) {k : Nat} (hk : k ≤ n) : OwQp w b A k k (L.take k) := by
 obtain ⟨E, h1, h2, h3, h4, h5⟩ := h
 refine ⟨E.take k, by rw [List.length_take]; omega, h2.take k, Nat.le_refl _, by omega, ?_⟩
 rcases h5 with h5 | ⟨g, cs, k1, k2, k3, k4⟩
 ·exact .inl (by omega)
 ·exact .inr ⟨g, cs, k1, k2, k3, fun i v hv => k4 i v (qcs_take E k i v hv)⟩
theorem op_at (h : OwQp w b A n c L) {j : Nat} (hj : j < n) :
  ∃ (ad : Addr) (s : Bool) (A1 : Option Addr) (n1 c1 : Nat) (s' : Bool) (A1' : Option Addr) (n1' c1' : Nat) (x : Rat), A = some ad ∧ ad.block < w.heap.size ∧ w.cell? (ad.add (j * 4)) = some (.bool s) ∧ w.cell? ⟨(ad.add (j * 4)).block, (ad.add (j * 4)).off + 1, none⟩ = some (.slice A1 n1 c1) ∧ w.cell? ⟨(ad.add (j * 4)).block, (ad.add (j * 4)).off + 2, none⟩ = some (.bool s') ∧ w.cell? ⟨(ad.add (j * 4)).block, (ad.add (j * 4)).off + 3, none⟩ = some (.slice A1' n1' c1') ∧ OwQ w b s A1 n1 c1 s' A1' n1' c1' x ∧ Hid (L[j]? = some x) := by
 obtain ⟨E, h1, h2, h3, h4, h5⟩ := h
 rcases h5 with h5 | ⟨g, cs, rfl, k2, k3, k4⟩
 ·omega
 ·have hjE : j < E.length := by omega
  have hjL : j < L.length := by rw [← h2.1]; exact hjE
  have he := List.getElem?_eq_getElem hjE
  have hq := qcs_at E j _ he
  have hx := h2.2 j _ _ he (List.getElem?_eq_getElem hjL)
  have hc : ∀ i, i < 4 → ∀ v, (qc E[j])[i]? = some v → w.cell? ⟨g, j * 4 + i, none⟩ = some v := fun i hi v hv => by
   rw [cell_of_row w g _ _ _ _ k3]
   exact k4 _ v ((hq i hi).trans hv)
  exact ⟨_, _, _, _, _, _, _, _, _, _, rfl, (Array.getElem?_eq_some_iff.1 k3).1, by rw [add_base]; exact hc 0 (by omega) _ rfl, by rw [add_base]; exact hc 1 (by omega) _ rfl, by rw [add_base]; exact hc 2 (by omega) _ rfl, by rw [add_base]; exact hc 3 (by omega) _ rfl, hx, Lib.hid (List.getElem?_eq_getElem hjL)⟩
theorem OwQp.rd {N : Nat} (h : OwQp w b A n c L) (hN : ∀ x ∈ L, Zz.zl x.num ≤ N ∧ Zz.zl (x.den : Int) ≤ N) : RdQs w w.heap.size N A n c (L.map pr) := by
 refine ⟨by rw [List.length_map, h.len], h.le.1, h.le.2, fun j p hp => ?_⟩
 rw [List.getElem?_map] at hp
 rcases Nat.lt_or_ge j L.length with hj | hj
 ·obtain ⟨ad, s, A1, n1, c1, s', A1', n1', c1', x, e1, e2, a0, a1, a2, a3, hx, hL⟩ := op_at h (show j < n by rw [← h.len]; exact hj)
  rw [hL.out] at hp
  simp at hp
  subst hp
  have hs := hN x (List.mem_of_getElem? hL.out)
  exact ⟨ad, s, A1, n1, c1, s', A1', n1', c1', e1, e2, a0, a1, a2, a3, hx.num.rd, hx.den.rd, by rw [hx.num.len]; exact hs.1, by rw [hx.den.len]; exact hs.2⟩
 ·rw [List.getElem?_eq_none hj] at hp
  simp at hp
end
def Qs (N : Nat) (x : Rat) : Prop := Zz.zl x.num ≤ N ∧ Zz.zl (x.den : Int) ≤ N
section
variable {a b : Nat} {x y : Rat}
theorem Qs.mono (h : Qs a x) (hb : a ≤ b) : Qs b x := ⟨Nat.le_trans h.1 hb, Nat.le_trans h.2 hb⟩
theorem Qs.divInt {z d : Int} (hd : d ≠ 0) (h1 : Zz.zl z ≤ a) (h2 : Zz.zl d ≤ a) : Qs a (Rat.divInt z d) := ⟨Nat.le_trans (zl_qnum hd) h1, Nat.le_trans (zl_qden hd) h2⟩
theorem Qs.int {z : Int} (h : Zz.zl z ≤ a) (ha : 1 ≤ a) : Qs a (z : Rat) := ⟨h, show Zz.zl ((1 : Nat) : Int) ≤ a from Nat.le_trans (Zz.zl_small (by decide)) ha⟩
theorem Qs.zero (ha : 1 ≤ a) : Qs a 0 := ⟨by rw [show (0 : Rat).num = 0 from rfl, Zz.zl_zero]; exact Nat.zero_le _, Nat.le_trans (Zz.zl_small (by decide)) ha⟩
theorem Qs.one (ha : 1 ≤ a) : Qs a 1 := ⟨Nat.le_trans (Zz.zl_small (by decide)) ha, Nat.le_trans (Zz.zl_small (by decide)) ha⟩
theorem Qs.mul (h : Qs a x) (h' : Qs b y) : Qs (a + b) (x * y) := by
 rw [← qmul_val]
 refine Qs.divInt (Int.mul_ne_zero (qden_ne x) (qden_ne y)) ?_ ?_
 ·exact Nat.le_trans (Zz.zl_mul _ _) (Nat.add_le_add h.1 h'.1)
 ·exact Nat.le_trans (Zz.zl_mul _ _) (Nat.add_le_add h.2 h'.2)
theorem Qs.add (h : Qs a x) (h' : Qs b y) : Qs (a + b + 1) (x + y) := by
 rw [← qadd_val]
 refine Qs.divInt (Int.mul_ne_zero (qden_ne x) (qden_ne y)) ?_ ?_
 ·have e1 := Zz.zl_add (x.num * y.den) (y.num * x.den)
  have e2 := Zz.zl_mul x.num y.den
  have e3 := Zz.zl_mul y.num x.den
  have := h.1
  have := h.2
  have := h'.1
  have := h'.2
  omega
 ·have e2 := Zz.zl_mul x.den y.den
  have := h.2
  have := h'.2
  omega
theorem Qs.neg (h : Qs a x) : Qs a (-x) := ⟨by rw [Rat.neg_num, Zz.zl_neg]; exact h.1, by rw [Rat.neg_den]; exact h.2⟩
theorem Qs.inv (h : Qs a x) (h0 : x ≠ 0) : Qs a x⁻¹ := by
 rw [show x⁻¹ = Rat.divInt x.den x.num by conv => lhs; rw [← Rat.num_divInt_den x, Rat.inv_divInt]]
 exact Qs.divInt (fun e => h0 (Rat.num_eq_zero.1 e)) h.2 h.1
theorem Qs.div (h : Qs a x) (h' : Qs b y) (h0 : y ≠ 0) : Qs (a + b) (x / y) := by
 rw [Rat.div_def]
 exact h.mul (h'.inv h0)
end
def SzQ (N : Nat) (L : List Rat) : Prop := ∀ i, Qs N (Pq.co L i)
theorem SzQ.mem {N : Nat} {L : List Rat} (h : SzQ N L) : ∀ x ∈ L, Qs N x := fun x hx => by
 obtain ⟨i, _, rfl⟩ := Pq.mem_co hx
 exact h i
theorem SzQ.of {N : Nat} {L : List Rat} (h : ∀ x ∈ L, Qs N x) (hN : 1 ≤ N) : SzQ N L := fun i => by
 rcases Nat.lt_or_ge i L.length with hi | hi
 ·exact h _ (List.mem_of_getElem? (Pq.get_co hi))
 ·rw [Pq.co_ge hi]
  exact Qs.zero hN
theorem RdQs.sz {w : World} {B N : Nat} {A : Option Addr} {n c : Nat} {L : List (Int × Int)} (h : RdQs w B N A n c L) (hd : ∀ p ∈ L, p.2 ≠ 0) (hN : 1 ≤ N) : SzQ N (L.map qval) := SzQ.of (fun x hx => by
 obtain ⟨p, hp, rfl⟩ := List.mem_map.1 hx
 obtain ⟨j, hj⟩ := List.getElem?_of_mem hp
 obtain ⟨_, _, _, _, _, _, _, _, _, _, _, _, _, _, _, h1, h2, h3, h4⟩ := h.at_ j p hj
 exact Qs.divInt (hd p hp) (Nat.le_trans h1.len h3) (Nat.le_trans h2.len h4)) hN
def RetPq (f : Nat → Rat) (w : World) (e : Ending) (w' : World) : Prop :=
 ∃ (A : Option Addr) (n c : Nat) (M : List Rat), e = .returned (.slice A n c) ∧ OwQp w' w.heap.size A n c M ∧ Hid (Pq.IsP f M) ∧ Below w.heap.size w w'
end Go.Proofs.YtjnklbfhelbjgaaGreat

/- Lists of polynomials: those that came in, those of the call's own. -/
namespace Go.Proofs.YtjnklbfhelbjgaaGreat
open Go.RowKit Go.IntWalk
structure RdPs (w : World) (B N K : Nat) (A : Option Addr) (n c : Nat) (LL : List (List (Int × Int))) : Prop where
 len : LL.length = n
 le : n ≤ c
 mx : c ≤ maxLen
 at_ : ∀ (j : Nat) (L : List (Int × Int)), LL[j]? = some L → ∃ (ad : Addr) (A1 : Option Addr) (n1 c1 : Nat), A = some ad ∧ ad.block < B ∧ w.cell? (ad.add j) = some (.slice A1 n1 c1) ∧ RdQs w B N A1 n1 c1 L ∧ n1 ≤ K
section
variable {w w' : World} {B B' N K : Nat} {A : Option Addr} {n c : Nat} {LL : List (List (Int × Int))}
theorem RdPs.below (h : RdPs w B N K A n c LL) (hb : Below B w w') : RdPs w' B N K A n c LL :=
 ⟨h.len, h.le, h.mx, fun j L hp => by
  obtain ⟨ad, A1, n1, c1, h1, h2, h3, h4, h5⟩ := h.at_ j L hp
  exact ⟨ad, A1, n1, c1, h1, h2, (hb.cell (p := ad.add j) (by rw [add_blk]; exact h2)).trans h3, h4.below hb, h5⟩⟩
theorem RdPs.more (h : RdPs w B N K A n c LL) (hB : B ≤ B') : RdPs w B' N K A n c LL :=
 ⟨h.len, h.le, h.mx, fun j L hp => by
  obtain ⟨ad, A1, n1, c1, h1, h2, h3, h4, h5⟩ := h.at_ j L hp
  exact ⟨ad, A1, n1, c1, h1, Nat.lt_of_lt_of_le h2 hB, h3, h4.more hB, h5⟩⟩
theorem RdPs.next (h : RdPs w w.heap.size N K A n c LL) (hb : Below w.heap.size w w') : RdPs w' w'.heap.size N K A n c LL := (h.below hb).more hb.size
theorem ps_at (h : RdPs w B N K A n c LL) {j : Nat} (hj : j < n) :
  ∃ (ad : Addr) (A1 : Option Addr) (n1 c1 : Nat) (L : List (Int × Int)), A = some ad ∧ ad.block < B ∧ w.cell? (ad.add j) = some (.slice A1 n1 c1) ∧ RdQs w B N A1 n1 c1 L ∧ n1 ≤ K ∧ Hid (LL[j]? = some L) := by
 have hl : j < LL.length := by rw [h.len]; exact hj
 obtain ⟨ad, A1, n1, c1, h1, h2, h3, h4, h5⟩ := h.at_ j LL[j] (List.getElem?_eq_getElem hl)
 exact ⟨ad, A1, n1, c1, _, h1, h2, h3, h4, h5, Lib.hid (List.getElem?_eq_getElem hl)⟩
theorem ps_one {A1 : Option Addr} {n1 c1 : Nat} {L : List (Int × Int)} (h : RdQs w w.heap.size N A1 n1 c1 L) (hn : n1 ≤ K) {w1 : World} (hw : w1 = w.alloc (.cells #[.slice A1 n1 c1] 73)) :
  RdPs w1 w1.heap.size N K (some ⟨w.heap.size, 0, none⟩) 1 1 [L] := by
 have hb : Below w.heap.size w w1 := by rw [hw]; exact (Below.refl _ _).alloc (Nat.le_refl _) _
 have hr : w1.heap[w.heap.size]? = some (.cells #[.slice A1 n1 c1] 73 (0, 0)) := by rw [hw]; exact heap_alloc_new w _
 have hlt : w.heap.size < w1.heap.size := (Array.getElem?_eq_some_iff.1 hr).1
 refine ⟨rfl, Nat.le_refl _, by unfold maxLen; omega, fun j y hy => ?_⟩
 match j, hy with
 | 0, hy =>
   simp at hy
   subst hy
   exact ⟨_, A1, n1, c1, rfl, hlt, by rw [add_base, cell_of_row w1 _ _ _ _ _ hr]; rfl, h.next hb, hn⟩
 | j + 1, hy => simp at hy
theorem ps_two {A1 A2 : Option Addr} {n1 c1 n2 c2 : Nat} {L L' : List (Int × Int)} (h : RdQs w w.heap.size N A1 n1 c1 L) (h' : RdQs w w.heap.size N A2 n2 c2 L') (hn : n1 ≤ K) (hn' : n2 ≤ K) {w1 : World} (hw : w1 = w.alloc (.cells #[.slice A1 n1 c1, .slice A2 n2 c2] 73)) :
  RdPs w1 w1.heap.size N K (some ⟨w.heap.size, 0, none⟩) 2 2 [L, L'] := by
 have hb : Below w.heap.size w w1 := by rw [hw]; exact (Below.refl _ _).alloc (Nat.le_refl _) _
 have hr : w1.heap[w.heap.size]? = some (.cells #[.slice A1 n1 c1, .slice A2 n2 c2] 73 (0, 0)) := by rw [hw]; exact heap_alloc_new w _
 have hlt : w.heap.size < w1.heap.size := (Array.getElem?_eq_some_iff.1 hr).1
 refine ⟨rfl, Nat.le_refl _, by unfold maxLen; omega, fun j y hy => ?_⟩
 match j, hy with
 | 0, hy =>
   simp at hy
   subst hy
   exact ⟨_, A1, n1, c1, rfl, hlt, by rw [add_base, cell_of_row w1 _ _ _ _ _ hr]; rfl, h.next hb, hn⟩
 | 1, hy =>
   simp at hy
   subst hy
   exact ⟨_, A2, n2, c2, rfl, hlt, by rw [add_base, cell_of_row w1 _ _ _ _ _ hr]; rfl, h'.next hb, hn'⟩
 | j + 2, hy => simp at hy
end
def psl (e : Option Addr × Nat × Nat) : Value := .slice e.1 e.2.1 e.2.2
def EntP (w : World) (b : Nat) (E : List (Option Addr × Nat × Nat)) (LL : List (List Rat)) : Prop := E.length = LL.length ∧ ∀ (j : Nat) (e : Option Addr × Nat × Nat) (L : List Rat), E[j]? = some e → LL[j]? = some L → OwQp w b e.1 e.2.1 e.2.2 L
def OwPs (w : World) (b : Nat) (A : Option Addr) (n c : Nat) (LL : List (List Rat)) : Prop :=
 ∃ E : List (Option Addr × Nat × Nat), w.ownsRow b 73 1 (.slice A n c) n (E.map psl) ∧ E.length = n ∧ EntP w b E LL
section
variable {w w' : World} {b b' : Nat} {A : Option Addr} {n c : Nat} {LL : List (List Rat)} {E : List (Option Addr × Nat × Nat)}
theorem EntP.next (h : EntP w b E LL) (hb : Below w.heap.size w w') : EntP w' b E LL := ⟨h.1, fun j e z he hz => (h.2 j e z he hz).next hb⟩
theorem EntP.base (h : EntP w b E LL) (hb : b' ≤ b) : EntP w b' E LL := ⟨h.1, fun j e z he hz => (h.2 j e z he hz).base hb⟩
theorem EntP.keep (h : EntP w b E LL) (hk : KeepQ w w') : EntP w' b E LL := ⟨h.1, fun j e z he hz => (h.2 j e z he hz).keep hk⟩
theorem EntP.snoc (h : EntP w b E LL) {e : Option Addr × Nat × Nat} {L : List Rat} (he : OwQp w b e.1 e.2.1 e.2.2 L) : EntP w b (E ++ [e]) (LL ++ [L]) := by
 refine ⟨by rw [List.length_append, List.length_append, h.1]; rfl, fun j e' z' h1 h2 => ?_⟩
 rcases Nat.lt_or_ge j E.length with hj | hj
 ·rw [List.getElem?_append_left hj] at h1
  rw [List.getElem?_append_left (by rw [← h.1]; exact hj)] at h2
  exact h.2 j e' z' h1 h2
 ·rw [List.getElem?_append_right hj] at h1
  rw [List.getElem?_append_right (by rw [← h.1]; exact hj)] at h2
  rw [← h.1] at h2
  have hj0 : j - E.length = 0 := by
   rcases Nat.eq_zero_or_pos (j - E.length) with e0 | e0
   ·exact e0
   ·rw [List.getElem?_eq_none (by simp; omega)] at h1; cases h1
  rw [hj0] at h1 h2
  simp at h1 h2
  subst h1 h2
  exact he
theorem OwPs.len (h : OwPs w b A n c LL) : LL.length = n := by
 obtain ⟨E, _, h2, h3⟩ := h
 rw [← h3.1, h2]
theorem OwPs.nil (w : World) (b : Nat) : OwPs w b none 0 0 [] := ⟨[], World.ownsRow_nil _ _ _ _, rfl, rfl, fun j e z he _ => by simp at he⟩
theorem OwPs.next (h : OwPs w b A n c LL) (hb : Below w.heap.size w w') : OwPs w' b A n c LL := by
 obtain ⟨E, h1, h2, h3⟩ := h
 exact ⟨E, row_next h1 hb, h2, h3.next hb⟩
theorem OwPs.base (h : OwPs w b A n c LL) (hb : b' ≤ b) : OwPs w b' A n c LL := by
 obtain ⟨E, h1, h2, h3⟩ := h
 exact ⟨E, row_base h1 hb, h2, h3.base hb⟩
theorem OwPs.form (h : OwPs w b A n c LL) : (A = none ∧ n = 0 ∧ c = 0) ∨ ∃ g, A = some ⟨g, 0, none⟩ ∧ b ≤ g ∧ g < w.heap.size ∧ n ≤ c ∧ c ≤ maxLen := by
 obtain ⟨E, h, _, _⟩ := h
 rcases h.2 with ⟨h1, h2⟩ | ⟨g, cap, cur, h1, h2, h3, h4, h5, _⟩
 ·injection h1 with h1 h1' h1''
  exact .inl ⟨h1, h2, h1''⟩
 ·injection h1 with h1 h1' h1''
  subst h1''
  exact .inr ⟨g, h1, h2, (Array.getElem?_eq_some_iff.1 h3).1, h4, h5⟩
theorem keepQ_grown {w1 : World} {xs : List Value} (hE : w.ownsRow b 73 1 (.slice A n c) n xs) (hg : w.grownBy w1 (Value.slice A n c).ownBlock) : KeepQ w w1 := by
 have key : ∀ (i : Nat) (cs : Array Value) (t : TypeId) (f : Nat × Nat), t ≠ 73 → w.heap[i]? = some (.cells cs t f) → w1.heap[i]? = some (.cells cs t f) := by
  intro i cs t f ht hi
  rw [← hi]
  refine hg.block i (Array.getElem?_eq_some_iff.1 hi).1 ?_
  rcases hE.2 with ⟨h1, _⟩ | ⟨g, cap, cur, h1, h2, h3, _⟩
  ·rw [h1]
   intro e0
   cases e0
  ·rw [h1]
   intro e0
   cases e0
   rw [hi] at h3
   injection h3 with h3
   injection h3 with _ h3
   exact ht h3
 exact ⟨fun i cs f => key i cs _ f (by decide), fun i cs f => key i cs _ f (by decide)⟩
theorem ps_more {wb w1 : World} {v' : Value} {e : Option Addr × Nat × Nat} {L : List Rat} {t : TypeId} (he : OwQp w b e.1 e.2.1 e.2.2 L) (hwb : wb = w.alloc (.cells #[.slice e.1 e.2.1 e.2.2] t)) (hE : wb.ownsRow b 73 1 (.slice A n c) n (E.map psl)) (hEl : E.length = n) (hEn : EntP wb b E LL)
  (hown' : w1.ownsRow b 73 1 v' (n + 1) (E.map psl ++ [.slice e.1 e.2.1 e.2.2])) (hg : wb.grownBy w1 (Value.slice A n c).ownBlock) :
  ∃ (A' : Option Addr) (c' : Nat), v' = .slice A' (n + 1) c' ∧ OwPs w1 b A' (n + 1) c' (LL ++ [L]) := by
 obtain ⟨A', c', rfl⟩ := row_sl hown'
 have hba : Below w.heap.size w wb := by rw [hwb]; exact (Below.refl w.heap.size w).alloc (Nat.le_refl _) _
 have hk := keepQ_grown hE hg
 refine ⟨A', c', rfl, E ++ [e], ?_, by rw [List.length_append, hEl]; rfl, ?_⟩
 ·rw [List.map_append]; exact hown'
 ·exact (hEn.snoc (he.next hba)).keep hk
theorem opl_at (h : OwPs w b A n c LL) {j : Nat} (hj : j < n) :
  ∃ (g : Nat) (A1 : Option Addr) (n1 c1 : Nat) (L : List Rat), A = some ⟨g, 0, none⟩ ∧ g < w.heap.size ∧ w.cell? ⟨g, j, none⟩ = some (.slice A1 n1 c1) ∧ OwQp w b A1 n1 c1 L ∧ Hid (LL[j]? = some L) := by
 have hl := h.len
 rcases h.form with ⟨_, h0, _⟩ | ⟨g, rfl, h1, h2, h3, h4⟩
 ·omega
 ·obtain ⟨E, hr, hE, hel⟩ := h
  have hjE : j < E.length := by omega
  have hjL : j < LL.length := by omega
  refine ⟨g, E[j].1, E[j].2.1, E[j].2.2, LL[j], rfl, h2, ?_, hel.2 j _ _ (List.getElem?_eq_getElem hjE) (List.getElem?_eq_getElem hjL), Lib.hid (List.getElem?_eq_getElem hjL)⟩
  have := hr.cellAt j (by omega)
  rw [this, List.getElem?_map, List.getElem?_eq_getElem hjE]
  rfl
end
theorem infoPoly : (Tryz.prog.info? 73).map (fun i => (i.zero, i.size, i.bytes)) = some (some (.slice none 0 0), 1, 24) := by kernel_rfl
end Go.Proofs.YtjnklbfhelbjgaaGreat

/- Rows of fractions of the call's own. -/
namespace Go.Proofs.YtjnklbfhelbjgaaGreat
open Go.RowKit Go.IntWalk
def EntQr (w : World) (b : Nat) (E : List (Option Addr × Nat × Nat)) (LL : List (List Rat)) : Prop := E.length = LL.length ∧ ∀ (j : Nat) (e : Option Addr × Nat × Nat) (L : List Rat), E[j]? = some e → LL[j]? = some L → OwQp w b e.1 e.2.1 e.2.2 L
def OwQss (w : World) (b : Nat) (A : Option Addr) (n c : Nat) (LL : List (List Rat)) : Prop :=
 ∃ E : List (Option Addr × Nat × Nat), w.ownsRow b 72 1 (.slice A n c) n (E.map psl) ∧ E.length = n ∧ EntQr w b E LL
section
variable {w w' : World} {b b' : Nat} {A : Option Addr} {n c : Nat} {LL : List (List Rat)} {E : List (Option Addr × Nat × Nat)}
theorem EntQr.next (h : EntQr w b E LL) (hb : Below w.heap.size w w') : EntQr w' b E LL := ⟨h.1, fun j e z he hz => (h.2 j e z he hz).next hb⟩
theorem EntQr.base (h : EntQr w b E LL) (hb : b' ≤ b) : EntQr w b' E LL := ⟨h.1, fun j e z he hz => (h.2 j e z he hz).base hb⟩
theorem EntQr.keep (h : EntQr w b E LL) (hk : KeepQ w w') : EntQr w' b E LL := ⟨h.1, fun j e z he hz => (h.2 j e z he hz).keep hk⟩
theorem EntQr.snoc (h : EntQr w b E LL) {e : Option Addr × Nat × Nat} {L : List Rat} (he : OwQp w b e.1 e.2.1 e.2.2 L) : EntQr w b (E ++ [e]) (LL ++ [L]) := by
 refine ⟨by rw [List.length_append, List.length_append, h.1]; rfl, fun j e' z' h1 h2 => ?_⟩
 rcases Nat.lt_or_ge j E.length with hj | hj
 ·rw [List.getElem?_append_left hj] at h1
  rw [List.getElem?_append_left (by rw [← h.1]; exact hj)] at h2
  exact h.2 j e' z' h1 h2
 ·rw [List.getElem?_append_right hj] at h1
  rw [List.getElem?_append_right (by rw [← h.1]; exact hj)] at h2
  rw [← h.1] at h2
  have hj0 : j - E.length = 0 := by
   rcases Nat.eq_zero_or_pos (j - E.length) with e0 | e0
   ·exact e0
   ·rw [List.getElem?_eq_none (by simp; omega)] at h1; cases h1
  rw [hj0] at h1 h2
  simp at h1 h2
  subst h1 h2
  exact he
theorem OwQss.len (h : OwQss w b A n c LL) : LL.length = n := by
 obtain ⟨E, _, h2, h3⟩ := h
 rw [← h3.1, h2]
theorem OwQss.nil (w : World) (b : Nat) : OwQss w b none 0 0 [] := ⟨[], World.ownsRow_nil _ _ _ _, rfl, rfl, fun j e z he _ => by simp at he⟩
theorem OwQss.next (h : OwQss w b A n c LL) (hb : Below w.heap.size w w') : OwQss w' b A n c LL := by
 obtain ⟨E, h1, h2, h3⟩ := h
 exact ⟨E, row_next h1 hb, h2, h3.next hb⟩
theorem OwQss.base (h : OwQss w b A n c LL) (hb : b' ≤ b) : OwQss w b' A n c LL := by
 obtain ⟨E, h1, h2, h3⟩ := h
 exact ⟨E, row_base h1 hb, h2, h3.base hb⟩
theorem OwQss.form (h : OwQss w b A n c LL) : (A = none ∧ n = 0 ∧ c = 0) ∨ ∃ g, A = some ⟨g, 0, none⟩ ∧ b ≤ g ∧ g < w.heap.size ∧ n ≤ c ∧ c ≤ maxLen := by
 obtain ⟨E, h, _, _⟩ := h
 rcases h.2 with ⟨h1, h2⟩ | ⟨g, cap, cur, h1, h2, h3, h4, h5, _⟩
 ·injection h1 with h1 h1' h1''
  exact .inl ⟨h1, h2, h1''⟩
 ·injection h1 with h1 h1' h1''
  subst h1''
  exact .inr ⟨g, h1, h2, (Array.getElem?_eq_some_iff.1 h3).1, h4, h5⟩
theorem keepQ_grown2 {w1 : World} {xs : List Value} (hE : w.ownsRow b 72 1 (.slice A n c) n xs) (hg : w.grownBy w1 (Value.slice A n c).ownBlock) : KeepQ w w1 := by
 have key : ∀ (i : Nat) (cs : Array Value) (t : TypeId) (f : Nat × Nat), t ≠ 72 → w.heap[i]? = some (.cells cs t f) → w1.heap[i]? = some (.cells cs t f) := by
  intro i cs t f ht hi
  rw [← hi]
  refine hg.block i (Array.getElem?_eq_some_iff.1 hi).1 ?_
  rcases hE.2 with ⟨h1, _⟩ | ⟨g, cap, cur, h1, h2, h3, _⟩
  ·rw [h1]
   intro e0
   cases e0
  ·rw [h1]
   intro e0
   cases e0
   rw [hi] at h3
   injection h3 with h3
   injection h3 with _ h3
   exact ht h3
 exact ⟨fun i cs f => key i cs _ f (by decide), fun i cs f => key i cs _ f (by decide)⟩
theorem qss_more {wb w1 : World} {v' : Value} {e : Option Addr × Nat × Nat} {L : List Rat} {t : TypeId} (he : OwQp w b e.1 e.2.1 e.2.2 L) (hwb : wb = w.alloc (.cells #[.slice e.1 e.2.1 e.2.2] t)) (hE : wb.ownsRow b 72 1 (.slice A n c) n (E.map psl)) (hEl : E.length = n) (hEn : EntQr wb b E LL)
  (hown' : w1.ownsRow b 72 1 v' (n + 1) (E.map psl ++ [.slice e.1 e.2.1 e.2.2])) (hg : wb.grownBy w1 (Value.slice A n c).ownBlock) :
  ∃ (A' : Option Addr) (c' : Nat), v' = .slice A' (n + 1) c' ∧ OwQss w1 b A' (n + 1) c' (LL ++ [L]) := by
 obtain ⟨A', c', rfl⟩ := row_sl hown'
 have hba : Below w.heap.size w wb := by rw [hwb]; exact (Below.refl w.heap.size w).alloc (Nat.le_refl _) _
 have hk := keepQ_grown2 hE hg
 refine ⟨A', c', rfl, E ++ [e], ?_, by rw [List.length_append, hEl]; rfl, ?_⟩
 ·rw [List.map_append]; exact hown'
 ·exact (hEn.snoc (he.next hba)).keep hk
theorem oql_at (h : OwQss w b A n c LL) {j : Nat} (hj : j < n) :
  ∃ (g : Nat) (A1 : Option Addr) (n1 c1 : Nat) (L : List Rat), A = some ⟨g, 0, none⟩ ∧ g < w.heap.size ∧ w.cell? ⟨g, j, none⟩ = some (.slice A1 n1 c1) ∧ OwQp w b A1 n1 c1 L ∧ Hid (LL[j]? = some L) := by
 have hl := h.len
 rcases h.form with ⟨_, h0, _⟩ | ⟨g, rfl, h1, h2, h3, h4⟩
 ·omega
 ·obtain ⟨E, hr, hE, hel⟩ := h
  have hjE : j < E.length := by omega
  have hjL : j < LL.length := by omega
  refine ⟨g, E[j].1, E[j].2.1, E[j].2.2, LL[j], rfl, h2, ?_, hel.2 j _ _ (List.getElem?_eq_getElem hjE) (List.getElem?_eq_getElem hjL), Lib.hid (List.getElem?_eq_getElem hjL)⟩
  have := hr.cellAt j (by omega)
  rw [this, List.getElem?_map, List.getElem?_eq_getElem hjE]
  rfl
end
theorem infoQr : (Tryz.prog.info? 72).map (fun i => (i.zero, i.size, i.bytes)) = some (some (.slice none 0 0), 1, 24) := by kernel_rfl
end Go.Proofs.YtjnklbfhelbjgaaGreat

/- Reference 05: numbers as fractions; law 09: polynomials of written numbers. -/
namespace Go.Proofs.YtjnklbfhelbjgaaGreat
open Go.RowKit Go.IntWalk
attribute [local go_sem ↓] Go.wp_at_zero Go.wp_at_succ
def RetV4 (x : Rat) (w : World) (e : Ending) (w' : World) : Prop :=
 ∃ (s : Bool) (A : Option Addr) (n c : Nat) (s' : Bool) (A' : Option Addr) (n' c' : Nat) (y : Rat), e = .returned (.agg #[.bool s, .slice A n c, .bool s', .slice A' n' c']) ∧ OwQ w' w.heap.size s A n c s' A' n' c' y ∧ Hid (y = x) ∧ Below w.heap.size w w'
set_option maxRecDepth 100000 in
set_option maxHeartbeats 2000000 in
theorem rQOf_any (z : Int) (h1 : -9223372036854775808 ≤ z) (h2 : z < 9223372036854775808) (w : World) :
  Calls Tryz.prog 55 #[.int .i64 z] w (RetV4 (z : Rat) w) := by
 obtain ⟨W1, HW1⟩ : ∃ W, W = w.alloc (.cells #[.bool false, .slice none 0 0, .bool false, .slice none 0 0] 47) := ⟨_, rfl⟩
 have hR : QC W1 w.heap.size false none 0 0 false none 0 0 := by rw [HW1]; exact QC.new w false none 0 0 false none 0 0
 have hB : Below w.heap.size w W1 := by rw [HW1]; exact (Below.refl _ _).alloc (Nat.le_refl _) _
 have HW1 := Lib.hid HW1
 go_enter Tryz.func55, Tryz.ntmps55
 go_wp2_with fail
 rw [← HW1.out]
 clear HW1
 clear HW1
 refine (rIOf_any z h1 h2 W1).mono ?_
 rintro _ W2 ⟨s2, A2, n2, c2, y2, rfl, ho2, hy2, hb2⟩
 go_wp2_with fail
 refine (rIOf_any 1 (by decide) (by decide) W2).mono ?_
 rintro _ W3 ⟨s3, A3, n3, c3, y3, rfl, ho3, hy3, hb3⟩
 have hb13 := hb2.trans (hb3.mono hb2.size)
 have hR3 := hR.next hb13
 have hB3 := hB.trans (hb13.mono hB.size)
 have HO := Lib.hid (show OwQ W3 w.heap.size s2 A2 n2 c2 s3 A3 n3 c3 (z : Rat) from ⟨by have := (ho2.next hb3).base hB.size; rw [hy2.out] at this; exact this, by have := ho3.base (b' := w.heap.size) (Nat.le_trans hB.size hb2.size); rw [hy3.out] at this; exact this⟩)
 have r0 := hR3.c0
 have r1 := hR3.c1
 have r2 := hR3.c2
 have r3 := hR3.c3
 have f0 := hR3.fz 0
 have f1 := hR3.fz 1
 have f2 := hR3.fz 2
 have f3 := hR3.fz 3
 have HR9 := Lib.hid (hR3.store s2 A2 n2 c2 s3 A3 n3 c3)
 have HO9 := Lib.hid (HO.out.keep (keep_putQ hR3 s2 A2 n2 c2 s3 A3 n3 c3))
 have HB9 := Lib.hid (below_putQ hB3 (Nat.le_refl w.heap.size) s2 A2 n2 c2 s3 A3 n3 c3)
 unfold putQ at HR9 HB9 HO9
 clear hR hR3 hB hB3 hb2 hb3 hb13 ho2 ho3 hy2 hy3
 go_wp2_with fail
 generalize (((W3.setCell ⟨w.heap.size, 0, none⟩ (.bool s2)).setCell ⟨w.heap.size, 1, none⟩ (.slice A2 n2 c2)).setCell ⟨w.heap.size, 2, none⟩ (.bool s3)).setCell ⟨w.heap.size, 3, none⟩ (.slice A3 n3 c3) = W9 at *
 have z0 := HR9.out.c0
 have z1 := HR9.out.c1
 have z2 := HR9.out.c2
 have z3 := HR9.out.c3
 exact bodyPost_ret (by simp [results, Tryz.results55, go_sem, z0, z1, z2, z3]) rfl ⟨_, _, _, _, _, _, _, _, _, rfl, HO9.out, Lib.hid rfl, HB9.out⟩
end Go.Proofs.YtjnklbfhelbjgaaGreat

/- Reference 05: in lowest terms. -/
namespace Go.Proofs.YtjnklbfhelbjgaaGreat
open Go.RowKit Go.IntWalk
attribute [local go_sem ↓] Go.wp_at_zero Go.wp_at_succ
theorem QC.far {w : World} {g : Nat} {s s' : Bool} {A A' : Option Addr} {n c n' c' : Nat} (h : QC w g s A n c s' A' n' c') {p : Addr} (hp : g ≠ p.block) (u : Value) : QC (w.setCell p u) g s A n c s' A' n' c' := (Below.heap_setCell w p u g hp).trans h
theorem rmake_num {z d : Int} (h : d < 0) : (-z).tdiv (Int.gcd (-z) (-d) : Int) = z.tdiv (Qz.gs z d) := by
 unfold Qz.gs
 rw [if_pos h, Int.gcd_neg, Int.neg_gcd, Int.neg_tdiv, Int.tdiv_neg]
theorem rmake_den {z d : Int} (h : d < 0) : (-d).tdiv (Int.gcd (-z) (-d) : Int) = d.tdiv (Qz.gs z d) := by
 unfold Qz.gs
 rw [if_pos h, Int.gcd_neg, Int.neg_gcd, Int.neg_tdiv, Int.tdiv_neg]
def TwoR (v : World) (N g g' : Nat) (z z' : Int) (w : World) : Prop :=
 ∃ (t t' : Bool) (A1 A2 : Option Addr) (k m k' m' : Nat), ZC w g t A1 k m ∧ ZC w g' t' A2 k' m' ∧ RdZ w w.heap.size t A1 k m z ∧ RdZ w w.heap.size t' A2 k' m' z' ∧ k ≤ N ∧ k' ≤ N ∧ Below v.heap.size v w
theorem two_setR {v w W : World} {N g g' b1 b2 : Nat} {s s' t t' : Bool} {A A' A1 A2 : Option Addr} {n c n' c' k m k' m' : Nat} {z z' : Int} (h : ZC w g s A n c) (h' : ZC w g' s' A' n' c') (hne : g ≠ g') (hB : Below v.heap.size v w) (hg : v.heap.size ≤ g) (hg' : v.heap.size ≤ g')
  (ho : OwZ w b1 t A1 k m z) (ho' : OwZ w b2 t' A2 k' m' z') (hb1 : g < b1 ∧ g' < b1) (hb2 : g < b2 ∧ g' < b2) (hk : k ≤ N) (hk' : k' ≤ N)
  (hW : W = (((w.setCell ⟨g, 0, none⟩ (.bool t)).setCell ⟨g, 1, none⟩ (.slice A1 k m)).setCell ⟨g', 0, none⟩ (.bool t')).setCell ⟨g', 1, none⟩ (.slice A2 k' m') ∨
   W = (((w.setCell ⟨g', 0, none⟩ (.bool t')).setCell ⟨g', 1, none⟩ (.slice A2 k' m')).setCell ⟨g, 0, none⟩ (.bool t)).setCell ⟨g, 1, none⟩ (.slice A1 k m)) : TwoR v N g g' z z' W := by
 rcases hW with hW | hW
 ·obtain ⟨h1, h2, h3, h4, h5⟩ := put_two h h' hne hB hg hg' ho ho' hb1 hb2 hW
  exact ⟨t, t', A1, A2, k, m, k', m', h1, h2, h3.rd, h4.rd, hk, hk', h5⟩
 ·obtain ⟨h1, h2, h3, h4, h5⟩ := put_two h' h (Ne.symm hne) hB hg' hg ho' ho ⟨hb2.2, hb2.1⟩ ⟨hb1.2, hb1.1⟩ hW
  exact ⟨t, t', A1, A2, k, m, k', m', h2, h1, h4.rd, h3.rd, hk, hk', h5⟩
set_option maxRecDepth 100000 in
set_option maxHeartbeats 8000000 in
theorem rQMake_any {s s' : Bool} {A A' : Option Addr} {n c n' c' : Nat} {z d : Int} {w : World} (h : RdZ w w.heap.size s A n c z) (h' : RdZ w w.heap.size s' A' n' c' d) (hn : n ≤ 1000000000000) (hn' : n' ≤ 1000000000000) (hd : d ≠ 0) :
  Calls Tryz.prog 98 #[.agg #[.bool s, .slice A n c], .agg #[.bool s', .slice A' n' c']] w (RetV4 (Rat.divInt z d) w) := by
 obtain ⟨W1, HW1⟩ : ∃ W, W = ((w.alloc (.cells #[.bool s, .slice A n c] 25)).alloc (.cells #[.bool s', .slice A' n' c'] 25)).alloc (.cells #[.bool false, .slice none 0 0, .bool false, .slice none 0 0] 47) := ⟨_, rfl⟩
 obtain ⟨hX, hY, hR, hB⟩ := q_boxes w s A n c s' A' n' c' W1 HW1
 have a0 := hY.c0
 have a1 := hY.c1
 rw [HW1] at a0 a1
 have HRD := Lib.hid (show ∀ W : World, Below W1.heap.size W1 W → RdZ W W.heap.size s A n c z ∧ RdZ W W.heap.size s' A' n' c' d from fun W hb => ⟨(h.next hB).next hb, (h'.next hB).next hb⟩)
 have HCE := Lib.hid (show ∀ W : World, Below W1.heap.size W1 W → ZC W w.heap.size s A n c ∧ ZC W (w.heap.size + 1) s' A' n' c' ∧ QC W (w.heap.size + 1 + 1) false none 0 0 false none 0 0 from fun W hb => ⟨hX.next hb, hY.next hb, hR.next hb⟩)
 have HB := Lib.hid hB
 have HS := Lib.hid (show w.heap.size + 1 + 1 < W1.heap.size from hR.lt)
 have HLZ := Lib.hid (show Zz.zl z ≤ 1000000000000 ∧ Zz.zl d ≤ 1000000000000 from ⟨Nat.le_trans h.len hn, Nat.le_trans h'.len hn'⟩)
 have HD0 := Lib.hid hd
 have HW1 := Lib.hid HW1
 clear hX hY hR hB h h' hd
 go_enter Tryz.func98, Tryz.ntmps98
 go_wp2_with fail
 rw [← HW1.out]
 clear HW1 a0 a1
 clear HW1
 refine (rISign_any (HRD.out _ (Below.refl _ _)).2 (by omega)).mono ?_
 rintro _ W2 ⟨k, rfl, hk, hb2⟩
 have HB2 := Lib.hid hb2
 clear hb2
 go_upto_if 12 with fail
 go_cut [] from 12 (fun wr => ∃ (y y' : Int) (V : World), V = wr ∧ TwoR w 1000000000000 w.heap.size (w.heap.size + 1) y y' V ∧ QC V (w.heap.size + 1 + 1) false none 0 0 false none 0 0 ∧ Hid (y.tdiv (Int.gcd y y' : Int) = (Rat.divInt z d).num ∧ y'.tdiv (Int.gcd y y' : Int) = ((Rat.divInt z d).den : Int) ∧ y' ≠ 0))
 case first =>
  by_cases hneg : k < 0
  ·have HD := Lib.hid (show d < 0 by
    have h5 := hk.out
    rw [h5] at hneg
    exact Int.sign_neg_iff.1 hneg)
   have HBD := Lib.hid (HB2.out.trans ((Below.refl W2.heap.size W2).drew.mono HB2.out.size))
   obtain ⟨hX, hY, hR⟩ := HCE.out _ HB2.out
   have hc0 := hX.c0
   have hc1 := hX.c1
   have hd0 := hY.c0
   have hd1 := hY.c1
   go_wp2_with fail
   go_region_with (first
    | (go_at_call 99; have hx := HB3.out; clear hx; refine (rINeg_any (HRD.out _ HB3.out).2 (by omega)).mono ?_; rintro _ W4 ⟨s4, A4, m4, c4, z4, rfl, ho4, hz4, hb4⟩; have HB4 := Lib.hid (HB3.out.trans (hb4.mono HB3.out.size)); have ha0 := (HCE.out _ HB4.out).1.c0; have ha1 := (HCE.out _ HB4.out).1.c1; have ha2 := (HCE.out _ HB4.out).2.1.c0; have ha3 := (HCE.out _ HB4.out).2.1.c1; have hf0 := (HCE.out _ HB4.out).1.fz 0; have hf1 := (HCE.out _ HB4.out).1.fz 1; have hf2 := (HCE.out _ HB4.out).2.1.fz 0; have hf3 := (HCE.out _ HB4.out).2.1.fz 1)
    | (go_at_call 99; refine (rINeg_any (HRD.out _ HBD.out).1 (by omega)).mono ?_; rintro _ W3 ⟨s3, A3, m3, c3, z3, rfl, ho3, hz3, hb3⟩; have HB3 := Lib.hid (HBD.out.trans (hb3.mono HBD.out.size)); have he0 := (HCE.out _ HB3.out).1.c0; have he1 := (HCE.out _ HB3.out).1.c1; have he2 := (HCE.out _ HB3.out).2.1.c0; have he3 := (HCE.out _ HB3.out).2.1.c1))
   all_goals
    have HP := Lib.hid fun W => two_setR (W := W) (v := w) (N := 1000000000000) (z := -z) (z' := -d) (HCE.out _ HB4.out).1 (HCE.out _ HB4.out).2.1 (by omega) (HB.out.trans (HB4.out.mono HB.out.size)) (Nat.le_refl _) (Nat.le_succ _) (by have := ho3.next hb4; rw [hz3.out] at this; exact this) (by rw [hz4.out] at ho4; exact ho4) (by have := HS.out; have := HBD.out.size; omega) (by have := HS.out; have := HB3.out.size; omega) (by rw [ho3.len, hz3.out, Zz.zl_neg]; exact HLZ.out.1) (by rw [ho4.len, hz4.out, Zz.zl_neg]; exact HLZ.out.2)
    have HRN := Lib.hid (HCE.out _ HB4.out).2.2
    clear ha0 ha1 ha2 ha3 hf0 hf1 hf2 hf3 he0 he1 he2 he3 hc0 hc1 hd0 hd1
    go_wp2
    go_meet
    refine ⟨-z, -d, _, rfl, ?_, ?_, Lib.hid ⟨?_, ?_, by have := HD.out; omega⟩⟩
    ·first
     | exact HP.out _ (.inl rfl)
     | exact HP.out _ (.inr rfl)
    ·exact (((HRN.out.far (by simp <;> omega) _).far (by simp <;> omega) _).far (by simp <;> omega) _).far (by simp <;> omega) _
    ·rw [rmake_num HD.out]; exact Qz.make_num HD0.out
    ·rw [rmake_den HD.out]; exact Qz.make_den HD0.out
  ·have HD := Lib.hid (show ¬ d < 0 from fun hd => hneg (by rw [hk.out]; exact Int.sign_neg_iff.2 hd))
   have hneg' : 0 ≤ k := by omega
   clear hneg
   go_wp2
   go_meet
   obtain ⟨hX, hY, hR⟩ := HCE.out _ HB2.out
   obtain ⟨h1, h2⟩ := HRD.out _ HB2.out
   refine ⟨z, d, _, rfl, ⟨_, _, _, _, _, _, _, _, hX, hY, h1, h2, hn, hn', HB.out.trans (HB2.out.mono HB.out.size)⟩, hR, Lib.hid ⟨?_, ?_, HD0.out⟩⟩
   ·rw [← Qz.make_num HD0.out]; unfold Qz.gs; rw [if_neg (by have := HD.out; omega)]
   ·rw [← Qz.make_den HD0.out]; unfold Qz.gs; rw [if_neg (by have := HD.out; omega)]
 case rest =>
  clear HRD HCE hk
  obtain ⟨y, y', V, hV, ⟨t, t', A1, A2, k1, m1, k2, m2, hX, hY, h1, h2, hk1, hk2, hBw⟩, hR, hyy⟩ := hcut
  subst hV
  have HRD := Lib.hid (show ∀ W : World, Below V.heap.size V W → RdZ W W.heap.size t A1 k1 m1 y ∧ RdZ W W.heap.size t' A2 k2 m2 y' from fun W hb => ⟨h1.next hb, h2.next hb⟩)
  have HCE := Lib.hid (show ∀ W : World, Below V.heap.size V W → ZC W w.heap.size t A1 k1 m1 ∧ ZC W (w.heap.size + 1) t' A2 k2 m2 ∧ QC W (w.heap.size + 1 + 1) false none 0 0 false none 0 0 from fun W hb => ⟨hX.next hb, hY.next hb, hR.next hb⟩)
  have HBW := Lib.hid hBw
  have HLZ := Lib.hid (show Zz.zl y ≤ 1000000000000 ∧ Zz.zl y' ≤ 1000000000000 from ⟨Nat.le_trans h1.len hk1, Nat.le_trans h2.len hk2⟩)
  have a0 := hX.c0
  have a1 := hX.c1
  have b0 := hY.c0
  have b1 := hY.c1
  clear hX hY hR h1 h2 hBw
  go_wp2_with fail
  clear a0 a1 b0 b1
  refine (rIGcd_any (HRD.out _ (Below.refl _ _)).1 (HRD.out _ (Below.refl _ _)).2 (by omega) (by omega)).mono ?_
  rintro _ W4 ⟨s4, A4, n4, c4, g4, rfl, ho4, hg4, hb4⟩
  obtain ⟨W5, HW5⟩ : ∃ W, W = W4.alloc (.cells #[.bool s4, .slice A4 n4 c4] 25) := ⟨_, rfl⟩
  have hb5 : Below W4.heap.size W4 W5 := by rw [HW5]; exact (Below.refl _ _).alloc (Nat.le_refl _) _
  have hX5 : ZC W5 W4.heap.size s4 A4 n4 c4 := by rw [HW5]; exact ZC.new W4 s4 A4 n4 c4
  have HB5 := Lib.hid (hb4.trans (hb5.mono hb4.size))
  have HX5 := Lib.hid (And.intro hX5 (ho4.next hb5))
  have HN4 := Lib.hid (show n4 ≤ 1000000000000 by
   rw [ho4.len, hg4.out]
   have e1 := Zz.zl_gcd y y'
   have e2 := HLZ.out
   omega)
  have HG0 := Lib.hid (show g4 ≠ 0 by
   rw [hg4.out]
   have : Int.gcd y y' ≠ 0 := fun e => hyy.out.2.2 (Int.gcd_eq_zero_iff.1 e).2
   omega)
  have a0 := hX5.c0
  have a1 := hX5.c1
  have x0 := (HCE.out _ HB5.out).1.c0
  have x1 := (HCE.out _ HB5.out).1.c1
  rw [HW5] at a0 a1 x0 x1
  have HW5 := Lib.hid HW5
  clear hX5 ho4 hb4 hb5
  go_wp2_with fail
  rw [← HW5.out]
  clear HW5 a0 a1 x0 x1
  clear HW5
  generalize W4.heap.size = gc at *
  refine (rIExact_any (HRD.out _ HB5.out).1 HX5.out.2.rd (by omega) (by have := HN4.out; omega) HG0.out).mono ?_
  rintro _ W8 ⟨s8, A8, n8, c8, q8, e8, rfl, ho8, hq8, hb8⟩
  have HQ8 := Lib.hid (show q8 = (Rat.divInt z d).num by
   rw [← hyy.out.1, ← hg4.out]
   rcases hq8.out with ⟨_, f2, _⟩ | ⟨f1, _, _⟩
   ·exact f2
   ·exact absurd (Int.tmod_eq_zero_of_dvd (by rw [hg4.out]; exact Int.gcd_dvd_left y y')) f1)
  obtain ⟨W9, HW9⟩ : ∃ W, W = W8.alloc (.cells #[.bool s8, .slice A8 n8 c8] 25) := ⟨_, rfl⟩
  have hb9 : Below W8.heap.size W8 W9 := by rw [HW9]; exact (Below.refl _ _).alloc (Nat.le_refl _) _
  have hb59 := hb8.trans (hb9.mono hb8.size)
  have HB9 := Lib.hid (HB5.out.trans (hb59.mono HB5.out.size))
  have HX9 := Lib.hid (show ZC W9 W8.heap.size s8 A8 n8 c8 by rw [HW9]; exact ZC.new W8 s8 A8 n8 c8)
  have HO9 := Lib.hid ((ho8.base (b' := V.heap.size) HB5.out.size).next hb9)
  have HY9 := Lib.hid (And.intro (HX5.out.1.next hb59) (HX5.out.2.next hb59))
  have a0 := HY9.out.1.c0
  have a1 := HY9.out.1.c1
  have y0 := (HCE.out _ HB9.out).2.1.c0
  have y1 := (HCE.out _ HB9.out).2.1.c1
  rw [HW9] at a0 a1 y0 y1
  have HW9 := Lib.hid HW9
  clear ho8 hq8 hb8 hb9 hb59
  go_wp2_with fail
  rw [← HW9.out]
  clear HW9 a0 a1 y0 y1
  clear HW9
  generalize W8.heap.size = gn at *
  refine (rIExact_any (HRD.out _ HB9.out).2 HY9.out.2.rd (by omega) (by have := HN4.out; omega) HG0.out).mono ?_
  rintro _ V1 ⟨t1, D1, j1, l1, q1, e1, rfl, ho1, hq1, hv1⟩
  have HQ1 := Lib.hid (show q1 = ((Rat.divInt z d).den : Int) by
   rw [← hyy.out.2.1, ← hg4.out]
   rcases hq1.out with ⟨_, f2, _⟩ | ⟨f1, _, _⟩
   ·exact f2
   ·exact absurd (Int.tmod_eq_zero_of_dvd (by rw [hg4.out]; exact Int.gcd_dvd_right y y')) f1)
  obtain ⟨V2, HV2⟩ : ∃ W, W = V1.alloc (.cells #[.bool t1, .slice D1 j1 l1] 25) := ⟨_, rfl⟩
  have hv2 : Below V1.heap.size V1 V2 := by rw [HV2]; exact (Below.refl _ _).alloc (Nat.le_refl _) _
  have hv12 := hv1.trans (hv2.mono hv1.size)
  have HU2 := Lib.hid (HB9.out.trans (hv12.mono HB9.out.size))
  have hN := HX9.out.next hv12
  have hR := (HCE.out _ HU2.out).2.2
  have HF := Lib.hid (show OwQ V2 w.heap.size s8 A8 n8 c8 t1 D1 j1 l1 (Rat.divInt z d) from ⟨by rw [← HQ8.out]; exact (HO9.out.next hv12).base HBW.out.size, by rw [← HQ1.out]; exact (ho1.next hv2).base (Nat.le_trans HBW.out.size HB9.out.size)⟩)
  have HF9 := Lib.hid (HF.out.keep (keep_putQ hR s8 A8 n8 c8 t1 D1 j1 l1))
  have HR9 := Lib.hid (hR.store s8 A8 n8 c8 t1 D1 j1 l1)
  have HBF := Lib.hid (below_putQ (HBW.out.trans (HU2.out.mono HBW.out.size)) (show w.heap.size ≤ w.heap.size + 1 + 1 by omega) s8 A8 n8 c8 t1 D1 j1 l1)
  have a0 := hN.c0
  have a1 := hN.c1
  have r0 := hR.c0
  have r1 := hR.c1
  have r2 := hR.c2
  have r3 := hR.c3
  have f0 := hR.fz 0
  have f1 := hR.fz 1
  have f2 := hR.fz 2
  have f3 := hR.fz 3
  rw [HV2] at a0 a1 r0 r1 r2 r3 f0 f1 f2 f3
  unfold putQ at HF9 HR9 HBF
  have HV2 := Lib.hid HV2
  clear ho1 hq1 hv1 hv2 hv12 hN hR
  go_wp2_with fail
  rw [← HV2.out]
  clear HV2 a0 a1 r0 r1 r2 r3 f0 f1 f2 f3
  clear HV2
  generalize (((V2.setCell ⟨w.heap.size + 1 + 1, 0, none⟩ (.bool s8)).setCell ⟨w.heap.size + 1 + 1, 1, none⟩ (.slice A8 n8 c8)).setCell ⟨w.heap.size + 1 + 1, 2, none⟩ (.bool t1)).setCell ⟨w.heap.size + 1 + 1, 3, none⟩ (.slice D1 j1 l1) = V9 at *
  have z0 := HR9.out.c0
  have z1 := HR9.out.c1
  have z2 := HR9.out.c2
  have z3 := HR9.out.c3
  exact bodyPost_ret (by simp [results, Tryz.results98, go_sem, z0, z1, z2, z3]) rfl ⟨_, _, _, _, _, _, _, _, _, rfl, HF9.out, Lib.hid rfl, HBF.out⟩
end Go.Proofs.YtjnklbfhelbjgaaGreat

/- Reference 05: the normal form, the sign, does it mean something. -/
namespace Go.Proofs.YtjnklbfhelbjgaaGreat
open Go.RowKit Go.IntWalk
attribute [local go_sem ↓] Go.wp_at_zero Go.wp_at_succ
set_option maxRecDepth 100000 in
set_option maxHeartbeats 2000000 in
theorem rQNorm_any {s s' : Bool} {A A' : Option Addr} {n c n' c' : Nat} {z d : Int} {w : World} (h : RdZ w w.heap.size s A n c z) (h' : RdZ w w.heap.size s' A' n' c' d) (hn : n ≤ 1000000000000) (hn' : n' ≤ 1000000000000) (hd : d ≠ 0) :
  Calls Tryz.prog 100 #[.agg #[.bool s, .slice A n c, .bool s', .slice A' n' c']] w (RetV4 (Rat.divInt z d) w) := by
 obtain ⟨W1, HW1⟩ : ∃ W, W = (w.alloc (.cells #[.bool s, .slice A n c, .bool s', .slice A' n' c'] 47)).alloc (.cells #[.bool false, .slice none 0 0, .bool false, .slice none 0 0] 47) := ⟨_, rfl⟩
 obtain ⟨hX, hR, hB⟩ := q_box1 w s A n c s' A' n' c' W1 HW1
 have a0 := hX.c0
 have a1 := hX.c1
 have a2 := hX.c2
 have a3 := hX.c3
 rw [HW1] at a0 a1 a2 a3
 have h1 := h.next hB
 have h2 := h'.next hB
 have HW1 := Lib.hid HW1
 go_enter Tryz.func100, Tryz.ntmps100
 go_wp2_with fail
 rw [← HW1.out]
 clear HW1 a0 a1 a2 a3
 clear HW1
 refine (rQMake_any h1 h2 hn hn' hd).mono ?_
 rintro _ W2 ⟨s2, A2, n2, c2, s3, A3, n3, c3, y, rfl, ho, hy, hb2⟩
 have hR2 := hR.next hb2
 have hB2 := hB.trans (hb2.mono hB.size)
 have r0 := hR2.c0
 have r1 := hR2.c1
 have r2 := hR2.c2
 have r3 := hR2.c3
 have f0 := hR2.fz 0
 have f1 := hR2.fz 1
 have f2 := hR2.fz 2
 have f3 := hR2.fz 3
 have HR9 := Lib.hid (hR2.store s2 A2 n2 c2 s3 A3 n3 c3)
 have HO9 := Lib.hid ((ho.base (b' := w.heap.size) hB.size).keep (keep_putQ hR2 s2 A2 n2 c2 s3 A3 n3 c3))
 have HB9 := Lib.hid (below_putQ hB2 (show w.heap.size ≤ w.heap.size + 1 by omega) s2 A2 n2 c2 s3 A3 n3 c3)
 unfold putQ at HR9 HB9 HO9
 clear hX hR hR2 hB hB2 hb2 h1 h2 h h' ho
 go_wp2_with fail
 generalize (((W2.setCell ⟨w.heap.size + 1, 0, none⟩ (.bool s2)).setCell ⟨w.heap.size + 1, 1, none⟩ (.slice A2 n2 c2)).setCell ⟨w.heap.size + 1, 2, none⟩ (.bool s3)).setCell ⟨w.heap.size + 1, 3, none⟩ (.slice A3 n3 c3) = W9 at *
 have z0 := HR9.out.c0
 have z1 := HR9.out.c1
 have z2 := HR9.out.c2
 have z3 := HR9.out.c3
 exact bodyPost_ret (by simp [results, Tryz.results100, go_sem, z0, z1, z2, z3]) rfl ⟨_, _, _, _, _, _, _, _, _, rfl, HO9.out, hy, HB9.out⟩
theorem sign_prod {z d : Int} : IntKind.i64.wrap (z.sign * d.sign) = 0 ↔ z = 0 ∨ d = 0 := by
 rcases sign_three z with ⟨h1, e1⟩ | ⟨h1, e1⟩ | ⟨h1, e1⟩ <;> rcases sign_three d with ⟨h2, e2⟩ | ⟨h2, e2⟩ | ⟨h2, e2⟩ <;> rw [e1, e2] <;> simp only [show IntKind.i64.wrap (1 * 1) = 1 from by decide +kernel, show IntKind.i64.wrap (1 * 0) = 0 from by decide +kernel, show IntKind.i64.wrap (1 * (-1)) = -1 from by decide +kernel, show IntKind.i64.wrap (0 * 1) = 0 from by decide +kernel, show IntKind.i64.wrap (0 * 0) = 0 from by decide +kernel, show IntKind.i64.wrap (0 * (-1)) = 0 from by decide +kernel, show IntKind.i64.wrap ((-1) * 1) = -1 from by decide +kernel, show IntKind.i64.wrap ((-1) * 0) = 0 from by decide +kernel, show IntKind.i64.wrap ((-1) * (-1)) = 1 from by decide +kernel] <;> (try simp only [true_iff]) <;> omega
def RetK0 (P : Prop) (w : World) (e : Ending) (w' : World) : Prop := ∃ k : Int, e = .returned (.int .i64 k) ∧ Hid (k = 0 ↔ P) ∧ Below w.heap.size w w'
set_option maxRecDepth 100000 in
set_option maxHeartbeats 2000000 in
theorem rQSign_any {s s' : Bool} {A A' : Option Addr} {n c n' c' : Nat} {z d : Int} {w : World} (h : RdZ w w.heap.size s A n c z) (h' : RdZ w w.heap.size s' A' n' c' d) (hn : n ≤ 17592186044416) (hn' : n' ≤ 17592186044416) :
  Calls Tryz.prog 52 #[.agg #[.bool s, .slice A n c, .bool s', .slice A' n' c']] w (RetK0 (z = 0 ∨ d = 0) w) := by
 obtain ⟨W1, HW1⟩ : ∃ W, W = w.alloc (.cells #[.bool s, .slice A n c, .bool s', .slice A' n' c'] 47) := ⟨_, rfl⟩
 have hX : QC W1 w.heap.size s A n c s' A' n' c' := by rw [HW1]; exact QC.new w s A n c s' A' n' c'
 have hB : Below w.heap.size w W1 := by rw [HW1]; exact (Below.refl _ _).alloc (Nat.le_refl _) _
 have HRD := Lib.hid (show ∀ W : World, Below W1.heap.size W1 W → RdZ W W.heap.size s A n c z ∧ RdZ W W.heap.size s' A' n' c' d from fun W hb => ⟨(h.next hB).next hb, (h'.next hB).next hb⟩)
 have HCE := Lib.hid (show ∀ W : World, Below W1.heap.size W1 W → (W.cell? ⟨w.heap.size, 0, none⟩ = some (.bool s) ∧ W.cell? ⟨w.heap.size, 1, none⟩ = some (.slice A n c) ∧ W.cell? ⟨w.heap.size, 2, none⟩ = some (.bool s') ∧ W.cell? ⟨w.heap.size, 3, none⟩ = some (.slice A' n' c')) from fun W hb => ⟨(hX.next hb).c0, (hX.next hb).c1, (hX.next hb).c2, (hX.next hb).c3⟩)
 have HD := Lib.hid (Below.refl W1.heap.size W1).drew
 have HB := Lib.hid hB
 have HW1 := Lib.hid HW1
 clear hX hB h h'
 obtain ⟨a0, a1, a2, a3⟩ := HCE.out W1 (Below.refl _ _)
 go_enter Tryz.func52, Tryz.ntmps52
 go_upto_region 1 with fail
 rw [← HW1.out]
 clear HW1
 clear HW1
 go_region_held3 (fun w' => w'.cell? ⟨w.heap.size, 0, none⟩ = some (.bool s) ∧ w'.cell? ⟨w.heap.size, 1, none⟩ = some (.slice A n c) ∧ w'.cell? ⟨w.heap.size, 2, none⟩ = some (.bool s') ∧ w'.cell? ⟨w.heap.size, 3, none⟩ = some (.slice A' n' c'))
  (first | exact HCE.out _ HB3.out | exact HCE.out _ HB2.out | exact HCE.out _ HD.out)
  (first
   | (have hxx := HB2.out; clear hxx; go_at_call 69; refine (rISign_any (HRD.out _ HB2.out).2 hn').mono ?_; rintro _ W3 ⟨k3, rfl, hk3, hb3⟩; have HB3 := Lib.hid (HB2.out.trans (hb3.mono HB2.out.size)))
   | (go_at_call 69; refine (rISign_any (HRD.out _ HD.out).1 hn).mono ?_; rintro _ W2 ⟨k2, rfl, hk2, hb2⟩; have HB2 := Lib.hid (HD.out.trans hb2)))
 clear a0 a1 a2 a3 hb2 hb3
 go_wp2
 go_ret
 exact ⟨_, rfl, Lib.hid (by rw [hk2.out, hk3.out]; exact sign_prod), HB.out.trans (HB3.out.mono HB.out.size)⟩
end Go.Proofs.YtjnklbfhelbjgaaGreat
