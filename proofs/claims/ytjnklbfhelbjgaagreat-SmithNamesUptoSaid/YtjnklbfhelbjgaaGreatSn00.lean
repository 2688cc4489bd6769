/- Results as numbers. -/
import Derived.Test.YtjnklbfhelbjgaaGreatRows
import Derived.WalkKit
import Derived.WalkSpells
import Derived.WalkLawsBesides
import Derived.Lib.Hide
import Derived.Deep.QuietTactic
import Derived.BigQuiet
import Derived.Below
import Derived.Laws.OwnMore
import Derived.Laws.Rows
import Derived.Laws.MakeOwn
import Derived.Deep.AppendLies
import Derived.Deep.Draws
import Derived.LoopTactic
import Derived.OwnWalk
import Derived.Laws.CopyOwn
import Derived.Deep.OwnRows
import Derived.Shelf.Small.Bits
import Derived.Test.YtjnklbfhelbjgaaGreatProg
namespace Go.Proofs.YtjnklbfhelbjgaaGreat
open Go.RowKit Go.IntWalk
theorem ret_i {k : IntKind} {a b : Int} (h : a = b) : Ending.returned (.int k a) = .returned (.int k b) := by rw [h]
theorem int_i {k : IntKind} {a b : Int} (h : a = b) : Value.int k a = .int k b := by rw [h]
def RetZD (z : Int) (w : World) (e : Ending) (w' : World) : Prop := ∃ v : Int, e = .returned (.int .i64 v) ∧ Hid (v = z) ∧ ∃ j, w' = w.drewN j
end Go.Proofs.YtjnklbfhelbjgaaGreat

/- Numbers as digits in the base 2^32, the lowest first. Nothing of the program. -/
namespace Dg
def vf (f : Nat → Nat) : Nat → Nat
 | 0 => 0
 | i + 1 => vf f i + f i * 4294967296 ^ i
def ld (L : List Nat) (i : Nat) : Nat := L.getD i 0
def val : List Nat → Nat
 | [] => 0
 | x :: L => x + 4294967296 * val L
def Wd (L : List Nat) : Prop := ∀ x ∈ L, x < 4294967296
def Nm (L : List Nat) : Prop := ∀ h : L ≠ [], L.getLast h ≠ 0
theorem ld_nil (i : Nat) : ld [] i = 0 := by simp [ld]
theorem ld_lt {L : List Nat} {i : Nat} (h : i < L.length) : ld L i = L[i] := by simp [ld, h]
theorem ld_ge {L : List Nat} {i : Nat} (h : L.length ≤ i) : ld L i = 0 := by simp [ld, h]
theorem ld_cons_zero (x : Nat) (L : List Nat) : ld (x :: L) 0 = x := rfl
theorem ld_cons_succ (x : Nat) (L : List Nat) (i : Nat) : ld (x :: L) (i + 1) = ld L i := by simp [ld]
theorem ld_word {L : List Nat} (h : Wd L) (i : Nat) : ld L i < 4294967296 := by
 by_cases hi : i < L.length
 ·rw [ld_lt hi]; exact h _ (List.getElem_mem hi)
 ·rw [ld_ge (by omega)]; omega
theorem get_of_ld {L : List Nat} {i : Nat} (h : i < L.length) : L[i]? = some (ld L i) := by rw [ld_lt h, List.getElem?_eq_getElem h]
theorem ld_set_same {L : List Nat} {k : Nat} (s : Nat) (h : k < L.length) : ld (L.set k s) k = s := by
 rw [ld_lt (by simpa using h)]; simp
theorem ld_set_other {L : List Nat} {k i : Nat} (s : Nat) (h : i ≠ k) : ld (L.set k s) i = ld L i := by
 simp only [ld, List.getD_eq_getElem?_getD]
 rw [List.getElem?_set_ne (by omega)]
theorem ld_replicate (n i : Nat) : ld (List.replicate n 0) i = 0 := by
 simp only [ld, List.getD_eq_getElem?_getD, List.getElem?_replicate]
 split <;> rfl
theorem vf_congr {f g : Nat → Nat} : ∀ {i : Nat}, (∀ j, j < i → f j = g j) → vf f i = vf g i
 | 0, _ => rfl
 | i + 1, h => by rw [vf, vf, vf_congr (fun j hj => h j (by omega)), h i (by omega)]
theorem vf_set {L : List Nat} {k i : Nat} (s : Nat) (h : i ≤ k) : vf (ld (L.set k s)) i = vf (ld L) i := vf_congr fun j hj => ld_set_other s (by omega)
theorem vf_succ (f : Nat → Nat) (i : Nat) : vf f (i + 1) = vf f i + f i * 4294967296 ^ i := rfl
theorem vf_shift (f : Nat → Nat) : ∀ i, vf f (i + 1) = f 0 + 4294967296 * vf (fun j => f (j + 1)) i
 | 0 => by simp [vf]
 | i + 1 => by
   rw [vf_succ f (i + 1), vf_shift f i, vf_succ _ i, Nat.pow_succ]
   grind
theorem vf_eq_val {L : List Nat} : ∀ {n : Nat}, L.length ≤ n → vf (ld L) n = val L := by
 induction L with
 | nil =>
   intro n _
   rw [vf_congr (g := fun _ => 0) (fun j _ => ld_nil j)]
   induction n with
   | zero => rfl
   | succ n ih => rw [vf_succ, ih (by simp)]; simp [val]
 | cons x L ih =>
   intro n hn
   obtain ⟨m, rfl⟩ : ∃ m, n = m + 1 := ⟨n - 1, by simp at hn; omega⟩
   rw [vf_shift, ld_cons_zero, vf_congr (g := ld L) (fun j _ => ld_cons_succ x L j), ih (by simpa using hn)]
   rfl
theorem vf_lt {f : Nat → Nat} (h : ∀ j, f j < 4294967296) : ∀ i, vf f i < 4294967296 ^ i
 | 0 => by simp [vf]
 | i + 1 => by
   have h1 := vf_lt h i
   have h2 := h i
   rw [vf_succ, Nat.pow_succ]
   have h3 : f i * 4294967296 ^ i + 4294967296 ^ i ≤ 4294967296 ^ i * 4294967296 := by
    have := Nat.mul_le_mul_right (4294967296 ^ i) (show f i + 1 ≤ 4294967296 by omega)
    grind
   omega
theorem val_lt {L : List Nat} (h : Wd L) : val L < 4294967296 ^ L.length := by
 rw [← vf_eq_val (Nat.le_refl _)]; exact vf_lt (ld_word h) _
theorem val_append (L M : List Nat) : val (L ++ M) = val L + 4294967296 ^ L.length * val M := by
 induction L with
 | nil => simp [val]
 | cons x L ih => simp only [List.cons_append, val, ih, List.length_cons, Nat.pow_succ]; grind
theorem Wd.nil : Wd [] := fun _ h => by simp at h
theorem Wd.cons {x : Nat} {L : List Nat} (hx : x < 4294967296) (h : Wd L) : Wd (x :: L) := fun y hy => by
 rcases List.mem_cons.1 hy with rfl | hy
 ·exact hx
 ·exact h y hy
theorem Wd.set {L : List Nat} (h : Wd L) (k : Nat) {s : Nat} (hs : s < 4294967296) : Wd (L.set k s) := fun y hy => by
 rcases List.mem_or_eq_of_mem_set hy with hy | rfl
 ·exact h y hy
 ·exact hs
theorem Wd.take {L : List Nat} (h : Wd L) (k : Nat) : Wd (L.take k) := fun y hy => h y (List.mem_of_mem_take hy)
theorem Wd.zeros (n : Nat) : Wd (List.replicate n 0) := fun y hy => by rw [List.eq_of_mem_replicate hy]; omega
theorem Wd.of_get {L : List Nat} (h : Wd L) {i x : Nat} (hx : L[i]? = some x) : x < 4294967296 := h x (List.mem_of_getElem? hx)
def dg (n : Nat) : List Nat := if h : n = 0 then [] else n % 4294967296 :: dg (n / 4294967296)
termination_by n
decreasing_by exact Nat.div_lt_self (by omega) (by omega)
theorem dg_zero : dg 0 = [] := by rw [dg]; rfl
theorem dg_pos {n : Nat} (h : n ≠ 0) : dg n = n % 4294967296 :: dg (n / 4294967296) := by rw [dg, dif_neg h]
theorem val_dg (n : Nat) : val (dg n) = n := by
 induction n using Nat.strongRecOn with
 | _ n ih =>
   by_cases h : n = 0
   ·rw [h, dg_zero]; rfl
   ·rw [dg_pos h, val, ih _ (Nat.div_lt_self (by omega) (by omega))]; omega
theorem dg_wd (n : Nat) : Wd (dg n) := by
 induction n using Nat.strongRecOn with
 | _ n ih =>
   by_cases h : n = 0
   ·rw [h, dg_zero]; exact Wd.nil
   ·rw [dg_pos h]; exact Wd.cons (Nat.mod_lt _ (by omega)) (ih _ (Nat.div_lt_self (by omega) (by omega)))
theorem dg_nil {n : Nat} : dg n = [] ↔ n = 0 := by
 constructor
 ·intro h; rw [← val_dg n, h]; rfl
 ·rintro rfl; exact dg_zero
theorem dg_val_cons {x v : Nat} (hx : x < 4294967296) (h : x + 4294967296 * v ≠ 0) : dg (x + 4294967296 * v) = x :: dg v := by
 rw [dg_pos h]; congr 1
 ·omega
 ·congr 1; omega
theorem eq_dg : ∀ {L : List Nat}, Wd L → Nm L → L = dg (val L)
 | [], _, _ => by rw [val, dg_zero]
 | x :: L, hw, hn => by
   have hx : x < 4294967296 := hw x (by simp)
   have hL : Wd L := fun y hy => hw y (by simp [hy])
   have hnL : Nm L := fun h => by have := hn (by simp); rwa [List.getLast_cons h] at this
   have ih := eq_dg hL hnL
   have h0 : x + 4294967296 * val L ≠ 0 := by
    intro h
    have hx0 : x = 0 := by omega
    have hv : val L = 0 := by omega
    have hLn : L = [] := by rw [ih, hv, dg_zero]
    subst hLn
    exact hn (by simp) (by simpa using hx0)
   rw [val, dg_val_cons hx h0, ← ih]
theorem dg_nm (n : Nat) : Nm (dg n) := by
 induction n using Nat.strongRecOn with
 | _ n ih =>
   by_cases h : n = 0
   ·rw [h, dg_zero]; exact fun h => absurd rfl h
   ·intro hne
    have hlt := Nat.div_lt_self (show 0 < n by omega) (show 1 < 4294967296 by omega)
    have ihd := ih _ hlt
    have e := dg_pos h
    by_cases h0 : n / 4294967296 = 0
    ·have e2 : dg n = [n % 4294967296] := by rw [e, h0, dg_zero]
     simp only [e2, List.getLast_singleton]
     omega
    ·have hd : dg (n / 4294967296) ≠ [] := fun hh => h0 (dg_nil.1 hh)
     simp only [e, List.getLast_cons hd]
     exact ihd hd
theorem val_take {L : List Nat} {n : Nat} (h : ∀ i, n ≤ i → ld L i = 0) : val (L.take n) = val L := by
 rw [← vf_eq_val (L := L.take n) (n := n) (by simp; omega), ← vf_eq_val (L := L) (n := max n L.length) (by omega)]
 have hk : ∀ k, vf (ld L) (n + k) = vf (ld L) n := by
  intro k
  induction k with
  | zero => rfl
  | succ k ih => rw [← Nat.add_assoc, vf_succ, ih, h _ (by omega)]; simp
 have h1 := hk (max n L.length - n)
 rw [show n + (max n L.length - n) = max n L.length by omega] at h1
 rw [h1]
 refine vf_congr fun j hj => ?_
 by_cases hl : j < L.length
 ·rw [ld_lt (by simp; omega), ld_lt hl]; simp
 ·rw [ld_ge (by simp; omega), ld_ge (by omega)]
theorem dg_len_lt {n k : Nat} : (dg n).length ≤ k ↔ n < 4294967296 ^ k := by
 constructor
 ·intro h
  have := val_lt (dg_wd n)
  rw [val_dg] at this
  exact Nat.lt_of_lt_of_le this (Nat.pow_le_pow_right (by omega) h)
 ·intro h
  induction k generalizing n with
  | zero => have : n = 0 := by simpa using h
            subst this; simp [dg_zero]
  | succ k ih =>
    by_cases h0 : n = 0
    ·subst h0; simp [dg_zero]
    ·rw [dg_pos h0, List.length_cons]
     have : n / 4294967296 < 4294967296 ^ k := by
      rw [Nat.div_lt_iff_lt_mul (by omega), ← Nat.pow_succ]; exact h
     have := ih this
     omega
theorem dg_len_ge {n k : Nat} : k < (dg n).length ↔ 4294967296 ^ k ≤ n := by
 rw [← Nat.not_le, dg_len_lt, Nat.not_lt]
end Dg
namespace Dg
def cmp (a b : Nat) : Int := if a < b then -1 else if a = b then 0 else 1
theorem cmp_lt {a b : Nat} (h : a < b) : cmp a b = -1 := by simp [cmp, h]
theorem cmp_eq {a b : Nat} (h : a = b) : cmp a b = 0 := by simp [cmp, h]
theorem cmp_gt {a b : Nat} (h : b < a) : cmp a b = 1 := by unfold cmp; rw [if_neg (by omega), if_neg (by omega)]
theorem vf_tail {f g : Nat → Nat} {t : Nat} (h : ∀ x, t < x → f x = g x) : ∀ d, vf f (t + 1 + d) + vf g (t + 1) = vf g (t + 1 + d) + vf f (t + 1)
 | 0 => by simp; omega
 | d + 1 => by
   have ih := vf_tail h d
   rw [← Nat.add_assoc, vf_succ f (t + 1 + d), vf_succ g (t + 1 + d), h _ (by omega)]
   omega
theorem lt_of_top {L M : List Nat} {t : Nat} (hL : Wd L) (h : ∀ x, t < x → ld L x = ld M x) (ht : ld L t < ld M t) : val L < val M := by
 have e1 := vf_eq_val (L := L) (n := t + 1 + (L.length + M.length)) (by omega)
 have e2 := vf_eq_val (L := M) (n := t + 1 + (L.length + M.length)) (by omega)
 have h1 := vf_tail h (L.length + M.length)
 rw [e1, e2, vf_succ, vf_succ] at h1
 have h2 := vf_lt (ld_word hL) t
 have h3 := Nat.mul_le_mul_right (4294967296 ^ t) (show ld L t + 1 ≤ ld M t by omega)
 rw [Nat.add_mul] at h3
 omega
theorem eq_of_ld {L M : List Nat} (h : ∀ x, ld L x = ld M x) : val L = val M := by
 rw [← vf_eq_val (L := L) (n := L.length + M.length) (by omega), ← vf_eq_val (L := M) (n := L.length + M.length) (by omega)]
 exact vf_congr fun j _ => h j
theorem lt_of_len {a b : Nat} (h : (dg a).length < (dg b).length) : a < b := by
 have h1 := dg_len_ge.1 h
 have h2 := (dg_len_lt (n := a) (k := (dg a).length)).1 (Nat.le_refl _)
 omega
theorem val_two (n : Nat) : val [n % 4294967296, n / 4294967296] = n := by simp [val]; omega
end Dg
namespace Dg
theorem val_drop {L : List Nat} {t : Nat} (h : t < L.length) : val (L.drop t) = ld L t + 4294967296 * val (L.drop (t + 1)) := by
 rw [List.drop_eq_getElem_cons h, val, ld_lt h]
theorem drop_set {L : List Nat} {t k : Nat} (s : Nat) (h : t < k) : (L.set t s).drop k = L.drop k := by
 rw [List.drop_set]; rw [if_pos h]
theorem short_step {L O : List Nat} {t b r q : Nat} (hL : t < L.length) (hO : t < O.length) (hI : val (O.drop (t + 1)) * b + r = val (L.drop (t + 1)))
  (hq : q = (r * 4294967296 + ld L t) / b) : val ((O.set t q).drop t) * b + (r * 4294967296 + ld L t) % b = val (L.drop t) := by
 rw [val_drop hL, val_drop (by simpa using hO), ld_set_same q hO, drop_set q (Nat.lt_succ_self t), ← hI, hq]
 have h := Nat.div_add_mod (r * 4294967296 + ld L t) b
 grind
theorem short_lt {b r a : Nat} (hr : r < b) (ha : a < 4294967296) : (r * 4294967296 + a) / b < 4294967296 := by
 rw [Nat.div_lt_iff_lt_mul (by omega)]
 have := Nat.mul_le_mul_right 4294967296 (show r + 1 ≤ b by omega)
 rw [Nat.mul_comm b] at this
 omega
end Dg
namespace Dg
theorem vf_digits (N : Nat) : ∀ i, vf (fun j => N / 4294967296 ^ j % 4294967296) i = N % 4294967296 ^ i
 | 0 => by simp [vf, Nat.mod_one]
 | i + 1 => by rw [vf_succ, vf_digits N i, Nat.pow_succ, Nat.mod_mul, Nat.mul_comm (N / 4294967296 ^ i % 4294967296)]
theorem val_div {L : List Nat} (hw : Wd L) {i : Nat} (h : i ≤ L.length) : val L / 4294967296 ^ i = val (L.drop i) := by
 have e : val L = val (L.take i) + 4294967296 ^ i * val (L.drop i) := by
  have := val_append (L.take i) (L.drop i)
  rwa [List.take_append_drop, List.length_take, Nat.min_eq_left h] at this
 have hl : val (L.take i) < 4294967296 ^ i := by
  have := val_lt (hw.take i)
  rwa [List.length_take, Nat.min_eq_left h] at this
 rw [e, Nat.add_mul_div_left _ _ (Nat.pow_pos (by omega)), Nat.div_eq_of_lt hl, Nat.zero_add]
theorem right_dig {L : List Nat} (hw : Wd L) {i s : Nat} (h : i < L.length) (hs : 2 ^ s ∣ 4294967296) :
  (ld L i + 4294967296 * ld L (i + 1)) / 2 ^ s % 4294967296 = val L / 2 ^ s / 4294967296 ^ i % 4294967296 := by
 obtain ⟨f, hf⟩ := hs
 rw [Nat.div_div_eq_div_mul, Nat.mul_comm (2 ^ s), ← Nat.div_div_eq_div_mul, val_div hw (Nat.le_of_lt h), val_drop h]
 have h2 : ∃ Z, val (L.drop (i + 1)) = ld L (i + 1) + 4294967296 * Z := by
  by_cases h1 : i + 1 < L.length
  ·exact ⟨_, val_drop h1⟩
  ·rw [ld_ge (by omega), List.drop_eq_nil_of_le (by omega)]
   exact ⟨0, rfl⟩
 obtain ⟨Z, hZ⟩ := h2
 rw [hZ, show ld L i + 4294967296 * (ld L (i + 1) + 4294967296 * Z) = (ld L i + 4294967296 * ld L (i + 1)) + 2 ^ s * (f * (4294967296 * Z)) by
  rw [← Nat.mul_assoc (2 ^ s), ← hf]; grind]
 rw [Nat.add_mul_div_left _ _ (Nat.two_pow_pos s), show f * (4294967296 * Z) = 4294967296 * (f * Z) by grind, Nat.add_mul_mod_self_left]
theorem right_val {L O : List Nat} (hw : Wd L) {s k : Nat} (hk : L.length = k) (hO : O.length = k) (h : ∀ x, x < k → ld O x = val L / 2 ^ s / 4294967296 ^ x % 4294967296) : val O = val L / 2 ^ s := by
 rw [← vf_eq_val (L := O) (n := k) (by omega), vf_congr h, vf_digits]
 refine Nat.mod_eq_of_lt (Nat.lt_of_le_of_lt (Nat.div_le_self _ _) ?_)
 have := val_lt hw
 rwa [hk] at this
end Dg
namespace Dg
end Dg

/- Rows of words in memory: what is read, what was made. -/
namespace Go.Proofs.YtjnklbfhelbjgaaGreat
open Go.RowKit Go.IntWalk
def uc (L : List Nat) : List Value := L.map fun x : Nat => Value.int .u32 x
theorem uc_len (L : List Nat) : (uc L).length = L.length := by simp [uc]
theorem uc_at {L : List Nat} {j u : Nat} (h : L[j]? = some u) : (uc L)[j]? = some (.int .u32 u) := by simp [uc, h]
theorem uc_set (L : List Nat) (k u : Nat) : uc (L.set k u) = (uc L).set k (.int .u32 u) := by simp [uc, List.map_set]
theorem add_blk (a : Addr) (n : Nat) : (a.add n).block = a.block := by unfold Addr.add; split <;> rfl
theorem some_lt {L : List Nat} {j u : Nat} (h : L[j]? = some u) : j < L.length := by
 rcases Nat.lt_or_ge j L.length with h1 | h1
 ·exact h1
 ·rw [List.getElem?_eq_none h1] at h; cases h
structure RdU (w : World) (B : Nat) (A : Option Addr) (n c : Nat) (L : List Nat) : Prop where
 len : L.length = n
 le : n ≤ c
 mx : c ≤ maxLen
 at_ : ∀ (j u : Nat), L[j]? = some u → u < 4294967296 ∧ ∃ ad, A = some ad ∧ ad.block < B ∧ w.cell? (ad.add j) = some (.int .u32 u)
theorem RdU.below {w w' : World} {B : Nat} {A : Option Addr} {n c : Nat} {L : List Nat} (h : RdU w B A n c L) (hb : Below B w w') : RdU w' B A n c L :=
 ⟨h.len, h.le, h.mx, fun j u hu => by
  obtain ⟨h1, ad, e, hB, hc⟩ := h.at_ j u hu
  exact ⟨h1, ad, e, hB, (hb.cell (p := ad.add j) (by rw [add_blk]; exact hB)).trans hc⟩⟩
theorem RdU.more {w : World} {B B' : Nat} {A : Option Addr} {n c : Nat} {L : List Nat} (h : RdU w B A n c L) (hB : B ≤ B') : RdU w B' A n c L :=
 ⟨h.len, h.le, h.mx, fun j u hu => by
  obtain ⟨h1, ad, e, hb, hc⟩ := h.at_ j u hu
  exact ⟨h1, ad, e, by omega, hc⟩⟩
theorem RdU.next {w w' : World} {A : Option Addr} {n c : Nat} {L : List Nat} (h : RdU w w.heap.size A n c L) (hb : Below w.heap.size w w') : RdU w' w'.heap.size A n c L := (h.below hb).more hb.size
theorem RdU.nil (w : World) (B c : Nat) (A : Option Addr) (hc : c ≤ maxLen) : RdU w B A 0 c [] := ⟨rfl, Nat.zero_le _, hc, fun j u h => by simp at h⟩
theorem RdU.wd {w : World} {B : Nat} {A : Option Addr} {n c : Nat} {L : List Nat} (h : RdU w B A n c L) : Dg.Wd L := fun x hx => by
 obtain ⟨j, hj⟩ := List.getElem?_of_mem hx
 exact (h.at_ j x hj).1
theorem RdU.take {w : World} {B : Nat} {A : Option Addr} {n c : Nat} {L : List Nat} (h : RdU w B A n c L) {k : Nat} (hk : k ≤ n) : RdU w B A k c (L.take k) :=
 ⟨by rw [List.length_take, h.len]; omega, Nat.le_trans hk h.le, h.mx, fun j u hu => by
  have hj := some_lt hu
  simp only [List.length_take] at hj
  rw [List.getElem?_take_of_lt (by omega)] at hu
  exact h.at_ j u hu⟩
theorem RdU.src {w : World} {B : Nat} {A : Option Addr} {n c : Nat} {L : List Nat} (h : RdU w B A n c L) (p : Addr) :
  0 < (uc L).length → some p = some p ∧ ∃ ad, A = some ad ∧ ∀ (j : Nat) v, (uc L)[j]? = some v → w.cell? (ad.add j) = some v := by
 intro h0
 rw [uc_len] at h0
 obtain ⟨_, ad, e, _, _⟩ := h.at_ 0 (Dg.ld L 0) (Dg.get_of_ld h0)
 refine ⟨rfl, ad, e, fun j v hv => ?_⟩
 have hj : j < L.length := by
  rw [← uc_len]
  rcases Nat.lt_or_ge j (uc L).length with h1 | h1
  ·exact h1
  ·rw [List.getElem?_eq_none h1] at hv; cases hv
 obtain ⟨_, ad', e', _, hc⟩ := h.at_ j _ (Dg.get_of_ld hj)
 rw [e] at e'
 injection e' with e'
 subst e'
 rw [uc_at (Dg.get_of_ld hj)] at hv
 injection hv with hv
 rw [← hv]
 exact hc
structure OwU (w : World) (b : Nat) (A : Option Addr) (n c : Nat) (L : List Nat) : Prop where
 own : w.ownsRow b 171 1 (.slice A n c) n (uc L)
 wd : Dg.Wd L
theorem OwU.len {w : World} {b : Nat} {A : Option Addr} {n c : Nat} {L : List Nat} (h : OwU w b A n c L) : L.length = n := by
 have := h.own.1
 rw [uc_len] at this
 omega
theorem OwU.form {w : World} {b : Nat} {A : Option Addr} {n c : Nat} {L : List Nat} (h : OwU w b A n c L) :
  (A = none ∧ n = 0 ∧ c = 0 ∧ L = []) ∨ ∃ g, A = some ⟨g, 0, none⟩ ∧ b ≤ g ∧ g < w.heap.size ∧ n ≤ c ∧ c ≤ maxLen := by
 rcases h.own.2 with ⟨h1, h2⟩ | ⟨g, cap, cur, h1, h2, h3, h4, h5, _⟩
 ·injection h1 with h1 h1' h1''
  exact .inl ⟨h1, h2, h1'', List.eq_nil_of_length_eq_zero (by rw [h.len, h2])⟩
 ·injection h1 with h1 h1' h1''
  subst h1''
  exact .inr ⟨g, h1, h2, (Array.getElem?_eq_some_iff.1 h3).1, h4, h5⟩
theorem OwU.rd {w : World} {b : Nat} {A : Option Addr} {n c : Nat} {L : List Nat} (h : OwU w b A n c L) : RdU w w.heap.size A n c L := by
 rcases h.form with ⟨rfl, rfl, rfl, rfl⟩ | ⟨g, rfl, h1, h2, h3, h4⟩
 ·exact RdU.nil w _ 0 none (Nat.zero_le _)
 ·refine ⟨h.len, h3, h4, fun j u hu => ⟨h.wd.of_get hu, _, rfl, h2, ?_⟩⟩
  have hj := some_lt hu
  rw [h.len] at hj
  have e : (⟨g, 0, none⟩ : Addr).add j = ⟨g, j, none⟩ := by unfold Addr.add; by_cases h : j = 0 <;> simp [h]
  rw [e, h.own.cellAt j (by omega)]
  exact uc_at hu
theorem OwU.kept {w w' : World} {b B : Nat} {A : Option Addr} {n c : Nat} {L : List Nat} (h : OwU w b A n c L) (hb : Below B w w') (hB : ∀ g, A = some ⟨g, 0, none⟩ → g < B) : OwU w' b A n c L := by
 refine ⟨⟨h.own.1, ?_⟩, h.wd⟩
 rcases h.own.2 with h0 | ⟨g, cap, cur, h1, h2, h3, h4⟩
 ·exact .inl h0
 ·have hA : A = some ⟨g, 0, none⟩ := by injection h1
  exact .inr ⟨g, cap, cur, h1, h2, (hb.block g (hB g hA)).trans h3, h4⟩
theorem OwU.next {w w' : World} {b : Nat} {A : Option Addr} {n c : Nat} {L : List Nat} (h : OwU w b A n c L) (hb : Below w.heap.size w w') : OwU w' b A n c L :=
 h.kept hb fun g e => by
  rcases h.form with ⟨h1, _⟩ | ⟨g', h1, _, h2, _⟩
  ·rw [h1] at e; cases e
  ·rw [h1] at e; injection e with e; injection e with e _; omega
theorem OwU.base {w : World} {b b' : Nat} {A : Option Addr} {n c : Nat} {L : List Nat} (h : OwU w b A n c L) (hb : b' ≤ b) : OwU w b' A n c L := by
 refine ⟨⟨h.own.1, ?_⟩, h.wd⟩
 rcases h.own.2 with h0 | ⟨g, cap, cur, h1, h2, h3⟩
 ·exact .inl h0
 ·exact .inr ⟨g, cap, cur, h1, by omega, h3⟩
theorem OwU.nil (w : World) (b : Nat) : OwU w b none 0 0 [] := ⟨World.ownsRow_nil _ _ _ _, Dg.Wd.nil⟩
def UB (w : World) (g : Nat) (L : List Nat) : Prop := w.heap[g]? = some (.cells (uc L).toArray 171 (0, 0))
theorem UB.raw {w : World} {g : Nat} {L : List Nat} (h : UB w g L) : w.heap[g]? = some (.cells (uc L).toArray 171 (0, 0)) := h
theorem UB.lt {w : World} {g : Nat} {L : List Nat} (h : UB w g L) : g < w.heap.size := (Array.getElem?_eq_some_iff.1 h).1
theorem UB.cell {w : World} {g : Nat} {L : List Nat} (h : UB w g L) {j u : Nat} (hu : L[j]? = some u) : w.cell? ⟨g, j, none⟩ = some (.int .u32 u) := by
 rw [cell_of_row w g j _ _ _ h]
 simp [uc, hu]
theorem UB.frozen {w : World} {g : Nat} {L : List Nat} (h : UB w g L) (j : Nat) : w.frozen? ⟨g, j, none⟩ = false := frozen_of_row w g j _ _ h
theorem UB.set {w : World} {g : Nat} {L : List Nat} (h : UB w g L) (k u : Nat) : UB (w.setCell ⟨g, k, none⟩ (.int .u32 u)) g (L.set k u) := by
 unfold UB at h ⊢
 rw [uc_set]
 simp [World.setCell, Array.getElem?_modify, h]
theorem UB.alloc {w : World} {g : Nat} {L : List Nat} (h : UB w g L) (o : Obj) : UB (w.alloc o) g L := (Below.heap_alloc w o g h.lt).trans h
theorem UB.far {w : World} {g : Nat} {L : List Nat} (h : UB w g L) {p : Addr} (hp : g ≠ p.block) (u : Value) : UB (w.setCell p u) g L := (Below.heap_setCell w p u g hp).trans h
theorem UB.below {w w' : World} {g B : Nat} {L : List Nat} (h : UB w g L) (hb : Below B w w') (hg : g < B) : UB w' g L := (hb.block g hg).trans h
theorem UB.drewN {w : World} {g : Nat} {L : List Nat} (h : UB w g L) (n : Nat) : UB (w.drewN n) g L := h
theorem UB.own {w : World} {g b : Nat} {L : List Nat} (h : UB w g L) (hw : Dg.Wd L) (hb : b ≤ g) {k : Nat} (hk : k ≤ L.length) (hm : L.length ≤ maxLen) : OwU w b (some ⟨g, 0, none⟩) k L.length (L.take k) := by
 refine ⟨⟨?_, .inr ⟨g, L.length, _, rfl, hb, h, hk, hm, ?_, ?_⟩⟩, hw.take k⟩
 ·rw [uc_len, List.length_take]; omega
 ·simp [uc]
 ·simp [uc]
theorem UB.rd {w : World} {g B : Nat} {L : List Nat} (h : UB w g L) (hw : Dg.Wd L) (hB : g < B) {k : Nat} (hk : k ≤ L.length) (hm : L.length ≤ maxLen) : RdU w B (some ⟨g, 0, none⟩) k L.length (L.take k) := by
 refine ⟨by rw [List.length_take]; omega, hk, hm, fun j u hu => ?_⟩
 have hj := some_lt hu
 simp only [List.length_take] at hj
 rw [List.getElem?_take_of_lt (by omega)] at hu
 have e : (⟨g, 0, none⟩ : Addr).add j = ⟨g, j, none⟩ := by unfold Addr.add; by_cases h : j = 0 <;> simp [h]
 exact ⟨hw.of_get hu, _, rfl, hB, by rw [e]; exact h.cell hu⟩
end Go.Proofs.YtjnklbfhelbjgaaGreat

/- nat: without noughts, in memory of its own, compared. -/
namespace Go.Proofs.YtjnklbfhelbjgaaGreat
open Go.RowKit Go.IntWalk
def slLen : Value → Nat
 | .slice _ n _ => n
 | _ => 0
def RetTr (A : Option Addr) (c : Nat) (L : List Nat) (w : World) (e : Ending) (w' : World) : Prop :=
 ∃ k : Nat, e = .returned (.slice A k c) ∧ Hid (k ≤ L.length ∧ L.take k = Dg.dg (Dg.val L)) ∧ w = w'
theorem tr_done {L : List Nat} {k : Nat} (hw : Dg.Wd L) (hk : k ≤ L.length) (h0 : ∀ i, k ≤ i → Dg.ld L i = 0) (h : k = 0 ∨ Dg.ld L (k - 1) ≠ 0) : k ≤ L.length ∧ L.take k = Dg.dg (Dg.val L) := by
 refine ⟨hk, ?_⟩
 rw [← Dg.val_take h0]
 refine Dg.eq_dg (hw.take k) fun hne => ?_
 have hk0 : k ≠ 0 := by rintro rfl; simp at hne
 have hl := h.resolve_left hk0
 rw [List.getLast_eq_getElem]
 simp only [List.length_take, Nat.min_eq_left hk, List.getElem_take]
 rwa [Dg.ld_lt (by omega)] at hl
set_option maxHeartbeats 1000000 in
theorem trim_any {B : Nat} {A : Option Addr} {n c : Nat} {L : List Nat} {w : World} (h : RdU w B A n c L) (hn : n ≤ 281474976710656) :
  Calls Tryz.prog 139 #[.slice A n c] w (RetTr A c L w) := by
 have hw := h.wd
 have hlen := Lib.hid h.len
 have hle := h.le
 have hmx := h.mx
 go_enter Tryz.func139, Tryz.ntmps139
 go_wp2
 go_loop [0] (fun a => ∃ k : Nat, k ≤ n ∧ a = .slice A k c ∧ Hid (∀ i, k ≤ i → Dg.ld L i = 0)) (fun a => slLen a)
 case atStart => exact ⟨n, Nat.le_refl _, rfl, Lib.hid fun i hi => Dg.ld_ge (by rw [hlen.out]; exact hi)⟩
 case round =>
  obtain ⟨k, hk, rfl, h0⟩ := hrel
  rcases Nat.eq_zero_or_pos k with hk0 | hk0
  ·subst hk0
   go_wp2
   go_ret
   exact ⟨0, rfl, Lib.hid (tr_done hw (by omega) h0.out (.inl rfl)), rfl⟩
  ·obtain ⟨j, rfl⟩ : ∃ j, k = j + 1 := ⟨k - 1, by omega⟩
   obtain ⟨hx, ad, rfl, hb, hc⟩ := h.at_ j (Dg.ld L j) (Dg.get_of_ld (by rw [hlen.out]; omega))
   have hi := hk
   by_cases hz : Dg.ld L j = 0
   ·have hc0 : w.cell? (ad.add j) = some (.int .u32 0) := by rw [hc, hz]; rfl
    have HZ := Lib.hid hz
    clear hz hc
    go_wp2
    go_round
    case rel => exact ⟨j, by omega, rfl, Lib.hid fun i hi => by
     rcases Nat.lt_or_ge j i with h1 | h1
     ·exact h0.out i h1
     ·rw [show i = j by omega]; exact HZ.out⟩
    case measure => simp [slLen]
   ·have hz' : ((Dg.ld L j : Int) == 0) = false := by simpa using hz
    have HZ := Lib.hid hz
    clear hz
    go_wp2
    go_ret
    exact ⟨j + 1, rfl, Lib.hid (tr_done hw (by rw [hlen.out]; exact hi) h0.out (.inr HZ.out)), rfl⟩
theorem infoW : (Tryz.prog.info? 171).map (fun i => (i.zero, i.size, i.bytes)) = some (some (.int .u32 0), 1, 4) := by kernel_rfl
theorem infoW1 : (Tryz.prog.info? 171).map (·.size) = some 1 := by kernel_rfl
theorem uc_zeros (n : Nat) : (uc (List.replicate n 0)).toArray = madeCells #[.int .u32 0] n := by
 unfold madeCells uc
 rw [List.map_replicate]
 apply Array.ext
 ·simp
 ·intro i h1 h2
  simp [Nat.mod_one]
theorem UB.made (w : World) (n : Nat) : UB (w.alloc (.cells (madeCells #[.int .u32 0] n) 171)) w.heap.size (List.replicate n 0) := by
 unfold UB
 rw [uc_zeros]
 exact heap_alloc_new w _
theorem uc_one (L : List Nat) : ∀ v ∈ uc L, v.oneCell' = true := by
 intro v hv
 obtain ⟨x, _, rfl⟩ := List.mem_map.1 hv
 rfl
theorem make_nat (n : Nat) (hn : n ≤ 17592186044416) (w : World) :
  (Instr.makeSlice 23 (.int .i64 (n : Int)) (.int .i64 (n : Int))).run Tryz.prog w = .ok (.slice (some ⟨w.heap.size, 0, none⟩) n n) (w.alloc (.cells (madeCells #[.int .u32 0] n) 171)) :=
 run_make_row' 23 171 (.int .u32 0) 4 Tryz.underlying23 infoW rfl .i64 .i64 n (by omega) (by omega) w
def RetN (n : Nat) (w : World) (e : Ending) (w' : World) : Prop :=
 ∃ (A : Option Addr) (m c x : Nat), e = .returned (.slice A m c) ∧ OwU w' w.heap.size A m c (Dg.dg x) ∧ Hid (x = n) ∧ Below w.heap.size w w'
set_option maxRecDepth 100000 in
set_option maxHeartbeats 1000000 in
theorem own_any {A : Option Addr} {n c : Nat} {L : List Nat} {w : World} (h : RdU w w.heap.size A n c L) (hn : n ≤ 17592186044416) :
  Calls Tryz.prog 193 #[.slice A n c] w (RetN (Dg.val L) w) := by
 have hlen := Lib.hid h.len
 go_enter Tryz.func193, Tryz.ntmps193
 go_wp2_with fail
 refine (trim_any h (by omega)).mono ?_
 rintro _ _ ⟨k, rfl, hk, rfl⟩
 have hkn : k ≤ n := by have := hk.out.1; rw [hlen.out] at this; exact this
 rcases Nat.eq_zero_or_pos k with hk0 | hk0
 ·subst hk0
  have hz : Dg.val L = 0 := by have := hk.out.2; rw [List.take_zero] at this; exact Dg.dg_nil.1 this.symm
  have HZ := Lib.hid hz
  clear hz
  go_wp2
  go_ret
  exact ⟨none, 0, 0, 0, rfl, by rw [Dg.dg_zero]; exact OwU.nil w _, Lib.hid HZ.out.symm, Below.refl _ _⟩
 ·have hmk := make_nat k (by omega)
  have hB0 := (Below.refl w.heap.size w).alloc (Nat.le_refl _) (.cells (madeCells #[.int .u32 0] k) 171)
  have hR := (h.take hkn).below hB0
  have hU := UB.made w k
  have hlk : (L.take k).length = k := by rw [List.length_take, hlen.out]; omega
  have HLK := Lib.hid hlk
  clear hlk
  go_wp2_with (with_reducible refine wpList_copy_splice rfl (.tmp 12) (.tmp 13) _ _ rfl 171 Tryz.underlying23 infoW1 _ _ _ _ _ _ rfl rfl w.heap.size 0 (uc (List.replicate k 0)) 171 hU.raw (uc (L.take k)) ?c1 (hR.src _) ?c2 (uc_one _) w.heap.size w hB0 (Nat.le_refl _) ?_)
  case c1 => rw [uc_len, HLK.out]; simp
  case c2 => rw [uc_len, uc_len, HLK.out]; simp
  intro w2 hg2 hB2
  go_wp2
  go_ret
  have hsp : splice (uc (List.replicate k 0)) 0 (uc (L.take k)) = uc (L.take k) := by
   unfold splice
   rw [List.drop_eq_nil_of_le (by rw [uc_len, uc_len, HLK.out]; simp)]
   simp
  have hU2 : UB w2 w.heap.size (L.take k) := by have := hg2.out; rw [hsp] at this; exact this
  have hO := hU2.own (h.wd.take k) (Nat.le_refl _) (k := k) (by rw [HLK.out]; exact Nat.le_refl k) (by rw [HLK.out]; unfold maxLen; omega)
  rw [HLK.out, List.take_of_length_le (by rw [HLK.out]; exact Nat.le_refl k), hk.out.2] at hO
  exact ⟨_, _, _, _, rfl, hO, Lib.hid rfl, hB2⟩
set_option maxHeartbeats 400000 in
theorem norm_any {A : Option Addr} {n c : Nat} {L : List Nat} {w : World} (h : RdU w w.heap.size A n c L) (hn : n ≤ 17592186044416) :
  Calls Tryz.prog 142 #[.slice A n c] w (RetN (Dg.val L) w) := by
 go_enter Tryz.func142, Tryz.ntmps142
 go_wp2_with fail
 refine (own_any h hn).mono ?_
 rintro _ w1 ⟨A1, m1, c1, x1, rfl, hO, hx, hb⟩
 go_wp2
 go_ret
 exact ⟨_, _, _, _, rfl, hO, hx, hb⟩
end Go.Proofs.YtjnklbfhelbjgaaGreat

/- What a tool of the kit writes of the library's contracts at this program (math/bits.Len32, LeadingZeros32), with names for numbers. -/
namespace Go.Proofs.YtjnklbfhelbjgaaGreat
open Go.Shelf
def lays128_ren : Go.Shelf.Ren := ⟨fun | 128 => 140 | n => n, fun | 51 => 171 | 3 => 3 | 4 => 4 | 46 => 211 | 5 => 5 | 9 => 9 | n => n, fun | n => n⟩
theorem lays128 : Go.Proofs.Lays.n128 Tryz.prog lays128_ren := {
 mixed := by kernel_rfl
 f128 := Tryz.func140.trans (congrArg some (by kernel_rfl))
 t3 := Tryz.underlying3
 a3 := Tryz.isAgg3
 z3 := Tryz.sizeOf3
 v3 := Tryz.zeroValue3
 t4 := Tryz.underlying4
 a4 := Tryz.isAgg4
 z4 := Tryz.sizeOf4
 v4 := Tryz.zeroValue4
 t5 := Tryz.underlying5
 a5 := Tryz.isAgg5
 z5 := Tryz.sizeOf5
 v5 := Tryz.zeroValue5
 t9 := Tryz.underlying9
 a9 := Tryz.isAgg9
 z9 := Tryz.sizeOf9
 v9 := Tryz.zeroValue9
 t46 := Tryz.underlying211
 a46 := Tryz.isAgg211
 z46 := Tryz.sizeOf211
 v46 := Tryz.zeroValue211
 t51 := Tryz.underlying171
 a51 := Tryz.isAgg171
 z51 := Tryz.sizeOf171
 v51 := Tryz.zeroValue171 }
theorem bits_Len32 (x : Int) (w : World) (h0 : 0 ≤ x) (h1 : x ≤ 4294967295) :
  Calls Tryz.prog 140 #[.int .u32 x] w fun e w' => e = .returned (.int .i64 (Lib.bitLen x.toNat)) ∧ w' = w := Any.bits_Len32 lays128 x w h0 h1
def lays133_ren : Go.Shelf.Ren := ⟨fun | 133 => 252 | 128 => 140 | n => n, fun | 51 => 171 | 3 => 3 | 4 => 4 | 46 => 211 | 5 => 5 | 9 => 9 | n => n, fun | n => n⟩
theorem lays133 : Go.Proofs.Lays.n133 Tryz.prog lays133_ren := {
 mixed := by kernel_rfl
 f128 := Tryz.func140.trans (congrArg some (by kernel_rfl))
 f133 := Tryz.func252.trans (congrArg some (by kernel_rfl))
 t3 := Tryz.underlying3
 a3 := Tryz.isAgg3
 z3 := Tryz.sizeOf3
 v3 := Tryz.zeroValue3
 t4 := Tryz.underlying4
 a4 := Tryz.isAgg4
 z4 := Tryz.sizeOf4
 v4 := Tryz.zeroValue4
 t5 := Tryz.underlying5
 a5 := Tryz.isAgg5
 z5 := Tryz.sizeOf5
 v5 := Tryz.zeroValue5
 t9 := Tryz.underlying9
 a9 := Tryz.isAgg9
 z9 := Tryz.sizeOf9
 v9 := Tryz.zeroValue9
 t46 := Tryz.underlying211
 a46 := Tryz.isAgg211
 z46 := Tryz.sizeOf211
 v46 := Tryz.zeroValue211
 t51 := Tryz.underlying171
 a51 := Tryz.isAgg171
 z51 := Tryz.sizeOf171
 v51 := Tryz.zeroValue171 }
theorem bits_LeadingZeros32 (x : Int) (w : World) (h0 : 0 ≤ x) (h1 : x ≤ 4294967295) :
  Calls Tryz.prog 252 #[.int .u32 x] w fun e w' => e = .returned (.int .i64 (32 - (Lib.bitLen x.toNat : Int))) ∧ w' = w := Any.bits_LeadingZeros32 lays133 x w h0 h1
end Go.Proofs.YtjnklbfhelbjgaaGreat
