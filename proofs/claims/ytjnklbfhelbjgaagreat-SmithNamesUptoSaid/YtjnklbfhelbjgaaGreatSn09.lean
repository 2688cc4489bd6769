/- Reference 07, third part: times a number, the difference. -/
import Derived.Test.YtjnklbfhelbjgaaGreatSn08
import Derived.Deep.RegionWith
import Derived.Test.YtjnklbfhelbjgaaGreatSn05
import Derived.Deep.AppendLies
import Derived.Deep.RegionLaw
namespace Go.Proofs.YtjnklbfhelbjgaaGreat
open Go.RowKit Go.IntWalk
attribute [local go_sem ↓] Go.wp_at_zero Go.wp_at_succ
end Go.Proofs.YtjnklbfhelbjgaaGreat

/- Products of polynomials over the integers, term by term; sizes. Nothing of the program. -/
namespace Pz
def cvp (a b : Nat → Int) : Nat → Nat → Int
 | 0, _ => 0
 | i + 1, t => cvp a b i t + (if i ≤ t then a i * b (t - i) else 0)
theorem cvp_zero (a b : Nat → Int) (t : Nat) : cvp a b 0 t = 0 := rfl
theorem cvp_succ (a b : Nat → Int) (i t : Nat) : cvp a b (i + 1) t = cvp a b i t + (if i ≤ t then a i * b (t - i) else 0) := rfl
theorem cvp_congr {a a' b b' : Nat → Int} (ha : ∀ i, a i = a' i) (hb : ∀ i, b i = b' i) (t : Nat) : ∀ i, cvp a b i t = cvp a' b' i t
 | 0 => rfl
 | i + 1 => by rw [cvp_succ, cvp_succ, cvp_congr ha hb t i, ha, hb]
theorem cvp_stop {a b : Nat → Int} {k : Nat} (h : ∀ i, k ≤ i → a i = 0) (t : Nat) : ∀ d, cvp a b (k + d) t = cvp a b k t
 | 0 => rfl
 | d + 1 => by
   rw [show k + (d + 1) = (k + d) + 1 by omega, cvp_succ, cvp_stop h t d, h _ (by omega)]
   simp
theorem cvp_stop' {a b : Nat → Int} {k m : Nat} (h : ∀ i, k ≤ i → a i = 0) (hm : k ≤ m) (t : Nat) : cvp a b m t = cvp a b k t := by
 obtain ⟨d, rfl⟩ : ∃ d, m = k + d := ⟨m - k, by omega⟩
 exact cvp_stop h t d
theorem cvp_above {a b : Nat → Int} {k : Nat} (hb : ∀ i, k ≤ i → b i = 0) : ∀ {i t : Nat}, i + k ≤ t + 1 → cvp a b i t = 0
 | 0, _, _ => rfl
 | i + 1, t, h => by
   rw [cvp_succ, cvp_above hb (by omega), hb (t - i) (by omega)]
   simp
def cvm (a b : Nat → Int) (i k t : Nat) : Int := cvp a b i t + (if i ≤ t ∧ t < i + k then a i * b (t - i) else 0)
theorem cvm_zero (a b : Nat → Int) (i t : Nat) : cvm a b i 0 t = cvp a b i t := by
 unfold cvm
 rw [if_neg (by omega), Int.add_zero]
theorem cvm_end {a b : Nat → Int} {k : Nat} (hb : ∀ i, k ≤ i → b i = 0) (i t : Nat) : cvm a b i k t = cvp a b (i + 1) t := by
 unfold cvm
 rw [cvp_succ]
 by_cases h1 : i ≤ t
 ·rw [if_pos h1]
  by_cases h2 : t < i + k
  ·rw [if_pos ⟨h1, h2⟩]
  ·rw [if_neg (by omega), hb (t - i) (by omega), Int.mul_zero]
 ·rw [if_neg h1, if_neg (by omega)]
theorem cvm_step (a b : Nat → Int) (i k t : Nat) : cvm a b i (k + 1) t = if t = i + k then cvm a b i k (i + k) + a i * b k else cvm a b i k t := by
 unfold cvm
 by_cases h : t = i + k
 ·subst h
  rw [if_pos rfl, if_pos (by omega), if_neg (by omega), show i + k - i = k by omega, Int.add_zero]
 ·rw [if_neg h]
  congr 1
  by_cases h2 : i ≤ t ∧ t < i + k
  ·rw [if_pos h2, if_pos (by omega)]
  ·rw [if_neg h2, if_neg (by omega)]
theorem mul_size {x y : Int} {N N' : Nat} (hx : Zz.zl x ≤ N) (hy : Zz.zl y ≤ N') : (x * y).natAbs ≤ 4294967296 ^ (N + N') := by
 have e := Zz.zl_mul x y
 exact Nat.le_of_lt (Zz.zl_le.1 (show Zz.zl (x * y) ≤ N + N' by omega))
theorem cvp_size {a b : Nat → Int} {N N' : Nat} (ha : ∀ i, Zz.zl (a i) ≤ N) (hb : ∀ i, Zz.zl (b i) ≤ N') (t : Nat) : ∀ i, (cvp a b i t).natAbs ≤ i * 4294967296 ^ (N + N')
 | 0 => by simp [cvp_zero]
 | i + 1 => by
   have ih := cvp_size ha hb t i
   have e := mul_size (ha i) (hb (t - i))
   rw [cvp_succ, Nat.succ_mul]
   split
   ·omega
   ·omega
theorem cvm_zl {a b : Nat → Int} {N N' : Nat} (ha : ∀ i, Zz.zl (a i) ≤ N) (hb : ∀ i, Zz.zl (b i) ≤ N') {i : Nat} (hi : i < 4294967295) (k t : Nat) : Zz.zl (cvm a b i k t) ≤ N + N' + 1 := by
 rw [Zz.zl_le, Nat.pow_succ]
 have e1 := cvp_size ha hb t i
 have e2 := mul_size (ha i) (hb (t - i))
 have hp : 0 < 4294967296 ^ (N + N') := Nat.pow_pos (by omega)
 have e3 : (i + 1) * 4294967296 ^ (N + N') < 4294967296 ^ (N + N') * 4294967296 := by
  rw [Nat.mul_comm]
  exact Nat.mul_lt_mul_of_pos_left (by omega) hp
 rw [Nat.succ_mul] at e3
 unfold cvm
 split
 ·omega
 ·omega
theorem cvp_zl {a b : Nat → Int} {N N' : Nat} (ha : ∀ i, Zz.zl (a i) ≤ N) (hb : ∀ i, Zz.zl (b i) ≤ N') {i : Nat} (hi : i < 4294967295) (t : Nat) : Zz.zl (cvp a b i t) ≤ N + N' + 1 := by
 rw [← cvm_zero]; exact cvm_zl ha hb hi 0 t
end Pz

/- Reference 07, fourth part: times a power of x; the product. -/
namespace Go.Proofs.YtjnklbfhelbjgaaGreat
open Go.RowKit Go.IntWalk
attribute [local go_sem ↓] Go.wp_at_zero Go.wp_at_succ
end Go.Proofs.YtjnklbfhelbjgaaGreat

/- Values of polynomials over the integers. Nothing of the program. -/
namespace Pz
end Pz

/- Reference 07, fifth part: the value at a number. -/
namespace Go.Proofs.YtjnklbfhelbjgaaGreat
open Go.RowKit Go.IntWalk
attribute [local go_sem ↓] Go.wp_at_zero Go.wp_at_succ
end Go.Proofs.YtjnklbfhelbjgaaGreat

/- The derivative: zpoly's and the reference's. -/
namespace Go.Proofs.YtjnklbfhelbjgaaGreat
open Go.RowKit Go.IntWalk
attribute [local go_sem ↓] Go.wp_at_zero Go.wp_at_succ
end Go.Proofs.YtjnklbfhelbjgaaGreat

/- Polynomials as coefficient functions with values in Int: products, tops, division with a rest is of one kind. Nothing of the program. -/
namespace Pz
end Pz

/- Division of polynomials over the integers: without fractions, and exactly. Nothing of the program. -/
namespace Pz
end Pz

/- zpoly: a multiple, so many places up. -/
namespace Go.Proofs.YtjnklbfhelbjgaaGreat
open Go.RowKit Go.IntWalk
attribute [local go_sem ↓] Go.wp_at_zero Go.wp_at_succ
end Go.Proofs.YtjnklbfhelbjgaaGreat

/- The rounds of a division of polynomials over the integers, with sizes. Nothing of the program. -/
namespace Pz
end Pz

/- zpoly: division without fractions. -/
namespace Go.Proofs.YtjnklbfhelbjgaaGreat
open Go.RowKit Go.IntWalk
attribute [local go_sem ↓] Go.wp_at_zero Go.wp_at_succ
theorem rd_of' {w : World} {b N : Nat} {A : Option Addr} {n c : Nat} {M : List Int} {f : Nat → Int} (h : OwZs w b A n c M) (hM : ∀ i, Pz.co M i = f i) (hf : ∀ i, Zz.zl (f i) ≤ N) : RdZs w w.heap.size N A n c M := h.rd fun z hz => by
 obtain ⟨i, _, rfl⟩ := Pz.mem_co hz
 rw [hM]
 exact hf i
theorem rd_st {w : World} {b N : Nat} {A : Option Addr} {n c : Nat} {M : List Int} (h : OwZs w b A n c M) (hf : ∀ i, Zz.zl (Pz.co M i) ≤ N) : RdZs w w.heap.size N A n c M := rd_of' h (fun _ => rfl) hf
end Go.Proofs.YtjnklbfhelbjgaaGreat

/- Tables of integers in memory; a row of Sylvester's table. -/
namespace Go.Proofs.YtjnklbfhelbjgaaGreat
open Go.RowKit Go.IntWalk
attribute [local go_sem ↓] Go.wp_at_zero Go.wp_at_succ
def KeepT (w w' : World) : Prop := ∀ (i : Nat) (c : Array Value) (f : Nat × Nat), w.heap[i]? = some (.cells c 171 f) → w'.heap[i]? = some (.cells c 171 f)
section
variable {w w' : World} {b B g : Nat} {A : Option Addr} {n c : Nat}
theorem KeepT.trans {w'' : World} (h : KeepT w w') (h' : KeepT w' w'') : KeepT w w'' := fun i c f e => h' i c f (h i c f e)
theorem KeepT.below (h : Below w.heap.size w w') : KeepT w w' := fun i _ _ e => (h.block i (Array.getElem?_eq_some_iff.1 e).1).trans e
theorem KeepT.set {p : Addr} {cs : Array Value} {t : TypeId} {f : Nat × Nat} (h : w.heap[p.block]? = some (.cells cs t f)) (ht : t ≠ 171) (v : Value) : KeepT w (w.setCell p v) := fun i c f' e => by
 have hne : i ≠ p.block := by
  rintro rfl
  rw [h] at e
  injection e with e
  injection e with _ e _
  exact ht e
 exact (Below.heap_setCell w p v i hne).trans e
theorem KeepT.grown {e : TypeId} {k : Nat} {v : Value} {xs : List Value} (h : w.ownsRow b e k v n xs) (he : e ≠ 171) (hg : w.grownBy w' v.ownBlock) : KeepT w w' := fun i c f hi => by
 have hne : some i ≠ v.ownBlock := by
  intro h0
  rcases h.2 with ⟨h1, _⟩ | ⟨g, cap, cur, h1, _, h3, _⟩
  ·rw [h1] at h0; cases h0
  ·rw [h1] at h0
   injection h0 with h0
   subst h0
   rw [h3] at hi
   injection hi with hi
   injection hi with _ hi _
   exact he hi
 exact (hg.block i (Array.getElem?_eq_some_iff.1 hi).1 hne).trans hi
theorem OwU.keep {L : List Nat} (h : OwU w b A n c L) (hk : KeepT w w') : OwU w' b A n c L := by
 refine ⟨⟨h.own.1, ?_⟩, h.wd⟩
 rcases h.own.2 with h0 | ⟨g, cap, cur, h1, h2, h3, h4⟩
 ·exact .inl h0
 ·exact .inr ⟨g, cap, cur, h1, h2, hk _ _ _ h3, h4⟩
theorem OwZ.keep {s : Bool} {z : Int} (h : OwZ w b s A n c z) (hk : KeepT w w') : OwZ w' b s A n c z := ⟨h.own.keep hk, h.sgn⟩
theorem row_far {e : TypeId} {k : Nat} {v : Value} {xs : List Value} (h : w.ownsRow b e k v n xs) {p : Addr} (hp : p.block < b) (u : Value) : (w.setCell p u).ownsRow b e k v n xs := by
 refine ⟨h.1, ?_⟩
 rcases h.2 with h0 | ⟨g, cap, cur, h1, h2, h3, h4⟩
 ·exact .inl h0
 ·exact .inr ⟨g, cap, cur, h1, h2, (Below.heap_setCell w p u g (by omega)).trans h3, h4⟩
end
end Go.Proofs.YtjnklbfhelbjgaaGreat
