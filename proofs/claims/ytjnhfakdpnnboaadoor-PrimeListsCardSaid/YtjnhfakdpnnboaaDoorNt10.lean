import Derived.Test.YtjnhfakdpnnboaaDoorNt9
import Derived.Test.YtjnhfakdpnnboaaDoorNt8
/- The primes behind a number, rising or falling, as lists. Nothing of the program. -/
namespace Nt
theorem ups_append {lo m k : Nat} (h1 : lo ≤ m) (h2 : m ≤ k) : ups lo k = ups lo m ++ ups m k := by
  unfold ups
  rw [← List.filter_append]
  congr 1
  rw [show k - lo = (m - lo) + (k - m) by omega, ← List.range'_append_1]
  congr 2
  omega
theorem ups_head {lo k : Nat} (h : lo < k) (hp : Pr lo) : ups lo k = lo :: ups (lo + 1) k := by
  rw [ups_append (m := lo + 1) (by omega) (by omega), ups_yes (Nat.le_refl _) hp, ups_self _ _ (Nat.le_refl _)]
  rfl
theorem ups_none {lo k : Nat} (h : ∀ q, lo ≤ q → q < k → ¬ Pr q) : ups lo k = [] := by
  rw [List.eq_nil_iff_forall_not_mem]
  intro q hq
  obtain ⟨a, b, c⟩ := mem_ups.1 hq
  exact h q a b c
theorem ups_skip {lo m k : Nat} (h1 : lo ≤ m) (h2 : m ≤ k) (h : ∀ q, lo ≤ q → q < m → ¬ Pr q) : ups lo k = ups m k := by
  rw [ups_append h1 h2, ups_none h]
  rfl
theorem ups_sorted (lo k : Nat) : (ups lo k).Pairwise (· < ·) := by
  unfold ups
  exact List.Pairwise.filter _ (List.pairwise_lt_range' (step := 1) (by omega))
/-- The primes behind n, in the one direction or the other. -/
noncomputable def aft (down : Bool) (n : Nat) : List Nat := if down then (ups 0 n).reverse else ups (n + 1) 4294967296
/-- The step. -/
def IsStep (down : Bool) (n v : Nat) (b : Bool) : Prop := if down then IsLast n v b else IsNext n v b
theorem IsStep.lt {down : Bool} {n v : Nat} {b : Bool} (hn : n < 4294967296) (h : IsStep down n v b) : v < 4294967296 := by
  unfold IsStep at h
  split at h
  · rcases h with ⟨_, _, h2, _⟩ | ⟨_, h1, _⟩ <;> omega
  · rcases h with ⟨_, _, _, h3, _⟩ | ⟨_, h1, _⟩ <;> omega
theorem aft_step {down : Bool} {n v : Nat} {b : Bool} (h : IsStep down n v b) : aft down n = if b then v :: aft down v else [] := by
  cases down with
  | true =>
    have h' : IsLast n v b := h
    show (ups 0 n).reverse = if b then v :: (ups 0 v).reverse else []
    rcases h' with ⟨rfl, hp, hv, hq⟩ | ⟨rfl, rfl, hq⟩
    · rw [if_pos rfl, ups_append (lo := 0) (m := v) (k := n) (by omega) (by omega), ups_head hv hp, ups_none (fun q a c => hq q (by omega) c)]
      simp
    · rw [ups_none (fun q _ c => hq q c)]
      rfl
  | false =>
    have h' : IsNext n v b := h
    show ups (n + 1) 4294967296 = if b then v :: ups (v + 1) 4294967296 else []
    rcases h' with ⟨rfl, hp, hv, hlt, hq⟩ | ⟨rfl, rfl, hq⟩
    · rw [if_pos rfl, ups_skip (lo := n + 1) (m := v) (by omega) (by omega) (fun q a c => hq q (by omega) c), ups_head hlt hp]
    · rw [ups_none (fun q a c => hq q (by omega) c)]
      rfl
/-- The primes from n on, in the one direction or the other. -/
noncomputable def frm (down : Bool) (n : Nat) : List Nat := if isP n then n :: aft down n else aft down n
theorem frm_up {n : Nat} (hn : n < 4294967296) : frm false n = ups n 4294967296 := by
  unfold frm
  show _ = _
  split
  · rename_i h
    exact (ups_head hn (isP_iff.1 h)).symm
  · rename_i h
    exact (ups_skip (by omega) (by omega) (fun q a c hp => h (isP_iff.2 (by rwa [show n = q by omega])))).symm
theorem frm_yes {down : Bool} {n : Nat} (h : isP n = true) : frm down n = n :: aft down n := by unfold frm; rw [if_pos h]
theorem frm_no {down : Bool} {n v : Nat} {b : Bool} (h : isP n = false) (hs : IsStep down n v b) : frm down n = if b then v :: aft down v else [] := by
  unfold frm; rw [if_neg (by simp [h])]; exact aft_step hs
theorem ups_prefix {lo k : Nat} (h1 : lo ≤ k) (h2 : k ≤ 4294967296) : ∃ r, ups lo 4294967296 = ups lo k ++ r := ⟨_, ups_append h1 h2⟩
/-- So many of them, where the next one was refused. -/
theorem take_stop {lo k n : Nat} {pre : List Nat} {x : Nat} (h1 : lo ≤ k) (h2 : k ≤ 4294967296) (h : pre ++ [x] = ups lo k) (hn : pre.length = n) : pre = (ups lo 4294967296).take n := by
  obtain ⟨r, hr⟩ := ups_prefix h1 h2
  rw [hr, ← h, ← hn]
  simp
/-- What the reference tells is what comes. -/
theorem meets {lo k v x : Nat} {b : Bool} {pre : List Nat} (h1 : lo ≤ k) (h2 : k ≤ 4294967296) (h : pre ++ [x] = ups lo k) (hs : ups lo 4294967296 = pre ++ (if b then v :: aft false v else [])) : b = true ∧ x = v := by
  obtain ⟨r, hr⟩ := ups_prefix h1 h2
  rw [hr, ← h, List.append_assoc] at hs
  have := List.append_cancel_left hs
  cases b with
  | true => exact ⟨rfl, by simpa using (List.cons.inj this).1⟩
  | false => simp at this
/-- At the end: the next one lies beyond. -/
theorem beyond {lo hi v : Nat} {pre : List Nat} (h : pre = ups lo (hi + 1)) (hs : ups lo 4294967296 = pre ++ v :: aft false v) : hi < v := by
  apply Classical.byContradiction
  intro hc
  have hm : v ∈ ups lo 4294967296 := by rw [hs]; simp
  obtain ⟨a, _, c⟩ := mem_ups.1 hm
  have hv : v ∈ pre := by rw [h]; exact mem_ups.2 ⟨a, by omega, c⟩
  have hp := ups_sorted lo 4294967296
  rw [hs, List.pairwise_append] at hp
  have := hp.2.2 v hv v (by simp)
  omega
theorem len_le {lo : Nat} : (ups lo 4294967296).length ≤ 4294967296 := by have := ups_len lo 4294967296; omega
end Nt
