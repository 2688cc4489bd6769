import Derived.Test.YtipbpdiahemmpaaDoorNt
/- A polynomial has no more roots modulo a prime than its degree; what follows for powers. Nothing of the program. -/
namespace Nt

def ev : List Int → Int → Int
  | [], _ => 0
  | c :: cs, x => c + x * ev cs x

theorem ev_zip (r c x : Int) : ∀ (u v : List Int), u.length = v.length → ev (List.zipWith (fun a b => a + r * b) u v ++ [c]) x = ev (u ++ [c]) x + r * ev v x
  | [], [], _ => by simp [ev]
  | [], _ :: _, h => by simp at h
  | _ :: _, [], h => by simp at h
  | a :: u, b :: v, h => by
    have ih := ev_zip r c x u v (by simpa using h)
    simp only [List.zipWith_cons_cons, List.cons_append, ev, ih]
    rw [Int.mul_add, Int.mul_add, Int.mul_left_comm]
    omega

theorem factor (r c : Int) : ∀ (n : Nat) (l : List Int), l.length = n + 1 → ∃ l' : List Int, l'.length = n ∧ ∀ x, ev (l ++ [c]) x - ev (l ++ [c]) r = (x - r) * ev (l' ++ [c]) x
  | 0, l, h => by
    match l, h with
    | [a], _ =>
      refine ⟨[], rfl, fun x => ?_⟩
      simp [ev, Int.sub_mul]
      omega
  | n + 1, l, h => by
    match l, h with
    | a :: l2, h =>
      have h2 : l2.length = n + 1 := by simpa using h
      obtain ⟨g, hg, he⟩ := factor r c n l2 h2
      refine ⟨List.zipWith (fun a b => a + r * b) l2 (g ++ [c]), by simp [h2, hg], fun x => ?_⟩
      rw [ev_zip r c x l2 (g ++ [c]) (by simp [h2, hg])]
      simp only [List.cons_append, ev]
      have hx := he x
      rw [Int.mul_add, Int.mul_left_comm, ← hx, Int.sub_mul, Int.mul_sub]
      omega

theorem Pr.int_dvd_mul {p : Nat} (hp : Pr p) {a b : Int} (h : (p : Int) ∣ a * b) : (p : Int) ∣ a ∨ (p : Int) ∣ b := by
  have h1 : p ∣ (a * b).natAbs := Int.ofNat_dvd_left.1 h
  rw [Int.natAbs_mul] at h1
  rcases hp.dvd_mul h1 with h | h
  · exact Or.inl (Int.ofNat_dvd_left.2 h)
  · exact Or.inr (Int.ofNat_dvd_left.2 h)

theorem roots_le {p : Nat} (hp : Pr p) (c : Int) (hc : ¬ (p : Int) ∣ c) : ∀ (n : Nat) (l R : List Int), l.length = n → R.Pairwise (fun x y => ¬ (p : Int) ∣ y - x) → (∀ x ∈ R, (p : Int) ∣ ev (l ++ [c]) x) → R.length ≤ n
  | 0, l, R, hl, _, hr => by
    have : l = [] := List.eq_nil_of_length_eq_zero hl
    subst this
    match R, hr with
    | [], _ => simp
    | x :: R, hr =>
      have := hr x (by simp)
      simp [ev] at this
      exact absurd this hc
  | n + 1, l, R, hl, hnd, hr => by
    match R, hnd, hr with
    | [], _, _ => simp
    | r :: rs, hnd, hr =>
      obtain ⟨l', hl', he⟩ := factor r c n l hl
      have hnd' := List.pairwise_cons.1 hnd
      have := roots_le hp c hc n l' rs hl' hnd'.2 (fun x hx => by
        have h1 := hr x (by simp [hx])
        have h2 := hr r (by simp)
        have h3 := Int.dvd_sub h1 h2
        rw [he x] at h3
        rcases hp.int_dvd_mul h3 with h | h
        · exact absurd h (hnd'.1 x hx)
        · exact h)
      simp
      exact this

theorem ev_replicate (x : Int) : ∀ k : Nat, ev (List.replicate k 0 ++ [1]) x = x ^ k
  | 0 => by simp [ev]
  | k + 1 => by
    rw [List.replicate_succ, List.cons_append, ev, ev_replicate x k, Int.pow_succ, Int.mul_comm]
    omega

/-- Not all powers are 1. -/
theorem some_pow_ne {p k : Nat} (hp : Pr p) (h0 : 0 < k) (hk : k < p - 1) : ∃ a, 1 ≤ a ∧ a < p ∧ a ^ k % p ≠ 1 := by
  have hp2 := hp.1
  apply Classical.byContradiction
  intro hno
  have hall : ∀ a, 1 ≤ a → a < p → a ^ k % p = 1 := fun a h1 h2 => by
    apply Classical.byContradiction
    intro h
    exact hno ⟨a, h1, h2, h⟩
  have h1 : ¬ (p : Int) ∣ 1 := by
    intro h
    have := Int.le_of_dvd (by omega) h
    omega
  have hR := roots_le hp 1 h1 k ((-1) :: List.replicate (k - 1) 0) ((List.range' 1 (p - 1)).map fun (i : Nat) => (i : Int)) (by simp; omega)
    (by
      rw [List.pairwise_map]
      have hr : (List.range' 1 (p - 1)).Pairwise (· < ·) := List.pairwise_lt_range'
      refine List.Pairwise.imp_of_mem ?_ hr
      intro x y hx hy hlt hd
      have hx' := List.mem_range'_1.1 hx
      have hy' := List.mem_range'_1.1 hy
      have := Int.le_of_dvd (by omega) hd
      omega)
    (by
      intro x hx
      obtain ⟨i, hi, rfl⟩ := List.mem_map.1 hx
      have hi' := List.mem_range'_1.1 hi
      have h2 := hall i (by omega) (by omega)
      rw [List.cons_append, ev, ev_replicate]
      have h3 : p ∣ i ^ k - 1 := dvd_sub_of_mod (by rw [h2, Nat.mod_eq_of_lt (by omega)]) (Nat.pow_pos (by omega))
      have h4 : (p : Int) ∣ ((i ^ k - 1 : Nat) : Int) := Int.natCast_dvd_natCast.2 h3
      have h5 : 1 ≤ i ^ k := Nat.pow_pos (by omega)
      have h6 : (i : Int) * (i : Int) ^ (k - 1) = ((i ^ k : Nat) : Int) := by
        rw [Int.natCast_pow, ← Int.pow_succ', show k - 1 + 1 = k by omega]
      rw [h6]
      have h7 : (-1 : Int) + ((i ^ k : Nat) : Int) = ((i ^ k - 1 : Nat) : Int) := by omega
      rw [h7]
      exact h4)
  simp at hR
  omega

/-- A number that is no square. -/
theorem some_nonres {p : Nat} (hp : Pr p) (h3 : 3 ≤ p) : ∃ z, 2 ≤ z ∧ z < p ∧ z ^ ((p - 1) / 2) % p ≠ 1 := by
  obtain ⟨a, h1, h2, h⟩ := some_pow_ne (k := (p - 1) / 2) hp (by omega) (by omega)
  refine ⟨a, ?_, h2, h⟩
  rcases Nat.lt_or_ge a 2 with ha | ha
  · have : a = 1 := by omega
    subst this
    rw [Nat.one_pow, Nat.mod_eq_of_lt (by omega)] at h
    omega
  · exact ha
end Nt
