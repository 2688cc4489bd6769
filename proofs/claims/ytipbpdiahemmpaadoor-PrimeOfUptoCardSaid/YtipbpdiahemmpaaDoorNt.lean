/- Plain number theory over Nat: primes, Fermat's little theorem, orders, the strong test. Nothing of the program. -/
namespace Nt

def Pr (p : Nat) : Prop := 2 ≤ p ∧ ∀ d, d ∣ p → d = 1 ∨ d = p

theorem Pr.two_le {p : Nat} (h : Pr p) : 2 ≤ p := h.1
theorem Pr.pos {p : Nat} (h : Pr p) : 0 < p := by have := h.1; omega

theorem exists_pr_dvd : ∀ n : Nat, 2 ≤ n → ∃ p, Pr p ∧ p ∣ n := by
  intro n
  induction n using Nat.strongRecOn with
  | ind n ih =>
    intro hn
    by_cases h : Pr n
    · exact ⟨n, h, Nat.dvd_refl n⟩
    · have : ∃ d, d ∣ n ∧ d ≠ 1 ∧ d ≠ n := by
        apply Classical.byContradiction
        intro hc
        apply h
        refine ⟨hn, fun d hd => ?_⟩
        apply Classical.byContradiction
        intro hd2
        exact hc ⟨d, hd, fun e => hd2 (Or.inl e), fun e => hd2 (Or.inr e)⟩
      obtain ⟨d, hd, h1, h2⟩ := this
      have hle : d ≤ n := Nat.le_of_dvd (by omega) hd
      have h0 : d ≠ 0 := by
        rintro rfl
        have := Nat.eq_zero_of_zero_dvd hd
        omega
      obtain ⟨p, hp, hpd⟩ := ih d (by omega) (by omega)
      exact ⟨p, hp, Nat.dvd_trans hpd hd⟩

theorem Pr.coprime {p a : Nat} (hp : Pr p) (h : ¬ p ∣ a) : Nat.Coprime p a := by
  have hg := Nat.gcd_dvd_left p a
  rcases hp.2 _ hg with h1 | h1
  · exact h1
  · exact absurd (h1 ▸ Nat.gcd_dvd_right p a) h

theorem Pr.dvd_mul {p a b : Nat} (hp : Pr p) (h : p ∣ a * b) : p ∣ a ∨ p ∣ b := by
  by_cases ha : p ∣ a
  · exact Or.inl ha
  · exact Or.inr ((hp.coprime ha).dvd_of_dvd_mul_left h)

theorem Pr.dvd_pow {p a : Nat} (hp : Pr p) : ∀ {k : Nat}, p ∣ a ^ k → p ∣ a
  | 0, h => by
    have := Nat.le_of_dvd (by simp) h
    have := hp.1
    simp at *
    omega
  | k + 1, h => by
    rw [Nat.pow_succ] at h
    rcases hp.dvd_mul h with h | h
    · exact Pr.dvd_pow hp h
    · exact h

theorem Pr.not_dvd_lt {p a : Nat} (h0 : 0 < a) (h : a < p) : ¬ p ∣ a := fun hd => by
  have := Nat.le_of_dvd h0 hd
  omega

theorem Pr.eq_of_dvd {p q : Nat} (hp : Pr p) (hq : Pr q) (h : p ∣ q) : p = q := by
  rcases hq.2 p h with h1 | h1
  · have := hp.1; omega
  · exact h1

/-! ### congruence -/
theorem dvd_sub_of_mod {n a b : Nat} (h : a % n = b % n) (hle : b ≤ a) : n ∣ a - b :=
  have _ := hle
  Nat.dvd_of_mod_eq_zero (Nat.sub_mod_eq_zero_of_mod_eq h)

theorem mod_of_dvd_sub {n a b : Nat} (hle : b ≤ a) (h : n ∣ a - b) : a % n = b % n := by
  obtain ⟨k, hk⟩ := h
  have : a = b + n * k := by omega
  rw [this, Nat.add_mul_mod_self_left]

theorem mul_mod_congr {n a a' b b' : Nat} (h1 : a % n = a' % n) (h2 : b % n = b' % n) : a * b % n = a' * b' % n := by
  rw [Nat.mul_mod, h1, h2, ← Nat.mul_mod]

theorem pow_mod_congr {n a a' : Nat} (k : Nat) (h1 : a % n = a' % n) : a ^ k % n = a' ^ k % n := by
  rw [Nat.pow_mod, h1, ← Nat.pow_mod]

/-- Cancel a factor that is prime to p. -/
theorem cancel {p a b c : Nat} (hc : Nat.Coprime p c) (h : c * a % p = c * b % p) : a % p = b % p := by
  have key : ∀ a b : Nat, b ≤ a → c * a % p = c * b % p → a % p = b % p := by
    intro a b hle h
    apply mod_of_dvd_sub hle
    have h2 := dvd_sub_of_mod h (Nat.mul_le_mul_left c hle)
    rw [← Nat.mul_sub] at h2
    exact hc.dvd_of_dvd_mul_left h2
  rcases Nat.le_total b a with hle | hle
  · exact key a b hle h
  · exact (key b a hle h.symm).symm

/-! ### lists: a map of a list without repetition into itself is a permutation -/
theorem perm_of_subset : ∀ (l m : List Nat), l.Nodup → (∀ x ∈ l, x ∈ m) → m.length ≤ l.length → l.Perm m
  | [], m, _, _, h => by
    have : m = [] := List.eq_nil_of_length_eq_zero (by simpa using h)
    subst this
    exact List.Perm.nil
  | a :: l, m, hn, hs, hl => by
    have ha : a ∈ m := hs a (by simp)
    have hn' := List.nodup_cons.1 hn
    have hp := List.perm_cons_erase ha
    have hlen : (m.erase a).length = m.length - 1 := List.length_erase_of_mem ha
    have ih := perm_of_subset l (m.erase a) hn'.2 (fun x hx => by
      have hxa : x ≠ a := fun e => hn'.1 (e ▸ hx)
      exact (List.mem_erase_of_ne hxa).2 (hs x (by simp [hx]))) (by rw [hlen]; simp at hl; omega)
    exact (List.Perm.cons a ih).trans hp.symm

def prod : List Nat → Nat
  | [] => 1
  | a :: l => a * prod l

theorem prod_perm {l m : List Nat} (h : l.Perm m) : prod l = prod m := by
  induction h with
  | nil => rfl
  | cons a _ ih => simp [prod, ih]
  | swap a b l => simp [prod, Nat.mul_left_comm]
  | trans _ _ h1 h2 => exact h1.trans h2

theorem prod_map_mul (a p : Nat) : ∀ l : List Nat, prod (l.map fun i => a * i % p) % p = a ^ l.length * prod l % p
  | [] => by simp [prod]
  | x :: l => by
    simp only [List.map_cons, prod, List.length_cons]
    rw [mul_mod_congr (Nat.mod_mod _ _) (prod_map_mul a p l), Nat.pow_succ]
    congr 1
    ac_rfl

theorem prod_coprime {p : Nat} (hp : Pr p) : ∀ l : List Nat, (∀ x ∈ l, 0 < x ∧ x < p) → Nat.Coprime p (prod l)
  | [], _ => by simp [prod]
  | x :: l, h => by
    have h1 := h x (by simp)
    exact Nat.Coprime.mul_right (hp.coprime (Pr.not_dvd_lt h1.1 h1.2)) (prod_coprime hp l fun y hy => h y (by simp [hy]))

/-- Fermat. -/
theorem fermat {p a : Nat} (hp : Pr p) (ha : ¬ p ∣ a) : a ^ (p - 1) % p = 1 := by
  have hp2 := hp.1
  have hlen : (List.range' 1 (p - 1)).length = p - 1 := by simp
  have hco := hp.coprime ha
  have hmem : ∀ x ∈ List.range' 1 (p - 1), 0 < x ∧ x < p := by
    intro x hx
    have := List.mem_range'_1.1 hx
    omega
  have hnd : ((List.range' 1 (p - 1)).map fun i => a * i % p).Nodup := by
    rw [List.nodup_iff_pairwise_ne]
    rw [List.pairwise_map]
    have hr : (List.range' 1 (p - 1)).Nodup := List.nodup_range'
    rw [List.nodup_iff_pairwise_ne] at hr
    refine List.Pairwise.imp_of_mem ?_ hr
    intro x y hx hy hne he
    have hx' := hmem x hx
    have hy' := hmem y hy
    have := cancel hco he
    rw [Nat.mod_eq_of_lt hx'.2, Nat.mod_eq_of_lt hy'.2] at this
    exact hne this
  have hsub : ∀ x ∈ ((List.range' 1 (p - 1)).map fun i => a * i % p), x ∈ List.range' 1 (p - 1) := by
    intro x hx
    obtain ⟨i, hi, rfl⟩ := List.mem_map.1 hx
    have hi' := hmem i hi
    have hlt : a * i % p < p := Nat.mod_lt _ (by omega)
    have hne : a * i % p ≠ 0 := by
      intro h0
      rcases hp.dvd_mul (Nat.dvd_of_mod_eq_zero h0) with h | h
      · exact ha h
      · exact Pr.not_dvd_lt hi'.1 hi'.2 h
    exact List.mem_range'_1.2 ⟨by omega, by omega⟩
  have hperm := perm_of_subset _ _ hnd hsub (by simp)
  have hpr := prod_perm hperm
  have h1 := prod_map_mul a p (List.range' 1 (p - 1))
  rw [hpr, hlen] at h1
  have h2 := cancel (a := 1) (b := a ^ (p - 1)) (prod_coprime hp _ hmem) (by rw [Nat.mul_one, h1, Nat.mul_comm])
  rw [← h2]
  exact Nat.mod_eq_of_lt (by omega)

theorem fermat_all {p a : Nat} (hp : Pr p) : a ^ p % p = a % p := by
  have hp2 := hp.1
  by_cases ha : p ∣ a
  · have h1 : p ∣ a ^ p := by
      obtain ⟨k, rfl⟩ : ∃ k, p = k + 1 := ⟨p - 1, by omega⟩
      exact Nat.dvd_trans ha ⟨a ^ k, by rw [Nat.pow_succ, Nat.mul_comm]⟩
    rw [Nat.mod_eq_zero_of_dvd h1, Nat.mod_eq_zero_of_dvd ha]
  · have := fermat hp ha
    have e : a ^ p = a ^ (p - 1) * a := by rw [← Nat.pow_succ]; congr 1; omega
    rw [e, Nat.mul_mod, this, Nat.one_mul, Nat.mod_mod]

/-- A root of 1. -/
theorem sqrt_one {p x : Nat} (hp : Pr p) (h : x * x % p = 1) : x % p = 1 ∨ x % p = p - 1 := by
  have hp2 := hp.1
  have hx0 : 0 < x := by
    rcases Nat.eq_zero_or_pos x with rfl | h0
    · simp at h
    · exact h0
  have hd : p ∣ (x - 1) * (x + 1) := by
    have h1 : p ∣ x * x - 1 := dvd_sub_of_mod (by rw [h, Nat.mod_eq_of_lt (by omega)]) (Nat.mul_pos hx0 hx0)
    have e : (x - 1) * (x + 1) = x * x - 1 := by
      obtain ⟨k, rfl⟩ : ∃ k, x = k + 1 := ⟨x - 1, by omega⟩
      simp only [Nat.add_sub_cancel, Nat.mul_add, Nat.add_mul, Nat.mul_one, Nat.one_mul]
      omega
    rw [e]; exact h1
  rcases hp.dvd_mul hd with h1 | h1
  · left
    rw [mod_of_dvd_sub hx0 h1, Nat.mod_eq_of_lt (by omega)]
  · right
    have e : p ∣ x % p + 1 := by
      have h2 : (x % p + 1) % p = (x + 1) % p := by rw [Nat.add_mod, Nat.mod_mod, ← Nat.add_mod]
      exact Nat.dvd_of_mod_eq_zero (by rw [h2]; exact Nat.mod_eq_zero_of_dvd h1)
    have hlt : x % p < p := Nat.mod_lt _ (by omega)
    have := Nat.le_of_dvd (by omega) e
    omega

/-! ### exponents that make 1 -/
theorem one_mod {n : Nat} (h : 2 ≤ n) : 1 % n = 1 := Nat.mod_eq_of_lt h

theorem pow1_mul {b n N : Nat} (hn : 2 ≤ n) (h : b ^ N % n = 1) (k : Nat) : b ^ (N * k) % n = 1 := by
  rw [Nat.pow_mul, Nat.pow_mod, h, Nat.one_pow, one_mod hn]

theorem pow1_dvd {b n N M : Nat} (hn : 2 ≤ n) (h : b ^ N % n = 1) (hd : N ∣ M) : b ^ M % n = 1 := by
  obtain ⟨k, rfl⟩ := hd
  exact pow1_mul hn h k

theorem pow1_mod {b n N M : Nat} (hn : 2 ≤ n) (h : b ^ N % n = 1) (h2 : b ^ M % n = 1) : b ^ (M % N) % n = 1 := by
  have e : b ^ M = b ^ (N * (M / N)) * b ^ (M % N) := by rw [← Nat.pow_add, Nat.div_add_mod]
  rw [e, Nat.mul_mod, pow1_mul hn h, Nat.one_mul, Nat.mod_mod] at h2
  exact h2

theorem pow1_gcd {b n : Nat} (hn : 2 ≤ n) (N M : Nat) : b ^ N % n = 1 → b ^ M % n = 1 → b ^ (Nat.gcd N M) % n = 1 := by
  induction N, M using Nat.gcd.induction with
  | H0 M => intro _ h; simpa using h
  | H1 N M hN ih =>
    intro h1 h2
    rw [Nat.gcd_rec]
    exact ih (pow1_mod hn h1 h2) h1

theorem pow1_dvd_mod {b n m N : Nat} (hm : 2 ≤ m) (hd : m ∣ n) (h : b ^ N % n = 1) : b ^ N % m = 1 := by
  have : b ^ N % n % m = b ^ N % m := Nat.mod_mod_of_dvd _ hd
  rw [← this, h, one_mod hm]

theorem not_dvd_of_pow1 {b n N : Nat} (hN : 0 < N) (h : b ^ N % n = 1) : ¬ n ∣ b := fun hd => by
  obtain ⟨k, rfl⟩ : ∃ k, N = k + 1 := ⟨N - 1, by omega⟩
  have : n ∣ b ^ (k + 1) := Nat.dvd_trans hd ⟨b ^ k, by rw [Nat.pow_succ, Nat.mul_comm]⟩
  rw [Nat.mod_eq_zero_of_dvd this] at h
  omega
end Nt
