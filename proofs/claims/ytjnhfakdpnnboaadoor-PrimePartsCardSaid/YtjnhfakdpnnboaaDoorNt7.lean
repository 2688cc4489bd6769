import Derived.Test.YtjnhfakdpnnboaaDoorNt6
import Derived.Test.YtjnhfakdpnnboaaDoorNt5
/- Orders modulo a prime. Nothing of the program. -/
namespace Nt

structure IsOrd (a p o : Nat) : Prop where
  pos : 0 < o
  one : a ^ o % p = 1
  least : ∀ N, a ^ N % p = 1 → o ∣ N
theorem IsOrd.unique {a p o o' : Nat} (h : IsOrd a p o) (h' : IsOrd a p o') : o = o' :=
  Nat.dvd_antisymm (h.least _ h'.one) (h'.least _ h.one)

/-- The loop: the primes of L have been tried. -/
structure Os (a p e : Nat) (L : List (Nat × Nat)) : Prop where
  pos : 0 < e
  dvd : e ∣ p - 1
  one : a ^ e % p = 1
  no : ∀ x ∈ L, x.1 ∣ e → a ^ (e / x.1) % p ≠ 1
theorem Os.start {a p : Nat} (hp : Pr p) (ha : ¬ a % p = 0) : Os a p (p - 1) [] where
  pos := by have := hp.1; omega
  dvd := Nat.dvd_refl _
  one := fermat hp (fun hd => ha (Nat.mod_eq_zero_of_dvd hd))
  no := by simp
theorem Os.strip {a p e f : Nat} {L : List (Nat × Nat)} (h2 : 2 ≤ p) (h : Os a p e L) (hd : f ∣ e) (h1 : a ^ (e / f) % p = 1) : Os a p (e / f) L where
  pos := by
    obtain ⟨k, hk⟩ := hd
    rcases Nat.eq_zero_or_pos (e / f) with e0 | e0
    · have h3 := Nat.mul_div_cancel' (⟨k, hk⟩ : f ∣ e)
      rw [e0] at h3
      have := h.pos
      omega
    · exact e0
  dvd := Nat.dvd_trans (Nat.div_dvd_of_dvd hd) h.dvd
  one := h1
  no := fun x hx hxd hc => by
    have hxe : x.1 ∣ e := Nat.dvd_trans hxd (Nat.div_dvd_of_dvd hd)
    refine h.no x hx hxe (pow1_dvd h2 hc ?_)
    have hpos : 0 < e := h.pos
    obtain ⟨k, hk⟩ := hxd
    have hfe := Nat.mul_div_cancel' hd
    rw [hk] at hfe
    have hx0 : 0 < x.1 := Nat.pos_of_dvd_of_pos hxe hpos
    rw [hk, Nat.mul_div_cancel_left _ hx0]
    refine ⟨f, ?_⟩
    have e1 : e = x.1 * (k * f) := by rw [← hfe]; ac_rfl
    conv => lhs; rw [e1]
    exact Nat.mul_div_cancel_left _ hx0
theorem Os.next {a p e : Nat} {L : List (Nat × Nat)} {x : Nat × Nat} (h : Os a p e L) (hn : x.1 ∣ e → a ^ (e / x.1) % p ≠ 1) : Os a p e (L ++ [x]) where
  pos := h.pos
  dvd := h.dvd
  one := h.one
  no := fun y hy => by
    rcases List.mem_append.1 hy with hy | hy
    · exact h.no y hy
    · simp at hy; subst hy; exact hn
theorem Os.done {a p e : Nat} {L : List (Nat × Nat)} (hp : Pr p) (h : Os a p e L) (hL : IsFac (p - 1) L) : IsOrd a p e where
  pos := h.pos
  one := h.one
  least := fun N hN => by
    have hg := pow1_gcd hp.1 e N h.one hN
    apply Classical.byContradiction
    intro hnd
    obtain ⟨k, hk⟩ := Nat.gcd_dvd_left e N
    have hpos := h.pos
    have hk1 : k ≠ 1 := by
      rintro rfl
      rw [Nat.mul_one] at hk
      exact hnd (hk ▸ Nat.gcd_dvd_right e N)
    have hk0 : k ≠ 0 := by rintro rfl; omega
    obtain ⟨q, hq, hqk⟩ := exists_pr_dvd k (by omega)
    have hqe : q ∣ e := Nat.dvd_trans hqk ⟨Nat.gcd e N, by rw [Nat.mul_comm]; exact hk⟩
    obtain ⟨x, hx, rfl⟩ := prime_dvd_fprod hq hL.pr (by rw [hL.prod]; exact Nat.dvd_trans hqe h.dvd)
    refine h.no x hx hqe (pow1_dvd hp.1 hg ?_)
    obtain ⟨j, rfl⟩ := hqk
    refine ⟨j, ?_⟩
    have e1 : e = x.1 * (Nat.gcd e N * j) := by rw [Nat.mul_left_comm]; exact hk
    conv => lhs; rw [e1]
    exact Nat.mul_div_cancel_left _ hq.pos

theorem IsOrd.le {a p o : Nat} (hp : Pr p) (ha : ¬ a % p = 0) (h : IsOrd a p o) : o ∣ p - 1 ∧ o ≤ p - 1 := by
  have h1 := h.least (p - 1) (fermat hp (fun hd => ha (Nat.mod_eq_zero_of_dvd hd)))
  exact ⟨h1, Nat.le_of_dvd (by have := hp.1; omega) h1⟩
theorem IsOrd.iff {a p o N : Nat} (h2 : 2 ≤ p) (h : IsOrd a p o) : a ^ N % p = 1 ↔ o ∣ N :=
  ⟨h.least N, fun hd => pow1_dvd h2 h.one hd⟩

/-! ### there is one of order p - 1 -/
theorem ord_exists {a p : Nat} (hp : Pr p) (ha : ¬ a % p = 0) : ∃ o, IsOrd a p o := by
  have hf := fermat hp (fun hd => ha (Nat.mod_eq_zero_of_dvd hd))
  have hex : ∃ o, 0 < o ∧ a ^ o % p = 1 := ⟨p - 1, by have := hp.1; omega, hf⟩
  have hmin : ∀ n, (0 < n ∧ a ^ n % p = 1) → ∃ o, (0 < o ∧ a ^ o % p = 1) ∧ ∀ m, 0 < m ∧ a ^ m % p = 1 → o ≤ m := by
    intro n
    induction n using Nat.strongRecOn with
    | ind n ih =>
      intro hn
      by_cases h : ∃ m, m < n ∧ (0 < m ∧ a ^ m % p = 1)
      · obtain ⟨m, hm, h1⟩ := h
        exact ih m hm h1
      · refine ⟨n, hn, fun m hm => ?_⟩
        apply Classical.byContradiction
        intro hc
        exact h ⟨m, by omega, hm⟩
  obtain ⟨n, hn⟩ := hex
  obtain ⟨o, ho, hmn⟩ := hmin n hn
  refine ⟨o, ho.1, ho.2, fun N hN => ?_⟩
  have hg := pow1_gcd hp.1 o N ho.2 hN
  have h1 := hmn _ ⟨Nat.gcd_pos_of_pos_left N ho.1, hg⟩
  have h2 := Nat.le_of_dvd ho.1 (Nat.gcd_dvd_left o N)
  have h3 : Nat.gcd o N = o := by omega
  rw [← h3]
  exact Nat.gcd_dvd_right o N

theorem ord_pow {a p q k m : Nat} (hp : Pr p) (hq : Pr q) (h : IsOrd a p (q ^ k * m)) : IsOrd (a ^ m % p) p (q ^ k) := by
  have hp2 := hp.1
  have hm : 0 < m := by
    rcases Nat.eq_zero_or_pos m with e | e
    · have := h.pos; rw [e] at this; simp at this
    · exact e
  have key : ∀ N, (a ^ m % p) ^ N % p = a ^ (m * N) % p := fun N => by rw [← Nat.pow_mod, ← Nat.pow_mul]
  refine ⟨Nat.pow_pos hq.pos, ?_, fun N hN => ?_⟩
  · rw [key, Nat.mul_comm]; exact h.one
  · rw [key] at hN
    have := h.least _ hN
    rw [Nat.mul_comm] at this
    exact Nat.dvd_of_mul_dvd_mul_left hm this

theorem ord_mul {a b p x y : Nat} (hp : Pr p) (ha : IsOrd a p x) (hb : IsOrd b p y) (hc : Nat.Coprime x y) : IsOrd (a * b % p) p (x * y) := by
  have hp2 := hp.1
  have key : ∀ N, (a * b % p) ^ N % p = a ^ N * b ^ N % p := fun N => by rw [← Nat.pow_mod, Nat.mul_pow]
  refine ⟨Nat.mul_pos ha.pos hb.pos, ?_, fun N hN => ?_⟩
  · rw [key, Nat.mul_mod, pow1_dvd hp2 ha.one ⟨y, rfl⟩, pow1_dvd hp2 hb.one ⟨x, Nat.mul_comm _ _⟩]
    exact one_mod hp2
  · rw [key] at hN
    have h1 : b ^ (N * x) % p = 1 := by
      have h2 : (a ^ N * b ^ N) ^ x % p = 1 := by rw [Nat.pow_mod, hN, Nat.one_pow, one_mod hp2]
      rw [Nat.mul_pow, ← Nat.pow_mul, ← Nat.pow_mul, Nat.mul_mod, pow1_dvd hp2 ha.one ⟨N, Nat.mul_comm _ _⟩, Nat.one_mul, Nat.mod_mod] at h2
      exact h2
    have h3 : a ^ (N * y) % p = 1 := by
      have h2 : (a ^ N * b ^ N) ^ y % p = 1 := by rw [Nat.pow_mod, hN, Nat.one_pow, one_mod hp2]
      rw [Nat.mul_pow, ← Nat.pow_mul, ← Nat.pow_mul, Nat.mul_mod, pow1_dvd hp2 hb.one ⟨N, Nat.mul_comm _ _⟩, Nat.mul_one, Nat.mod_mod] at h2
      exact h2
    have d1 : y ∣ N := (Nat.Coprime.symm hc).dvd_of_dvd_mul_right (hb.least _ h1)
    have d2 : x ∣ N := hc.dvd_of_dvd_mul_right (ha.least _ h3)
    exact Nat.Coprime.mul_dvd_of_dvd_of_dvd hc d2 d1

/-- An element whose order a power of a prime of p - 1 divides. -/
theorem ord_prime_pow {p q k m : Nat} (hp : Pr p) (hq : Pr q) (hk : 1 ≤ k) (h : p - 1 = q ^ k * m) : ∃ b, IsOrd b p (q ^ k) := by
  have hp2 := hp.1
  have hq2 := hq.1
  have hqd : q ∣ p - 1 := by
    rw [h]
    obtain ⟨j, rfl⟩ : ∃ j, k = j + 1 := ⟨k - 1, by omega⟩
    rw [Nat.pow_succ, Nat.mul_assoc, Nat.mul_left_comm]
    exact Nat.dvd_mul_right _ _
  have hqle := Nat.le_of_dvd (by omega) hqd
  have hdiv := Nat.mul_div_cancel' hqd
  have hlt : (p - 1) / q < p - 1 := Nat.div_lt_self (by omega) hq2
  have hpos : 0 < (p - 1) / q := Nat.div_pos hqle hq.pos
  obtain ⟨a, ha1, hap, hne⟩ := some_pow_ne hp hpos hlt
  have ha0 : ¬ a % p = 0 := by rw [Nat.mod_eq_of_lt hap]; omega
  obtain ⟨o, ho⟩ := ord_exists hp ha0
  have hod := (ho.le hp ha0).1
  -- q^k divides o
  have hqk : q ^ k ∣ o := by
    obtain ⟨c, hc⟩ := hod
    -- p - 1 = o c; q does not divide c
    have hqc : ¬ q ∣ c := by
      rintro ⟨d, rfl⟩
      refine hne (pow1_dvd hp2 ho.one ⟨d, ?_⟩)
      have e1 : p - 1 = q * (o * d) := by rw [hc]; ac_rfl
      conv => lhs; rw [e1]
      exact Nat.mul_div_cancel_left _ hq.pos
    have hcop : Nat.Coprime (q ^ k) c := Nat.Coprime.pow_left k (hq.coprime hqc)
    refine hcop.dvd_of_dvd_mul_right ?_
    rw [← hc, h]
    exact Nat.dvd_mul_right _ _
  obtain ⟨m', rfl⟩ := hqk
  exact ⟨_, ord_pow hp hq ho⟩

theorem ord_fprod {p : Nat} (hp : Pr p) : ∀ L : List (Nat × Nat), L.Pairwise (fun x y => x.1 < y.1) → (∀ x ∈ L, Pr x.1 ∧ 1 ≤ x.2) → fprod L ∣ p - 1 → ∃ b, IsOrd b p (fprod L)
  | [], _, _, _ => ⟨1, by
      have hp2 := hp.1
      exact ⟨by simp [fprod], by simp [fprod]; exact one_mod hp2, fun N _ => ⟨N, by simp [fprod]⟩⟩⟩
  | x :: L, hs, hpr, hd => by
    have hd2 : fprod L ∣ p - 1 := Nat.dvd_trans ⟨x.1 ^ x.2, Nat.mul_comm _ _⟩ hd
    obtain ⟨b, hb⟩ := ord_fprod hp L (List.pairwise_cons.1 hs).2 (fun y hy => hpr y (by simp [hy])) hd2
    obtain ⟨m, hm⟩ : x.1 ^ x.2 ∣ p - 1 := Nat.dvd_trans ⟨fprod L, rfl⟩ hd
    obtain ⟨a, ha⟩ := ord_prime_pow hp (hpr x (by simp)).1 (hpr x (by simp)).2 hm
    have hnd : ¬ x.1 ∣ fprod L := fun hdv => by
      obtain ⟨y, hy, he⟩ := prime_dvd_fprod (hpr x (by simp)).1 (fun y hy => hpr y (by simp [hy])) hdv
      have := (List.pairwise_cons.1 hs).1 y hy
      omega
    have hc : Nat.Coprime (x.1 ^ x.2) (fprod L) := Nat.Coprime.pow_left _ ((hpr x (by simp)).1.coprime hnd)
    exact ⟨_, ord_mul hp ha hb hc⟩

/-- A root below p. -/
theorem root_exists {p : Nat} {L : List (Nat × Nat)} (hp : Pr p) (hL : IsFac (p - 1) L) : ∃ g, 1 ≤ g ∧ g < p ∧ IsOrd g p (p - 1) := by
  have hp2 := hp.1
  obtain ⟨b, hb⟩ := ord_fprod hp L hL.sorted hL.pr (by rw [hL.prod]; exact Nat.dvd_refl _)
  rw [hL.prod] at hb
  have hlt := Nat.mod_lt b hp.pos
  have hmod : ∀ N, (b % p) ^ N % p = b ^ N % p := fun N => (Nat.pow_mod b N p).symm
  refine ⟨b % p, ?_, hlt, hb.pos, by rw [hmod]; exact hb.one, fun N hN => hb.least N (by rw [← hmod]; exact hN)⟩
  rcases Nat.eq_zero_or_pos (b % p) with e | e
  · exfalso
    have h1 := hb.one
    rw [← hmod, e, Nat.zero_pow hb.pos, Nat.zero_mod] at h1
    omega
  · exact e
theorem split_pow {p : Nat} (hp : Pr p) : ∀ n, 0 < n → ∃ k m, n = p ^ k * m ∧ ¬ p ∣ m := by
  intro n
  induction n using Nat.strongRecOn with
  | ind n ih =>
    intro hn
    by_cases h : p ∣ n
    · obtain ⟨m, hm⟩ := h
      have hm0 : 0 < m := by
        rcases Nat.eq_zero_or_pos m with e | e
        · rw [e] at hm; omega
        · exact e
      have hlt : m < n := by
        have := Nat.mul_le_mul_right m hp.1
        omega
      obtain ⟨k, m', h1, h2⟩ := ih m hlt hm0
      exact ⟨k + 1, m', by rw [hm, h1, Nat.pow_succ]; ac_rfl, h2⟩
    · exact ⟨0, n, by simp, h⟩
theorem lpf_exists (n : Nat) (hn : 2 ≤ n) : ∃ p, IsLpf n p := by
  have key : ∀ d k, d + k = n → NoD n d → 2 ≤ d → ∃ p, IsLpf n p := by
    intro d k
    induction k generalizing d with
    | zero => intro h1 h2 h3; exact ⟨n, noD_self hn (by rw [← h1]; simpa using (by rw [← h1] at h2; simpa using h2))⟩
    | succ k ih =>
      intro h1 h2 h3
      by_cases hd : n % d = 0
      · exact ⟨d, noD_lpf h2 (Nat.dvd_of_mod_eq_zero hd) h3⟩
      · exact ih (d + 1) (by omega) (noD_succ h2 hd) (by omega)
  exact key 2 (n - 2) (by omega) (noD_2 n) (Nat.le_refl _)
theorem fac_exists : ∀ n, 0 < n → ∃ L, IsFac n L := by
  intro n
  induction n using Nat.strongRecOn with
  | ind n ih =>
    intro hn
    by_cases h1 : n = 1
    · subst h1
      exact ⟨[], rfl, List.Pairwise.nil, by simp⟩
    · obtain ⟨p, hp⟩ := lpf_exists n (by omega)
      obtain ⟨k, m, hk, hm⟩ := split_pow hp.prime n hn
      have hm0 : 0 < m := by
        rcases Nat.eq_zero_or_pos m with e | e
        · subst e; simp at hm
        · exact e
      have hk1 : 1 ≤ k := by
        rcases Nat.eq_zero_or_pos k with e | e
        · subst e
          rw [Nat.pow_zero, Nat.one_mul] at hk
          exact absurd (hk ▸ hp.dvd) hm
        · exact e
      have hlt : m < n := by
        have h2 : p ^ 1 ≤ p ^ k := Nat.pow_le_pow_right hp.prime.pos hk1
        rw [Nat.pow_one] at h2
        have h3 := Nat.mul_le_mul_right m (Nat.le_trans hp.two h2)
        omega
      obtain ⟨L, hL⟩ := ih m hlt hm0
      refine ⟨(p, k) :: L, by rw [fprod, hL.prod, ← hk], ?_, ?_⟩
      · refine List.pairwise_cons.2 ⟨fun y hy => ?_, hL.sorted⟩
        have hyd : y.1 ∣ m := by rw [← hL.prod]; exact dvd_fprod hL.pr hy
        have h4 := hp.least y.1 (hL.pr y hy).1.1 (Nat.dvd_trans hyd ⟨p ^ k, by rw [Nat.mul_comm]; exact hk⟩)
        have h5 : y.1 ≠ p := fun e => hm (e ▸ hyd)
        show p < y.1
        omega
      · intro x hx
        rcases List.mem_cons.1 hx with rfl | hx
        · exact ⟨hp.prime, hk1⟩
        · exact hL.pr x hx
theorem root_exists' {p : Nat} (hp : Pr p) : ∃ g, 1 ≤ g ∧ g < p ∧ IsOrd g p (p - 1) := by
  have hp2 := hp.1
  obtain ⟨L, hL⟩ := fac_exists (p - 1) (by omega)
  exact root_exists hp hL
/-- The least root. -/
structure IsRoot (p g : Nat) : Prop where
  one : 1 ≤ g
  lt : g < p
  ord : IsOrd g p (p - 1)
  least : ∀ h, 1 ≤ h → h < g → ¬ IsOrd h p (p - 1)
theorem IsRoot.unique {p g h : Nat} (a : IsRoot p g) (b : IsRoot p h) : g = h := by
  rcases Nat.lt_trichotomy g h with c | c | c
  · exact absurd a.ord (b.least g a.one c)
  · exact c
  · exact absurd b.ord (a.least h b.one c)
end Nt
