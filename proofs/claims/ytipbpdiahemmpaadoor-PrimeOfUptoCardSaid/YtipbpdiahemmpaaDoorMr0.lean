import Derived.Test.YtipbpdiahemmpaaDoorNt
/- The strong test with the bases 2, 7, 61 below 2^32: definitions for the kernel, and why they tell. -/
namespace Nt

/-! ### strictness -/
def force {α : Type} (t : Nat) (f : Nat → α) : α := Nat.rec (f 0) (fun n _ => f (Nat.succ n)) t
theorem force_eq {α : Type} (t : Nat) (f : Nat → α) : force t f = f t := by cases t <;> rfl

noncomputable def allL {α : Type} (p : α → Bool) (l : List α) : Bool := List.rec true (fun x _ ih => Bool.and (p x) ih) l
theorem allL_mem {α : Type} {p : α → Bool} : ∀ {l : List α}, allL p l = true → ∀ x ∈ l, p x = true
  | [], _, x, hx => by simp at hx
  | a :: l, h, x, hx => by
    have h' : Bool.and (p a) (allL p l) = true := h
    have h2 := (Bool.and_eq_true _ _).mp h'
    rcases List.mem_cons.1 hx with rfl | hx
    · exact h2.1
    · exact allL_mem h2.2 x hx

noncomputable def allN (p : Nat → Bool) (k : Nat) : Bool := Nat.rec true (fun i ih => Bool.and (p i) ih) k
theorem allN_lt {p : Nat → Bool} : ∀ {k : Nat}, allN p k = true → ∀ i, i < k → p i = true
  | 0, _, i, hi => by omega
  | k + 1, h, i, hi => by
    have h' : Bool.and (p k) (allN p k) = true := h
    have h2 := (Bool.and_eq_true _ _).mp h'
    by_cases e : i = k
    · subst e; exact h2.1
    · exact allN_lt h2.2 i (by omega)

/-! ### powers -/
def sq8 (n x b e : Nat) : Nat := Nat.mod (Nat.mul (Nat.pow x 256) (Nat.pow b (Nat.mod e 256))) n
def powm (n b e : Nat) : Nat :=
  sq8 n (sq8 n (sq8 n (Nat.mod (Nat.pow b (Nat.div e 16777216)) n) b (Nat.div e 65536)) b (Nat.div e 256)) b e

theorem sq8_eq (n b e : Nat) : sq8 n (b ^ (e / 256) % n) b e = b ^ e % n := by
  show (b ^ (e / 256) % n) ^ 256 * b ^ (e % 256) % n = b ^ e % n
  rw [mul_mod_congr (a' := b ^ (e / 256 * 256)) (b' := b ^ (e % 256)) (by rw [← Nat.pow_mod, Nat.pow_mul]) rfl, ← Nat.pow_add]
  rw [Nat.mul_comm, Nat.div_add_mod]

theorem powm_eq (n b e : Nat) : powm n b e = b ^ e % n := by
  unfold powm
  have h3 : Nat.mod (Nat.pow b (Nat.div e 16777216)) n = b ^ (e / 65536 / 256) % n := by
    rw [Nat.div_div_eq_div_mul]; rfl
  rw [h3]
  show sq8 n (sq8 n (sq8 n (b ^ (e / 65536 / 256) % n) b (e / 65536)) b (e / 256)) b e = b ^ e % n
  rw [sq8_eq, show e / 65536 = e / 256 / 256 by rw [Nat.div_div_eq_div_mul], sq8_eq, sq8_eq]

/-! ### the strong test -/
def chain : Nat → Nat → Nat → Bool
  | 0, _, _ => false
  | k + 1, n, x => (x * x % n == n - 1) || chain k n (x * x % n)

def sprp (n b s d : Nat) : Bool := b ^ d % n == 1 || b ^ d % n == n - 1 || chain (s - 1) n (b ^ d % n)
def sprpK (n b s d : Nat) : Bool := force (powm n b d) fun x => x == 1 || x == n - 1 || chain (s - 1) n x
theorem sprpK_eq (n b s d : Nat) : sprpK n b s d = sprp n b s d := by
  unfold sprpK sprp
  rw [force_eq, powm_eq]

theorem chain_some : ∀ (k n x : Nat), chain k n x = true → ∃ i, i ≤ k ∧ x ^ (2 ^ (i)) % n = n - 1
  | 0, n, x, h => by simp [chain] at h
  | k + 1, n, x, h => by
    simp only [chain, Bool.or_eq_true, beq_iff_eq] at h
    rcases h with h | h
    · exact ⟨1, by omega, by simpa [Nat.pow_two] using h⟩
    · obtain ⟨i, hi, he⟩ := chain_some k n _ h
      refine ⟨i + 1, by omega, ?_⟩
      rw [← he, Nat.pow_succ 2, Nat.mul_comm, Nat.pow_mul, Nat.pow_two, Nat.pow_mod, Nat.pow_mod (x * x % n), Nat.mod_mod]

theorem neg_sq {n y : Nat} (hn : 2 ≤ n) (h : y % n = n - 1) : y * y % n = 1 := by
  rw [Nat.mul_mod, h]
  obtain ⟨m, rfl⟩ : ∃ m, n = m + 2 := ⟨n - 2, by omega⟩
  have e : (m + 2 - 1) * (m + 2 - 1) = 1 + (m + 2) * m := by
    rw [show m + 2 - 1 = m + 1 by omega]
    simp only [Nat.mul_add, Nat.add_mul, Nat.mul_one, Nat.one_mul]
    omega
  rw [e, Nat.add_mul_mod_self_left, Nat.mod_eq_of_lt (by omega)]

/-- What passes makes b^(n-1) = 1. -/
theorem sprp_fermat {n b s d : Nat} (hn : 2 ≤ n) (hs : 1 ≤ s) (hd : n - 1 = d * 2 ^ s) (h : sprp n b s d = true) : b ^ (n - 1) % n = 1 := by
  simp only [sprp, Bool.or_eq_true, beq_iff_eq] at h
  have key : ∀ i, i < s → b ^ (d * 2 ^ i) % n = n - 1 → b ^ (n - 1) % n = 1 := by
    intro i hi he
    have h1 : b ^ (d * 2 ^ (i + 1)) % n = 1 := by
      rw [Nat.pow_succ, ← Nat.mul_assoc, Nat.pow_mul, Nat.pow_two]
      exact neg_sq hn he
    apply pow1_dvd hn h1
    rw [hd]
    exact Nat.mul_dvd_mul_left d (Nat.pow_dvd_pow 2 (by omega))
  rcases h with (h | h) | h
  · exact pow1_dvd hn h ⟨2 ^ s, hd⟩
  · exact key 0 (by omega) (by simpa using h)
  · obtain ⟨i, hi, he⟩ := chain_some _ _ _ h
    by_cases h0 : s - 1 = 0
    · rw [h0] at h; simp [chain] at h
    · refine key i (by omega) ?_
      rw [Nat.pow_mul, Nat.pow_mod]
      exact he

/-- A prime passes. -/
theorem chain_pass {n : Nat} (hn : Pr n) : ∀ (k x : Nat), x ^ (2 ^ (k + 1)) % n = 1 → x % n ≠ 1 → x % n ≠ n - 1 → chain k n x = true
  | 0, x, h, h1, h2 => by
    rcases sqrt_one hn (x := x) (by simpa [Nat.pow_two] using h) with h | h
    · exact absurd h h1
    · exact absurd h h2
  | k + 1, x, h, h1, h2 => by
    simp only [chain, Bool.or_eq_true, beq_iff_eq]
    by_cases e : x * x % n = n - 1
    · exact Or.inl e
    · right
      apply chain_pass hn k
      · have e2 : x ^ 2 ^ (k + 1 + 1) = (x * x) ^ 2 ^ (k + 1) := by rw [Nat.pow_succ 2 (k + 1), Nat.mul_comm, Nat.pow_mul, Nat.pow_two]
        rw [← Nat.pow_mod, ← e2]
        exact h
      · rw [Nat.mod_mod]
        intro e1
        rcases sqrt_one hn e1 with h | h
        · exact h1 h
        · exact h2 h
      · rw [Nat.mod_mod]; exact e

theorem sprp_of_prime {n b s d : Nat} (hn : Pr n) (hb : ¬ n ∣ b) (hs : 1 ≤ s) (hd : n - 1 = d * 2 ^ s) : sprp n b s d = true := by
  simp only [sprp, Bool.or_eq_true, beq_iff_eq]
  by_cases h1 : b ^ d % n = 1
  · exact Or.inl (Or.inl h1)
  by_cases h2 : b ^ d % n = n - 1
  · exact Or.inl (Or.inr h2)
  right
  apply chain_pass hn (s - 1)
  · rw [← Nat.pow_mod, ← Nat.pow_mul, show s - 1 + 1 = s by omega, ← hd]
    exact fermat hn hb
  · rw [Nat.mod_mod]; exact h1
  · rw [Nat.mod_mod]; exact h2

/-! ### trailing noughts -/
def tz : Nat → Nat → Nat
  | 0, _ => 0
  | k + 1, m => bif m % 2 == 0 then tz k (m / 2) + 1 else 0

theorem tz_spec : ∀ (k m : Nat), 0 < m → m < 2 ^ k → ∃ d, m = d * 2 ^ tz k m ∧ d % 2 = 1
  | 0, m, h0, h => by simp at h; omega
  | k + 1, m, h0, h => by
    unfold tz
    by_cases he : m % 2 = 0
    · obtain ⟨d, hd, ho⟩ := tz_spec k (m / 2) (by omega) (by rw [Nat.pow_succ] at h; omega)
      refine ⟨d, ?_, ho⟩
      rw [beq_iff_eq.2 he, cond_true, Nat.pow_succ, ← Nat.mul_assoc, ← hd]
      omega
    · have : (m % 2 == 0) = false := by simpa using he
      rw [this, cond_false]
      exact ⟨m, by simp, by omega⟩

theorem odd_unique : ∀ (s d s' d' : Nat), d % 2 = 1 → d' % 2 = 1 → d * 2 ^ s = d' * 2 ^ s' → s = s' ∧ d = d'
  | 0, d, 0, d', _, _, h => by simp at h; exact ⟨rfl, h⟩
  | 0, d, s' + 1, d', h1, _, h => by
    rw [Nat.pow_succ, ← Nat.mul_assoc] at h
    simp at h; omega
  | s + 1, d, 0, d', _, h2, h => by
    rw [Nat.pow_succ, ← Nat.mul_assoc] at h
    simp at h; omega
  | s + 1, d, s' + 1, d', h1, h2, h => by
    rw [Nat.pow_succ, Nat.pow_succ, ← Nat.mul_assoc, ← Nat.mul_assoc] at h
    obtain ⟨a, b⟩ := odd_unique s d s' d' h1 h2 (Nat.eq_of_mul_eq_mul_right (by omega) h)
    exact ⟨by omega, b⟩

/-! ### the test of one number, true: it is refuted -/
def sp (n b : Nat) : Bool := force (tz 32 (n - 1)) fun s => force ((n - 1) / 2 ^ s) fun d => sprpK n b s d
def tst (n : Nat) : Bool := bif Nat.beq (powm n 2 (Nat.sub n 1)) 1 then Bool.not (sp n 2 && (sp n 7 && sp n 61)) else true
def tst' (n : Nat) : Bool := bif Nat.beq (Nat.gcd n 1831830) 1 then (bif Nat.ble 4294967296 n then true else tst n) else true

/-- A number that passes and is no prime. -/
structure Bad (n : Nat) : Prop where
  lt : n < 4294967296
  two : 2 ≤ n
  np : ¬ Pr n
  cop : Nat.gcd n 1831830 = 1
  pass : ∀ s d, d % 2 = 1 → n - 1 = d * 2 ^ s → sprp n 2 s d = true ∧ sprp n 7 s d = true ∧ sprp n 61 s d = true

theorem Bad.odd {n : Nat} (h : Bad n) : n % 2 = 1 := by
  have h1 := h.cop
  by_cases e : n % 2 = 0
  · have : 2 ∣ Nat.gcd n 1831830 := Nat.dvd_gcd (Nat.dvd_of_mod_eq_zero e) ⟨915915, rfl⟩
    rw [h1] at this
    omega
  · omega

theorem Bad.three_le {n : Nat} (h : Bad n) : 3 ≤ n := by have := h.odd; have := h.two; omega

theorem Bad.sp3 {n : Nat} (h : Bad n) : sp n 2 = true ∧ sp n 7 = true ∧ sp n 61 = true := by
  have h3 := h.three_le
  obtain ⟨d, hd, ho⟩ := tz_spec 32 (n - 1) (by omega) (by have := h.lt; omega)
  have hdd : (n - 1) / 2 ^ tz 32 (n - 1) = d := by
    have := Nat.mul_div_cancel d (Nat.two_pow_pos (tz 32 (n - 1)))
    rw [← hd] at this
    exact this
  have hp := h.pass _ d ho hd
  simp only [sp, force_eq, sprpK_eq, hdd]
  exact hp

theorem Bad.fermat {n : Nat} (h : Bad n) : 2 ^ (n - 1) % n = 1 ∧ 7 ^ (n - 1) % n = 1 ∧ 61 ^ (n - 1) % n = 1 := by
  have h3 := h.three_le
  obtain ⟨d, hd, ho⟩ := tz_spec 32 (n - 1) (by omega) (by have := h.lt; omega)
  have hp := h.pass _ d ho hd
  have hs : 1 ≤ tz 32 (n - 1) := by
    rcases Nat.eq_zero_or_pos (tz 32 (n - 1)) with e | e
    · rw [e] at hd
      have := h.odd
      simp at hd
      omega
    · exact e
  exact ⟨sprp_fermat (by omega) hs hd hp.1, sprp_fermat (by omega) hs hd hp.2.1, sprp_fermat (by omega) hs hd hp.2.2⟩

theorem Bad.not_tst {n : Nat} (h : Bad n) : tst n = false := by
  have h3 := h.sp3
  have hf : (powm n 2 (n - 1)).beq 1 = true := by
    rw [powm_eq, Nat.beq_eq]
    exact h.fermat.1
  simp [tst, h3.1, h3.2.1, h3.2.2, hf]

theorem Bad.not_tst' {n : Nat} (h : Bad n) : tst' n = false := by
  have h1 : (Nat.gcd n 1831830).beq 1 = true := by rw [Nat.beq_eq]; exact h.cop
  have h2 : Nat.ble 4294967296 n = false := by
    have := h.lt
    cases e : Nat.ble 4294967296 n
    · rfl
    · have := Nat.le_of_ble_eq_true e; omega
  simp [tst', h1, h2, h.not_tst]
end Nt
