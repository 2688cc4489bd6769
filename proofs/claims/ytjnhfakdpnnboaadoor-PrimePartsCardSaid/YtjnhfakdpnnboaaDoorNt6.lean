import Derived.Test.YtjnhfakdpnnboaaDoorNt2
import Derived.Test.YtjnhfakdpnnboaaDoorNt4
/- Factors: what is told of them has one answer. Nothing of the program. -/
namespace Nt

def fprod : List (Nat × Nat) → Nat
  | [] => 1
  | x :: L => x.1 ^ x.2 * fprod L

structure IsFac (n : Nat) (L : List (Nat × Nat)) : Prop where
  prod : fprod L = n
  sorted : L.Pairwise (fun x y => x.1 < y.1)
  pr : ∀ x ∈ L, Pr x.1 ∧ 1 ≤ x.2

theorem fprod_append (L M : List (Nat × Nat)) : fprod (L ++ M) = fprod L * fprod M := by
  induction L with
  | nil => simp [fprod]
  | cons x L ih => simp [fprod, ih, Nat.mul_assoc]
theorem fprod_pos {L : List (Nat × Nat)} (h : ∀ x ∈ L, Pr x.1 ∧ 1 ≤ x.2) : 0 < fprod L := by
  induction L with
  | nil => simp [fprod]
  | cons x L ih => exact Nat.mul_pos (Nat.pow_pos (h x (by simp)).1.pos) (ih fun y hy => h y (by simp [hy]))
theorem prime_dvd_fprod {q : Nat} (hq : Pr q) {L : List (Nat × Nat)} (h : ∀ x ∈ L, Pr x.1 ∧ 1 ≤ x.2) (hd : q ∣ fprod L) : ∃ x ∈ L, q = x.1 := by
  induction L with
  | nil =>
    have := Nat.le_of_dvd (by simp [fprod]) hd
    have := hq.1
    simp [fprod] at *
    omega
  | cons x L ih =>
    rcases hq.dvd_mul (show q ∣ x.1 ^ x.2 * fprod L from hd) with h1 | h1
    · exact ⟨x, by simp, hq.eq_of_dvd (h x (by simp)).1 (hq.dvd_pow h1)⟩
    · obtain ⟨y, hy, he⟩ := ih (fun y hy => h y (by simp [hy])) h1
      exact ⟨y, by simp [hy], he⟩
theorem dvd_fprod {L : List (Nat × Nat)} (h : ∀ x ∈ L, Pr x.1 ∧ 1 ≤ x.2) {x : Nat × Nat} (hx : x ∈ L) : x.1 ∣ fprod L := by
  induction L with
  | nil => simp at hx
  | cons y L ih =>
    rcases List.mem_cons.1 hx with rfl | hx
    · have h1 := (h x (by simp)).2
      refine Nat.dvd_trans ?_ (Nat.dvd_mul_right (x.1 ^ x.2) (fprod L))
      obtain ⟨k, hk⟩ : ∃ k, x.2 = k + 1 := ⟨x.2 - 1, by omega⟩
      rw [hk, Nat.pow_succ]
      exact Nat.dvd_mul_left _ _
    · exact Nat.dvd_trans (ih (fun y hy => h y (by simp [hy])) hx) (Nat.dvd_mul_left _ _)

theorem pow_unique {p : Nat} (hp : Pr p) : ∀ (a b r s : Nat), ¬ p ∣ r → ¬ p ∣ s → p ^ a * r = p ^ b * s → a = b ∧ r = s
  | 0, 0, r, s, _, _, h => ⟨rfl, by simpa using h⟩
  | 0, b + 1, r, s, hr, _, h => by
    rw [Nat.pow_zero, Nat.one_mul, Nat.pow_succ, Nat.mul_comm (p ^ b), Nat.mul_assoc] at h
    exact absurd ⟨_, h⟩ hr
  | a + 1, 0, r, s, _, hs, h => by
    rw [Nat.pow_zero, Nat.one_mul, Nat.pow_succ, Nat.mul_comm (p ^ a), Nat.mul_assoc] at h
    exact absurd ⟨_, h.symm⟩ hs
  | a + 1, b + 1, r, s, hr, hs, h => by
    rw [Nat.pow_succ, Nat.pow_succ, Nat.mul_comm (p ^ a), Nat.mul_comm (p ^ b), Nat.mul_assoc, Nat.mul_assoc] at h
    obtain ⟨h1, h2⟩ := pow_unique hp a b r s hr hs (Nat.eq_of_mul_eq_mul_left hp.pos h)
    exact ⟨by omega, h2⟩

theorem IsFac.head_lpf {n : Nat} {x : Nat × Nat} {L : List (Nat × Nat)} (h : IsFac n (x :: L)) : IsLpf n x.1 where
  dvd := by rw [← h.prod]; exact dvd_fprod h.pr (by simp)
  two := (h.pr x (by simp)).1.1
  least := fun e he hen => by
    obtain ⟨q, hq, hqe⟩ := exists_pr_dvd e he
    have h1 : q ∣ fprod (x :: L) := by rw [h.prod]; exact Nat.dvd_trans hqe hen
    obtain ⟨y, hy, rfl⟩ := prime_dvd_fprod hq h.pr h1
    have h2 := Nat.le_of_dvd (by omega) hqe
    rcases List.mem_cons.1 hy with rfl | hy
    · exact h2
    · have := (List.pairwise_cons.1 h.sorted).1 y hy
      omega

theorem IsFac.tail_not {n : Nat} {x : Nat × Nat} {L : List (Nat × Nat)} (h : IsFac n (x :: L)) : ¬ x.1 ∣ fprod L := fun hd => by
  obtain ⟨y, hy, he⟩ := prime_dvd_fprod (h.pr x (by simp)).1 (fun y hy => h.pr y (by simp [hy])) hd
  have := (List.pairwise_cons.1 h.sorted).1 y hy
  omega
theorem IsFac.tail {n : Nat} {x : Nat × Nat} {L : List (Nat × Nat)} (h : IsFac n (x :: L)) : IsFac (fprod L) L :=
  ⟨rfl, (List.pairwise_cons.1 h.sorted).2, fun y hy => h.pr y (by simp [hy])⟩

/-- One answer. -/
theorem IsFac.unique : ∀ {L M : List (Nat × Nat)} {n : Nat}, IsFac n L → IsFac n M → L = M
  | [], [], _, _, _ => rfl
  | [], y :: M, n, h, k => by
    have h1 := h.prod
    have h2 := k.head_lpf.dvd
    have h3 := k.head_lpf.two
    simp [fprod] at h1
    subst h1
    have := Nat.le_of_dvd (by omega) h2
    omega
  | x :: L, [], n, h, k => by
    have h1 := k.prod
    have h2 := h.head_lpf.dvd
    have h3 := h.head_lpf.two
    simp [fprod] at h1
    subst h1
    have := Nat.le_of_dvd (by omega) h2
    omega
  | x :: L, y :: M, n, h, k => by
    obtain ⟨p, a⟩ := x
    obtain ⟨q, b⟩ := y
    have e : p = q := h.head_lpf.unique k.head_lpf
    subst e
    have hp := (h.pr (p, a) (by simp)).1
    have hh : p ^ a * fprod L = p ^ b * fprod M := h.prod.trans k.prod.symm
    obtain ⟨h1, h2⟩ := pow_unique hp a b _ _ h.tail_not k.tail_not hh
    subst h1
    have ht := h.tail
    have kt := k.tail
    rw [← h2] at kt
    rw [IsFac.unique ht kt]

/-- How many there are. -/
theorem IsFac.len {n : Nat} {L : List (Nat × Nat)} (h : IsFac n L) : 2 ^ L.length ≤ n := by
  rw [← h.prod]
  have hp := h.pr
  clear h
  induction L with
  | nil => simp [fprod]
  | cons x L ih =>
    have h1 := hp x (by simp)
    have h2 : 2 ≤ x.1 ^ x.2 := by
      have : x.1 ^ 1 ≤ x.1 ^ x.2 := Nat.pow_le_pow_right h1.1.pos h1.2
      have := h1.1.1
      simp at *
      omega
    rw [List.length_cons, Nat.pow_succ, Nat.mul_comm, fprod]
    exact Nat.mul_le_mul h2 (ih fun y hy => hp y (by simp [hy]))
theorem IsFac.exp {n : Nat} {L : List (Nat × Nat)} (h : IsFac n L) : ∀ x ∈ L, 2 ^ x.2 ≤ n ∧ x.1 ≤ n := by
  rw [← h.prod]
  have hp := h.pr
  clear h
  induction L with
  | nil => simp
  | cons y L ih =>
    intro x hx
    have hpos := fprod_pos (L := L) fun z hz => hp z (by simp [hz])
    have hy := hp y (by simp)
    rcases List.mem_cons.1 hx with rfl | hx
    · have h2 : 2 ^ x.2 ≤ x.1 ^ x.2 := Nat.pow_le_pow_left hy.1.1 _
      have h3 : x.1 ^ 1 ≤ x.1 ^ x.2 := Nat.pow_le_pow_right hy.1.pos hy.2
      rw [Nat.pow_one] at h3
      rw [fprod]
      have h4 : x.1 ^ x.2 * 1 ≤ x.1 ^ x.2 * fprod L := Nat.mul_le_mul_left _ hpos
      omega
    · have h1 := ih (fun z hz => hp z (by simp [hz])) x hx
      have h2 : 0 < y.1 ^ y.2 := Nat.pow_pos hy.1.pos
      have h3 : 1 * fprod L ≤ y.1 ^ y.2 * fprod L := Nat.mul_le_mul_right _ h2
      rw [fprod]
      omega

/-! ### the program's loop: so far L, still n, the next divisor q -/
structure Fs (n0 n q : Nat) (L : List (Nat × Nat)) : Prop where
  prod : fprod L * n = n0
  pos : 0 < n
  two : 2 ≤ q
  nod : NoD n q
  sorted : L.Pairwise (fun x y => x.1 < y.1)
  pr : ∀ x ∈ L, Pr x.1 ∧ 1 ≤ x.2
  lt : ∀ x ∈ L, x.1 < q

theorem Fs.start {n : Nat} (h : 0 < n) : Fs n n 2 [] where
  prod := by simp [fprod]
  pos := h
  two := Nat.le_refl _
  nod := noD_2 n
  sorted := List.Pairwise.nil
  pr := by simp
  lt := by simp
theorem Fs.skip {n0 n q : Nat} {L : List (Nat × Nat)} (h : Fs n0 n q L) (hd : n % q ≠ 0) : Fs n0 n (q + 1) L where
  prod := h.prod
  pos := h.pos
  two := by have := h.two; omega
  nod := noD_succ h.nod hd
  sorted := h.sorted
  pr := h.pr
  lt := fun x hx => by have := h.lt x hx; omega
theorem Fs.take {n0 n q t m : Nat} {L : List (Nat × Nat)} (h : Fs n0 n q L) (hn : n = q ^ t * m) (ht : 1 ≤ t) (hd : m % q ≠ 0) : Fs n0 m (q + 1) (L ++ [(q, t)]) where
  prod := by rw [fprod_append, ← h.prod, hn]; simp [fprod, Nat.mul_assoc]
  pos := by
    rcases Nat.eq_zero_or_pos m with e | e
    · subst e; simp at hd
    · exact e
  two := by have := h.two; omega
  nod := by
    have hmn : ∀ e, e ∣ m → e ∣ n := fun e he => by rw [hn]; exact Nat.dvd_trans he (Nat.dvd_mul_left _ _)
    exact noD_succ (fun e he hlt hem => h.nod e he hlt (hmn e hem)) hd
  sorted := by
    rw [List.pairwise_append]
    exact ⟨h.sorted, by simp, fun x hx y hy => by simp at hy; subst hy; exact h.lt x hx⟩
  pr := fun x hx => by
    rcases List.mem_append.1 hx with hx | hx
    · exact h.pr x hx
    · simp at hx
      subst hx
      refine ⟨?_, ht⟩
      have hq : q ∣ n := by
        rw [hn]
        obtain ⟨k, rfl⟩ : ∃ k, t = k + 1 := ⟨t - 1, by omega⟩
        rw [Nat.pow_succ, Nat.mul_assoc, Nat.mul_left_comm]
        exact Nat.dvd_mul_right _ _
      exact (noD_lpf h.nod hq h.two).prime
  lt := fun x hx => by
    rcases List.mem_append.1 hx with hx | hx
    · have := h.lt x hx; omega
    · simp at hx; subst hx; simp
theorem Fs.done_one {n0 q : Nat} {L : List (Nat × Nat)} (h : Fs n0 1 q L) : IsFac n0 L :=
  ⟨by have := h.prod; omega, h.sorted, h.pr⟩
theorem Fs.done {n0 n q : Nat} {L : List (Nat × Nat)} (h : Fs n0 n q L) (hn : 2 ≤ n) (hlt : n < q * q) : IsFac n0 (L ++ [(n, 1)]) := by
  have hp : Pr n := (noD_all hn h.nod hlt).prime
  have hqn : q ≤ n := by
    apply Classical.byContradiction
    intro hc
    exact h.nod n hn (by omega) (Nat.dvd_refl n)
  refine ⟨by rw [fprod_append, ← h.prod]; simp [fprod], ?_, fun x hx => ?_⟩
  · rw [List.pairwise_append]
    exact ⟨h.sorted, by simp, fun x hx y hy => by simp at hy; subst hy; have := h.lt x hx; simp; omega⟩
  · rcases List.mem_append.1 hx with hx | hx
    · exact h.pr x hx
    · simp at hx; subst hx; exact ⟨hp, Nat.le_refl _⟩
theorem Fs.len {n0 n q : Nat} {L : List (Nat × Nat)} (h : Fs n0 n q L) : 2 ^ L.length ≤ n0 := by
  have h1 := (IsFac.mk rfl h.sorted h.pr : IsFac (fprod L) L).len
  have h2 : fprod L * 1 ≤ fprod L * n := Nat.mul_le_mul_left _ h.pos
  rw [h.prod] at h2
  omega

/-! ### the reference's loop -/
structure Rs (n0 n : Nat) (L : List (Nat × Nat)) : Prop where
  prod : fprod L * n = n0
  pos : 0 < n
  sorted : L.Pairwise (fun x y => x.1 < y.1)
  pr : ∀ x ∈ L, Pr x.1 ∧ 1 ≤ x.2
  le : ∀ x ∈ L, ∀ e, 2 ≤ e → e ∣ n → x.1 ≤ e
theorem Rs.start {n : Nat} (h : 0 < n) : Rs n n [] := ⟨by simp [fprod], h, List.Pairwise.nil, by simp, by simp⟩
theorem div_dvd {n p e : Nat} (hp : p ∣ n) (he : e ∣ n / p) : e ∣ n := Nat.dvd_trans he (Nat.div_dvd_of_dvd hp)
theorem Rs.new {n0 n p : Nat} {L : List (Nat × Nat)} (h : Rs n0 n L) (hp : IsLpf n p) (hne : ∀ x ∈ L, x.1 ≠ p) : Rs n0 (n / p) (L ++ [(p, 1)]) where
  prod := by
    rw [fprod_append, ← h.prod]
    have := Nat.mul_div_cancel' hp.dvd
    simp only [fprod, Nat.pow_one, Nat.mul_one, Nat.mul_assoc, this]
  pos := Nat.div_pos (Nat.le_of_dvd h.pos hp.dvd) (by have := hp.two; omega)
  sorted := by
    rw [List.pairwise_append]
    exact ⟨h.sorted, by simp, fun x hx y hy => by
      simp at hy; subst hy
      have h1 := h.le x hx p hp.two hp.dvd
      have h2 := hne x hx
      show x.1 < p
      omega⟩
  pr := fun x hx => by
    rcases List.mem_append.1 hx with hx | hx
    · exact h.pr x hx
    · simp at hx; subst hx; exact ⟨hp.prime, Nat.le_refl _⟩
  le := fun x hx e he hd => by
    rcases List.mem_append.1 hx with hx | hx
    · exact h.le x hx e he (div_dvd hp.dvd hd)
    · simp at hx; subst hx; exact hp.least e he (div_dvd hp.dvd hd)
theorem Rs.more {n0 n p k : Nat} {L : List (Nat × Nat)} (h : Rs n0 n (L ++ [(p, k)])) (hp : IsLpf n p) : Rs n0 (n / p) (L ++ [(p, k + 1)]) where
  prod := by
    have := h.prod
    rw [fprod_append] at this ⊢
    rw [← this]
    have hd := Nat.mul_div_cancel' hp.dvd
    simp only [fprod, Nat.mul_one, Nat.pow_succ, Nat.mul_assoc, hd]
  pos := Nat.div_pos (Nat.le_of_dvd h.pos hp.dvd) (by have := hp.two; omega)
  sorted := by
    have := h.sorted
    rw [List.pairwise_append] at this ⊢
    exact ⟨this.1, by simp, fun x hx y hy => by simp at hy; subst hy; exact this.2.2 x hx (p, k) (by simp)⟩
  pr := fun x hx => by
    rcases List.mem_append.1 hx with hx | hx
    · exact h.pr x (by simp [hx])
    · simp at hx; subst hx
      exact ⟨hp.prime, by simp⟩
  le := fun x hx e he hd => by
    rcases List.mem_append.1 hx with hx | hx
    · exact h.le x (by simp [hx]) e he (div_dvd hp.dvd hd)
    · simp at hx; subst hx; exact hp.least e he (div_dvd hp.dvd hd)
theorem Rs.done {n0 n : Nat} {L : List (Nat × Nat)} (h : Rs n0 n L) (hn : n ≤ 1) : IsFac n0 L :=
  ⟨by have := h.prod; have h1 : n = 1 := by have := h.pos; omega
      rw [h1, Nat.mul_one] at this; exact this, h.sorted, h.pr⟩
theorem Rs.len {n0 n : Nat} {L : List (Nat × Nat)} (h : Rs n0 n L) : 2 ^ L.length ≤ n0 := by
  have h1 := (IsFac.mk rfl h.sorted h.pr : IsFac (fprod L) L).len
  have h2 : fprod L * 1 ≤ fprod L * n := Nat.mul_le_mul_left _ h.pos
  rw [h.prod] at h2
  omega
end Nt
