import Derived.Test.YtipbpdiahemmpaaDoorMr1
/- Why the search is enough. -/
namespace Nt

theorem band {c x : Bool} (h : (bif c then x else false) = true) : c = true ∧ x = true := by cases c <;> simp_all
theorem bor {c x : Bool} (h : (bif c then true else x) = true) : c = true ∨ x = true := by cases c <;> simp_all
theorem bimp {c x : Bool} (h : (bif c then x else true) = true) (hc : c = true) : x = true := by cases c <;> simp_all
theorem beqN {a b : Nat} : Nat.beq a b = true ↔ a = b := by rw [Nat.beq_eq]
theorem bltN {a b : Nat} : Nat.blt a b = true ↔ a < b := by rw [Nat.blt_eq]
theorem bleN {a b : Nat} : Nat.ble a b = true ↔ a ≤ b := by rw [Nat.ble_eq]

/-! ### products of lists -/
theorem dvd_prod {x : Nat} : ∀ {l : List Nat}, x ∈ l → x ∣ prod l
  | [], h => by simp at h
  | a :: l, h => by
    rcases List.mem_cons.1 h with rfl | h
    · exact ⟨prod l, rfl⟩
    · exact Nat.dvd_trans (dvd_prod h) ⟨a, by rw [prod, Nat.mul_comm]⟩
theorem Pr.dvd_prod {q : Nat} (hq : Pr q) : ∀ {l : List Nat}, q ∣ prod l → ∃ x ∈ l, q ∣ x
  | [], h => by
    have := Nat.le_of_dvd (by simp [prod]) h
    have := hq.1
    simp [prod] at *
    omega
  | a :: l, h => by
    rcases hq.dvd_mul (show q ∣ a * prod l from h) with h | h
    · exact ⟨a, by simp, h⟩
    · obtain ⟨x, hx, hd⟩ := hq.dvd_prod h
      exact ⟨x, by simp [hx], hd⟩

/-! ### the small primes -/
theorem smallP_eq : smallP = prod small := by decide +kernel
theorem small_pos : ∀ x ∈ small, 2 ≤ x ∧ x ≤ 367 := by decide +kernel
def comp (r : Nat) : Bool := small.any fun f => Nat.blt f r && Nat.beq (r % f) 0
theorem comp_not {r : Nat} (h : comp r = true) : ¬ Pr r := by
  intro hp
  obtain ⟨f, hf, h2⟩ := List.any_eq_true.1 h
  rw [Bool.and_eq_true, bltN, beqN] at h2
  have h3 := small_pos f hf
  rcases hp.2 f (Nat.dvd_of_mod_eq_zero h2.2) with e | e <;> omega
theorem small_full0 : (List.range 368).all (fun r => Nat.blt r 2 || comp r || small.contains r) = true := by decide +kernel
theorem small_full {f : Nat} (hf : Pr f) (h : f ≤ 367) : f ∈ small := by
  have h1 := List.all_eq_true.1 small_full0 f (by simp; omega)
  rw [Bool.or_eq_true, Bool.or_eq_true, bltN] at h1
  have := hf.1
  rcases h1 with (h1 | h1) | h1
  · omega
  · exact absurd hf (comp_not h1)
  · simpa using h1
theorem smallP_dvd {f : Nat} (hf : Pr f) (h : f ≤ 367) : f ∣ smallP := by rw [smallP_eq]; exact dvd_prod (small_full hf h)
theorem not_dvd_smallP {q : Nat} (hq : Pr q) (h : 367 < q) : ¬ q ∣ smallP := by
  rw [smallP_eq]
  intro hd
  obtain ⟨x, hx, h2⟩ := hq.dvd_prod hd
  have h3 := small_pos x hx
  have := Nat.le_of_dvd (by omega) h2
  omega

/-! ### strip -/
theorem strip_prime {P q : Nat} (hq : Pr q) (hP : ¬ q ∣ P) : ∀ (k g : Nat), q ∣ g → q ∣ strip P k g
  | 0, g, h => h
  | k + 1, g, h => by
    unfold strip
    rw [force_eq, force_eq]
    cases Nat.beq (Nat.gcd g P) 1
    · rw [cond_false]
      apply strip_prime hq hP k
      have hg : g = Nat.gcd g P * (g / Nat.gcd g P) := (Nat.mul_div_cancel' (Nat.gcd_dvd_left g P)).symm
      rw [hg] at h
      rcases hq.dvd_mul h with h | h
      · exact absurd (Nat.dvd_trans h (Nat.gcd_dvd_right g P)) hP
      · exact h
    · exact h
theorem strip_dvd {P : Nat} : ∀ (k g : Nat), strip P k g ∣ g
  | 0, g => Nat.dvd_refl g
  | k + 1, g => by
    unfold strip
    rw [force_eq, force_eq]
    cases Nat.beq (Nat.gcd g P) 1
    · rw [cond_false]
      exact Nat.dvd_trans (strip_dvd k _) (Nat.div_dvd_of_dvd (Nat.gcd_dvd_left g P))
    · exact Nat.dvd_refl g

/-! ### orders -/
def F (r N : Nat) : Prop := 2 ^ N % r = 1 ∧ 7 ^ N % r = 1 ∧ 61 ^ N % r = 1
theorem F3_iff {r e : Nat} : F3 r e = true ↔ F r e := by
  unfold F3 F
  rw [powm_eq, powm_eq, powm_eq]
  constructor
  · intro h
    obtain ⟨h1, h⟩ := band h
    obtain ⟨h2, h3⟩ := band h
    exact ⟨beqN.1 h1, beqN.1 h2, beqN.1 h3⟩
  · rintro ⟨h1, h2, h3⟩
    rw [beqN.2 h1, beqN.2 h2, beqN.2 h3]; rfl
theorem F.gcd {r N K : Nat} (hr : 2 ≤ r) (h : F r N) (k : F r K) : F r (Nat.gcd N K) :=
  ⟨pow1_gcd hr _ _ h.1 k.1, pow1_gcd hr _ _ h.2.1 k.2.1, pow1_gcd hr _ _ h.2.2 k.2.2⟩
theorem F.dvd {r N K : Nat} (hr : 2 ≤ r) (h : F r N) (d : N ∣ K) : F r K :=
  ⟨pow1_dvd hr h.1 d, pow1_dvd hr h.2.1 d, pow1_dvd hr h.2.2 d⟩
theorem F.of_dvd {r n N : Nat} (hr : 2 ≤ r) (d : r ∣ n) (h : F n N) : F r N :=
  ⟨pow1_dvd_mod hr d h.1, pow1_dvd_mod hr d h.2.1, pow1_dvd_mod hr d h.2.2⟩

theorem chkL_sound {r l N : Nat} (hr : 2 ≤ r) (h : chkL r l = true) (hN : F r N) : l ∣ N := by
  unfold chkL at h
  obtain ⟨hb, h⟩ := band h
  obtain ⟨hF, h⟩ := band h
  obtain ⟨hs, h⟩ := band h
  rw [bleN] at hb
  have hFl := F3_iff.1 hF
  have hg := hFl.gcd hr hN
  apply Classical.byContradiction
  intro hnd
  have hgl := Nat.gcd_dvd_left l N
  obtain ⟨k, hk⟩ := hgl
  have hk1 : k ≠ 1 := by
    rintro rfl
    rw [Nat.mul_one] at hk
    exact hnd (hk ▸ Nat.gcd_dvd_right l N)
  have hl0 : l ≠ 0 := by
    rintro rfl
    have h1 := hFl.1
    have h2 : Nat.gcd 0 N = N := Nat.gcd_zero_left N
    rw [h2] at hk
    -- l = 0: then the first prime fails at once
    have h3 := allL_mem hs 2 (by decide)
    have h4 : F3 r (0 / 2) = true := hF
    simp [h4] at h3
  have hk0 : k ≠ 0 := by rintro rfl; rw [Nat.mul_zero] at hk; exact hl0 hk
  obtain ⟨f, hf, hfk⟩ := exists_pr_dvd k (by omega)
  have hfl : f ∣ l := Nat.dvd_trans hfk ⟨Nat.gcd l N, by rw [Nat.mul_comm]; exact hk⟩
  have hf0 := hf.1
  have key : ∀ f, Pr f → f ∣ k → F r (l / f) := by
    intro f hf hfk
    apply hg.dvd hr
    obtain ⟨j, rfl⟩ := hfk
    refine ⟨j, ?_⟩
    have : l = f * (Nat.gcd l N * j) := by
      rw [Nat.mul_left_comm]; exact hk
    conv => lhs; rw [this]
    exact Nat.mul_div_cancel_left _ hf.pos
  have hbig : ∀ f, Pr f → f ∣ k → 367 < f := by
    intro f hf hfk
    apply Classical.byContradiction
    intro hle
    have h1 := allL_mem hs f (small_full hf (by omega))
    have hfl : f ∣ l := Nat.dvd_trans hfk ⟨Nat.gcd l N, by rw [Nat.mul_comm]; exact hk⟩
    rw [beqN.2 (Nat.mod_eq_zero_of_dvd hfl), cond_true, F3_iff.2 (key f hf hfk)] at h1
    simp at h1
  rw [force_eq] at h
  have hfm := strip_prime hf (not_dvd_smallP hf (hbig f hf hfk)) 20 l hfl
  have hml := strip_dvd (P := smallP) 20 l
  generalize strip smallP 20 l = m at h hfm hml
  have hlpos : 0 < l := by omega
  have hmle := Nat.le_of_dvd hlpos hml
  have hm0 : m ≠ 0 := by rintro rfl; exact hl0 (Nat.eq_zero_of_zero_dvd hml)
  have hm1 : m ≠ 1 := by rintro rfl; have := Nat.le_of_dvd (by omega) hfm; omega
  rcases bor h with h | h
  · exact hm1 (beqN.1 h)
  obtain ⟨hc, h⟩ := band h
  rw [beqN] at hc
  obtain ⟨j, hj⟩ := hfm
  have hj1 : j = 1 := by
    apply Classical.byContradiction
    intro hj1
    have hj0 : j ≠ 0 := by rintro rfl; simp at hj; exact hm0 hj
    obtain ⟨f', hf', hfj⟩ := exists_pr_dvd j (by omega)
    have hf'm : f' ∣ m := Nat.dvd_trans hfj ⟨f, by rw [Nat.mul_comm]; exact hj⟩
    have : 367 < f' := by
      apply Classical.byContradiction
      intro hle
      have : f' ∣ Nat.gcd m smallP := Nat.dvd_gcd hf'm (smallP_dvd hf' (by omega))
      rw [hc] at this
      have := Nat.le_of_dvd (by omega) this
      have := hf'.1
      omega
    have hj2 : f' ≤ j := Nat.le_of_dvd (by omega) hfj
    have hf2 := hbig f hf hfk
    have : 368 * 368 ≤ f * j := Nat.mul_le_mul (by omega) (by omega)
    omega
  rw [hj1, Nat.mul_one] at hj
  rw [hj, F3_iff.2 (key f hf hfk)] at h
  simp at h

/-! ### leaves -/
theorem leaf_sound {base step n k : Nat} (h : leaf base step = true) (hs : 0 < step) (hn : n = base + k * step) (hlt : n < 4294967296) : tst' n = true := by
  unfold leaf at h
  rw [force_eq, force_eq] at h
  have hk : k < Nat.succ (Nat.div (Nat.sub 4294967296 base) step) := by
    have : k ≤ (4294967296 - base) / step := (Nat.le_div_iff_mul_le hs).2 (by omega)
    exact Nat.lt_succ_of_le this
  have h1 := allN_lt h k hk
  rw [hn]
  exact h1

theorem Bad.mod1 {n l : Nat} (hn : Bad n) (h : l ∣ n - 1) : n % l = 1 % l :=
  mod_of_dvd_sub (by have := hn.two; omega) h
theorem cop_of {n a l : Nat} (hn : 1 ≤ n) (ha : a ∣ n) (hl : l ∣ n - 1) : Nat.gcd a l = 1 := by
  have h1 : Nat.gcd a l ∣ n := Nat.dvd_trans (Nat.gcd_dvd_left a l) ha
  have h2 : Nat.gcd a l ∣ n - 1 := Nat.dvd_trans (Nat.gcd_dvd_right a l) hl
  have h3 := Nat.dvd_sub h1 h2
  rw [show n - (n - 1) = 1 by omega] at h3
  exact Nat.dvd_one.1 h3

theorem leafN_sound {a l n : Nat} (h : leafN a l = true) (hn : Bad n) (ha : a ∣ n) (hl : l ∣ n - 1) (hl0 : 0 < l) : False := by
  have hn2 := hn.two
  unfold leafN at h
  rw [force_eq] at h
  generalize inv l 40 a l 1 0 = m0 at h
  obtain ⟨h1, h⟩ := band h
  obtain ⟨h2, h⟩ := band h
  have h1 : a * m0 % l = 1 % l := beqN.1 h1
  have h2 : m0 < l := bltN.1 h2
  rw [force_eq] at h
  obtain ⟨m, hm⟩ := ha
  have ha0 : 0 < a := by
    rcases Nat.eq_zero_or_pos a with rfl | h0
    · simp at hm; omega
    · exact h0
  have hc : Nat.Coprime l a := by
    have := cop_of (by omega) ⟨m, hm⟩ hl
    exact (Nat.gcd_comm l a).trans this
  have h3 : a * m % l = a * m0 % l := by rw [← hm, hn.mod1 hl, h1]
  have h4 := cancel hc h3
  rw [Nat.mod_eq_of_lt h2] at h4
  have h5 : m = m0 + m / l * l := by have := Nat.mod_add_div m l; rw [Nat.mul_comm] at this; omega
  have h6 : n = a * m0 + m / l * (a * l) := by
    rw [hm]
    conv => lhs; rw [h5]
    rw [Nat.mul_add, Nat.mul_left_comm]
  rcases bor h with h | h
  · have h7 : 4294967296 ≤ a * m0 := bleN.1 h
    have := hn.lt
    have h8 : a * m0 ≤ n := by rw [h6]; exact Nat.le_add_right _ _
    omega
  · have := leaf_sound (k := m / l) h (Nat.mul_pos ha0 hl0) h6 hn.lt
    rw [hn.not_tst'] at this
    cases this

/-! ### the table -/
def full : Nat → Nat → List (Nat × Nat) → Bool
  | 0, _, _ => true
  | k + 1, r, [] => (Nat.beq r 61 || comp r) && full k (r + 2) []
  | k + 1, r, x :: t => bif Nat.beq x.1 r then full k (r + 2) t else ((Nat.beq r 61 || comp r) && full k (r + 2) (x :: t))
theorem full_sound : ∀ (k r : Nat) (t : List (Nat × Nat)), full k r t = true → ∀ i, i < k → (∃ l, (r + 2 * i, l) ∈ t) ∨ (Nat.beq (r + 2 * i) 61 || comp (r + 2 * i)) = true
  | 0, _, _, _, i, hi => by omega
  | k + 1, r, [], h, i, hi => by
    unfold full at h
    rw [Bool.and_eq_true] at h
    cases i with
    | zero => exact Or.inr h.1
    | succ i =>
      have := full_sound k (r + 2) [] h.2 i (by omega)
      rw [show r + 2 + 2 * i = r + 2 * (i + 1) by omega] at this
      exact this
  | k + 1, r, x :: t, h, i, hi => by
    unfold full at h
    cases hb : Nat.beq x.1 r
    · rw [hb, cond_false, Bool.and_eq_true] at h
      cases i with
      | zero => exact Or.inr h.1
      | succ i =>
        have := full_sound k (r + 2) (x :: t) h.2 i (by omega)
        rw [show r + 2 + 2 * i = r + 2 * (i + 1) by omega] at this
        exact this
    · rw [hb, cond_true] at h
      cases i with
      | zero =>
        left
        refine ⟨x.2, ?_⟩
        have := beqN.1 hb
        rw [Nat.mul_zero, Nat.add_zero, ← this]
        simp
      | succ i =>
        have := full_sound k (r + 2) t h i (by omega)
        rw [show r + 2 + 2 * i = r + 2 * (i + 1) by omega] at this
        rcases this with ⟨l, hl⟩ | h2
        · exact Or.inl ⟨l, by simp [hl]⟩
        · exact Or.inr h2

/-- A prime factor of such a number is at least 17, and not 61. -/
theorem Bad.prime {n r : Nat} (hn : Bad n) (hr : Pr r) (hd : r ∣ n) : 17 ≤ r ∧ r ≠ 61 ∧ r % 2 = 1 := by
  have hno : ∀ s, s ∣ 1831830 → r = s → False := by
    intro s hs he
    subst he
    have h1 := Nat.dvd_gcd hd hs
    rw [hn.cop] at h1
    have h3 := Nat.dvd_one.1 h1
    have := hr.1
    omega
  have hr2 := hr.1
  have h61 : r ≠ 61 := fun e => hno 61 ⟨30030, rfl⟩ e
  have hodd : r % 2 = 1 := by
    by_cases e : r % 2 = 0
    · rcases hr.2 2 (Nat.dvd_of_mod_eq_zero e) with h | h
      · omega
      · exact (hno 2 ⟨915915, rfl⟩ h.symm).elim
    · omega
  have h3 : r ≠ 3 := fun e => hno 3 ⟨610610, rfl⟩ e
  have h5 : r ≠ 5 := fun e => hno 5 ⟨366366, rfl⟩ e
  have h7 : r ≠ 7 := fun e => hno 7 ⟨261690, rfl⟩ e
  have h11 : r ≠ 11 := fun e => hno 11 ⟨166530, rfl⟩ e
  have h13 : r ≠ 13 := fun e => hno 13 ⟨140910, rfl⟩ e
  have h9 : r ≠ 9 := by
    rintro rfl
    rcases hr.2 3 ⟨3, rfl⟩ with h | h <;> omega
  have h15 : r ≠ 15 := by
    rintro rfl
    rcases hr.2 3 ⟨5, rfl⟩ with h | h <;> omega
  exact ⟨by omega, h61, hodd⟩

theorem Bad.F {n r : Nat} (hn : Bad n) (hr : 2 ≤ r) (hd : r ∣ n) : Nt.F r (n - 1) := by
  have h := hn.fermat
  exact F.of_dvd hr hd ⟨h.1, h.2.1, h.2.2⟩

theorem max_prime : ∀ m : Nat, 2 ≤ m → ∃ r, Pr r ∧ r ∣ m ∧ ∀ s, Pr s → s ∣ m → s ≤ r := by
  intro m
  induction m using Nat.strongRecOn with
  | ind m ih =>
    intro hm
    obtain ⟨p, hp, k, hk⟩ := exists_pr_dvd m hm
    have hp2 := hp.1
    have hk0 : k ≠ 0 := by rintro rfl; simp at hk; omega
    by_cases hk1 : k = 1
    · subst hk1
      rw [Nat.mul_one] at hk
      subst hk
      exact ⟨m, hp, Nat.dvd_refl m, fun s _ hd => Nat.le_of_dvd (by omega) hd⟩
    · have hkm : k < m := by
        rw [hk]
        have : 2 * k ≤ p * k := Nat.mul_le_mul_right k hp2
        omega
      obtain ⟨r, hr, hrk, hmax⟩ := ih k hkm (by omega)
      have hrm : r ∣ m := Nat.dvd_trans hrk ⟨p, by rw [Nat.mul_comm]; exact hk⟩
      by_cases hpr : p ≤ r
      · refine ⟨r, hr, hrm, fun s hs hd => ?_⟩
        rw [hk] at hd
        rcases hs.dvd_mul hd with h | h
        · rw [Pr.eq_of_dvd hs hp h]; exact hpr
        · exact hmax s hs h
      · refine ⟨p, hp, ⟨k, hk⟩, fun s hs hd => ?_⟩
        rw [hk] at hd
        rcases hs.dvd_mul hd with h | h
        · rw [Pr.eq_of_dvd hs hp h]; exact Nat.le_refl _
        · have := hmax s hs h; omega

/-- What the table says. -/
structure TabFits : Prop where
  ok : ∀ x ∈ tab, chkL x.1 x.2 = true
  full : ∀ r, Pr r → 17 ≤ r → r < 4096 → r ≠ 61 → ∃ l, (r, l) ∈ tab

/-- One step down: the next greatest prime. -/
theorem step_sound (T : TabFits) {a l last n : Nat} (hn : Bad n) (hla : last < 4096) (ha : a ∣ n) (hl : l ∣ n - 1) (hne : n ≠ a) (hprimes : ∀ s, Pr s → s ∣ n / a → s ≤ last) :
    ∃ x ∈ tab, x.1 ≤ last ∧ a * x.1 ∣ n ∧ Nat.lcm l x.2 ∣ n - 1 ∧ ∀ s, Pr s → s ∣ n / (a * x.1) → s ≤ x.1 := by
  obtain ⟨m, hm⟩ := ha
  have hn2 := hn.two
  have ha0 : 0 < a := by
    rcases Nat.eq_zero_or_pos a with rfl | h0
    · simp at hm; omega
    · exact h0
  have hdiv : n / a = m := by rw [hm]; exact Nat.mul_div_cancel_left m ha0
  rw [hdiv] at hprimes
  have hm0 : m ≠ 0 := by rintro rfl; simp at hm; omega
  have hm1 : m ≠ 1 := by rintro rfl; rw [Nat.mul_one] at hm; exact hne hm
  obtain ⟨r, hr, hrm, hmax⟩ := max_prime m (by omega)
  have hrn : r ∣ n := Nat.dvd_trans hrm ⟨a, by rw [Nat.mul_comm]; exact hm⟩
  have h17 := hn.prime hr hrn
  have hrl := hprimes r hr hrm
  obtain ⟨l2, hl2⟩ := T.full r hr h17.1 (by omega) h17.2.1
  have hok : chkL r l2 = true := T.ok (r, l2) hl2
  have hL := chkL_sound hr.1 hok (hn.F hr.1 hrn)
  obtain ⟨j, hj⟩ := hrm
  refine ⟨(r, l2), hl2, hrl, ⟨j, ?_⟩, Nat.lcm_dvd hl hL, ?_⟩
  · rw [hm, hj, Nat.mul_assoc]
  · intro s hs hd
    have e : n / (a * r) = j := by
      rw [hm, hj, ← Nat.mul_assoc]
      exact Nat.mul_div_cancel_left j (Nat.mul_pos ha0 hr.pos)
    have hd' : s ∣ n / (a * r) := hd
    rw [e] at hd'
    exact hmax s hs (Nat.dvd_trans hd' ⟨r, by rw [Nat.mul_comm]; exact hj⟩)

theorem node_sound (T : TabFits) : ∀ (f a l last n : Nat), node f a l last = true → Bad n → last < 4096 → a ∣ n → l ∣ n - 1 → 0 < l → (∀ s, Pr s → s ∣ n / a → s ≤ last) → False
  | 0, a, l, last, n, h, hn, _, ha, hl, hl0, _ => leafN_sound h hn ha hl hl0
  | f + 1, a, l, last, n, h, hn, hla, ha, hl, hl0, hp => by
    have h' : (bif Nat.beq (Nat.gcd a l) 1 then
      (bif Nat.ble (Nat.div 4294967296 (Nat.mul a l)) 600 then leafN a l else
        bif tst' a then allL (fun x => bif Nat.blt last x.1 then true else force (Nat.mul a x.1) fun a' => bif Nat.ble 4294967296 a' then true else
          force (Nat.lcm l x.2) fun l' => node f a' l' x.1) tab else false) else true) = true := h
    have hn2 := hn.two
    have h1 := bimp h' (beqN.2 (cop_of (by omega) ha hl))
    cases hb : Nat.ble (Nat.div 4294967296 (Nat.mul a l)) 600
    · rw [hb, cond_false] at h1
      obtain ⟨h2, h3⟩ := band h1
      have hne : n ≠ a := by
        rintro rfl
        rw [hn.not_tst'] at h2
        cases h2
      obtain ⟨x, hx, hxl, hxa, hlc, hp'⟩ := step_sound T hn hla ha hl hne hp
      have h4 := allL_mem h3 x hx
      rcases bor h4 with h5 | h5
      · rw [bltN] at h5; omega
      · rw [force_eq] at h5
        rcases bor h5 with h6 | h6
        · rw [bleN] at h6
          have h7 : a * x.1 ≤ n := Nat.le_of_dvd (by omega) hxa
          have h8 : 4294967296 ≤ a * x.1 := h6
          have := hn.lt
          omega
        · rw [force_eq] at h6
          have hl' : 0 < Nat.lcm l x.2 := Nat.pos_of_dvd_of_pos hlc (by have := hn.three_le; omega)
          exact node_sound T f (a * x.1) (Nat.lcm l x.2) x.1 n h6 hn (by omega) hxa hlc hl' hp'
    · rw [hb, cond_true] at h1
      exact leafN_sound h1 hn ha hl hl0

theorem top0_sound (T : TabFits) {q n : Nat} (h : top0 q = true) (hq : Pr q) (hn : Bad n) (hd : q ∣ n) (hp : ∀ s, Pr s → s ∣ n → s ≤ q) : False := by
  unfold top0 at h
  rw [force_eq] at h
  generalize ordL q 10 (q - 1) = l at h
  obtain ⟨hc, h⟩ := band h
  have hl := chkL_sound hq.1 hc (hn.F hq.1 hd)
  have hn2 := hn.two
  have hn3 := hn.three_le
  have hl0 : 0 < l := Nat.pos_of_dvd_of_pos hl (by omega)
  have hne : n ≠ q := fun e => hn.np (e ▸ hq)
  have hq2 := hq.1
  have hp' : ∀ s, Pr s → s ∣ n / q → s ≤ q := fun s hs hsd => hp s hs (Nat.dvd_trans hsd (Nat.div_dvd_of_dvd hd))
  cases hb : (Nat.blt q 4096 && Nat.blt 3000 (4294967296 / (q * l)))
  · rw [hb, cond_false] at h
    obtain ⟨m, hm⟩ := hd
    have hcq : Nat.Coprime l q := (Nat.gcd_comm l q).trans (cop_of (by omega) ⟨m, hm⟩ hl)
    -- n = q m, and q = 1 modulo l ? no: m is what q's inverse is
    have hFq := (hn.F hq.1 ⟨m, hm⟩)
    have hq1 : l ∣ q - 1 := by
      have hf : Nt.F q (q - 1) := by
        have hnd : ∀ b, b ^ (n - 1) % q = 1 → ¬ q ∣ b := fun b hb => not_dvd_of_pow1 (by omega) hb
        exact ⟨fermat hq (hnd 2 hFq.1), fermat hq (hnd 7 hFq.2.1), fermat hq (hnd 61 hFq.2.2)⟩
      exact chkL_sound hq.1 hc hf
    have hqm : q % l = 1 % l := mod_of_dvd_sub (by omega) hq1
    have hmm : m % l = 1 % l := by
      have h1 := hn.mod1 hl
      rw [hm, Nat.mul_mod, hqm, ← Nat.mul_mod, Nat.one_mul] at h1
      exact h1
    have hm0 : m ≠ 0 := by rintro rfl; simp at hm; omega
    have hm1 : m ≠ 1 := by rintro rfl; rw [Nat.mul_one] at hm; exact hne hm
    obtain ⟨k, hk⟩ := dvd_sub_of_mod hmm (by omega)
    have hk0 : k ≠ 0 := by rintro rfl; simp at hk; omega
    have he : n = q + q * l + (k - 1) * (q * l) := by
      obtain ⟨j, rfl⟩ : ∃ j, k = j + 1 := ⟨k - 1, by omega⟩
      have hmk : m = 1 + l * (j + 1) := by omega
      rw [hm, hmk, Nat.add_sub_cancel]
      simp only [Nat.mul_add, Nat.mul_one]
      have : q * (l * j) = j * (q * l) := by ac_rfl
      omega
    have := leaf_sound h (Nat.mul_pos (by omega) hl0) he hn.lt
    rw [hn.not_tst'] at this
    cases this
  · rw [hb, cond_true] at h
    rw [Bool.and_eq_true, bltN] at hb
    obtain ⟨x, hx, hxl, hxa, hlc, hp2⟩ := step_sound T hn hb.1 hd hl hne hp'
    have h4 := allL_mem h x hx
    rcases bor h4 with h5 | h5
    · rw [bltN] at h5; omega
    · rw [force_eq] at h5
      rcases bor h5 with h6 | h6
      · rw [bleN] at h6
        have h7 : q * x.1 ≤ n := Nat.le_of_dvd (by omega) hxa
        have h8 : 4294967296 ≤ q * x.1 := h6
        have := hn.lt
        omega
      · rw [force_eq] at h6
        have hl' : 0 < Nat.lcm l x.2 := Nat.pos_of_dvd_of_pos hlc (by omega)
        exact node_sound T 8 (q * x.1) (Nat.lcm l x.2) x.1 n h6 hn (by omega) hxa hlc hl' hp2

theorem top_sound (T : TabFits) {q n : Nat} (h : top q = true) (hq : Pr q) (h367 : 367 < q) (hn : Bad n) (hd : q ∣ n) (hp : ∀ s, Pr s → s ∣ n → s ≤ q) : False := by
  unfold top at h
  have hc : Nat.gcd q smallP = 1 := hq.coprime (not_dvd_smallP hq h367)
  exact top0_sound T (bimp h (beqN.2 hc)) hq hn hd hp

/-! ### the odd numbers' product -/
theorem podd_dvd {r : Nat} : ∀ (k a i : Nat), i < 2 ^ k → r = a + 2 * i → r ∣ podd k a
  | 0, a, i, hi, he => by
    have : i = 0 := by simpa using hi
    subst this
    rw [he]
    exact Nat.dvd_refl _
  | k + 1, a, i, hi, he => by
    unfold podd
    rw [Nat.pow_succ] at hi
    by_cases h : i < 2 ^ k
    · exact Nat.dvd_trans (podd_dvd k a i h he) ⟨_, rfl⟩
    · exact Nat.dvd_trans (podd_dvd k (a + 2 * 2 ^ k) (i - 2 ^ k) (by omega) (by omega)) ⟨_, Nat.mul_comm _ _⟩
theorem podd_prime {q : Nat} (hq : Pr q) : ∀ (k a : Nat), q ∣ podd k a → ∃ i, i < 2 ^ k ∧ q ∣ a + 2 * i
  | 0, a, h => ⟨0, by simp, h⟩
  | k + 1, a, h => by
    unfold podd at h
    rcases hq.dvd_mul h with h | h
    · obtain ⟨i, hi, hd⟩ := podd_prime hq k a h
      exact ⟨i, by rw [Nat.pow_succ]; omega, hd⟩
    · obtain ⟨i, hi, hd⟩ := podd_prime hq k _ h
      exact ⟨2 ^ k + i, by rw [Nat.pow_succ]; omega, by rw [Nat.mul_add, ← Nat.add_assoc]; exact hd⟩
theorem PR_dvd {r : Nat} (hr : Pr r) (h : r ≤ 131072) : r ∣ PR := by
  unfold PR
  by_cases e : r % 2 = 0
  · rcases hr.2 2 (Nat.dvd_of_mod_eq_zero e) with h1 | h1
    · omega
    · rw [← h1]; exact Nat.dvd_mul_right 2 _
  · exact Nat.dvd_trans (podd_dvd 16 1 (r / 2) (by show r / 2 < 65536; omega) (by omega)) ⟨2, Nat.mul_comm _ _⟩
theorem not_dvd_PR {q : Nat} (hq : Pr q) (h : 131072 < q) : ¬ q ∣ PR := by
  intro hd
  unfold PR at hd
  rcases hq.dvd_mul hd with hd | hd
  · have := Nat.le_of_dvd (by omega) hd; omega
  · obtain ⟨i, hi, hd⟩ := podd_prime hq 16 1 hd
    have := Nat.le_of_dvd (by omega) hd
    have : i < 65536 := hi
    omega

theorem low_sound {d q : Nat} (h : low d = true) (hq : Pr q) (hq2 : 131072 < q) (hn : Bad (d * q)) : False := by
  unfold low at h
  have hn2 := hn.two
  have hd0 : d ≠ 0 := by rintro rfl; simp at hn2
  have hc : Nat.gcd d 1831830 = 1 := by
    have h1 : Nat.gcd d 1831830 ∣ Nat.gcd (d * q) 1831830 := Nat.dvd_gcd (Nat.dvd_trans (Nat.gcd_dvd_left _ _) ⟨q, rfl⟩) (Nat.gcd_dvd_right _ _)
    rw [hn.cop] at h1
    exact Nat.dvd_one.1 h1
  have h := bimp h (beqN.2 hc)
  have hF := hn.F hq.1 ⟨d, Nat.mul_comm _ _⟩
  have hpow : ∀ b, 0 < b → b ^ (d * q - 1) % q = 1 → q ∣ b ^ (d - 1) - 1 := by
    intro b hb0 hb
    have hnd : ¬ q ∣ b := not_dvd_of_pow1 (by omega) hb
    have hf := fermat hq hnd
    have e : d * q - 1 = (q - 1) * d + (d - 1) := by
      obtain ⟨j, rfl⟩ : ∃ j, q = j + 1 := ⟨q - 1, by omega⟩
      rw [Nat.add_sub_cancel, Nat.mul_comm, Nat.add_mul]
      omega
    rw [e, Nat.pow_add, Nat.mul_mod, pow1_mul (by omega) hf d, Nat.one_mul, Nat.mod_mod] at hb
    exact dvd_sub_of_mod (by rw [hb, one_mod (by omega)]) (Nat.pow_pos hb0)
  have h2 := hpow 2 (by omega) hF.1
  have h7 := hpow 7 (by omega) hF.2.1
  have h61 := hpow 61 (by omega) hF.2.2
  have hP := not_dvd_PR hq hq2
  have hg1 := strip_prime hq hP 30 _ (Nat.dvd_gcd h2 h7)
  rw [force_eq] at h
  generalize strip PR 30 (Nat.gcd (2 ^ (d - 1) - 1) (7 ^ (d - 1) - 1)) = g at h hg1
  rcases bor h with h | h
  · rw [beqN] at h
    rw [h] at hg1
    have := Nat.dvd_one.1 hg1
    omega
  rw [force_eq] at h
  have hg2 := strip_prime hq hP 30 _ (Nat.dvd_gcd hg1 h61)
  generalize strip PR 30 (Nat.gcd g (61 ^ (d - 1) - 1)) = g2 at h hg2
  rcases bor h with h | h
  · rw [beqN] at h
    rw [h] at hg2
    have := Nat.dvd_one.1 hg2
    omega
  obtain ⟨hc2, h⟩ := band h
  obtain ⟨hlt, h⟩ := band h
  rw [beqN] at hc2
  rw [bltN] at hlt
  obtain ⟨k, hk⟩ := hg2
  have hk1 : k = 1 := by
    apply Classical.byContradiction
    intro hk1
    have hk0 : k ≠ 0 := by
      rintro rfl
      rw [Nat.mul_zero] at hk
      subst hk
      have h3 : (2 : Nat) ∣ Nat.gcd 0 PR := Nat.dvd_gcd ⟨0, rfl⟩ (Nat.dvd_mul_right 2 _)
      rw [hc2] at h3
      omega
    obtain ⟨f, hf, hfk⟩ := exists_pr_dvd k (by omega)
    have hfg : f ∣ g2 := Nat.dvd_trans hfk ⟨q, by rw [Nat.mul_comm]; exact hk⟩
    have hf2 : 131072 < f := by
      apply Classical.byContradiction
      intro hle
      have h3 := Nat.dvd_gcd hfg (PR_dvd hf (by omega))
      rw [hc2] at h3
      have := Nat.dvd_one.1 h3
      have := hf.1
      omega
    have hfk' := Nat.le_of_dvd (by omega) hfk
    have : 131073 * 131073 ≤ q * k := Nat.mul_le_mul (by omega) (by omega)
    omega
  rw [hk1, Nat.mul_one] at hk
  rw [hk, hn.not_tst'] at h
  cases h

/-- There is none. -/
theorem no_bad (T : TabFits) (H1 : ∀ q ∈ small, 17 ≤ q → q ≠ 61 → top0 q = true) (H2 : ∀ q, q % 2 = 1 → 367 < q → q < 131072 → top q = true)
    (H3 : ∀ d, d % 2 = 1 → 3 ≤ d → d < 32768 → low d = true) (n : Nat) : ¬ Bad n := by
  intro hn
  have hn2 := hn.two
  obtain ⟨q, hq, hqn, hmax⟩ := max_prime n hn.two
  have h17 := hn.prime hq hqn
  by_cases h1 : q ≤ 367
  · exact top0_sound T (H1 q (small_full hq h1) h17.1 h17.2.1) hq hn hqn hmax
  by_cases h2 : q < 131072
  · exact top_sound T (H2 q h17.2.2 (by omega) h2) hq (by omega) hn hqn hmax
  · obtain ⟨d, hd⟩ := hqn
    have hd0 : d ≠ 0 := by rintro rfl; simp at hd; omega
    have hd1 : d ≠ 1 := by rintro rfl; rw [Nat.mul_one] at hd; exact hn.np (hd ▸ hq)
    have hodd := hn.odd
    have hdo : d % 2 = 1 := by
      apply Classical.byContradiction
      intro h0
      have : n % 2 = 0 := by rw [hd, Nat.mul_mod, show d % 2 = 0 by omega]; simp
      omega
    have hlt := hn.lt
    have hd2 : d < 32768 := by
      apply Classical.byContradiction
      intro hge
      have : 131072 * 32768 ≤ q * d := Nat.mul_le_mul (by omega) (by omega)
      omega
    have hq' : 131072 < q := by omega
    rw [Nat.mul_comm] at hd
    subst hd
    exact low_sound (H3 d hdo (by omega) hd2) hq hq' hn
end Nt
