import Derived.Test.YtipbpdiahemmpaaDoorMrA
import Derived.Test.YtipbpdiahemmpaaDoorMrB
import Derived.Test.YtipbpdiahemmpaaDoorMrC
import Derived.Test.YtipbpdiahemmpaaDoorMrD
/- The strong test with 2, 7, 61 tells the primes below 2^32. -/
namespace Nt

theorem tabFits : TabFits where
  ok := fun x hx => allL_mem tab_ok x hx
  full := fun r hr h17 hlt h61 => by
    have hodd : r % 2 = 1 := by
      by_cases e : r % 2 = 0
      · rcases hr.2 2 (Nat.dvd_of_mod_eq_zero e) with h | h <;> omega
      · omega
    have h := full_sound 2040 17 tab tab_full ((r - 17) / 2) (by omega)
    rw [show 17 + 2 * ((r - 17) / 2) = r by omega] at h
    rcases h with h | h
    · exact h
    · rw [Bool.or_eq_true] at h
      rcases h with h | h
      · exact absurd (beqN.1 h) h61
      · exact absurd hr (comp_not h)

theorem run_at {q a k : Nat} (h : allN (fun i => top (a + 2 * i)) k = true) (h1 : a ≤ q) (h2 : q < a + 2 * k) (ho : q % 2 = a % 2) : top q = true := by
  have := allN_lt h ((q - a) / 2) (by omega)
  simp only [show a + 2 * ((q - a) / 2) = q by omega] at this
  exact this
theorem low_at {q a k : Nat} (h : allN (fun i => low (a + 2 * i)) k = true) (h1 : a ≤ q) (h2 : q < a + 2 * k) (ho : q % 2 = a % 2) : low q = true := by
  have := allN_lt h ((q - a) / 2) (by omega)
  simp only [show a + 2 * ((q - a) / 2) = q by omega] at this
  exact this

theorem bad_none (n : Nat) : ¬ Bad n := by
  refine no_bad tabFits ?_ ?_ ?_ n
  · intro q hq h17 h61
    have h := allL_mem run_small q hq
    have h := bimp h (bleN.2 h17)
    rcases bor h with h | h
    · exact absurd (beqN.1 h) h61
    · exact h
  · intro q ho h1 h2
    by_cases c1 : q < 1001
    · exact run_at run1 (by omega) (by omega) (by omega)
    by_cases c2 : q < 1501
    · exact run_at run2 (by omega) (by omega) (by omega)
    by_cases c3 : q < 3001
    · exact run_at run3 (by omega) (by omega) (by omega)
    by_cases c4 : q < 6001
    · exact run_at run4 (by omega) (by omega) (by omega)
    by_cases c5 : q < 26001
    · exact run_at run5 (by omega) (by omega) (by omega)
    by_cases c6 : q < 66001
    · exact run_at run6 (by omega) (by omega) (by omega)
    by_cases c7 : q < 98001
    · exact run_at run7 (by omega) (by omega) (by omega)
    · exact run_at run8 (by omega) (by omega) (by omega)
  · intro d ho h1 h2
    by_cases c1 : d < 16003
    · exact low_at low1 (by omega) (by omega) (by omega)
    by_cases c2 : d < 26003
    · exact low_at low2 (by omega) (by omega) (by omega)
    · exact low_at low3 (by omega) (by omega) (by omega)

noncomputable def isP (n : Nat) : Bool := @decide (Pr n) (Classical.propDecidable _)
theorem isP_iff {n : Nat} : isP n = true ↔ Pr n := by
  unfold isP
  exact @decide_eq_true_iff (Pr n) (Classical.propDecidable _)
theorem isP_false_iff {n : Nat} : isP n = false ↔ ¬ Pr n := by
  rw [← isP_iff]; simp

def seven : List Nat := [2, 3, 5, 7, 11, 13, 61]
theorem seven_prod : prod seven = 1831830 := by decide
theorem pr_of_dec {p : Nat} (h2 : 2 ≤ p) (h : (List.range (p + 1)).all (fun d => p % d != 0 || d == 1 || d == p) = true) : Pr p := by
  refine ⟨h2, fun d hd => ?_⟩
  have hle := Nat.le_of_dvd (by omega) hd
  have := List.all_eq_true.1 h d (by simp; omega)
  have hm := Nat.mod_eq_zero_of_dvd hd
  simp [hm] at this
  exact this
theorem seven_pr : ∀ q ∈ seven, Pr q := by
  intro q hq
  simp only [seven, List.mem_cons, List.not_mem_nil, or_false] at hq
  rcases hq with rfl | rfl | rfl | rfl | rfl | rfl | rfl <;> exact pr_of_dec (by decide) (by decide)

theorem cop_of_seven {n : Nat} (h : ∀ q ∈ seven, n % q ≠ 0) : Nat.gcd n 1831830 = 1 := by
  apply Classical.byContradiction
  intro hne
  have h0 : Nat.gcd n 1831830 ≠ 0 := by
    intro e
    have := Nat.gcd_dvd_right n 1831830
    rw [e] at this
    have := Nat.eq_zero_of_zero_dvd this
    omega
  obtain ⟨p, hp, hd⟩ := exists_pr_dvd (Nat.gcd n 1831830) (by omega)
  have h1 : p ∣ prod seven := by rw [seven_prod]; exact Nat.dvd_trans hd (Nat.gcd_dvd_right _ _)
  obtain ⟨x, hx, h2⟩ := hp.dvd_prod h1
  have := hp.eq_of_dvd (seven_pr x hx) h2
  subst this
  exact h p hx (Nat.mod_eq_zero_of_dvd (Nat.dvd_trans hd (Nat.gcd_dvd_left _ _)))

/-- What passes is a prime. -/
theorem isP_pass {n s d : Nat} (hn : 2 ≤ n) (hlt : n < 4294967296) (h7 : ∀ q ∈ seven, n % q ≠ 0) (hd : n - 1 = d * 2 ^ s) (ho : d % 2 = 1)
    (h2 : sprp n 2 s d = true) (h3 : sprp n 7 s d = true) (h4 : sprp n 61 s d = true) : isP n = true := by
  rw [isP_iff]
  apply Classical.byContradiction
  intro hnp
  refine bad_none n ⟨hlt, hn, hnp, cop_of_seven h7, fun s' d' ho' hd' => ?_⟩
  obtain ⟨rfl, rfl⟩ := odd_unique s d s' d' ho ho' (by rw [← hd, hd'])
  exact ⟨h2, h3, h4⟩

/-- What fails is none. -/
theorem isP_fail {n b s d : Nat} (h7 : ∀ q ∈ seven, n % q ≠ 0) (hb : b = 2 ∨ b = 7 ∨ b = 61) (hs : 1 ≤ s) (hd : n - 1 = d * 2 ^ s) (h : sprp n b s d = false) : isP n = false := by
  rw [isP_false_iff]
  intro hp
  have hnb : ¬ n ∣ b := by
    intro hdv
    have hpb : Pr b := by rcases hb with rfl | rfl | rfl <;> exact seven_pr _ (by simp [seven])
    have e := hp.eq_of_dvd hpb hdv
    subst e
    exact h7 n (by rcases hb with rfl | rfl | rfl <;> simp [seven]) (Nat.mod_self n)
  rw [sprp_of_prime hp hnb hs hd] at h
  cases h

theorem isP_small {n q : Nat} (hq : q ∈ seven) (h : n % q = 0) : isP n = (n == q) := by
  by_cases e : n = q
  · subst e
    rw [isP_iff.2 (seven_pr _ hq)]; simp
  · have : isP n = false := by
      rw [isP_false_iff]
      intro hp
      rcases hp.2 q (Nat.dvd_of_mod_eq_zero h) with h1 | h1
      · have := (seven_pr _ hq).1; omega
      · exact e h1.symm
    rw [this]
    simp [e]
theorem isP_lt {n : Nat} (hn : n < 2) : isP n = false := by
  rw [isP_false_iff]
  intro h
  have := h.1
  omega
#print axioms isP_pass
end Nt
