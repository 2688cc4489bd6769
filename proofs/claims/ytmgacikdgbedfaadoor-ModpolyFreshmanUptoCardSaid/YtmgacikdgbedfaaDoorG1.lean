/- Polynomials modulo a prime: the p-th power of a sum. Nothing of the program. -/
import Derived.Test.YtmgacikdgbedfaaDoorPm5
import Derived.Test.YtmgacikdgbedfaaDoorS1
import Derived.Test.YtmgacikdgbedfaaDoorM9
import Derived.Test.YtmgacikdgbedfaaDoorM5
import Derived.Test.YtmgacikdgbedfaaDoorM7
import Derived.Test.YtmgacikdgbedfaaDoorPm3
namespace Pm
open Dg

/-- The binomials. -/
def bi : Nat → Nat → Nat
  | 0, _ => 1
  | _ + 1, 0 => 1
  | i + 1, j + 1 => bi i (j + 1) + bi (i + 1) j
theorem bi_zero (i : Nat) : bi i 0 = 1 := by cases i <;> simp [bi]
theorem bi_one (j : Nat) : bi 1 j = j + 1 := by
  induction j with
  | zero => simp [bi]
  | succ j ih => rw [bi, ih, bi]; omega
theorem bi_up : ∀ i j, (i + 1) * bi (i + 1) j = (i + j + 1) * bi i j
  | 0, j => by rw [bi_one, bi]; omega
  | i + 1, 0 => by rw [bi_zero, bi_zero]
  | i + 1, j + 1 => by
    have h1 := bi_up (i + 1) j
    have h2 := bi_up i (j + 1)
    have e : bi (i + 1) (j + 1) = bi i (j + 1) + bi (i + 1) j := by rw [bi]
    have e2 : bi (i + 1 + 1) (j + 1) = bi (i + 1) (j + 1) + bi (i + 1 + 1) j := by rw [bi]
    rw [e2, Nat.mul_add, h1]
    generalize bi (i + 1) (j + 1) = B at *
    generalize bi i (j + 1) = C at *
    generalize bi (i + 1) j = D at *
    subst e
    grind
theorem bi_dvd {p i j : Nat} (hp : Nt.Pr p) (h : i + 1 + (j + 1) = p) : p ∣ bi (i + 1) (j + 1) := by
  have h1 := bi_up i (j + 1)
  rw [show i + (j + 1) + 1 = p by omega] at h1
  have h2 : p ∣ (i + 1) * bi (i + 1) (j + 1) := ⟨_, h1⟩
  rcases hp.dvd_mul h2 with h3 | h3
  · exact absurd (Nat.le_of_dvd (by omega) h3) (by omega)
  · exact h3
/-- The sum over i + j = n. -/
def sg (f : Nat → Nat → Int) : Nat → Int
  | 0 => f 0 0
  | n + 1 => f 0 (n + 1) + sg (fun i j => f (i + 1) j) n
theorem sg_right (f : Nat → Nat → Int) (n : Nat) : sg f (n + 1) = sg (fun i j => f i (j + 1)) n + f (n + 1) 0 := by
  induction n generalizing f with
  | zero => simp [sg]
  | succ n ih => rw [sg, ih, sg]; omega
theorem sg_add (f g : Nat → Nat → Int) (n : Nat) : sg (fun i j => f i j + g i j) n = sg f n + sg g n := by
  induction n generalizing f g with
  | zero => simp [sg]
  | succ n ih =>
    rw [sg, ih (fun i j => f (i + 1) j) (fun i j => g (i + 1) j)]
    simp only [sg]
    omega
theorem sg_congr {f g : Nat → Nat → Int} {n : Nat} (h : ∀ i j, i + j = n → f i j = g i j) : sg f n = sg g n := by
  induction n generalizing f g with
  | zero => exact h 0 0 rfl
  | succ n ih => rw [sg, sg, h 0 (n + 1) (by omega), ih fun i j e => h (i + 1) j (by omega)]
theorem sg_cz {p : Nat} {f : Nat → Nat → Int} {n : Nat} (h : ∀ i j, i + j = n → cz p (f i j) 0) : cz p (sg f n) 0 := by
  induction n generalizing f with
  | zero => exact h 0 0 rfl
  | succ n ih =>
    have := (h 0 (n + 1) (by omega)).add (ih fun i j e => h (i + 1) j (by omega))
    rwa [Int.add_zero] at this
theorem cv_sg (u : Nat → Int) (F : Nat → Nat → Nat → Int) (n k : Nat) : cv u (fun k => sg (fun i j => F i j k) n) k = sg (fun i j => cv u (F i j) k) n := by
  induction n generalizing F with
  | zero => rfl
  | succ n ih =>
    have e : (fun k => sg (fun i j => F i j k) (n + 1)) = fun k => F 0 (n + 1) k + sg (fun i j => F (i + 1) j k) n := rfl
    rw [e, cv_add_right, ih fun i j => F (i + 1) j, sg]
theorem cv_scale (x : Int) (u v : Nat → Int) (k : Nat) : cv u (fun i => x * v i) k = x * cv u v k := by rw [cv_comm, cv_smul_left, cv_comm]
/-- The binomial theorem. -/
theorem pw_sum (u v : Nat → Int) (n k : Nat) : pw (fun i => u i + v i) n k = sg (fun i j => (bi i j : Int) * cv (pw u i) (pw v j) k) n := by
  induction n generalizing k with
  | zero => simp [pw, sg, bi, cv_one]
  | succ n ih =>
    have e : pw (fun i => u i + v i) n = fun k => sg (fun i j => (bi i j : Int) * cv (pw u i) (pw v j) k) n := funext ih
    rw [pw, e, cv_add_left, cv_sg, cv_sg]
    have e1 : sg (fun i j => cv u (fun k => (bi i j : Int) * cv (pw u i) (pw v j) k) k) n = sg (fun i j => (if i = 0 then 0 else (bi (i - 1) j : Int)) * cv (pw u i) (pw v j) k) (n + 1) := by
      rw [sg]
      simp only [if_pos, Int.zero_mul, Int.zero_add]
      refine sg_congr fun i j _ => ?_
      rw [cv_scale, if_neg (by omega), Nat.add_sub_cancel, pw, cv_assoc]
    have e2 : sg (fun i j => cv v (fun k => (bi i j : Int) * cv (pw u i) (pw v j) k) k) n = sg (fun i j => (if j = 0 then 0 else (bi i (j - 1) : Int)) * cv (pw u i) (pw v j) k) (n + 1) := by
      rw [sg_right]
      simp only [if_pos, Int.zero_mul, Int.add_zero]
      refine sg_congr fun i j _ => ?_
      rw [cv_scale, if_neg (by omega), Nat.add_sub_cancel, pw, ← cv_assoc, ← cv_assoc]
      congr 1
      rw [show cv v (pw u i) = cv (pw u i) v from funext fun x => cv_comm _ _ x]
    rw [e1, e2, ← sg_add]
    refine sg_congr fun i j hij => ?_
    rw [← Int.add_mul]
    congr 1
    match i, j with
    | 0, 0 => omega
    | 0, j + 1 => simp [bi]
    | i + 1, 0 => simp [bi_zero]
    | i + 1, j + 1 => simp [bi]
/-- The p-th power of a sum. -/
theorem pw_fresh {p : Nat} (hp : Nt.Pr p) (u v : Nat → Int) : Cg p (pw (fun i => u i + v i) p) (fun k => pw u p k + pw v p k) := fun k => by
  rw [pw_sum]
  obtain ⟨l, rfl⟩ : ∃ l, p = l + 1 + 1 := ⟨p - 2, by have := hp.two_le; omega⟩
  rw [sg, sg_right]
  have h0 : cz (l + 1 + 1) (sg (fun i j => (bi (i + 1) (j + 1) : Int) * cv (pw u (i + 1)) (pw v (j + 1)) k) l) 0 := sg_cz fun i j hij => by
    obtain ⟨c, hc⟩ := bi_dvd (i := i) (j := j) hp (by omega)
    unfold cz
    rw [Int.sub_zero, hc]
    exact ⟨c * cv (pw u (i + 1)) (pw v (j + 1)) k, by rw [Int.natCast_mul, Int.mul_assoc]⟩
  have h1 := ((cz.refl (p := l + 1 + 1) ((bi 0 (l + 1 + 1) : Int) * cv (pw u 0) (pw v (l + 1 + 1)) k)).add (h0.add (cz.refl ((bi (l + 1 + 1) 0 : Int) * cv (pw u (l + 1 + 1)) (pw v 0) k))))
  refine h1.trans (cz.of_eq ?_)
  rw [bi_zero, show bi 0 (l + 1 + 1) = 1 by simp [bi], show pw u 0 = mono 1 0 from rfl, show pw v 0 = mono 1 0 from rfl, cv_one, cv_comm (pw u (l + 1 + 1)), cv_one]
  dsimp only
  omega
theorem pw_cv (f g : Nat → Int) : ∀ n, pw (cv f g) n = cv (pw f n) (pw g n)
  | 0 => by funext k; rw [pw, pw, pw, cv_one]
  | n + 1 => by
    funext k
    rw [pw, pw_cv f g n, pw, pw, cv_assoc, cv_assoc]
    congr 1
    funext j
    rw [← cv_assoc, ← cv_assoc]
    congr 1
    funext i
    exact cv_comm _ _ i
theorem pw_const (a : Int) : ∀ n, pw (mono a 0) n = mono (a ^ n) 0
  | 0 => by simp [pw]
  | n + 1 => by
    funext k
    rw [pw, pw_const a n, cv_mono]
    unfold mono
    simp only [Nat.zero_le, if_true, Nat.sub_zero]
    by_cases hk : k = 0
    · rw [if_pos hk, if_pos hk, Int.pow_succ, Int.mul_comm]
    · rw [if_neg hk, if_neg hk, Int.mul_zero]
/-- A polynomial at x^p. -/
def at_p (p : Nat) : List Nat → Nat → Int
  | [] => fun _ => 0
  | a :: L => fun k => mono a 0 k + cv (mono 1 p) (at_p p L) k
theorem co_cons (a : Nat) (L : List Nat) : co (a :: L) = fun k => mono a 0 k + cv (mono 1 1) (co L) k := funext fun k => by
  rw [cv_mono]
  cases k with
  | zero => simp [co, mono, ld]
  | succ k => simp [co, mono, ld]
theorem freshman {p : Nat} (hp : Nt.Pr p) : ∀ L : List Nat, Cg p (pw (co L) p) (at_p p L)
  | [] => fun k => by
    have : co [] = mono 0 0 := funext fun k => by simp [co, mono, ld]
    rw [this, pw_const, Int.zero_pow (by have := hp.pos; omega)]
    exact cz.of_eq (by simp [mono, at_p])
  | a :: L => by
    rw [co_cons]
    refine (pw_fresh hp _ _).trans fun k => ?_
    rw [pw_const, pw_cv, show pw (mono 1 1) p = mono 1 p from funext (pw_mono p)]
    refine cz.add ?_ (Cg.cv (Cg.refl _) (freshman hp L) k)
    unfold mono
    by_cases hk : k = 0
    · rw [if_pos hk, if_pos hk]
      have h := Nt.fermat_all (a := a) hp
      have h1 := (cz_mod (p := p) (a ^ p)).symm
      rw [h] at h1
      have h2 := h1.trans (cz_mod (p := p) a)
      rwa [Int.natCast_pow] at h2
    · rw [if_neg hk, if_neg hk]; exact cz.refl _
end Pm

/- modpoly: Pow; the reference's sum. -/
namespace Go.Proofs.YtmgacikdgbedfaaDoor
open Go.RowKit Go.IntWalk
attribute [local go_sem ↓] Go.wp_at_zero Go.wp_at_succ

set_option maxRecDepth 100000 in
set_option maxHeartbeats 1000000 in
theorem mPow_none {A A' : Option Addr} {n c n' c' : Nat} {z : Int} {w : World} (p : Nat) (hpr : ¬ Nt.Pr p) (hp : p < 4294967296) (hT : Tabs w) :
    Calls Tryd.prog 10 #[.slice A n c, .int .u64 z, .slice A' n' c', .int .u32 p] w (RetNE 40 w) := by
  have HP := Lib.hid hpr
  have hB0 := below1 w (.cells #[.slice A n c, .slice A' n' c'] 26)
  have hT0 := hT.below hB0
  clear hpr
  go_enter Tryd.func10, Tryd.ntmps10
  go_wp2_with fail
  refine (mall_none p HP.out hp hT0).mono ?_
  rintro _ w1 ⟨rfl, hb1⟩
  have HB := Lib.hid ((hB0.trans (hb1.mono hB0.size)).alloc (Nat.le_trans hB0.size hb1.size) (.cells #[.int .u64 0] 63))
  go_wp2
  go_ret2
  exact ⟨rfl, HB.out⟩
/-- Pow's answer: an error just where the modulus is nought. -/
def RetPow (p E : Nat) (L L' : List Nat) (w : World) (e : Ending) (w' : World) : Prop := (RetNE 70 w e w' ∧ Hid (Pm.Cg p (Pm.co []) (Pm.co L'))) ∨ RetPE (fun R => ∃ M M', (Pm.Pn p M ∧ Pm.Cg p (Pm.co M) (Pm.co L)) ∧ (Pm.Pn p M' ∧ Pm.Cg p (Pm.co M') (Pm.co L')) ∧ 0 < M'.length ∧ Pq p M E M' R) w e w'
set_option maxRecDepth 100000 in
set_option maxHeartbeats 4000000 in
theorem mPow_ok {A A' : Option Addr} {n c n' c' : Nat} {L L' : List Nat} {w : World} (p E : Nat) (hE : E ≤ 18446744073709551615) (hpr : Nt.Pr p) (hp : p < 4294967296) (h : RdU w w.heap.size A n c L) (h' : RdU w w.heap.size A' n' c' L') (hn : n ≤ 1048576) (hn' : n' ≤ 1048576) (hT : Tabs w) :
    Calls Tryd.prog 10 #[.slice A n c, .int .u64 E, .slice A' n' c', .int .u32 p] w (RetPow p E L L' w) := by
  have HP := Lib.hid hpr
  have HA := Lib.hid (mall2_any p hpr hp h h' (by omega) (by omega) hT)
  have h0 := hpr.pos
  clear hpr h h'
  go_enter Tryd.func10, Tryd.ntmps10
  go_wp2_with fail
  refine HA.out.mono ?_
  rintro _ w1 ⟨g, A1, n1, c1, M1, A2, n2, c2, M2, rfl, hg, hcg0, hcg1, hp1, hp2, hM, hn1, hn2, hb1⟩
  have hB2 := below1 w1 (.cells #[.int .u64 p] 63)
  have hcb : (w1.alloc (.cells #[.int .u64 p] 63)).cell? ⟨w1.heap.size, 0, none⟩ = some (.int .u64 p) := by go_simp
  have HC0 := Lib.hid ((hB2.cell (p := ⟨g, 0, none⟩) hg).trans hcg0)
  have HC1 := Lib.hid ((hB2.cell (p := ⟨g, 1, none⟩) hg).trans hcg1)
  have hP1 := hp1.next hB2
  have hP2 := hp2.next hB2
  have hT2 := (hT.below hb1).below hB2
  have HB := Lib.hid (hb1.trans (hB2.mono hb1.size))
  have hsz : w1.heap.size < (w1.alloc (.cells #[.int .u64 p] 63)).heap.size := by simp
  have HCB := Lib.hid hcb
  have HLEN2 := Lib.hid hp2.len
  have hc1 := HC1.out
  clear hcb hcg0 hcg1 hB2 hp1 hp2
  rcases Nat.eq_zero_or_pos n2 with e2 | e2
  · subst e2
    have hl : M2 = [] := List.eq_nil_of_length_eq_zero HLEN2.out
    subst hl
    go_wp2
    go_ret2
    exact .inl ⟨⟨rfl, HB.out⟩, Lib.hid hM.out.2.2.2⟩
  · have hnz : ((n2 : Int) == 0) = false := by simp; omega
    go_wp2_with fail
    clear hc1
    generalize w1.alloc (.cells #[.int .u64 p] 63) = W2 at HC0 HC1 HCB hP1 hP2 hT2 HB hsz ⊢
    have hgl : g < W2.heap.size := Nat.lt_trans hg hsz
    have hc0 := HC0.out
    have hc1 := HC1.out
    have hcb := HCB.out
    have HSZ := Lib.hid (HB.out.size)
    have HE := Lib.hid (mpow_any p E HP.out hp hE hP1.rd.drew hP2.rd.drew (by omega) (by omega) hM.out.1 hM.out.2.2.1 e2 hT2.drew)
    go_region_held3 (fun w' => w'.cell? ⟨w1.heap.size, 0, none⟩ = some (.int .u64 p) ∧ w'.cell? ⟨g, 0, none⟩ = some (.slice A1 n1 c1) ∧ w'.cell? ⟨g, 1, none⟩ = some (.slice A2 n2 c2)) (go_keep)
      (first
        | (go_at_call 32; refine HE.out.mono ?_; rintro _ w3 ⟨A3, n3, c3, R, rfl, hp3, hr, hb3⟩; have hcb3 := (hb3.cell (p := ⟨w1.heap.size, 0, none⟩) hsz).trans hcb; have hc03 := (hb3.cell (p := ⟨g, 0, none⟩) hgl).trans hc0; have hc13 := (hb3.cell (p := ⟨g, 1, none⟩) hgl).trans hc1)
        | (go_at_call 31; refine (mtold_any hp3).mono ?_; rintro _ _ ⟨A4, c4, rfl, hp4, rfl⟩))
    have HF := Lib.hid (HB.out.drew.trans (hb3.mono HB.out.size))
    have HP4 := Lib.hid (hp4.base HSZ.out)
    clear hcb3 hc03 hc13 hp4
    go_wp2
    go_ret2
    exact .inr ⟨A4, n3, c4, R, rfl, HP4.out, Lib.hid ⟨M1, M2, ⟨hM.out.1, hM.out.2.1⟩, ⟨hM.out.2.2.1, hM.out.2.2.2⟩, by rw [HLEN2.out]; exact e2, hr.out⟩, HF.out⟩

set_option maxHeartbeats 1000000 in
theorem rAt_any {A : Option Addr} {B n c : Nat} {L : List Nat} {w : World} (h : RdU w B A n c L) (i : Nat) :
    Calls Tryd.prog 35 #[.slice A n c, .int .i64 i] w (RetU .u32 (Dg.ld L i) w) := by
  have hl := h.len
  by_cases hi : i < n
  · obtain ⟨hx, ad, rfl, _, hc⟩ := h.at_ i _ (Dg.get_of_ld (by omega))
    have hlt : (i : Int) < n := by omega
    clear hl h
    go_enter Tryd.func35, Tryd.ntmps35
    go_wp2
    go_ret
    exact ⟨_, rfl, Lib.hid rfl, rfl⟩
  · have hlt : ¬ (i : Int) < n := by omega
    have he : Dg.ld L i = 0 := Dg.ld_ge (by omega)
    rw [he]
    clear hl h he
    go_enter Tryd.func35, Tryd.ntmps35
    go_wp2
    go_ret
    exact ⟨0, rfl, Lib.hid rfl, rfl⟩
/-- The sums. -/
def ads (p : Nat) (L L' : List Nat) (k : Nat) : List Nat := (List.range k).map fun i => (Dg.ld L i + Dg.ld L' i) % p
theorem ads_more (p : Nat) (L L' : List Nat) (k : Nat) : ads p L L' k ++ [(Dg.ld L k + Dg.ld L' k) % p] = ads p L L' (k + 1) := by
  unfold ads; rw [List.range_succ]; simp
theorem ads_cg (p : Nat) {L L' : List Nat} {k : Nat} (h : L.length ≤ k) (h' : L'.length ≤ k) : Pm.Cg p (Pm.co (ads p L L' k)) (fun i => Pm.co L i + Pm.co L' i) := fun i => by
  unfold Pm.co ads
  dsimp only
  by_cases hi : i < k
  · rw [Dg.ld_lt (by simpa using hi), List.getElem_map, List.getElem_range]
    have := Pm.cz_mod (p := p) (Dg.ld L i + Dg.ld L' i)
    rwa [Int.natCast_add] at this
  · rw [Dg.ld_ge (by simp; omega), Dg.ld_ge (by omega), Dg.ld_ge (by omega)]
    exact Pm.cz.of_eq (by simp)
theorem ld_w {L : List Nat} (h : Dg.Wd L) (i : Nat) : Dg.ld L i < 4294967296 := by
  by_cases hi : i < L.length
  · rw [Dg.ld_lt hi]; exact h _ (List.getElem_mem hi)
  · rw [Dg.ld_ge (by omega)]; omega
set_option maxRecDepth 100000 in
set_option maxHeartbeats 4000000 in
theorem rAdd_any {A A' : Option Addr} {n c n' c' : Nat} {L L' : List Nat} {w : World} (p : Nat) (h0 : 0 < p) (hp : p < 4294967296) (h : RdU w w.heap.size A n c L) (h' : RdU w w.heap.size A' n' c' L') (hn : n ≤ 17592186044416) (hn' : n' ≤ 17592186044416) :
    Calls Tryd.prog 12 #[.slice A n c, .slice A' n' c', .int .u32 p] w (RetPo p (fun k => Pm.co L k + Pm.co L' k) w) := by
  have HLEN := Lib.hid h.len
  have HLEN' := Lib.hid h'.len
  have HR := Lib.hid h
  have HR' := Lib.hid h'
  have HW := Lib.hid (And.intro h.wd h'.wd)
  obtain ⟨i0, hi0, hz0, hz1, hz2⟩ := info_parts infoU
  clear h h'
  go_enter Tryd.func12, Tryd.ntmps12
  go_wp2_with fail
  go_loopw [7, 8] (fun v kv wr => ∃ (k : Nat) (A0 : Option Addr) (c0 : Nat), kv = .int .i64 k ∧ v = .slice A0 k c0 ∧ k ≤ max n n' ∧ Hid (OwU wr w.heap.size A0 k c0 (ads p L L' k) ∧ Below w.heap.size w wr)) (fun _ kv _ => max n n' - (intOf kv).toNat)
  case atStart => exact ⟨0, none, 0, rfl, rfl, Nat.zero_le _, Lib.hid ⟨OwU.nil _ _, Below.refl _ _⟩⟩
  case round =>
    obtain ⟨k, A0, c0, rfl, rfl, hk, hI⟩ := hrel
    have HOWN := Lib.hid hI.out.1
    have HB := Lib.hid hI.out.2
    clear hI
    by_cases hkn : k < max n n'
    · have HK := Lib.hid (show k ≤ 17592186044416 by omega)
      have STEP : Hid (∀ (K : Prop), ((k : Int) < n → K) → (¬ (k : Int) < n → (k : Int) < n' → K) → K) := Lib.hid fun K h1 h2 => by
        by_cases e : (k : Int) < n
        · exact h1 e
        · exact h2 e (by omega)
      refine STEP.out _ (fun e1 => ?_) (fun e1 e2 => ?_)
      all_goals
        go_wp2_with fail
        refine (rAt_any (HR.out.below HB.out) k).mono ?_
        rintro _ _ ⟨x, rfl, hx, rfl⟩
        go_wp2_with fail
        refine (rAt_any (HR'.out.below HB.out) k).mono ?_
        rintro _ _ ⟨y, rfl, hy, rfl⟩
        go_wp2_with fail
        refine (refAdd_any x y p rfl rfl rfl (by rw [hx.out]; exact ld_w HW.out.1 k) (by rw [hy.out]; exact ld_w HW.out.2 k) hp h0 _).mono ?_
        rintro _ _ ⟨z, rfl, hz, rfl⟩
        have HM := Lib.hid (ads_more p L L' k)
        have hO1 := HOWN.out.own.alloc (.cells #[.int .u32 z] 27)
        go_wp2_with (at_builtin; refine wpList_append_own _ rfl _ _ 26 rfl w.heap.size 27 i0 (.int .u32 0) 1 4 Tryd.underlying26 hi0 hz0 hz1 hz2 rfl (by decide) _ _ _ rfl hO1 ⟨wr.heap.size, 0, none⟩ 1 1 [.int .u32 z] rfl rfl (World.news_of_block (cs := #[.int .u32 z]) (t := 27) (fr := (0, 0)) (heap_alloc_new wr _)) (by simp [Value.oneCell']) (by have := HK.out; unfold maxLen; omega) (by have := HK.out; omega) (by have := HB.out.size; simp; omega) ?_; intro v' w6 hown' hgrow _)
        have hG : (wr.alloc (.cells #[.int .u32 z] 27)).grownBy w6 (Value.slice A0 k c0).ownBlock := hgrow
        clear hgrow
        obtain ⟨A6, c6, rfl⟩ := row_sl hown'
        have hB1 : Below w.heap.size w (wr.alloc (.cells #[.int .u32 z] 27)) := HB.out.alloc HB.out.size _
        exact ⟨⟨k + 1, A6, c6, by simp, rfl, by omega, Lib.hid ⟨ow_more HOWN.out (by rw [hz.out]; exact Nat.lt_trans (Nat.mod_lt _ h0) hp) rfl (by rw [hz.out, hx.out, hy.out]; exact HM.out) hown', hB1.grown hG hB1.size (own_block hO1)⟩⟩, by simp [intOf]; omega⟩
    · have e1 : ¬ (k : Int) < n := by omega
      have e2 : ¬ (k : Int) < n' := by omega
      have HK := Lib.hid (show k ≤ 17592186044416 by omega)
      have HCG := Lib.hid (ads_cg p (L := L) (L' := L') (k := k) (by rw [HLEN.out]; omega) (by rw [HLEN'.out]; omega))
      go_wp2_with fail
      refine (rNorm_any p h0 hp HOWN.out.rd HK.out).mono ?_
      intro _ w3 h3
      obtain ⟨A3, n3, c3, M3, rfl, hp3, hM3, hb3⟩ := h3.later HB.out
      have HM3 := Lib.hid (pn_cg hM3.out HCG.out)
      go_wp2
      go_ret
      exact ⟨A3, n3, c3, M3, rfl, hp3, HM3.out, hb3⟩
end Go.Proofs.YtmgacikdgbedfaaDoor

/- modpoly: the reference's product. -/
namespace Go.Proofs.YtmgacikdgbedfaaDoor
open Go.RowKit Go.IntWalk
attribute [local go_sem ↓] Go.wp_at_zero Go.wp_at_succ

set_option maxRecDepth 100000 in
set_option maxHeartbeats 4000000 in
theorem rMul_any {A A' : Option Addr} {n c n' c' : Nat} {L L' : List Nat} {w : World} (p : Nat) (h0 : 0 < p) (hp : p < 4294967296)
    (h : RdU w w.heap.size A n c L) (h' : RdU w w.heap.size A' n' c' L') (hn : n ≤ 4398046511104) (hn' : n' ≤ 4398046511104) :
    Calls Tryd.prog 13 #[.slice A n c, .slice A' n' c', .int .u32 p] w (RetPo p (Pm.cv (Pm.co L) (Pm.co L')) w) := by
  have HR := Lib.hid h
  have HR' := Lib.hid h'
  clear h h'
  go_enter Tryd.func13, Tryd.ntmps13
  go_wp2_with fail
  refine (rNorm_any p h0 hp HR.out (by omega)).mono ?_
  rintro _ w1 ⟨A1, n1, c1, M, rfl, hp1, hM1, hb1⟩
  have hn1 := pn_short h0 hM1.out.1 hM1.out.2 hp1 HR.out
  have HB1 := Lib.hid hb1
  have HP1 := Lib.hid hp1
  clear hb1 hp1
  go_wp2_with fail
  refine (rNorm_any p h0 hp (HR'.out.next HB1.out) (by omega)).mono ?_
  rintro _ w2 ⟨A2, n2, c2, M', rfl, hp2, hM2, hb2⟩
  have hn2 := pn_short h0 hM2.out.1 hM2.out.2 hp2 HR'.out
  have HB2 := Lib.hid (HB1.out.trans (hb2.mono HB1.out.size))
  have HP2 := Lib.hid hp2
  have HP1' := Lib.hid (HP1.out.next hb2)
  have HLEN := Lib.hid HP1.out.len
  have HLEN' := Lib.hid hp2.len
  have HCG := Lib.hid (Pm.Cg.cv hM1.out.2 hM2.out.2)
  have h := HP1'.out.rd
  have h' := HP2.out.rd
  clear hb2 hp2 HP1
  rcases Nat.eq_zero_or_pos n1 with hn0 | hn0
  · have HZ := Lib.hid (Pm.cv_none (L := M) (M := M') (.inl (HLEN.out.trans hn0)))
    subst hn0
    go_wp2
    go_ret
    exact ⟨none, 0, 0, [], rfl, Po.nil _ _ 0 none (Nat.zero_le _), Lib.hid ⟨Pm.Pn.nil, fun j => Pm.cz.trans (by rw [HZ.out j, Pm.co_zero (Nat.zero_le _)]; exact Pm.cz.refl _) (HCG.out j)⟩, HB2.out⟩
  · have hz1 : ((n1 : Int) == 0) = false := by simp; omega
    rcases Nat.eq_zero_or_pos n2 with hn0' | hn0'
    · have HZ := Lib.hid (Pm.cv_none (L := M) (M := M') (.inr (HLEN'.out.trans hn0')))
      subst hn0'
      go_wp2
      go_ret
      exact ⟨none, 0, 0, [], rfl, Po.nil _ _ 0 none (Nat.zero_le _), Lib.hid ⟨Pm.Pn.nil, fun j => Pm.cz.trans (by rw [HZ.out j, Pm.co_zero (Nat.zero_le _)]; exact Pm.cz.refl _) (HCG.out j)⟩, HB2.out⟩
    · have hz2 : ((n2 : Int) == 0) = false := by simp; omega
      obtain ⟨m, hm⟩ : ∃ m, m = n1 + n2 - 1 := ⟨_, rfl⟩
      have hmk : ∀ W : World, (Instr.makeSlice 26 (.int .i64 ((n1 : Int) + n2 - 1)) (.int .i64 ((n1 : Int) + n2 - 1))).run Tryd.prog W = .ok (.slice (some ⟨W.heap.size, 0, none⟩) m m) (W.alloc (.cells (madeCells #[.int .u32 0] m) 27)) := fun W => by
        rw [show (n1 : Int) + n2 - 1 = (m : Int) by omega]
        exact make_polys m (by omega) W
      have HM := Lib.hid hm
      clear hm
      go_wp2_with fail
      have HU0 := UB.made w2 m
      have hB0 := below1 w2 (.cells (madeCells #[.int .u32 0] m) 27)
      clear hmk
      generalize w2.alloc (.cells (madeCells #[.int .u32 0] m) 27) = W1 at HU0 hB0 ⊢
      obtain ⟨gb, hgb⟩ : ∃ gb, gb = w2.heap.size := ⟨_, rfl⟩
      have hbb : w2.heap.size ≤ gb := by omega
      rw [← hgb] at HU0 ⊢
      clear hgb
      go_loopw [35] (fun iv wr => ∃ (i : Nat) (O : List Nat), iv = .int .i64 i ∧ i ≤ n1 ∧ UB wr gb O ∧ Hid (O.length = m ∧ Lt p O ∧ AllC p O (Pm.pt (Pm.co M) (Pm.co M') i 0)) ∧ Below w2.heap.size w2 wr) (fun iv _ => n1 - (intOf iv).toNat)
      case atStart => exact ⟨0, _, rfl, Nat.zero_le _, HU0, Lib.hid ⟨by simp, Lt.zeros h0 m, fun j hj => by rw [Pm.pt_zero, Dg.ld_replicate]; exact Pm.cz.refl _⟩, hB0⟩
      case round =>
        clear HU0 hB0
        obtain ⟨i, O, rfl, hi, hU, hO, hB⟩ := hrel
        by_cases hin : i < n1
        · obtain ⟨hx, ad, rfl, hbx, hcx⟩ := h.at_ i _ (Dg.get_of_ld (by rw [HLEN.out]; exact hin))
          have hcx := (hB.cell (p := ad.add i) (by rw [add_blk]; exact hbx)).trans hcx
          obtain ⟨x, ex⟩ : ∃ x, x = Dg.ld M i := ⟨_, rfl⟩
          rw [← ex] at hx hcx
          have EX := Lib.hid ex
          clear ex
          obtain ⟨wo, rfl⟩ : ∃ wo : World, wo = wr := ⟨_, rfl⟩
          go_wp2_with fail
          go_loopw [42] (fun kv wr => ∃ (k : Nat) (O : List Nat), kv = .int .i64 k ∧ k ≤ n2 ∧ UB wr gb O ∧ Hid (O.length = m ∧ Lt p O ∧ AllC p O (Pm.pt (Pm.co M) (Pm.co M') i k)) ∧ Below w2.heap.size w2 wr) (fun kv _ => n2 - (intOf kv).toNat)
          case atStart => exact ⟨0, O, rfl, Nat.zero_le _, hU, hO, hB⟩
          case round =>
            clear hU hO hB hcx
            obtain ⟨k, O, rfl, hk, hU, hO, hB⟩ := hrel
            by_cases hkn : k < n2
            · obtain ⟨hy, ad', rfl, hby, hcy⟩ := h'.at_ k _ (Dg.get_of_ld (by rw [HLEN'.out]; exact hkn))
              have hcy := (hB.cell (p := ad'.add k) (by rw [add_blk]; exact hby)).trans hcy
              obtain ⟨y, ey⟩ : ∃ y, y = Dg.ld M' k := ⟨_, rfl⟩
              rw [← ey] at hy hcy
              have EY := Lib.hid ey
              clear ey
              obtain ⟨t, ht⟩ : ∃ t, t = i + k := ⟨_, rfl⟩
              have htm : t < m := by have := HM.out; omega
              have hs1 : IntKind.i64.wrap ((i : Int) + k) = (t : Int) := by rw [IntWalk.i64_in _ (by omega)]; omega
              have ht0 : (0 : Int) ≤ (t : Int) := by omega
              have ht1 : (t : Int) < (m : Int) := by omega
              have hcell := hU.cell (Dg.get_of_ld (L := O) (i := t) (by rw [hO.out.1]; exact htm))
              have hfz := hU.frozen t
              have hol := hO.out.2.1.ld h0 t
              obtain ⟨o, eo⟩ : ∃ o, o = Dg.ld O t := ⟨_, rfl⟩
              rw [← eo] at hcell hol
              have EO := Lib.hid eo
              have HT := Lib.hid ht
              have hgl := hU.lt
              clear eo ht
              go_wp2_with fail
              go_region_with
                (first
                  | (go_at_call 34; refine (refMul_any x y p rfl rfl rfl hx hy hp h0 _).mono ?_; rintro _ _ ⟨v, rfl, hv, rfl⟩)
                  | (go_at_call 37; refine (refAdd_any o v p rfl rfl rfl (by omega) (by rw [hv.out]; exact Nat.lt_trans (Nat.mod_lt _ h0) hp) hp h0 _).mono ?_; rintro _ _ ⟨u, rfl, hu, rfl⟩))
              all_goals
                have hU2 := (hU.drewN 1).set t u
                have hB2 := hB.drew.setCell (p := ⟨gb, t, none⟩) (by simp; omega) (.int .u32 (u : Int))
                have HX := Lib.hid (And.intro hU2 hB2)
                have HUP := Lib.hid (show u < p by rw [hu.out]; exact Nat.mod_lt _ h0)
                have HZ1 := Lib.hid (show Pm.cz p (v : Int) ((x : Int) * y) by rw [hv.out]; have := Pm.cz_mod (p := p) (x * y); rwa [Int.natCast_mul] at this)
                have HZ2 := Lib.hid (show Pm.cz p (u : Int) ((o : Int) + v) by rw [hu.out]; have := Pm.cz_mod (p := p) (o + v); rwa [Int.natCast_add] at this)
                clear hU2 hB2 hs1
                go_wp2
                go_roundw
                case rel => exact ⟨k + 1, O.set t u, by go_num, hkn, HX.out.1, Lib.hid ⟨by rw [List.length_set]; exact hO.out.1, hO.out.2.1.set t HUP.out, hO.out.2.2.set (by rw [hO.out.1]; exact htm) (times_step HT.out EX.out EY.out EO.out (by rw [hO.out.1]; exact htm) hO.out.2.2 HZ1.out HZ2.out) (fun j hj => Pm.pt_other (by rw [← HT.out]; exact hj))⟩, HX.out.2⟩
                case measure => simp [intOf]; omega
            · obtain rfl : k = n2 := by omega
              have HN := Lib.hid (show AllC p O (Pm.pt (Pm.co M) (Pm.co M') (i + 1) 0) from fun j hj => by
                rw [← Pm.pt_next (fun q hq => Pm.co_zero (by rw [HLEN'.out]; exact hq))]; exact hO.out.2.2 j hj)
              go_wp2
              go_roundw
              case rel => exact ⟨i + 1, O, by go_num, hin, hU, Lib.hid ⟨hO.out.1, hO.out.2.1, HN.out⟩, hB⟩
              case measure => simp [intOf]; omega
        · obtain rfl : i = n1 := by omega
          have HA := Lib.hid (show Pm.Cg p (Pm.co O) (Pm.cv (Pm.co M) (Pm.co M')) from fun j => by
            by_cases hj : j < O.length
            · have := hO.out.2.2 j hj
              rwa [Pm.pt_all (fun q hq => Pm.co_zero (by rw [HLEN.out]; exact hq))] at this
            · rw [Pm.co_zero (by omega)]
              exact (Pm.cv_end (by rw [HLEN.out]; exact hn0) (by rw [HLEN'.out]; exact hn0') (by rw [HLEN.out, HLEN'.out, ← HM.out, ← hO.out.1]; omega)).symm)
          have hmx : m ≤ maxLen := by have := HM.out; unfold maxLen; omega
          have hR := hU.rd (hO.out.2.1.wd hp) (B := wr.heap.size) hU.lt (k := m) (by rw [hO.out.1]; exact Nat.le_refl _) (by rw [hO.out.1]; exact hmx)
          rw [hO.out.1, List.take_of_length_le (by rw [hO.out.1]; exact Nat.le_refl _)] at hR
          have HRO := Lib.hid hR
          have HBB := Lib.hid (HB2.out.trans (hB.mono HB2.out.size))
          have HML := Lib.hid (show m ≤ 17592186044416 by have := HM.out; omega)
          clear hR hU hB
          go_wp2_with fail
          refine (rNorm_any p h0 hp HRO.out HML.out).mono ?_
          intro _ w3 h3
          obtain ⟨A3, n3, c3, M3, rfl, hp3, hM3, hb3⟩ := h3.later HBB.out
          have HM3 := Lib.hid (pn_cg hM3.out (HA.out.trans HCG.out))
          go_wp2
          go_ret
          exact ⟨A3, n3, c3, M3, rfl, hp3, HM3.out, hb3⟩
end Go.Proofs.YtmgacikdgbedfaaDoor

/- modpoly: the reference's division. -/
namespace Go.Proofs.YtmgacikdgbedfaaDoor
open Go.RowKit Go.IntWalk
attribute [local go_sem ↓] Go.wp_at_zero Go.wp_at_succ

/-- The reference's quotient and rest. -/
def RetDR (p : Nat) (L L' : List Nat) (w : World) (e : Ending) (w' : World) : Prop :=
  ∃ (A1 A2 : Option Addr) (n1 c1 n2 c2 : Nat) (Q R M M' : List Nat), e = .returned (.tuple #[.slice A1 n1 c1, .slice A2 n2 c2]) ∧ Po w' w.heap.size A1 n1 c1 Q ∧ Po w' w.heap.size A2 n2 c2 R ∧
    Hid (Pm.Pn p Q ∧ Pm.Pn p R ∧ (Pm.Pn p M ∧ Pm.Cg p (Pm.co M) (Pm.co L)) ∧ (Pm.Pn p M' ∧ Pm.Cg p (Pm.co M') (Pm.co L')) ∧ Pm.Dv p (Pm.co M) (Pm.co M') (Pm.co Q) (Pm.co R) (M'.length - 1)) ∧ Below w.heap.size w w'
theorem po_up {w : World} {b n c : Nat} {A : Option Addr} {L : List Nat} (h : Po w b A n c L) (hn : 0 < n) : ∃ g, A = some ⟨g, 0, none⟩ ∧ b ≤ g ∧ UP w g L := by
  rcases h.at_ with h0 | ⟨g, cur, h1, h2, h3, h4, h5⟩
  · omega
  · exact ⟨g, h1, h2, cur, h3, by rw [h.len]; exact h4, by rw [h.len]; exact h5⟩
theorem cz_sub_nat {p : Nat} (h0 : 0 < p) (o z : Nat) : Pm.cz p ((o % p + p - z % p) % p : Nat) ((o : Int) - z) := by
  have h1 := Nat.mod_lt z h0
  have e : ((o % p + p - z % p : Nat) : Int) = ((o % p : Nat) : Int) + p - ((z % p : Nat) : Int) := by omega
  have h2 := Pm.cz_mod (p := p) (o % p + p - z % p)
  rw [e] at h2
  have h3 : Pm.cz p (p : Int) 0 := ⟨1, by simp⟩
  have h4 := ((Pm.cz_mod (p := p) o).add h3).sub (Pm.cz_mod (p := p) z)
  rw [Int.add_zero] at h4
  exact h2.trans h4
set_option maxRecDepth 100000 in
set_option maxHeartbeats 8000000 in
theorem rDiv_any {A A' : Option Addr} {n c n' c' : Nat} {L L' : List Nat} {w : World} (p : Nat) (hpr : Nt.Pr p) (hp : p < 4294967296)
    (h : RdU w w.heap.size A n c L) (h' : RdU w w.heap.size A' n' c' L') (hn : n ≤ 4398046511104) (hn' : n' ≤ 4398046511104) (hnz : ¬ Pm.Cg p (Pm.co []) (Pm.co L')) :
    Calls Tryd.prog 11 #[.slice A n c, .slice A' n' c', .int .u32 p] w (RetDR p L L' w) := by
  have HP := Lib.hid hpr
  have h0 := hpr.pos
  have h2p := hpr.two_le
  have HR := Lib.hid h
  have HR' := Lib.hid h'
  have HNZ := Lib.hid hnz
  clear hpr h h' hnz
  go_enter Tryd.func11, Tryd.ntmps11
  go_wp2_with fail
  refine (rNorm_any p h0 hp HR.out (by omega)).mono ?_
  rintro _ w1 ⟨A1, n1, c1, M, rfl, hp1, hM1, hb1⟩
  have hn1 := pn_short h0 hM1.out.1 hM1.out.2 hp1 HR.out
  have HB1 := Lib.hid hb1
  have HP1 := Lib.hid hp1
  clear hb1 hp1
  go_wp2_with fail
  refine (rNorm_any p h0 hp (HR'.out.next HB1.out) (by omega)).mono ?_
  rintro _ w2 ⟨A2, n2, c2, M', rfl, hp2, hM2, hb2⟩
  have hn2 := pn_short h0 hM2.out.1 hM2.out.2 hp2 HR'.out
  have HB2 := Lib.hid (HB1.out.trans (hb2.mono HB1.out.size))
  have HP2 := Lib.hid hp2
  have HP1' := Lib.hid (HP1.out.next hb2)
  have HLEN := Lib.hid HP1.out.len
  have HLEN' := Lib.hid hp2.len
  have hpos2 : 0 < n2 := by
    rcases Nat.eq_zero_or_pos n2 with e | e
    · exfalso
      have hl : M' = [] := List.eq_nil_of_length_eq_zero (HLEN'.out.trans e)
      have := hM2.out.2
      rw [hl] at this
      exact HNZ.out this
    · exact e
  have hb2s := hb2.size
  clear hb2 hp2
  rcases Nat.lt_or_ge n1 n2 with hlt | hge
  · go_wp2
    refine bodyPost_ret (v := .tuple #[.slice none 0 0, .slice A1 n1 c1]) (by simp [results, Tryd.results11, go_sem]) rfl ?_
    exact ⟨none, A1, 0, 0, n1, c1, [], M, M, M', rfl, Po.nil _ _ _ _ (Nat.zero_le _), HP1'.out, Lib.hid ⟨Pm.Pn.nil, hM1.out.1, hM1.out, hM2.out, div_zero' (by rw [HLEN.out, HLEN'.out]; exact hlt)⟩, HB2.out⟩
  · obtain ⟨gr, rfl, hgr, hupr⟩ := po_up HP1'.out (by omega)
    obtain ⟨gB, rfl, hgB, hupB⟩ := po_up HP2.out hpos2
    have hgr1 : gr < w1.heap.size := by
      obtain ⟨g', e, _, hup'⟩ := po_up HP1.out (by omega)
      injection e with e
      injection e with e
      subst e
      exact hup'.lt
    obtain ⟨e, he⟩ : ∃ e, Hid (e + n2 = n1) := ⟨n1 - n2, Lib.hid (by omega)⟩
    obtain ⟨j, hj⟩ : ∃ j, Hid (j + 1 = n2) := ⟨n2 - 1, Lib.hid (by omega)⟩
    have hmk : ∀ W : World, (Instr.makeSlice 26 (.int .i64 ((n1 : Int) - n2 + 1)) (.int .i64 ((n1 : Int) - n2 + 1))).run Tryd.prog W = .ok (.slice (some ⟨W.heap.size, 0, none⟩) ((e + 1 : Nat)) ((e + 1 : Nat))) (W.alloc (.cells (madeCells #[.int .u32 0] (e + 1)) 27)) := fun W => by
      rw [show (n1 : Int) - n2 + 1 = ((e + 1 : Nat) : Int) by have := he.out; omega]
      exact make_polys (e + 1) (by have := he.out; omega) W
    have he1 : e ≤ 4398046511104 := by have := he.out; omega
    have hB3 := below1 w2 (.cells (madeCells #[.int .u32 0] (e + 1)) 27)
    have hcl := (hupB.below hB3 hupB.lt).cell (Dg.get_of_ld (L := M') (i := j) (by rw [HLEN'.out]; have := hj.out; omega))
    have hi1 : (n2 : Int) - 1 = (j : Int) := by have := hj.out; omega
    have hnl : ¬ (n1 : Int) < n2 := by omega
    go_wp2_with fail
    have htop := Pm.nm_top hM2.out.1.1 (by rw [HLEN'.out]; exact hpos2)
    rw [HLEN'.out, show n2 - 1 = j by have := hj.out; omega] at htop
    have htl := hM2.out.1.lt h0 j
    obtain ⟨tp, etp⟩ : ∃ tp, tp = Dg.ld M' j := ⟨_, rfl⟩
    rw [← etp] at htop htl ⊢
    have ETP := Lib.hid etp
    have HTP := Lib.hid (show ¬ tp % p = 0 by rwa [Nat.mod_eq_of_lt htl])
    clear etp hcl hmk
    refine (refInv_any tp p rfl rfl (by omega) hp h2p _).mono ?_
    rintro _ _ ⟨iv, rfl, hiv, rfl⟩
    have hivp : iv < p := by rw [hiv.out]; exact Nat.mod_lt _ h0
    have HIV := Lib.hid (show Pm.cz p ((iv : Int) * Pm.co M' (M'.length - 1)) 1 by
      unfold Pm.co; rw [HLEN'.out, show n2 - 1 = j by have := hj.out; omega, ← ETP.out]; exact cz_inv HP.out HTP.out hiv.out)
    have HUQ := Lib.hid (UB.made w2 (e + 1))
    have HUR := Lib.hid (hupr.below hB3 hupr.lt)
    have HUB := Lib.hid (hupB.below hB3 hupB.lt)
    have HB3 := Lib.hid (HB2.out.trans (hB3.mono HB2.out.size))
    have hgrs : gr < w2.heap.size := hupr.lt
    have hgBs : gB < w2.heap.size := hupB.lt
    clear hB3 hupr hupB
    go_wp2_with fail
    generalize w2.alloc (.cells (madeCells #[.int .u32 0] (e + 1)) 27) = W3 at HUQ HUR HUB HB3 ⊢
    obtain ⟨gq, hgq⟩ : ∃ gq, gq = w2.heap.size := ⟨_, rfl⟩
    have hbw := HB2.out.size
    rw [← hgq] at HUQ hgrs hgBs hbw ⊢
    have hne1 : gr ≠ gq := by omega
    have hne2 : gB ≠ gq := by omega
    have hne3 : gB ≠ gr := by omega
    have hne1' : gq ≠ gr := by omega
    have hgw : w.heap.size ≤ gr := hgr
    clear hgq
    have HS0 := Lib.hid (show Pm.Ds p (Pm.co M) (Pm.co M') (Pm.co (List.replicate (e + 1) 0)) (Pm.co M) (e + 1) (M'.length - 1) from
      (Pm.Ds.start ((Pm.co_up M).mono (by rw [HLEN.out, HLEN'.out]; have := he.out; omega))).cg fun k => Pm.cz.of_eq (Pm.co_zeros _ k))
    go_loopw [10] (fun iv' wr => ∃ (J : Nat) (Q R : List Nat), iv' = .int .i64 ((J : Int) - 1) ∧ J ≤ e + 1 ∧ UB wr gq Q ∧ UP wr gr R ∧ UP wr gB M' ∧
      Hid (Q.length = e + 1 ∧ Lt p Q ∧ R.length = n1 ∧ Lt p R ∧ Pm.Ds p (Pm.co M) (Pm.co M') (Pm.co Q) (Pm.co R) J (M'.length - 1) ∧ ∀ x, x < J → Dg.ld Q x = 0) ∧ Below w.heap.size w wr) (fun iv' _ => (intOf iv' + 1).toNat)
    case atStart =>
      refine ⟨e + 1, _, M, ?_, Nat.le_refl _, HUQ.out, HUR.out, HUB.out, Lib.hid ⟨by simp, Lt.zeros h0 _, HLEN.out, hM1.out.1.2, HS0.out, fun x _ => Dg.ld_replicate _ _⟩, HB3.out⟩
      exact int_i (by omega)
    case round =>
      clear HUQ HUR HUB HB3
      obtain ⟨J, Q, R, rfl, hJ, hUQ, hUP, hUB, hI, hB⟩ := hrel
      have hML := HP1.out.mx
      have hMl := HP1.out.le
      rcases Nat.eq_zero_or_pos J with hJ0 | hJ0
      · subst hJ0
        have hpq := hUQ.po (hI.out.2.1.wd hp) (b := w.heap.size) (by omega) (k := e + 1) (c := e + 1) (by rw [hI.out.1]; exact Nat.le_refl _) (Nat.le_refl _) (by have := he.out; unfold maxLen; omega)
        rw [List.take_of_length_le (by rw [hI.out.1]; exact Nat.le_refl _)] at hpq
        have hpr := hUP.po (hI.out.2.2.2.1.wd hp) (b := w.heap.size) (by omega) (k := n1) (c := c1) (by rw [hI.out.2.2.1]; exact Nat.le_refl _) hMl hML
        rw [List.take_of_length_le (by rw [hI.out.2.2.1]; exact Nat.le_refl _)] at hpr
        have HPQ := Lib.hid hpq
        have HPR := Lib.hid hpr
        have HB := Lib.hid hB
        have hd := Lib.hid hI.out.2.2.2.2.1.done
        have HE1 := Lib.hid (show e + 1 ≤ 17592186044416 by have := he.out; omega)
        clear hpq hpr hUQ hUP hUB hB
        go_wp2_with fail
        refine (rNorm_any p h0 hp HPQ.out.rd HE1.out).mono ?_
        rintro _ w5 ⟨A5, n5, c5, Q5, rfl, hp5, hQ5, hb5⟩
        have HP5 := Lib.hid hp5
        have HPR5 := Lib.hid (HPR.out.next hb5)
        have HB5 := Lib.hid (HB.out.trans (hb5.mono HB.out.size))
        have hbs := HB.out.size
        clear hp5 hb5
        go_wp2_with fail
        refine (rNorm_any p h0 hp HPR5.out.rd (by omega)).mono ?_
        rintro _ w6 ⟨A6, n6, c6, R6, rfl, hp6, hR6, hb6⟩
        have HF1 := Lib.hid ((HP5.out.next hb6).base (b' := w.heap.size) hbs)
        have HF2 := Lib.hid (hp6.base (b' := w.heap.size) HB5.out.size)
        have HB6 := Lib.hid (HB5.out.trans (hb6.mono HB5.out.size))
        have HDV := Lib.hid (show Pm.Dv p (Pm.co M) (Pm.co M') (Pm.co Q5) (Pm.co R6) (M'.length - 1) from
          ⟨fun x => (hd.out.1 x).trans ((Pm.Cg.cv hQ5.out.2.symm (Pm.Cg.refl _) x).add (hR6.out.2 x).symm), hd.out.2.cg hR6.out.2⟩)
        clear hb6 hp6
        go_wp2
        go_ret2
        exact ⟨A5, A6, n5, c5, n6, c6, Q5, R6, M, M', rfl, HF1.out, HF2.out, Lib.hid ⟨hQ5.out.1, hR6.out.1, hM1.out, hM2.out, HDV.out⟩, HB6.out⟩
      · obtain ⟨i, rfl⟩ : ∃ i, J = i + 1 := ⟨J - 1, by omega⟩
        rw [show (((i + 1 : Nat) : Int) - 1) = (i : Int) by omega]
        obtain ⟨t, ht⟩ : ∃ t, Hid (t = i + j) := ⟨_, Lib.hid rfl⟩
        have htn : t < n1 := by have := he.out; have := hj.out; have := ht.out; omega
        have hi0 : (0 : Int) ≤ (i : Int) := by omega
        have hie : i < e + 1 := by omega
        have hib1 : (i : Int) < ((e + 1 : Nat) : Int) := by omega
        have hib2 : (i : Int) < (e : Int) + 1 := by omega
        have hidx : (i : Int) + n2 - 1 = (t : Int) := by have := hj.out; have := ht.out; omega
        have hcq := hUQ.cell (Dg.get_of_ld (L := Q) (i := i) (by rw [hI.out.1]; exact hie))
        have hfq := hUQ.frozen i
        have HRP := Lib.hid (show RdU wr wr.heap.size (some ⟨gr, 0, none⟩) n1 c1 R from by
          have hpr := hUP.po (hI.out.2.2.2.1.wd hp) (b := w.heap.size) (by omega) (k := n1) (c := c1) (by rw [hI.out.2.2.1]; exact Nat.le_refl _) hMl hML
          rw [List.take_of_length_le (by rw [hI.out.2.2.1]; exact Nat.le_refl _)] at hpr
          exact hpr.rd)
        generalize Dg.ld Q i = q0 at hcq
        obtain ⟨wo, rfl⟩ : ∃ wo : World, wo = wr := ⟨_, rfl⟩
        go_wp2_with fail
        refine (rAt_any HRP.out t).mono ?_
        rintro _ _ ⟨rt, rfl, hrt, rfl⟩
        have hrtp : rt < p := by rw [hrt.out]; exact hI.out.2.2.2.1.ld h0 t
        go_wp2_with fail
        refine (refMul_any rt iv p rfl rfl rfl (by omega) (by omega) hp h0 _).mono ?_
        rintro _ _ ⟨v, rfl, hv, rfl⟩
        have hvp : v < p := by rw [hv.out]; exact Nat.mod_lt _ h0
        have HU5 := Lib.hid (hUQ.set i v)
        have HP5 := Lib.hid (hUP.far (p := ⟨gq, i, none⟩) hne1 (.int .u32 (v : Int)))
        have HUB5 := Lib.hid (hUB.far (p := ⟨gq, i, none⟩) hne2 (.int .u32 (v : Int)))
        have HB5 := Lib.hid (hB.setCell (p := ⟨gq, i, none⟩) (by simp; omega) (.int .u32 (v : Int)))
        clear hUQ hUP hUB hB HRP
        go_wp2_with fail
        clear hcq hfq hidx
        generalize wo.setCell ⟨gq, i, none⟩ (.int .u32 (v : Int)) = W5 at HU5 HP5 HUB5 HB5 ⊢
        go_loopw [64] (fun kv wr => ∃ (k : Nat) (O : List Nat), kv = .int .i64 k ∧ k ≤ n2 ∧ Hid (UB wr gq (Q.set i v) ∧ UP wr gr O ∧ UP wr gB M' ∧ (O.length = n1 ∧ Lt p O ∧ AllC p O (Pm.sb (Pm.co R) (Pm.co M') v i k)) ∧ Below w.heap.size w wr)) (fun kv _ => n2 - (intOf kv).toNat)
        case atStart => exact ⟨0, R, rfl, Nat.zero_le _, Lib.hid ⟨HU5.out, HP5.out, HUB5.out, ⟨hI.out.2.2.1, hI.out.2.2.2.1, fun x _ => by rw [Pm.sb_zero]; exact Pm.cz.refl _⟩, HB5.out⟩⟩
        case round =>
          clear HU5 HP5 HUB5 HB5
          obtain ⟨k, O, rfl, hk, hK⟩ := hrel
          by_cases hkn : k < n2
          · have hcy := hK.out.2.2.1.cell (Dg.get_of_ld (L := M') (i := k) (by rw [HLEN'.out]; exact hkn))
            have hyl := hM2.out.1.lt h0 k
            obtain ⟨y, ey⟩ : ∃ y, y = Dg.ld M' k := ⟨_, rfl⟩
            rw [← ey] at hcy hyl
            have EY := Lib.hid ey
            clear ey
            obtain ⟨x, hx⟩ : ∃ x, x = i + k := ⟨_, rfl⟩
            have hxn : x < n1 := by have := he.out; omega
            have hs1 : IntKind.i64.wrap ((i : Int) + k) = (x : Int) := by rw [IntWalk.i64_in _ (by omega)]; omega
            have hx0 : (0 : Int) ≤ (x : Int) := by omega
            have hx1 : (x : Int) < (n1 : Int) := by omega
            have hcr := hK.out.2.1.cell (Dg.get_of_ld (L := O) (i := x) (by rw [hK.out.2.2.2.1.1]; exact hxn))
            have hfz := hK.out.2.1.frozen x
            have hol := hK.out.2.2.2.1.2.1.ld h0 x
            obtain ⟨o, eo⟩ : ∃ o, o = Dg.ld O x := ⟨_, rfl⟩
            rw [← eo] at hcr hol
            have EO := Lib.hid eo
            have HX0 := Lib.hid hx
            have hkI : (k : Int) < n2 := by omega
            clear eo hx
            go_wp2_with fail
            go_region_with
              (first
                | (go_at_call 34; refine (refMul_any v y p rfl rfl rfl (by omega) (by omega) hp h0 _).mono ?_; rintro _ _ ⟨z, rfl, hz, rfl⟩; have hzp : z < p := by { rw [hz.out]; exact Nat.mod_lt _ h0 })
                | (go_at_call 36; refine (refSub_any o z p rfl rfl rfl (by omega) (by omega) hp h0 _).mono ?_; rintro _ _ ⟨u, rfl, hu, j3, rfl⟩))
            all_goals
              have HZ1 := Lib.hid (show Pm.cz p (z : Int) ((v : Int) * y) by rw [hz.out]; have := Pm.cz_mod (p := p) (v * y); rwa [Int.natCast_mul] at this)
              have HUP := Lib.hid (show u < p by rw [hu.out]; exact Nat.mod_lt _ h0)
              have HZ2 := Lib.hid (show Pm.cz p (u : Int) ((o : Int) - z) by rw [hu.out]; exact cz_sub_nat h0 o z)
              have hU2 := (hK.out.1.drewN (1 + j3)).far (p := ⟨gr, x, none⟩) hne1' (.int .u32 (u : Int))
              have hP2 := (hK.out.2.1.drewN (1 + j3)).set x u
              have hB2 := (hK.out.2.2.1.drewN (1 + j3)).far (p := ⟨gr, x, none⟩) hne3 (.int .u32 (u : Int))
              have hW2 := (below_drewN hK.out.2.2.2.2 (1 + j3)).setCell (p := ⟨gr, x, none⟩) (by simp; omega) (.int .u32 (u : Int))
              have HX := Lib.hid (And.intro hU2 (And.intro hP2 (And.intro hB2 hW2)))
              clear hU2 hP2 hB2 hW2 hs1
              go_wp2
              go_roundw
              case rel => exact ⟨k + 1, O.set x u, by go_num, hkn, Lib.hid ⟨HX.out.1, HX.out.2.1, HX.out.2.2.1, ⟨by rw [List.length_set]; exact hK.out.2.2.2.1.1, hK.out.2.2.2.1.2.1.set x HUP.out, hK.out.2.2.2.1.2.2.set (by rw [hK.out.2.2.2.1.1]; exact hxn) (sub_step HX0.out EY.out EO.out (by rw [hK.out.2.2.2.1.1]; exact hxn) hK.out.2.2.2.1.2.2 HZ1.out HZ2.out) (fun q hq => Pm.sb_other (by rw [← HX0.out]; exact hq))⟩, HX.out.2.2.2⟩⟩
              case measure => simp [intOf]; omega
          · obtain rfl : k = n2 := by omega
            have hil : i < Q.length := by rw [hI.out.1]; omega
            have HD := Lib.hid (show Pm.Ds p (Pm.co M) (Pm.co M') (Pm.co (Q.set i v)) (Pm.co O) i (M'.length - 1) from
              hI.out.2.2.2.2.1.step (v := v) (s := iv) ((Pm.co_up M').mono (by omega)) HIV.out (by
                have e1 : Pm.co R (i + (M'.length - 1)) = (rt : Int) := by
                  unfold Pm.co
                  rw [HLEN'.out, show i + (k - 1) = t by have := hj.out; have := ht.out; omega, ← hrt.out]
                rw [e1, hv.out]
                have := Pm.cz_mod (p := p) (rt * iv)
                rwa [Int.natCast_mul] at this)
                (fun x => Pm.cz.of_eq (Pm.co_set hil (hI.out.2.2.2.2.2 i (Nat.lt_succ_self i)) x))
                (sub_all hK.out.2.2.2.1.1 hI.out.2.2.1 (by rw [HLEN'.out]; have := he.out; omega) (by rw [HLEN'.out]; exact hK.out.2.2.2.1.2.2)))
            have hkk : ¬ (k : Int) < k := by omega
            go_wp2
            go_roundw
            case rel => exact ⟨i, Q.set i v, O, rfl, by omega, hK.out.1, hK.out.2.1, hK.out.2.2.1, Lib.hid ⟨by rw [List.length_set]; exact hI.out.1, hI.out.2.1.set i hvp, hK.out.2.2.2.1.1, hK.out.2.2.2.1.2.1, HD.out, fun x hx => by rw [Dg.ld_set_other v (by omega)]; exact hI.out.2.2.2.2.2 x (by omega)⟩, hK.out.2.2.2.2⟩
            case measure => simp [intOf]
end Go.Proofs.YtmgacikdgbedfaaDoor

/- modpoly's laws: Freshman. -/
namespace Pm
theorem drop_cons {L : List Nat} {i x : Nat} (h : L[i]? = some x) : L.drop i = x :: L.drop (i + 1) := by
  have hi : i < L.length := by
    rcases Nat.lt_or_ge i L.length with h1 | h1
    · exact h1
    · rw [List.getElem?_eq_none h1] at h; cases h
  rw [List.getElem?_eq_getElem hi] at h
  injection h with h
  rw [← h, List.drop_eq_getElem_cons hi]
theorem fresh_round {p : Nat} {L O X T S M3 M' Q R : List Nat} {i x : Nat} (hx : L[i]? = some x) (hO : Mf p (co M') (co O) (at_p p (L.drop (i + 1)))) (hX : Mf p (co M') (co X) (mono 1 p))
    (hT : Cg p (co T) (cv (co O) (co X))) (hS : Cg p (co S) (fun k => co T k + co [x] k)) (h3 : Cg p (co M3) (co S)) (hR : Pn p R) (hd : Dv p (co M3) (co M') (co Q) (co R) (M'.length - 1)) : Mf p (co M') (co R) (at_p p (L.drop i)) := by
  rw [drop_cons hx]
  have h1 : Mf p (co M') (co M3) (co R) := Rm.mf ⟨hR, co Q, Fn.co Q, hd⟩
  have h2 : Mf p (co M') (cv (co O) (co X)) (cv (at_p p (L.drop (i + 1))) (mono 1 p)) := hO.mul hX (Fn.co O) (Fn.mono 1 p)
  have h4 : Mf p (co M') (co M3) (fun k => cv (at_p p (L.drop (i + 1))) (mono 1 p) k + co [x] k) :=
    (Mf.of_cg (h3.trans hS)).trans (((Mf.of_cg hT).trans h2).add (Mf.refl _ _))
  refine h1.symm.trans (h4.trans (Mf.of_cg (Cg.of_eq fun k => ?_)))
  show cv (at_p p (L.drop (i + 1))) (mono 1 p) k + co [x] k = mono x 0 k + cv (mono 1 p) (at_p p (L.drop (i + 1))) k
  rw [cv_comm, Int.add_comm]
  congr 1
  cases k with
  | zero => simp [co, mono, Dg.ld]
  | succ k => simp [co, mono, Dg.ld]
theorem fresh_x {p : Nat} {Mx M' X : List Nat} (hm : Cg p (co Mx) (co [0, 1])) (h : Mf p (co M') (co X) (pw (co Mx) p)) : Mf p (co M') (co X) (mono 1 p) := by
  refine h.trans (Mf.of_cg ((Cg.pw hm p).trans (Cg.of_eq fun k => ?_)))
  rw [show co [0, 1] = mono 1 1 from funext co_x, pw_mono]
theorem mul_len' {p : Nat} (hp : 0 < p) {L M R : List Nat} (hR : Pn p R) (e : Cg p (co R) (cv (co L) (co M))) : R.length ≤ L.length + M.length :=
  hR.short hp fun k hk => (e k).trans (by
    rcases Nat.eq_zero_or_pos L.length with h0 | h0
    · rw [cv_none (.inl h0)]; exact cz.refl _
    · rcases Nat.eq_zero_or_pos M.length with h1 | h1
      · rw [cv_none (.inr h1)]; exact cz.refl _
      · exact cv_end h0 h1 (by omega))
theorem add_len' {p : Nat} (hp : 0 < p) {L M R : List Nat} (hR : Pn p R) (e : Cg p (co R) (fun k => co L k + co M k)) : R.length ≤ L.length + M.length :=
  hR.short hp fun k hk => (e k).trans (by
    have := (co_up (p := p) L k (by omega)).add (co_up (p := p) M k (by omega))
    rwa [Int.add_zero] at this)
theorem fresh_end {p : Nat} (hp : Nt.Pr p) {L M M' R O : List Nat} (hM : Cg p (co M) (co L)) (hM' : Pn p M') (hl : 0 < M'.length) (hR : Pn p R) (hO : Pn p O) (h1 : R.length < M'.length) (h2 : O.length < M'.length)
    (e1 : Mf p (co M') (co R) (pw (co M) p)) (e2 : Mf p (co M') (co O) (at_p p L)) : R = O :=
  Mf.unique hp hM' hl hR hO h1 h2 ((e1.trans (Mf.of_cg ((Cg.pw hM p).trans (freshman hp L)))).trans e2.symm)
end Pm
namespace Go.Proofs.YtmgacikdgbedfaaDoor
open Go.RowKit Go.IntWalk
attribute [local go_sem ↓] Go.wp_at_zero Go.wp_at_succ

theorem lsame_eq' {A A' : Option Addr} {B n n' c c' : Nat} {L L' : List Nat} {w : World} (h : RdU w B A n c L) (h' : RdU w B A' n' c' L') (e : L = L') :
    Calls Tryd.prog 14 #[.slice A n c, .slice A' n' c'] w (RetBD true w) := by
  have := lsame_any h h'
  rwa [show (L == L') = true by simpa using e] at this
set_option maxRecDepth 100000 in
set_option maxHeartbeats 1000000 in
theorem fresh_none {A A' : Option Addr} {n c n' c' : Nat} {w : World} (p : Nat) (hp : p < 4294967296) (hpr : ¬ Nt.Pr p) (hT : Tabs w) :
    Calls Tryd.prog 4 #[.slice A n c, .slice A' n' c', .int .u32 p] w (RetT w) := by
  have HP := Lib.hid hpr
  clear hpr
  go_enter Tryd.func4, Tryd.ntmps4
  go_wp2_with fail
  refine (mPow_none p HP.out hp hT).mono ?_
  rintro _ w1 ⟨rfl, hb⟩
  have HB := Lib.hid hb
  clear hb
  go_wp2_with fail
  refine (num_any _ _).mono ?_
  rintro _ _ ⟨z, rfl, hz, rfl⟩
  obtain rfl := hz.out
  go_wp2_with fail
  refine (awake_any _ (hT.below HB.out)).mono ?_
  rintro _ w2 ⟨rfl, hb2⟩
  have HB2 := Lib.hid (HB.out.trans (hb2.mono HB.out.size))
  go_wp2
  go_ret
  exact ⟨rfl, HB2.out⟩
set_option maxRecDepth 100000 in
set_option maxHeartbeats 8000000 in
theorem fresh_ok {A A' : Option Addr} {n n' c c' : Nat} {L L' : List Nat} {w : World} (p : Nat) (hp : p < 4294967296) (hpr : Nt.Pr p) (h : RdU w w.heap.size A n c L) (h' : RdU w w.heap.size A' n' c' L') (hn : n ≤ 1048576) (hn' : n' ≤ 1048576) (hT : Tabs w) :
    Calls Tryd.prog 4 #[.slice A n c, .slice A' n' c', .int .u32 p] w (RetT w) := by
  have HP := Lib.hid hpr
  have h0 := hpr.pos
  have HR := Lib.hid h
  have HR' := Lib.hid h'
  have HLEN := Lib.hid h.len
  clear hpr h h'
  go_enter Tryd.func4, Tryd.ntmps4
  go_wp2_with fail
  refine (mPow_ok p p (by omega) HP.out hp HR.out HR'.out hn hn' hT).mono ?_
  rintro e w1 (⟨⟨rfl, hb⟩, hz⟩ | ⟨A1, n1, c1, R, rfl, hg, hR, hb⟩)
  · have HB := Lib.hid hb
    clear hb
    go_wp2_with fail
    refine (num_any _ _).mono ?_
    rintro _ _ ⟨z, rfl, hz, rfl⟩
    obtain rfl := hz.out
    go_wp2_with fail
    refine (awake_any _ (hT.below HB.out)).mono ?_
    rintro _ w2 ⟨rfl, hb2⟩
    have HB2 := Lib.hid (HB.out.trans (hb2.mono HB.out.size))
    go_wp2
    go_ret
    exact ⟨rfl, HB2.out⟩
  · obtain ⟨M, M', hM, hM', hl', hPq⟩ := hR.out
    have HM := Lib.hid (And.intro hM (And.intro hM' (And.intro hl' hPq)))
    have HB := Lib.hid hb
    have HG := Lib.hid hg
    clear hb hg hM hM' hl' hPq
    have hB2 := below1 w1 (.cells #[.int .u32 0, .int .u32 1] 27)
    have HB2 := Lib.hid (HB.out.trans (hB2.mono HB.out.size))
    have HG2 := Lib.hid (HG.out.next hB2)
    have HX2 := Lib.hid (show RdU (w1.alloc (.cells #[.int .u32 0, .int .u32 1] 27)) (w1.alloc (.cells #[.int .u32 0, .int .u32 1] 27)).heap.size (some ⟨w1.heap.size, 0, none⟩) 2 2 [0, 1] by
      have := rd_new (w := w1) [0, 1] (fun x hx => by simp at hx; omega) (by decide)
      simpa [uc] using this)
    clear hB2 HG
    go_wp2_with fail
    refine (num_any _ _).mono ?_
    rintro _ _ ⟨z, rfl, hz, rfl⟩
    obtain rfl := hz.out
    go_wp2_with fail
    generalize w1.alloc (.cells #[.int .u32 0, .int .u32 1] 27) = W2 at HB2 HG2 HX2 ⊢
    refine (mPow_ok p p (by omega) HP.out hp HX2.out (HR'.out.next HB2.out) (by omega) hn' (hT.below HB2.out)).mono ?_
    rintro e w3 (⟨⟨rfl, hb3⟩, hz3⟩ | ⟨A3, n3, c3, X, rfl, hx3, hX3, hb3⟩)
    · exfalso
      have hm := HM.out.2.1.1.ext h0 Pm.Pn.nil (HM.out.2.1.2.trans hz3.out.symm)
      have := HM.out.2.2.1
      rw [hm] at this
      simp at this
    · obtain ⟨Mx, Mx', hMx, hMx', _, hPx⟩ := hX3.out
      have hmm : Mx' = M' := hMx'.1.ext h0 HM.out.2.1.1 (hMx'.2.trans HM.out.2.1.2.symm)
      subst hmm
      have HX := Lib.hid (And.intro hPx.1 (And.intro hPx.2.1 (Pm.fresh_x hMx.2 hPx.2.2)))
      have HB3 := Lib.hid (HB2.out.trans (hb3.mono HB2.out.size))
      have HG3 := Lib.hid (HG2.out.next hb3)
      have HPX := Lib.hid hx3
      have hX3s := HX2
      clear hb3 hx3 hMx hMx' hPx hX3 HG2
      go_wp2_with fail
      go_loopw [11, 12] (fun v iv wr => ∃ (J : Nat) (A0 : Option Addr) (k c0 : Nat) (O : List Nat), iv = .int .i64 ((J : Int) - 1) ∧ v = .slice A0 k c0 ∧ J ≤ n ∧ Hid (RdU wr wr.heap.size A0 k c0 O ∧ (Pm.Pn p O ∧ O.length < Mx'.length ∧ Pm.Mf p (Pm.co Mx') (Pm.co O) (Pm.at_p p (L.drop J))) ∧ Below w3.heap.size w3 wr)) (fun _ iv _ => (intOf iv + 1).toNat)
      case atStart => exact ⟨n, none, 0, 0, [], rfl, rfl, Nat.le_refl _, Lib.hid ⟨RdU.nil _ _ _ _ (Nat.zero_le _), ⟨Pm.Pn.nil, HM.out.2.2.1, by
        rw [List.drop_of_length_le (by rw [HLEN.out]; exact Nat.le_refl _)]
        exact Pm.Mf.of_cg (Pm.Cg.of_eq fun k => Pm.co_nil k)⟩, Below.refl _ _⟩⟩
      case round =>
        obtain ⟨J, A0, k, c0, O, rfl, rfl, hJ, hI⟩ := hrel
        rcases Nat.eq_zero_or_pos J with hJ0 | hJ0
        · subst hJ0
          have HBr := Lib.hid (HB3.out.trans (hI.out.2.2.mono HB3.out.size))
          have HSM := Lib.hid (lsame_eq' (HG3.out.next hI.out.2.2).rd hI.out.1 (Pm.fresh_end HP.out HM.out.1.2 HM.out.2.1.1 HM.out.2.2.1 HM.out.2.2.2.1 hI.out.2.1.1 HM.out.2.2.2.2.1 hI.out.2.1.2.1 HM.out.2.2.2.2.2 (by have := hI.out.2.1.2.2; rwa [List.drop_zero] at this)))
          go_wp2_with fail
          refine (num_any _ _).mono ?_
          rintro _ _ ⟨z, rfl, hz, rfl⟩
          obtain rfl := hz.out
          go_wp2_with fail
          refine HSM.out.mono ?_
          rintro _ _ ⟨rfl, j, rfl⟩
          have HBs := Lib.hid (below_drewN HBr.out j)
          clear HSM hI
          generalize wr.drewN j = W5 at HBs ⊢
          go_wp2_with fail
          refine (awake_any W5 (hT.below HBs.out)).mono ?_
          rintro _ w6 ⟨rfl, hb6⟩
          have HB6 := Lib.hid (HBs.out.trans (hb6.mono HBs.out.size))
          go_wp2
          go_ret
          exact ⟨rfl, HB6.out⟩
        · obtain ⟨i, rfl⟩ : ∃ i, J = i + 1 := ⟨J - 1, by omega⟩
          rw [show (((i + 1 : Nat) : Int) - 1) = (i : Int) by omega]
          have HBr := Lib.hid (HB3.out.trans (hI.out.2.2.mono HB3.out.size))
          obtain ⟨x, hx⟩ : ∃ x, L[i]? = some x := ⟨_, List.getElem?_eq_getElem (by rw [HLEN.out]; omega)⟩
          obtain ⟨hxw, ad, rfl, hbx, hcx⟩ := HR.out.at_ i x hx
          have hcx := (HBr.out.cell (p := ad.add i) (by rw [add_blk]; exact hbx)).trans hcx
          have HBA := Lib.hid (show (ad.add i).block < wr.heap.size by rw [add_blk]; exact Nat.lt_of_lt_of_le hbx HBr.out.size)
          have HXI := Lib.hid hx
          have hin : (i : Int) < n := by omega
          have HML := Lib.hid (show Mx'.length ≤ 1048576 by
            have := HM.out.2.1.1.short h0 (n := L'.length) fun q hq => (HM.out.2.1.2 q).trans (Pm.co_up L' q hq)
            have := HR'.out.len
            omega)
          have HKL := Lib.hid (show k ≤ 1048576 ∧ n3 ≤ 1048576 by
            have := hI.out.1.len
            have := hI.out.2.1.2.1
            have := HPX.out.len
            have := HX.out.2.1
            have := HML.out
            omega)
          have HMUL : Hid (∀ W' : World, Below wr.heap.size wr W' → Calls Tryd.prog 13 #[.slice A0 k c0, .slice A3 n3 c3, .int .u32 p] W' (RetPo p (Pm.cv (Pm.co O) (Pm.co X)) W')) :=
            Lib.hid fun W' hb => rMul_any p h0 hp (hI.out.1.next hb) ((HPX.out.next (hI.out.2.2.trans (hb.mono hI.out.2.2.size))).rd) (by have := HKL.out.1; omega) (by have := HKL.out.2; omega)
          have HBa := Lib.hid ((below1 wr (.cells #[.int .u32 x] 27)).drew)
          have HBb := Lib.hid ((Below.refl wr.heap.size wr).drew)
          have hw1 : Dg.Wd [x] := fun y hy => by simp at hy; omega
          have HONA := Lib.hid (show UB (wr.alloc (.cells #[.int .u32 x] 27)).drew wr.heap.size [x] from (UB.new wr [x]).drewN 1)
          have HONB : Hid (∀ W : World, RdU (W.alloc (.cells #[.int .u32 x] 27)) (W.alloc (.cells #[.int .u32 x] 27)).heap.size (some ⟨W.heap.size, 0, none⟩) 1 1 [x]) := Lib.hid fun W => by
            have := rd_new (w := W) [x] hw1 (by unfold maxLen; simp)
            simpa [uc] using this
          clear hx
          go_wp2_with fail
          go_region_held3 (fun w' => w'.cell? (ad.add i) = some (.int .u32 x)) (go_keep)
            (first
              | (go_at_call 13; first
                  | ((with_reducible refine (HMUL.out _ HBa.out).mono ?_); rintro _ w4 ⟨A4, n4, c4, T, rfl, hp4, hT4, hb4⟩; have HB4 := Lib.hid (HBa.out.trans (hb4.mono HBa.out.size)); have HON := Lib.hid (show RdU w4 w4.heap.size (some ⟨wr.heap.size, 0, none⟩) 1 1 [x] from by { have hu := HONA.out.below hb4 (by simp [World.drew]); have := hu.rd hw1 hu.lt (k := 1) (Nat.le_refl _) (by unfold maxLen; simp); simpa using this }); have hcx4 := (HB4.out.cell (p := ad.add i) HBA.out).trans hcx)
                  | ((with_reducible refine (HMUL.out _ HBb.out).mono ?_); rintro _ w4 ⟨A4, n4, c4, T, rfl, hp4, hT4, hb4⟩; have HB4 := Lib.hid (HBb.out.trans hb4); have hcx4 := (HB4.out.cell (p := ad.add i) HBA.out).trans hcx))
              | (go_at_call 12; first
                  | ((with_reducible refine (rAdd_any p h0 hp hp4.rd HON.out (by have := Pm.mul_len' h0 hT4.out.1 hT4.out.2; have := hp4.len; have := HKL.out; have := hI.out.1.len; have := HPX.out.len; omega) (by omega)).mono ?_); rintro _ w5 ⟨A5, n5, c5, S, rfl, hp5, hS5, hb5⟩; have HB5 := Lib.hid (HB4.out.trans (hb5.mono HB4.out.size)); have hcx5 := (HB5.out.cell (p := ad.add i) HBA.out).trans hcx)
                  | (refine (rAdd_any p h0 hp (hp4.rd.next (below1 w4 _)) (HONB.out w4) (by have := Pm.mul_len' h0 hT4.out.1 hT4.out.2; have := hp4.len; have := HKL.out; have := hI.out.1.len; have := HPX.out.len; omega) (by omega)).mono ?_; rintro _ w5 ⟨A5, n5, c5, S, rfl, hp5, hS5, hb5⟩; have HB5 := Lib.hid ((HB4.out.alloc HB4.out.size (.cells #[.int .u32 x] 27)).trans (hb5.mono (Nat.le_trans HB4.out.size (below1 w4 (.cells #[.int .u32 x] 27)).size))); have hcx5 := (HB5.out.cell (p := ad.add i) HBA.out).trans hcx))
              | (go_at_call 11; refine (rDiv_any p HP.out hp hp5.rd (HR'.out.next (HBr.out.trans (HB5.out.mono HBr.out.size))) (by have := Pm.add_len' h0 hS5.out.1 hS5.out.2; have := Pm.mul_len' h0 hT4.out.1 hT4.out.2; have := hp5.len; have := HKL.out; have := hI.out.1.len; have := HPX.out.len; simp at *; omega) (by omega) (fun hz => by { have hm := HM.out.2.1.1.ext h0 Pm.Pn.nil (HM.out.2.1.2.trans hz.symm); have := HM.out.2.2.1; rw [hm] at this; simp at this })).mono ?_; rintro _ w6 ⟨A6, A7, n6, c6, n7, c7, Q, R2, M3, M3', rfl, hp6, hp7, hd, hb6⟩; have HB6 := Lib.hid (HB5.out.trans (hb6.mono HB5.out.size)); have hcx6 := (HB6.out.cell (p := ad.add i) HBA.out).trans hcx))
          all_goals
            have hm3 : M3' = Mx' := hd.out.2.2.2.1.1.ext h0 HM.out.2.1.1 (hd.out.2.2.2.1.2.trans HM.out.2.1.2.symm)
            have HNEW := Lib.hid (show Pm.Pn p R2 ∧ R2.length < Mx'.length ∧ Pm.Mf p (Pm.co Mx') (Pm.co R2) (Pm.at_p p (L.drop i)) by
              have hdv := hd.out.2.2.2.2
              rw [hm3] at hdv
              refine ⟨hd.out.2.1, ?_, Pm.fresh_round HXI.out hI.out.2.1.2.2 HX.out.2.2 hT4.out.2 hS5.out.2 hd.out.2.2.1.2 hd.out.2.1 hdv⟩
              have h1 : R2.length ≤ Mx'.length - 1 := hd.out.2.1.short h0 hdv.2
              have := HM.out.2.2.1
              omega)
            have HY := Lib.hid (And.intro hp7.rd (hI.out.2.2.trans (HB6.out.mono hI.out.2.2.size)))
            clear hcx hcx4 hcx5 hcx6 hp4 hp5 hp6 hp7 hb4 hb5 hb6 hin
            go_wp2
            go_roundw
            case rel => exact ⟨i, A7, n7, c7, R2, rfl, rfl, by omega, Lib.hid ⟨HY.out.1, HNEW.out, HY.out.2⟩⟩
            case measure => simp [intOf]
theorem walk_ModpolyFreshman {A A' : Option Addr} {n n' c c' : Nat} {L L' : List Nat} {w : World} (h : RdU w w.heap.size A n c L) (_ : A = none → n = 0 ∧ c = 0) (hn : n ≤ 1048576) (h' : RdU w w.heap.size A' n' c' L') (_ : A' = none → n' = 0 ∧ c' = 0) (hn' : n' ≤ 1048576) (p : Nat) (hp : p < 4294967296) (hT : Tabs w) :
    Calls Tryd.prog 4 #[.slice A n c, .slice A' n' c', .int .u32 p] w (RetT w) := by
  by_cases hpr : Nt.Pr p
  · exact fresh_ok p hp hpr h h' hn hn' hT
  · exact fresh_none p hp hpr hT
end Go.Proofs.YtmgacikdgbedfaaDoor
