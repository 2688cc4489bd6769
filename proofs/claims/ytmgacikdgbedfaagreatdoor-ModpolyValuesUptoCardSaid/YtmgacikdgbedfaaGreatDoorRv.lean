/- Polynomials modulo a prime: the p-th power of a sum. Nothing of the program. -/
import Derived.Test.YtmgacikdgbedfaaGreatDoorPm5
import Derived.Test.YtmgacikdgbedfaaGreatDoorEv
import Derived.Test.YtmgacikdgbedfaaGreatDoorM9
import Derived.Test.YtmgacikdgbedfaaGreatDoorM5
import Derived.Test.YtmgacikdgbedfaaGreatDoorM7
import Derived.Test.YtmgacikdgbedfaaGreatDoorPm3
import Derived.Test.YtmgacikdgbedfaaGreatDoorM8
namespace Pm
open Dg

/-- The binomials. -/
def bi : Nat → Nat → Nat
  | 0, _ => 1
  | _ + 1, 0 => 1
  | i + 1, j + 1 => bi i (j + 1) + bi (i + 1) j
theorem bi_zero (i : Nat) : bi i 0 = 1 := by cases i <;> simp [bi]
theorem bi_one (j : Nat) : bi 1 j = j + 1 := by
  induction j with
  | zero => simp [bi]
  | succ j ih => rw [bi, ih, bi]; omega
theorem bi_up : ∀ i j, (i + 1) * bi (i + 1) j = (i + j + 1) * bi i j
  | 0, j => by rw [bi_one, bi]; omega
  | i + 1, 0 => by rw [bi_zero, bi_zero]
  | i + 1, j + 1 => by
    have h1 := bi_up (i + 1) j
    have h2 := bi_up i (j + 1)
    have e : bi (i + 1) (j + 1) = bi i (j + 1) + bi (i + 1) j := by rw [bi]
    have e2 : bi (i + 1 + 1) (j + 1) = bi (i + 1) (j + 1) + bi (i + 1 + 1) j := by rw [bi]
    rw [e2, Nat.mul_add, h1]
    generalize bi (i + 1) (j + 1) = B at *
    generalize bi i (j + 1) = C at *
    generalize bi (i + 1) j = D at *
    subst e
    grind
theorem bi_dvd {p i j : Nat} (hp : Nt.Pr p) (h : i + 1 + (j + 1) = p) : p ∣ bi (i + 1) (j + 1) := by
  have h1 := bi_up i (j + 1)
  rw [show i + (j + 1) + 1 = p by omega] at h1
  have h2 : p ∣ (i + 1) * bi (i + 1) (j + 1) := ⟨_, h1⟩
  rcases hp.dvd_mul h2 with h3 | h3
  · exact absurd (Nat.le_of_dvd (by omega) h3) (by omega)
  · exact h3
/-- The sum over i + j = n. -/
def sg (f : Nat → Nat → Int) : Nat → Int
  | 0 => f 0 0
  | n + 1 => f 0 (n + 1) + sg (fun i j => f (i + 1) j) n
theorem sg_right (f : Nat → Nat → Int) (n : Nat) : sg f (n + 1) = sg (fun i j => f i (j + 1)) n + f (n + 1) 0 := by
  induction n generalizing f with
  | zero => simp [sg]
  | succ n ih => rw [sg, ih, sg]; omega
theorem sg_add (f g : Nat → Nat → Int) (n : Nat) : sg (fun i j => f i j + g i j) n = sg f n + sg g n := by
  induction n generalizing f g with
  | zero => simp [sg]
  | succ n ih =>
    rw [sg, ih (fun i j => f (i + 1) j) (fun i j => g (i + 1) j)]
    simp only [sg]
    omega
theorem sg_congr {f g : Nat → Nat → Int} {n : Nat} (h : ∀ i j, i + j = n → f i j = g i j) : sg f n = sg g n := by
  induction n generalizing f g with
  | zero => exact h 0 0 rfl
  | succ n ih => rw [sg, sg, h 0 (n + 1) (by omega), ih fun i j e => h (i + 1) j (by omega)]
theorem sg_cz {p : Nat} {f : Nat → Nat → Int} {n : Nat} (h : ∀ i j, i + j = n → cz p (f i j) 0) : cz p (sg f n) 0 := by
  induction n generalizing f with
  | zero => exact h 0 0 rfl
  | succ n ih =>
    have := (h 0 (n + 1) (by omega)).add (ih fun i j e => h (i + 1) j (by omega))
    rwa [Int.add_zero] at this
theorem cv_sg (u : Nat → Int) (F : Nat → Nat → Nat → Int) (n k : Nat) : cv u (fun k => sg (fun i j => F i j k) n) k = sg (fun i j => cv u (F i j) k) n := by
  induction n generalizing F with
  | zero => rfl
  | succ n ih =>
    have e : (fun k => sg (fun i j => F i j k) (n + 1)) = fun k => F 0 (n + 1) k + sg (fun i j => F (i + 1) j k) n := rfl
    rw [e, cv_add_right, ih fun i j => F (i + 1) j, sg]
theorem cv_scale (x : Int) (u v : Nat → Int) (k : Nat) : cv u (fun i => x * v i) k = x * cv u v k := by rw [cv_comm, cv_smul_left, cv_comm]
/-- The binomial theorem. -/
theorem pw_sum (u v : Nat → Int) (n k : Nat) : pw (fun i => u i + v i) n k = sg (fun i j => (bi i j : Int) * cv (pw u i) (pw v j) k) n := by
  induction n generalizing k with
  | zero => simp [pw, sg, bi, cv_one]
  | succ n ih =>
    have e : pw (fun i => u i + v i) n = fun k => sg (fun i j => (bi i j : Int) * cv (pw u i) (pw v j) k) n := funext ih
    rw [pw, e, cv_add_left, cv_sg, cv_sg]
    have e1 : sg (fun i j => cv u (fun k => (bi i j : Int) * cv (pw u i) (pw v j) k) k) n = sg (fun i j => (if i = 0 then 0 else (bi (i - 1) j : Int)) * cv (pw u i) (pw v j) k) (n + 1) := by
      rw [sg]
      simp only [if_pos, Int.zero_mul, Int.zero_add]
      refine sg_congr fun i j _ => ?_
      rw [cv_scale, if_neg (by omega), Nat.add_sub_cancel, pw, cv_assoc]
    have e2 : sg (fun i j => cv v (fun k => (bi i j : Int) * cv (pw u i) (pw v j) k) k) n = sg (fun i j => (if j = 0 then 0 else (bi i (j - 1) : Int)) * cv (pw u i) (pw v j) k) (n + 1) := by
      rw [sg_right]
      simp only [if_pos, Int.zero_mul, Int.add_zero]
      refine sg_congr fun i j _ => ?_
      rw [cv_scale, if_neg (by omega), Nat.add_sub_cancel, pw, ← cv_assoc, ← cv_assoc]
      congr 1
      rw [show cv v (pw u i) = cv (pw u i) v from funext fun x => cv_comm _ _ x]
    rw [e1, e2, ← sg_add]
    refine sg_congr fun i j hij => ?_
    rw [← Int.add_mul]
    congr 1
    match i, j with
    | 0, 0 => omega
    | 0, j + 1 => simp [bi]
    | i + 1, 0 => simp [bi_zero]
    | i + 1, j + 1 => simp [bi]
/-- The p-th power of a sum. -/
theorem pw_fresh {p : Nat} (hp : Nt.Pr p) (u v : Nat → Int) : Cg p (pw (fun i => u i + v i) p) (fun k => pw u p k + pw v p k) := fun k => by
  rw [pw_sum]
  obtain ⟨l, rfl⟩ : ∃ l, p = l + 1 + 1 := ⟨p - 2, by have := hp.two_le; omega⟩
  rw [sg, sg_right]
  have h0 : cz (l + 1 + 1) (sg (fun i j => (bi (i + 1) (j + 1) : Int) * cv (pw u (i + 1)) (pw v (j + 1)) k) l) 0 := sg_cz fun i j hij => by
    obtain ⟨c, hc⟩ := bi_dvd (i := i) (j := j) hp (by omega)
    unfold cz
    rw [Int.sub_zero, hc]
    exact ⟨c * cv (pw u (i + 1)) (pw v (j + 1)) k, by rw [Int.natCast_mul, Int.mul_assoc]⟩
  have h1 := ((cz.refl (p := l + 1 + 1) ((bi 0 (l + 1 + 1) : Int) * cv (pw u 0) (pw v (l + 1 + 1)) k)).add (h0.add (cz.refl ((bi (l + 1 + 1) 0 : Int) * cv (pw u (l + 1 + 1)) (pw v 0) k))))
  refine h1.trans (cz.of_eq ?_)
  rw [bi_zero, show bi 0 (l + 1 + 1) = 1 by simp [bi], show pw u 0 = mono 1 0 from rfl, show pw v 0 = mono 1 0 from rfl, cv_one, cv_comm (pw u (l + 1 + 1)), cv_one]
  dsimp only
  omega
theorem pw_cv (f g : Nat → Int) : ∀ n, pw (cv f g) n = cv (pw f n) (pw g n)
  | 0 => by funext k; rw [pw, pw, pw, cv_one]
  | n + 1 => by
    funext k
    rw [pw, pw_cv f g n, pw, pw, cv_assoc, cv_assoc]
    congr 1
    funext j
    rw [← cv_assoc, ← cv_assoc]
    congr 1
    funext i
    exact cv_comm _ _ i
theorem pw_const (a : Int) : ∀ n, pw (mono a 0) n = mono (a ^ n) 0
  | 0 => by simp [pw]
  | n + 1 => by
    funext k
    rw [pw, pw_const a n, cv_mono]
    unfold mono
    simp only [Nat.zero_le, if_true, Nat.sub_zero]
    by_cases hk : k = 0
    · rw [if_pos hk, if_pos hk, Int.pow_succ, Int.mul_comm]
    · rw [if_neg hk, if_neg hk, Int.mul_zero]
/-- A polynomial at x^p. -/
def at_p (p : Nat) : List Nat → Nat → Int
  | [] => fun _ => 0
  | a :: L => fun k => mono a 0 k + cv (mono 1 p) (at_p p L) k
theorem co_cons (a : Nat) (L : List Nat) : co (a :: L) = fun k => mono a 0 k + cv (mono 1 1) (co L) k := funext fun k => by
  rw [cv_mono]
  cases k with
  | zero => simp [co, mono, ld]
  | succ k => simp [co, mono, ld]
theorem freshman {p : Nat} (hp : Nt.Pr p) : ∀ L : List Nat, Cg p (pw (co L) p) (at_p p L)
  | [] => fun k => by
    have : co [] = mono 0 0 := funext fun k => by simp [co, mono, ld]
    rw [this, pw_const, Int.zero_pow (by have := hp.pos; omega)]
    exact cz.of_eq (by simp [mono, at_p])
  | a :: L => by
    rw [co_cons]
    refine (pw_fresh hp _ _).trans fun k => ?_
    rw [pw_const, pw_cv, show pw (mono 1 1) p = mono 1 p from funext (pw_mono p)]
    refine cz.add ?_ (Cg.cv (Cg.refl _) (freshman hp L) k)
    unfold mono
    by_cases hk : k = 0
    · rw [if_pos hk, if_pos hk]
      have h := Nt.fermat_all (a := a) hp
      have h1 := (cz_mod (p := p) (a ^ p)).symm
      rw [h] at h1
      have h2 := h1.trans (cz_mod (p := p) a)
      rwa [Int.natCast_pow] at h2
    · rw [if_neg hk, if_neg hk]; exact cz.refl _
end Pm

/- modpoly: Pow; the reference's sum. -/
namespace Go.Proofs.YtmgacikdgbedfaaGreatDoor
open Go.RowKit Go.IntWalk
attribute [local go_sem ↓] Go.wp_at_zero Go.wp_at_succ

/-- Pow's answer: an error just where the modulus is nought. -/
def RetPow (p E : Nat) (L L' : List Nat) (w : World) (e : Ending) (w' : World) : Prop := (RetNE 70 w e w' ∧ Hid (Pm.Cg p (Pm.co []) (Pm.co L'))) ∨ RetPE (fun R => ∃ M M', (Pm.Pn p M ∧ Pm.Cg p (Pm.co M) (Pm.co L)) ∧ (Pm.Pn p M' ∧ Pm.Cg p (Pm.co M') (Pm.co L')) ∧ 0 < M'.length ∧ Pq p M E M' R) w e w'
set_option maxHeartbeats 1000000 in
theorem rAt_any {A : Option Addr} {B n c : Nat} {L : List Nat} {w : World} (h : RdU w B A n c L) (i : Nat) :
    Calls Tryz.prog 42 #[.slice A n c, .int .i64 i] w (RetU .u32 (Dg.ld L i) w) := by
  have hl := h.len
  by_cases hi : i < n
  · obtain ⟨hx, ad, rfl, _, hc⟩ := h.at_ i _ (Dg.get_of_ld (by omega))
    have hlt : (i : Int) < n := by omega
    clear hl h
    go_enter Tryz.func42, Tryz.ntmps42
    go_wp2
    go_ret
    exact ⟨_, rfl, Lib.hid rfl, rfl⟩
  · have hlt : ¬ (i : Int) < n := by omega
    have he : Dg.ld L i = 0 := Dg.ld_ge (by omega)
    rw [he]
    clear hl h he
    go_enter Tryz.func42, Tryz.ntmps42
    go_wp2
    go_ret
    exact ⟨0, rfl, Lib.hid rfl, rfl⟩
/-- The sums. -/
def ads (p : Nat) (L L' : List Nat) (k : Nat) : List Nat := (List.range k).map fun i => (Dg.ld L i + Dg.ld L' i) % p
theorem ads_more (p : Nat) (L L' : List Nat) (k : Nat) : ads p L L' k ++ [(Dg.ld L k + Dg.ld L' k) % p] = ads p L L' (k + 1) := by
  unfold ads; rw [List.range_succ]; simp
theorem ads_cg (p : Nat) {L L' : List Nat} {k : Nat} (h : L.length ≤ k) (h' : L'.length ≤ k) : Pm.Cg p (Pm.co (ads p L L' k)) (fun i => Pm.co L i + Pm.co L' i) := fun i => by
  unfold Pm.co ads
  dsimp only
  by_cases hi : i < k
  · rw [Dg.ld_lt (by simpa using hi), List.getElem_map, List.getElem_range]
    have := Pm.cz_mod (p := p) (Dg.ld L i + Dg.ld L' i)
    rwa [Int.natCast_add] at this
  · rw [Dg.ld_ge (by simp; omega), Dg.ld_ge (by omega), Dg.ld_ge (by omega)]
    exact Pm.cz.of_eq (by simp)
theorem ld_w {L : List Nat} (h : Dg.Wd L) (i : Nat) : Dg.ld L i < 4294967296 := by
  by_cases hi : i < L.length
  · rw [Dg.ld_lt hi]; exact h _ (List.getElem_mem hi)
  · rw [Dg.ld_ge (by omega)]; omega
set_option maxRecDepth 100000 in
set_option maxHeartbeats 4000000 in
theorem rAdd_any {A A' : Option Addr} {n c n' c' : Nat} {L L' : List Nat} {w : World} (p : Nat) (h0 : 0 < p) (hp : p < 4294967296) (h : RdU w w.heap.size A n c L) (h' : RdU w w.heap.size A' n' c' L') (hn : n ≤ 17592186044416) (hn' : n' ≤ 17592186044416) :
    Calls Tryz.prog 18 #[.slice A n c, .slice A' n' c', .int .u32 p] w (RetPo p (fun k => Pm.co L k + Pm.co L' k) w) := by
  have HLEN := Lib.hid h.len
  have HLEN' := Lib.hid h'.len
  have HR := Lib.hid h
  have HR' := Lib.hid h'
  have HW := Lib.hid (And.intro h.wd h'.wd)
  obtain ⟨i0, hi0, hz0, hz1, hz2⟩ := info_parts infoU
  clear h h'
  go_enter Tryz.func18, Tryz.ntmps18
  go_wp2_with fail
  go_loopw [7, 8] (fun v kv wr => ∃ (k : Nat) (A0 : Option Addr) (c0 : Nat), kv = .int .i64 k ∧ v = .slice A0 k c0 ∧ k ≤ max n n' ∧ Hid (OwU wr w.heap.size A0 k c0 (ads p L L' k) ∧ Below w.heap.size w wr)) (fun _ kv _ => max n n' - (intOf kv).toNat)
  case atStart => exact ⟨0, none, 0, rfl, rfl, Nat.zero_le _, Lib.hid ⟨OwU.nil _ _, Below.refl _ _⟩⟩
  case round =>
    obtain ⟨k, A0, c0, rfl, rfl, hk, hI⟩ := hrel
    have HOWN := Lib.hid hI.out.1
    have HB := Lib.hid hI.out.2
    clear hI
    by_cases hkn : k < max n n'
    · have HK := Lib.hid (show k ≤ 17592186044416 by omega)
      have STEP : Hid (∀ (K : Prop), ((k : Int) < n → K) → (¬ (k : Int) < n → (k : Int) < n' → K) → K) := Lib.hid fun K h1 h2 => by
        by_cases e : (k : Int) < n
        · exact h1 e
        · exact h2 e (by omega)
      refine STEP.out _ (fun e1 => ?_) (fun e1 e2 => ?_)
      all_goals
        go_wp2_with fail
        refine (rAt_any (HR.out.below HB.out) k).mono ?_
        rintro _ _ ⟨x, rfl, hx, rfl⟩
        go_wp2_with fail
        refine (rAt_any (HR'.out.below HB.out) k).mono ?_
        rintro _ _ ⟨y, rfl, hy, rfl⟩
        go_wp2_with fail
        refine (refAdd_any x y p rfl rfl rfl (by rw [hx.out]; exact ld_w HW.out.1 k) (by rw [hy.out]; exact ld_w HW.out.2 k) hp h0 _).mono ?_
        rintro _ _ ⟨z, rfl, hz, rfl⟩
        have HM := Lib.hid (ads_more p L L' k)
        have hO1 := HOWN.out.own.alloc (.cells #[.int .u32 z] 24)
        go_wp2_with (at_builtin; refine wpList_append_own _ rfl _ _ 23 rfl w.heap.size 24 i0 (.int .u32 0) 1 4 Tryz.underlying23 hi0 hz0 hz1 hz2 rfl (by decide) _ _ _ rfl hO1 ⟨wr.heap.size, 0, none⟩ 1 1 [.int .u32 z] rfl rfl (World.news_of_block (cs := #[.int .u32 z]) (t := 24) (fr := (0, 0)) (heap_alloc_new wr _)) (by simp [Value.oneCell']) (by have := HK.out; unfold maxLen; omega) (by have := HK.out; omega) (by have := HB.out.size; simp; omega) ?_; intro v' w6 hown' hgrow _)
        have hG : (wr.alloc (.cells #[.int .u32 z] 24)).grownBy w6 (Value.slice A0 k c0).ownBlock := hgrow
        clear hgrow
        obtain ⟨A6, c6, rfl⟩ := row_sl hown'
        have hB1 : Below w.heap.size w (wr.alloc (.cells #[.int .u32 z] 24)) := HB.out.alloc HB.out.size _
        exact ⟨⟨k + 1, A6, c6, by simp, rfl, by omega, Lib.hid ⟨ow_more HOWN.out (by rw [hz.out]; exact Nat.lt_trans (Nat.mod_lt _ h0) hp) rfl (by rw [hz.out, hx.out, hy.out]; exact HM.out) hown', hB1.grown hG hB1.size (own_block hO1)⟩⟩, by simp [intOf]; omega⟩
    · have e1 : ¬ (k : Int) < n := by omega
      have e2 : ¬ (k : Int) < n' := by omega
      have HK := Lib.hid (show k ≤ 17592186044416 by omega)
      have HCG := Lib.hid (ads_cg p (L := L) (L' := L') (k := k) (by rw [HLEN.out]; omega) (by rw [HLEN'.out]; omega))
      go_wp2_with fail
      refine (rNorm_any p h0 hp HOWN.out.rd HK.out).mono ?_
      intro _ w3 h3
      obtain ⟨A3, n3, c3, M3, rfl, hp3, hM3, hb3⟩ := h3.later HB.out
      have HM3 := Lib.hid (pn_cg hM3.out HCG.out)
      go_wp2
      go_ret
      exact ⟨A3, n3, c3, M3, rfl, hp3, HM3.out, hb3⟩
end Go.Proofs.YtmgacikdgbedfaaGreatDoor

/- modpoly: the reference's product. -/
namespace Go.Proofs.YtmgacikdgbedfaaGreatDoor
open Go.RowKit Go.IntWalk
attribute [local go_sem ↓] Go.wp_at_zero Go.wp_at_succ

set_option maxRecDepth 100000 in
set_option maxHeartbeats 4000000 in
theorem rMul_any {A A' : Option Addr} {n c n' c' : Nat} {L L' : List Nat} {w : World} (p : Nat) (h0 : 0 < p) (hp : p < 4294967296)
    (h : RdU w w.heap.size A n c L) (h' : RdU w w.heap.size A' n' c' L') (hn : n ≤ 4398046511104) (hn' : n' ≤ 4398046511104) :
    Calls Tryz.prog 14 #[.slice A n c, .slice A' n' c', .int .u32 p] w (RetPo p (Pm.cv (Pm.co L) (Pm.co L')) w) := by
  have HR := Lib.hid h
  have HR' := Lib.hid h'
  clear h h'
  go_enter Tryz.func14, Tryz.ntmps14
  go_wp2_with fail
  refine (rNorm_any p h0 hp HR.out (by omega)).mono ?_
  rintro _ w1 ⟨A1, n1, c1, M, rfl, hp1, hM1, hb1⟩
  have hn1 := pn_short h0 hM1.out.1 hM1.out.2 hp1 HR.out
  have HB1 := Lib.hid hb1
  have HP1 := Lib.hid hp1
  clear hb1 hp1
  go_wp2_with fail
  refine (rNorm_any p h0 hp (HR'.out.next HB1.out) (by omega)).mono ?_
  rintro _ w2 ⟨A2, n2, c2, M', rfl, hp2, hM2, hb2⟩
  have hn2 := pn_short h0 hM2.out.1 hM2.out.2 hp2 HR'.out
  have HB2 := Lib.hid (HB1.out.trans (hb2.mono HB1.out.size))
  have HP2 := Lib.hid hp2
  have HP1' := Lib.hid (HP1.out.next hb2)
  have HLEN := Lib.hid HP1.out.len
  have HLEN' := Lib.hid hp2.len
  have HCG := Lib.hid (Pm.Cg.cv hM1.out.2 hM2.out.2)
  have h := HP1'.out.rd
  have h' := HP2.out.rd
  clear hb2 hp2 HP1
  rcases Nat.eq_zero_or_pos n1 with hn0 | hn0
  · have HZ := Lib.hid (Pm.cv_none (L := M) (M := M') (.inl (HLEN.out.trans hn0)))
    subst hn0
    go_wp2
    go_ret
    exact ⟨none, 0, 0, [], rfl, Po.nil _ _ 0 none (Nat.zero_le _), Lib.hid ⟨Pm.Pn.nil, fun j => Pm.cz.trans (by rw [HZ.out j, Pm.co_zero (Nat.zero_le _)]; exact Pm.cz.refl _) (HCG.out j)⟩, HB2.out⟩
  · have hz1 : ((n1 : Int) == 0) = false := by simp; omega
    rcases Nat.eq_zero_or_pos n2 with hn0' | hn0'
    · have HZ := Lib.hid (Pm.cv_none (L := M) (M := M') (.inr (HLEN'.out.trans hn0')))
      subst hn0'
      go_wp2
      go_ret
      exact ⟨none, 0, 0, [], rfl, Po.nil _ _ 0 none (Nat.zero_le _), Lib.hid ⟨Pm.Pn.nil, fun j => Pm.cz.trans (by rw [HZ.out j, Pm.co_zero (Nat.zero_le _)]; exact Pm.cz.refl _) (HCG.out j)⟩, HB2.out⟩
    · have hz2 : ((n2 : Int) == 0) = false := by simp; omega
      obtain ⟨m, hm⟩ : ∃ m, m = n1 + n2 - 1 := ⟨_, rfl⟩
      have hmk : ∀ W : World, (Instr.makeSlice 23 (.int .i64 ((n1 : Int) + n2 - 1)) (.int .i64 ((n1 : Int) + n2 - 1))).run Tryz.prog W = .ok (.slice (some ⟨W.heap.size, 0, none⟩) m m) (W.alloc (.cells (madeCells #[.int .u32 0] m) 24)) := fun W => by
        rw [show (n1 : Int) + n2 - 1 = (m : Int) by omega]
        exact make_polys m (by omega) W
      have HM := Lib.hid hm
      clear hm
      go_wp2_with fail
      have HU0 := UB.made w2 m
      have hB0 := below1 w2 (.cells (madeCells #[.int .u32 0] m) 24)
      clear hmk
      generalize w2.alloc (.cells (madeCells #[.int .u32 0] m) 24) = W1 at HU0 hB0 ⊢
      obtain ⟨gb, hgb⟩ : ∃ gb, gb = w2.heap.size := ⟨_, rfl⟩
      have hbb : w2.heap.size ≤ gb := by omega
      rw [← hgb] at HU0 ⊢
      clear hgb
      go_loopw [35] (fun iv wr => ∃ (i : Nat) (O : List Nat), iv = .int .i64 i ∧ i ≤ n1 ∧ UB wr gb O ∧ Hid (O.length = m ∧ Lt p O ∧ AllC p O (Pm.pt (Pm.co M) (Pm.co M') i 0)) ∧ Below w2.heap.size w2 wr) (fun iv _ => n1 - (intOf iv).toNat)
      case atStart => exact ⟨0, _, rfl, Nat.zero_le _, HU0, Lib.hid ⟨by simp, Lt.zeros h0 m, fun j hj => by rw [Pm.pt_zero, Dg.ld_replicate]; exact Pm.cz.refl _⟩, hB0⟩
      case round =>
        clear HU0 hB0
        obtain ⟨i, O, rfl, hi, hU, hO, hB⟩ := hrel
        by_cases hin : i < n1
        · obtain ⟨hx, ad, rfl, hbx, hcx⟩ := h.at_ i _ (Dg.get_of_ld (by rw [HLEN.out]; exact hin))
          have hcx := (hB.cell (p := ad.add i) (by rw [add_blk]; exact hbx)).trans hcx
          obtain ⟨x, ex⟩ : ∃ x, x = Dg.ld M i := ⟨_, rfl⟩
          rw [← ex] at hx hcx
          have EX := Lib.hid ex
          clear ex
          obtain ⟨wo, rfl⟩ : ∃ wo : World, wo = wr := ⟨_, rfl⟩
          go_wp2_with fail
          go_loopw [42] (fun kv wr => ∃ (k : Nat) (O : List Nat), kv = .int .i64 k ∧ k ≤ n2 ∧ UB wr gb O ∧ Hid (O.length = m ∧ Lt p O ∧ AllC p O (Pm.pt (Pm.co M) (Pm.co M') i k)) ∧ Below w2.heap.size w2 wr) (fun kv _ => n2 - (intOf kv).toNat)
          case atStart => exact ⟨0, O, rfl, Nat.zero_le _, hU, hO, hB⟩
          case round =>
            clear hU hO hB hcx
            obtain ⟨k, O, rfl, hk, hU, hO, hB⟩ := hrel
            by_cases hkn : k < n2
            · obtain ⟨hy, ad', rfl, hby, hcy⟩ := h'.at_ k _ (Dg.get_of_ld (by rw [HLEN'.out]; exact hkn))
              have hcy := (hB.cell (p := ad'.add k) (by rw [add_blk]; exact hby)).trans hcy
              obtain ⟨y, ey⟩ : ∃ y, y = Dg.ld M' k := ⟨_, rfl⟩
              rw [← ey] at hy hcy
              have EY := Lib.hid ey
              clear ey
              obtain ⟨t, ht⟩ : ∃ t, t = i + k := ⟨_, rfl⟩
              have htm : t < m := by have := HM.out; omega
              have hs1 : IntKind.i64.wrap ((i : Int) + k) = (t : Int) := by rw [IntWalk.i64_in _ (by omega)]; omega
              have ht0 : (0 : Int) ≤ (t : Int) := by omega
              have ht1 : (t : Int) < (m : Int) := by omega
              have hcell := hU.cell (Dg.get_of_ld (L := O) (i := t) (by rw [hO.out.1]; exact htm))
              have hfz := hU.frozen t
              have hol := hO.out.2.1.ld h0 t
              obtain ⟨o, eo⟩ : ∃ o, o = Dg.ld O t := ⟨_, rfl⟩
              rw [← eo] at hcell hol
              have EO := Lib.hid eo
              have HT := Lib.hid ht
              have hgl := hU.lt
              clear eo ht
              go_wp2_with fail
              go_region_with
                (first
                  | (go_at_call 39; refine (refMul_any x y p rfl rfl rfl hx hy hp h0 _).mono ?_; rintro _ _ ⟨v, rfl, hv, rfl⟩)
                  | (go_at_call 38; refine (refAdd_any o v p rfl rfl rfl (by omega) (by rw [hv.out]; exact Nat.lt_trans (Nat.mod_lt _ h0) hp) hp h0 _).mono ?_; rintro _ _ ⟨u, rfl, hu, rfl⟩))
              all_goals
                have hU2 := (hU.drewN 1).set t u
                have hB2 := hB.drew.setCell (p := ⟨gb, t, none⟩) (by simp; omega) (.int .u32 (u : Int))
                have HX := Lib.hid (And.intro hU2 hB2)
                have HUP := Lib.hid (show u < p by rw [hu.out]; exact Nat.mod_lt _ h0)
                have HZ1 := Lib.hid (show Pm.cz p (v : Int) ((x : Int) * y) by rw [hv.out]; have := Pm.cz_mod (p := p) (x * y); rwa [Int.natCast_mul] at this)
                have HZ2 := Lib.hid (show Pm.cz p (u : Int) ((o : Int) + v) by rw [hu.out]; have := Pm.cz_mod (p := p) (o + v); rwa [Int.natCast_add] at this)
                clear hU2 hB2 hs1
                go_wp2
                go_roundw
                case rel => exact ⟨k + 1, O.set t u, by go_num, hkn, HX.out.1, Lib.hid ⟨by rw [List.length_set]; exact hO.out.1, hO.out.2.1.set t HUP.out, hO.out.2.2.set (by rw [hO.out.1]; exact htm) (times_step HT.out EX.out EY.out EO.out (by rw [hO.out.1]; exact htm) hO.out.2.2 HZ1.out HZ2.out) (fun j hj => Pm.pt_other (by rw [← HT.out]; exact hj))⟩, HX.out.2⟩
                case measure => simp [intOf]; omega
            · obtain rfl : k = n2 := by omega
              have HN := Lib.hid (show AllC p O (Pm.pt (Pm.co M) (Pm.co M') (i + 1) 0) from fun j hj => by
                rw [← Pm.pt_next (fun q hq => Pm.co_zero (by rw [HLEN'.out]; exact hq))]; exact hO.out.2.2 j hj)
              go_wp2
              go_roundw
              case rel => exact ⟨i + 1, O, by go_num, hin, hU, Lib.hid ⟨hO.out.1, hO.out.2.1, HN.out⟩, hB⟩
              case measure => simp [intOf]; omega
        · obtain rfl : i = n1 := by omega
          have HA := Lib.hid (show Pm.Cg p (Pm.co O) (Pm.cv (Pm.co M) (Pm.co M')) from fun j => by
            by_cases hj : j < O.length
            · have := hO.out.2.2 j hj
              rwa [Pm.pt_all (fun q hq => Pm.co_zero (by rw [HLEN.out]; exact hq))] at this
            · rw [Pm.co_zero (by omega)]
              exact (Pm.cv_end (by rw [HLEN.out]; exact hn0) (by rw [HLEN'.out]; exact hn0') (by rw [HLEN.out, HLEN'.out, ← HM.out, ← hO.out.1]; omega)).symm)
          have hmx : m ≤ maxLen := by have := HM.out; unfold maxLen; omega
          have hR := hU.rd (hO.out.2.1.wd hp) (B := wr.heap.size) hU.lt (k := m) (by rw [hO.out.1]; exact Nat.le_refl _) (by rw [hO.out.1]; exact hmx)
          rw [hO.out.1, List.take_of_length_le (by rw [hO.out.1]; exact Nat.le_refl _)] at hR
          have HRO := Lib.hid hR
          have HBB := Lib.hid (HB2.out.trans (hB.mono HB2.out.size))
          have HML := Lib.hid (show m ≤ 17592186044416 by have := HM.out; omega)
          clear hR hU hB
          go_wp2_with fail
          refine (rNorm_any p h0 hp HRO.out HML.out).mono ?_
          intro _ w3 h3
          obtain ⟨A3, n3, c3, M3, rfl, hp3, hM3, hb3⟩ := h3.later HBB.out
          have HM3 := Lib.hid (pn_cg hM3.out (HA.out.trans HCG.out))
          go_wp2
          go_ret
          exact ⟨A3, n3, c3, M3, rfl, hp3, HM3.out, hb3⟩
end Go.Proofs.YtmgacikdgbedfaaGreatDoor

/- modpoly: the reference's division. -/
namespace Go.Proofs.YtmgacikdgbedfaaGreatDoor
open Go.RowKit Go.IntWalk
attribute [local go_sem ↓] Go.wp_at_zero Go.wp_at_succ

/-- The reference's quotient and rest. -/
def RetDR (p : Nat) (L L' : List Nat) (w : World) (e : Ending) (w' : World) : Prop :=
  ∃ (A1 A2 : Option Addr) (n1 c1 n2 c2 : Nat) (Q R M M' : List Nat), e = .returned (.tuple #[.slice A1 n1 c1, .slice A2 n2 c2]) ∧ Po w' w.heap.size A1 n1 c1 Q ∧ Po w' w.heap.size A2 n2 c2 R ∧
    Hid (Pm.Pn p Q ∧ Pm.Pn p R ∧ (Pm.Pn p M ∧ Pm.Cg p (Pm.co M) (Pm.co L)) ∧ (Pm.Pn p M' ∧ Pm.Cg p (Pm.co M') (Pm.co L')) ∧ Pm.Dv p (Pm.co M) (Pm.co M') (Pm.co Q) (Pm.co R) (M'.length - 1)) ∧ Below w.heap.size w w'
theorem po_up {w : World} {b n c : Nat} {A : Option Addr} {L : List Nat} (h : Po w b A n c L) (hn : 0 < n) : ∃ g, A = some ⟨g, 0, none⟩ ∧ b ≤ g ∧ UP w g L := by
  rcases h.at_ with h0 | ⟨g, cur, h1, h2, h3, h4, h5⟩
  · omega
  · exact ⟨g, h1, h2, cur, h3, by rw [h.len]; exact h4, by rw [h.len]; exact h5⟩
theorem cz_sub_nat {p : Nat} (h0 : 0 < p) (o z : Nat) : Pm.cz p ((o % p + p - z % p) % p : Nat) ((o : Int) - z) := by
  have h1 := Nat.mod_lt z h0
  have e : ((o % p + p - z % p : Nat) : Int) = ((o % p : Nat) : Int) + p - ((z % p : Nat) : Int) := by omega
  have h2 := Pm.cz_mod (p := p) (o % p + p - z % p)
  rw [e] at h2
  have h3 : Pm.cz p (p : Int) 0 := ⟨1, by simp⟩
  have h4 := ((Pm.cz_mod (p := p) o).add h3).sub (Pm.cz_mod (p := p) z)
  rw [Int.add_zero] at h4
  exact h2.trans h4
set_option maxRecDepth 100000 in
set_option maxHeartbeats 8000000 in
theorem rDiv_any {A A' : Option Addr} {n c n' c' : Nat} {L L' : List Nat} {w : World} (p : Nat) (hpr : Nt.Pr p) (hp : p < 4294967296)
    (h : RdU w w.heap.size A n c L) (h' : RdU w w.heap.size A' n' c' L') (hn : n ≤ 4398046511104) (hn' : n' ≤ 4398046511104) (hnz : ¬ Pm.Cg p (Pm.co []) (Pm.co L')) :
    Calls Tryz.prog 48 #[.slice A n c, .slice A' n' c', .int .u32 p] w (RetDR p L L' w) := by
  have HP := Lib.hid hpr
  have h0 := hpr.pos
  have h2p := hpr.two_le
  have HR := Lib.hid h
  have HR' := Lib.hid h'
  have HNZ := Lib.hid hnz
  clear hpr h h' hnz
  go_enter Tryz.func48, Tryz.ntmps48
  go_wp2_with fail
  refine (rNorm_any p h0 hp HR.out (by omega)).mono ?_
  rintro _ w1 ⟨A1, n1, c1, M, rfl, hp1, hM1, hb1⟩
  have hn1 := pn_short h0 hM1.out.1 hM1.out.2 hp1 HR.out
  have HB1 := Lib.hid hb1
  have HP1 := Lib.hid hp1
  clear hb1 hp1
  go_wp2_with fail
  refine (rNorm_any p h0 hp (HR'.out.next HB1.out) (by omega)).mono ?_
  rintro _ w2 ⟨A2, n2, c2, M', rfl, hp2, hM2, hb2⟩
  have hn2 := pn_short h0 hM2.out.1 hM2.out.2 hp2 HR'.out
  have HB2 := Lib.hid (HB1.out.trans (hb2.mono HB1.out.size))
  have HP2 := Lib.hid hp2
  have HP1' := Lib.hid (HP1.out.next hb2)
  have HLEN := Lib.hid HP1.out.len
  have HLEN' := Lib.hid hp2.len
  have hpos2 : 0 < n2 := by
    rcases Nat.eq_zero_or_pos n2 with e | e
    · exfalso
      have hl : M' = [] := List.eq_nil_of_length_eq_zero (HLEN'.out.trans e)
      have := hM2.out.2
      rw [hl] at this
      exact HNZ.out this
    · exact e
  have hb2s := hb2.size
  clear hb2 hp2
  rcases Nat.lt_or_ge n1 n2 with hlt | hge
  · go_wp2
    refine bodyPost_ret (v := .tuple #[.slice none 0 0, .slice A1 n1 c1]) (by simp [results, Tryz.results48, go_sem]) rfl ?_
    exact ⟨none, A1, 0, 0, n1, c1, [], M, M, M', rfl, Po.nil _ _ _ _ (Nat.zero_le _), HP1'.out, Lib.hid ⟨Pm.Pn.nil, hM1.out.1, hM1.out, hM2.out, div_zero' (by rw [HLEN.out, HLEN'.out]; exact hlt)⟩, HB2.out⟩
  · obtain ⟨gr, rfl, hgr, hupr⟩ := po_up HP1'.out (by omega)
    obtain ⟨gB, rfl, hgB, hupB⟩ := po_up HP2.out hpos2
    have hgr1 : gr < w1.heap.size := by
      obtain ⟨g', e, _, hup'⟩ := po_up HP1.out (by omega)
      injection e with e
      injection e with e
      subst e
      exact hup'.lt
    obtain ⟨e, he⟩ : ∃ e, Hid (e + n2 = n1) := ⟨n1 - n2, Lib.hid (by omega)⟩
    obtain ⟨j, hj⟩ : ∃ j, Hid (j + 1 = n2) := ⟨n2 - 1, Lib.hid (by omega)⟩
    have hmk : ∀ W : World, (Instr.makeSlice 23 (.int .i64 ((n1 : Int) - n2 + 1)) (.int .i64 ((n1 : Int) - n2 + 1))).run Tryz.prog W = .ok (.slice (some ⟨W.heap.size, 0, none⟩) ((e + 1 : Nat)) ((e + 1 : Nat))) (W.alloc (.cells (madeCells #[.int .u32 0] (e + 1)) 24)) := fun W => by
      rw [show (n1 : Int) - n2 + 1 = ((e + 1 : Nat) : Int) by have := he.out; omega]
      exact make_polys (e + 1) (by have := he.out; omega) W
    have he1 : e ≤ 4398046511104 := by have := he.out; omega
    have hB3 := below1 w2 (.cells (madeCells #[.int .u32 0] (e + 1)) 24)
    have hcl := (hupB.below hB3 hupB.lt).cell (Dg.get_of_ld (L := M') (i := j) (by rw [HLEN'.out]; have := hj.out; omega))
    have hi1 : (n2 : Int) - 1 = (j : Int) := by have := hj.out; omega
    have hnl : ¬ (n1 : Int) < n2 := by omega
    go_wp2_with fail
    have htop := Pm.nm_top hM2.out.1.1 (by rw [HLEN'.out]; exact hpos2)
    rw [HLEN'.out, show n2 - 1 = j by have := hj.out; omega] at htop
    have htl := hM2.out.1.lt h0 j
    obtain ⟨tp, etp⟩ : ∃ tp, tp = Dg.ld M' j := ⟨_, rfl⟩
    rw [← etp] at htop htl ⊢
    have ETP := Lib.hid etp
    have HTP := Lib.hid (show ¬ tp % p = 0 by rwa [Nat.mod_eq_of_lt htl])
    clear etp hcl hmk
    refine (refInv_any tp p rfl rfl (by omega) hp h2p _).mono ?_
    rintro _ _ ⟨iv, rfl, hiv, rfl⟩
    have hivp : iv < p := by rw [hiv.out]; exact Nat.mod_lt _ h0
    have HIV := Lib.hid (show Pm.cz p ((iv : Int) * Pm.co M' (M'.length - 1)) 1 by
      unfold Pm.co; rw [HLEN'.out, show n2 - 1 = j by have := hj.out; omega, ← ETP.out]; exact cz_inv HP.out HTP.out hiv.out)
    have HUQ := Lib.hid (UB.made w2 (e + 1))
    have HUR := Lib.hid (hupr.below hB3 hupr.lt)
    have HUB := Lib.hid (hupB.below hB3 hupB.lt)
    have HB3 := Lib.hid (HB2.out.trans (hB3.mono HB2.out.size))
    have hgrs : gr < w2.heap.size := hupr.lt
    have hgBs : gB < w2.heap.size := hupB.lt
    clear hB3 hupr hupB
    go_wp2_with fail
    generalize w2.alloc (.cells (madeCells #[.int .u32 0] (e + 1)) 24) = W3 at HUQ HUR HUB HB3 ⊢
    obtain ⟨gq, hgq⟩ : ∃ gq, gq = w2.heap.size := ⟨_, rfl⟩
    have hbw := HB2.out.size
    rw [← hgq] at HUQ hgrs hgBs hbw ⊢
    have hne1 : gr ≠ gq := by omega
    have hne2 : gB ≠ gq := by omega
    have hne3 : gB ≠ gr := by omega
    have hne1' : gq ≠ gr := by omega
    have hgw : w.heap.size ≤ gr := hgr
    clear hgq
    have HS0 := Lib.hid (show Pm.Ds p (Pm.co M) (Pm.co M') (Pm.co (List.replicate (e + 1) 0)) (Pm.co M) (e + 1) (M'.length - 1) from
      (Pm.Ds.start ((Pm.co_up M).mono (by rw [HLEN.out, HLEN'.out]; have := he.out; omega))).cg fun k => Pm.cz.of_eq (Pm.co_zeros _ k))
    go_loopw [10] (fun iv' wr => ∃ (J : Nat) (Q R : List Nat), iv' = .int .i64 ((J : Int) - 1) ∧ J ≤ e + 1 ∧ UB wr gq Q ∧ UP wr gr R ∧ UP wr gB M' ∧
      Hid (Q.length = e + 1 ∧ Lt p Q ∧ R.length = n1 ∧ Lt p R ∧ Pm.Ds p (Pm.co M) (Pm.co M') (Pm.co Q) (Pm.co R) J (M'.length - 1) ∧ ∀ x, x < J → Dg.ld Q x = 0) ∧ Below w.heap.size w wr) (fun iv' _ => (intOf iv' + 1).toNat)
    case atStart =>
      refine ⟨e + 1, _, M, ?_, Nat.le_refl _, HUQ.out, HUR.out, HUB.out, Lib.hid ⟨by simp, Lt.zeros h0 _, HLEN.out, hM1.out.1.2, HS0.out, fun x _ => Dg.ld_replicate _ _⟩, HB3.out⟩
      exact int_i (by omega)
    case round =>
      clear HUQ HUR HUB HB3
      obtain ⟨J, Q, R, rfl, hJ, hUQ, hUP, hUB, hI, hB⟩ := hrel
      have hML := HP1.out.mx
      have hMl := HP1.out.le
      rcases Nat.eq_zero_or_pos J with hJ0 | hJ0
      · subst hJ0
        have hpq := hUQ.po (hI.out.2.1.wd hp) (b := w.heap.size) (by omega) (k := e + 1) (c := e + 1) (by rw [hI.out.1]; exact Nat.le_refl _) (Nat.le_refl _) (by have := he.out; unfold maxLen; omega)
        rw [List.take_of_length_le (by rw [hI.out.1]; exact Nat.le_refl _)] at hpq
        have hpr := hUP.po (hI.out.2.2.2.1.wd hp) (b := w.heap.size) (by omega) (k := n1) (c := c1) (by rw [hI.out.2.2.1]; exact Nat.le_refl _) hMl hML
        rw [List.take_of_length_le (by rw [hI.out.2.2.1]; exact Nat.le_refl _)] at hpr
        have HPQ := Lib.hid hpq
        have HPR := Lib.hid hpr
        have HB := Lib.hid hB
        have hd := Lib.hid hI.out.2.2.2.2.1.done
        have HE1 := Lib.hid (show e + 1 ≤ 17592186044416 by have := he.out; omega)
        clear hpq hpr hUQ hUP hUB hB
        go_wp2_with fail
        refine (rNorm_any p h0 hp HPQ.out.rd HE1.out).mono ?_
        rintro _ w5 ⟨A5, n5, c5, Q5, rfl, hp5, hQ5, hb5⟩
        have HP5 := Lib.hid hp5
        have HPR5 := Lib.hid (HPR.out.next hb5)
        have HB5 := Lib.hid (HB.out.trans (hb5.mono HB.out.size))
        have hbs := HB.out.size
        clear hp5 hb5
        go_wp2_with fail
        refine (rNorm_any p h0 hp HPR5.out.rd (by omega)).mono ?_
        rintro _ w6 ⟨A6, n6, c6, R6, rfl, hp6, hR6, hb6⟩
        have HF1 := Lib.hid ((HP5.out.next hb6).base (b' := w.heap.size) hbs)
        have HF2 := Lib.hid (hp6.base (b' := w.heap.size) HB5.out.size)
        have HB6 := Lib.hid (HB5.out.trans (hb6.mono HB5.out.size))
        have HDV := Lib.hid (show Pm.Dv p (Pm.co M) (Pm.co M') (Pm.co Q5) (Pm.co R6) (M'.length - 1) from
          ⟨fun x => (hd.out.1 x).trans ((Pm.Cg.cv hQ5.out.2.symm (Pm.Cg.refl _) x).add (hR6.out.2 x).symm), hd.out.2.cg hR6.out.2⟩)
        clear hb6 hp6
        go_wp2
        go_ret2
        exact ⟨A5, A6, n5, c5, n6, c6, Q5, R6, M, M', rfl, HF1.out, HF2.out, Lib.hid ⟨hQ5.out.1, hR6.out.1, hM1.out, hM2.out, HDV.out⟩, HB6.out⟩
      · obtain ⟨i, rfl⟩ : ∃ i, J = i + 1 := ⟨J - 1, by omega⟩
        rw [show (((i + 1 : Nat) : Int) - 1) = (i : Int) by omega]
        obtain ⟨t, ht⟩ : ∃ t, Hid (t = i + j) := ⟨_, Lib.hid rfl⟩
        have htn : t < n1 := by have := he.out; have := hj.out; have := ht.out; omega
        have hi0 : (0 : Int) ≤ (i : Int) := by omega
        have hie : i < e + 1 := by omega
        have hib1 : (i : Int) < ((e + 1 : Nat) : Int) := by omega
        have hib2 : (i : Int) < (e : Int) + 1 := by omega
        have hidx : (i : Int) + n2 - 1 = (t : Int) := by have := hj.out; have := ht.out; omega
        have hcq := hUQ.cell (Dg.get_of_ld (L := Q) (i := i) (by rw [hI.out.1]; exact hie))
        have hfq := hUQ.frozen i
        have HRP := Lib.hid (show RdU wr wr.heap.size (some ⟨gr, 0, none⟩) n1 c1 R from by
          have hpr := hUP.po (hI.out.2.2.2.1.wd hp) (b := w.heap.size) (by omega) (k := n1) (c := c1) (by rw [hI.out.2.2.1]; exact Nat.le_refl _) hMl hML
          rw [List.take_of_length_le (by rw [hI.out.2.2.1]; exact Nat.le_refl _)] at hpr
          exact hpr.rd)
        generalize Dg.ld Q i = q0 at hcq
        obtain ⟨wo, rfl⟩ : ∃ wo : World, wo = wr := ⟨_, rfl⟩
        go_wp2_with fail
        refine (rAt_any HRP.out t).mono ?_
        rintro _ _ ⟨rt, rfl, hrt, rfl⟩
        have hrtp : rt < p := by rw [hrt.out]; exact hI.out.2.2.2.1.ld h0 t
        go_wp2_with fail
        refine (refMul_any rt iv p rfl rfl rfl (by omega) (by omega) hp h0 _).mono ?_
        rintro _ _ ⟨v, rfl, hv, rfl⟩
        have hvp : v < p := by rw [hv.out]; exact Nat.mod_lt _ h0
        have HU5 := Lib.hid (hUQ.set i v)
        have HP5 := Lib.hid (hUP.far (p := ⟨gq, i, none⟩) hne1 (.int .u32 (v : Int)))
        have HUB5 := Lib.hid (hUB.far (p := ⟨gq, i, none⟩) hne2 (.int .u32 (v : Int)))
        have HB5 := Lib.hid (hB.setCell (p := ⟨gq, i, none⟩) (by simp; omega) (.int .u32 (v : Int)))
        clear hUQ hUP hUB hB HRP
        go_wp2_with fail
        clear hcq hfq hidx
        generalize wo.setCell ⟨gq, i, none⟩ (.int .u32 (v : Int)) = W5 at HU5 HP5 HUB5 HB5 ⊢
        go_loopw [64] (fun kv wr => ∃ (k : Nat) (O : List Nat), kv = .int .i64 k ∧ k ≤ n2 ∧ Hid (UB wr gq (Q.set i v) ∧ UP wr gr O ∧ UP wr gB M' ∧ (O.length = n1 ∧ Lt p O ∧ AllC p O (Pm.sb (Pm.co R) (Pm.co M') v i k)) ∧ Below w.heap.size w wr)) (fun kv _ => n2 - (intOf kv).toNat)
        case atStart => exact ⟨0, R, rfl, Nat.zero_le _, Lib.hid ⟨HU5.out, HP5.out, HUB5.out, ⟨hI.out.2.2.1, hI.out.2.2.2.1, fun x _ => by rw [Pm.sb_zero]; exact Pm.cz.refl _⟩, HB5.out⟩⟩
        case round =>
          clear HU5 HP5 HUB5 HB5
          obtain ⟨k, O, rfl, hk, hK⟩ := hrel
          by_cases hkn : k < n2
          · have hcy := hK.out.2.2.1.cell (Dg.get_of_ld (L := M') (i := k) (by rw [HLEN'.out]; exact hkn))
            have hyl := hM2.out.1.lt h0 k
            obtain ⟨y, ey⟩ : ∃ y, y = Dg.ld M' k := ⟨_, rfl⟩
            rw [← ey] at hcy hyl
            have EY := Lib.hid ey
            clear ey
            obtain ⟨x, hx⟩ : ∃ x, x = i + k := ⟨_, rfl⟩
            have hxn : x < n1 := by have := he.out; omega
            have hs1 : IntKind.i64.wrap ((i : Int) + k) = (x : Int) := by rw [IntWalk.i64_in _ (by omega)]; omega
            have hx0 : (0 : Int) ≤ (x : Int) := by omega
            have hx1 : (x : Int) < (n1 : Int) := by omega
            have hcr := hK.out.2.1.cell (Dg.get_of_ld (L := O) (i := x) (by rw [hK.out.2.2.2.1.1]; exact hxn))
            have hfz := hK.out.2.1.frozen x
            have hol := hK.out.2.2.2.1.2.1.ld h0 x
            obtain ⟨o, eo⟩ : ∃ o, o = Dg.ld O x := ⟨_, rfl⟩
            rw [← eo] at hcr hol
            have EO := Lib.hid eo
            have HX0 := Lib.hid hx
            have hkI : (k : Int) < n2 := by omega
            clear eo hx
            go_wp2_with fail
            go_region_with
              (first
                | (go_at_call 39; refine (refMul_any v y p rfl rfl rfl (by omega) (by omega) hp h0 _).mono ?_; rintro _ _ ⟨z, rfl, hz, rfl⟩; have hzp : z < p := by { rw [hz.out]; exact Nat.mod_lt _ h0 })
                | (go_at_call 63; refine (refSub_any o z p rfl rfl rfl (by omega) (by omega) hp h0 _).mono ?_; rintro _ _ ⟨u, rfl, hu, j3, rfl⟩))
            all_goals
              have HZ1 := Lib.hid (show Pm.cz p (z : Int) ((v : Int) * y) by rw [hz.out]; have := Pm.cz_mod (p := p) (v * y); rwa [Int.natCast_mul] at this)
              have HUP := Lib.hid (show u < p by rw [hu.out]; exact Nat.mod_lt _ h0)
              have HZ2 := Lib.hid (show Pm.cz p (u : Int) ((o : Int) - z) by rw [hu.out]; exact cz_sub_nat h0 o z)
              have hU2 := (hK.out.1.drewN (1 + j3)).far (p := ⟨gr, x, none⟩) hne1' (.int .u32 (u : Int))
              have hP2 := (hK.out.2.1.drewN (1 + j3)).set x u
              have hB2 := (hK.out.2.2.1.drewN (1 + j3)).far (p := ⟨gr, x, none⟩) hne3 (.int .u32 (u : Int))
              have hW2 := (below_drewN hK.out.2.2.2.2 (1 + j3)).setCell (p := ⟨gr, x, none⟩) (by simp; omega) (.int .u32 (u : Int))
              have HX := Lib.hid (And.intro hU2 (And.intro hP2 (And.intro hB2 hW2)))
              clear hU2 hP2 hB2 hW2 hs1
              go_wp2
              go_roundw
              case rel => exact ⟨k + 1, O.set x u, by go_num, hkn, Lib.hid ⟨HX.out.1, HX.out.2.1, HX.out.2.2.1, ⟨by rw [List.length_set]; exact hK.out.2.2.2.1.1, hK.out.2.2.2.1.2.1.set x HUP.out, hK.out.2.2.2.1.2.2.set (by rw [hK.out.2.2.2.1.1]; exact hxn) (sub_step HX0.out EY.out EO.out (by rw [hK.out.2.2.2.1.1]; exact hxn) hK.out.2.2.2.1.2.2 HZ1.out HZ2.out) (fun q hq => Pm.sb_other (by rw [← HX0.out]; exact hq))⟩, HX.out.2.2.2⟩⟩
              case measure => simp [intOf]; omega
          · obtain rfl : k = n2 := by omega
            have hil : i < Q.length := by rw [hI.out.1]; omega
            have HD := Lib.hid (show Pm.Ds p (Pm.co M) (Pm.co M') (Pm.co (Q.set i v)) (Pm.co O) i (M'.length - 1) from
              hI.out.2.2.2.2.1.step (v := v) (s := iv) ((Pm.co_up M').mono (by omega)) HIV.out (by
                have e1 : Pm.co R (i + (M'.length - 1)) = (rt : Int) := by
                  unfold Pm.co
                  rw [HLEN'.out, show i + (k - 1) = t by have := hj.out; have := ht.out; omega, ← hrt.out]
                rw [e1, hv.out]
                have := Pm.cz_mod (p := p) (rt * iv)
                rwa [Int.natCast_mul] at this)
                (fun x => Pm.cz.of_eq (Pm.co_set hil (hI.out.2.2.2.2.2 i (Nat.lt_succ_self i)) x))
                (sub_all hK.out.2.2.2.1.1 hI.out.2.2.1 (by rw [HLEN'.out]; have := he.out; omega) (by rw [HLEN'.out]; exact hK.out.2.2.2.1.2.2)))
            have hkk : ¬ (k : Int) < k := by omega
            go_wp2
            go_roundw
            case rel => exact ⟨i, Q.set i v, O, rfl, by omega, hK.out.1, hK.out.2.1, hK.out.2.2.1, Lib.hid ⟨by rw [List.length_set]; exact hI.out.1, hI.out.2.1.set i hvp, hK.out.2.2.2.1.1, hK.out.2.2.2.1.2.1, HD.out, fun x hx => by rw [Dg.ld_set_other v (by omega)]; exact hI.out.2.2.2.2.2 x (by omega)⟩, hK.out.2.2.2.2⟩
            case measure => simp [intOf]
end Go.Proofs.YtmgacikdgbedfaaGreatDoor

/- modpoly's laws: Freshman. -/
namespace Pm
theorem drop_cons {L : List Nat} {i x : Nat} (h : L[i]? = some x) : L.drop i = x :: L.drop (i + 1) := by
  have hi : i < L.length := by
    rcases Nat.lt_or_ge i L.length with h1 | h1
    · exact h1
    · rw [List.getElem?_eq_none h1] at h; cases h
  rw [List.getElem?_eq_getElem hi] at h
  injection h with h
  rw [← h, List.drop_eq_getElem_cons hi]
theorem fresh_round {p : Nat} {L O X T S M3 M' Q R : List Nat} {i x : Nat} (hx : L[i]? = some x) (hO : Mf p (co M') (co O) (at_p p (L.drop (i + 1)))) (hX : Mf p (co M') (co X) (mono 1 p))
    (hT : Cg p (co T) (cv (co O) (co X))) (hS : Cg p (co S) (fun k => co T k + co [x] k)) (h3 : Cg p (co M3) (co S)) (hR : Pn p R) (hd : Dv p (co M3) (co M') (co Q) (co R) (M'.length - 1)) : Mf p (co M') (co R) (at_p p (L.drop i)) := by
  rw [drop_cons hx]
  have h1 : Mf p (co M') (co M3) (co R) := Rm.mf ⟨hR, co Q, Fn.co Q, hd⟩
  have h2 : Mf p (co M') (cv (co O) (co X)) (cv (at_p p (L.drop (i + 1))) (mono 1 p)) := hO.mul hX (Fn.co O) (Fn.mono 1 p)
  have h4 : Mf p (co M') (co M3) (fun k => cv (at_p p (L.drop (i + 1))) (mono 1 p) k + co [x] k) :=
    (Mf.of_cg (h3.trans hS)).trans (((Mf.of_cg hT).trans h2).add (Mf.refl _ _))
  refine h1.symm.trans (h4.trans (Mf.of_cg (Cg.of_eq fun k => ?_)))
  show cv (at_p p (L.drop (i + 1))) (mono 1 p) k + co [x] k = mono x 0 k + cv (mono 1 p) (at_p p (L.drop (i + 1))) k
  rw [cv_comm, Int.add_comm]
  congr 1
  cases k with
  | zero => simp [co, mono, Dg.ld]
  | succ k => simp [co, mono, Dg.ld]
theorem fresh_x {p : Nat} {Mx M' X : List Nat} (hm : Cg p (co Mx) (co [0, 1])) (h : Mf p (co M') (co X) (pw (co Mx) p)) : Mf p (co M') (co X) (mono 1 p) := by
  refine h.trans (Mf.of_cg ((Cg.pw hm p).trans (Cg.of_eq fun k => ?_)))
  rw [show co [0, 1] = mono 1 1 from funext co_x, pw_mono]
theorem mul_len' {p : Nat} (hp : 0 < p) {L M R : List Nat} (hR : Pn p R) (e : Cg p (co R) (cv (co L) (co M))) : R.length ≤ L.length + M.length :=
  hR.short hp fun k hk => (e k).trans (by
    rcases Nat.eq_zero_or_pos L.length with h0 | h0
    · rw [cv_none (.inl h0)]; exact cz.refl _
    · rcases Nat.eq_zero_or_pos M.length with h1 | h1
      · rw [cv_none (.inr h1)]; exact cz.refl _
      · exact cv_end h0 h1 (by omega))
theorem add_len' {p : Nat} (hp : 0 < p) {L M R : List Nat} (hR : Pn p R) (e : Cg p (co R) (fun k => co L k + co M k)) : R.length ≤ L.length + M.length :=
  hR.short hp fun k hk => (e k).trans (by
    have := (co_up (p := p) L k (by omega)).add (co_up (p := p) M k (by omega))
    rwa [Int.add_zero] at this)
theorem fresh_end {p : Nat} (hp : Nt.Pr p) {L M M' R O : List Nat} (hM : Cg p (co M) (co L)) (hM' : Pn p M') (hl : 0 < M'.length) (hR : Pn p R) (hO : Pn p O) (h1 : R.length < M'.length) (h2 : O.length < M'.length)
    (e1 : Mf p (co M') (co R) (pw (co M) p)) (e2 : Mf p (co M') (co O) (at_p p L)) : R = O :=
  Mf.unique hp hM' hl hR hO h1 h2 ((e1.trans (Mf.of_cg ((Cg.pw hM p).trans (freshman hp L)))).trans e2.symm)
end Pm
namespace Go.Proofs.YtmgacikdgbedfaaGreatDoor
open Go.RowKit Go.IntWalk
attribute [local go_sem ↓] Go.wp_at_zero Go.wp_at_succ

theorem lsame_eq' {A A' : Option Addr} {B n n' c c' : Nat} {L L' : List Nat} {w : World} (h : RdU w B A n c L) (h' : RdU w B A' n' c' L') (e : L = L') :
    Calls Tryz.prog 22 #[.slice A n c, .slice A' n' c'] w (RetBD true w) := by
  have := lsame_any h h'
  rwa [show (L == L') = true by simpa using e] at this
end Go.Proofs.YtmgacikdgbedfaaGreatDoor

/- Polynomials modulo a prime: the derivative; values from the top. Nothing of the program. -/
namespace Pm
open Dg

/-- The derivative. -/
def dv (f : Nat → Int) : Nat → Int := fun k => ((k : Int) + 1) * f (k + 1)
theorem dv_cg {p : Nat} {f g : Nat → Int} (h : Cg p f g) : Cg p (dv f) (dv g) := fun k => (cz.refl _).mul (h (k + 1))
theorem dv_up {p : Nat} {f : Nat → Int} {n : Nat} (h : Up p f (n + 1)) : Up p (dv f) n := fun k hk => by
  have := (cz.refl (p := p) ((k : Int) + 1)).mul (h (k + 1) (by omega))
  rwa [Int.mul_zero] at this
/-- A step of the derivative. -/
theorem dv_step {p x k q v : Nat} {L : List Nat} (hx : x = ld L (k + 1)) (hq : q = (k + 1) % p) (hv : cz p v ((x : Int) * q)) : cz p v (dv (co L) k) := by
  refine hv.trans ?_
  unfold dv co
  rw [← hx, hq, Int.mul_comm]
  refine cz.mul ?_ (cz.refl _)
  have := cz_mod (p := p) (k + 1)
  rwa [Int.natCast_add] at this
theorem ev_step {p x v u z J : Nat} {L : List Nat} (hJ : J < L.length) (h : cz p v (ev (L.drop (J + 1)) x)) (hu : cz p u ((v : Int) * x)) (hz : cz p z ((u : Int) + ld L J)) : cz p z (ev (L.drop J) x) := by
  have e : L.drop J = ld L J :: L.drop (J + 1) := by
    rw [ld_lt hJ]; exact List.drop_eq_getElem_cons hJ
  rw [e]
  show cz p z ((ld L J : Int) + x * ev (L.drop (J + 1)) x)
  refine hz.trans ((((hu.trans (h.mul (cz.refl _))).add (cz.refl _))).trans (cz.of_eq ?_))
  rw [Int.mul_comm, Int.add_comm]
end Pm

/- modpoly: where the modulus is no prime; Normal, Degree, Monic. -/
namespace Go.Proofs.YtmgacikdgbedfaaGreatDoor
open Go.RowKit Go.IntWalk
attribute [local go_sem ↓] Go.wp_at_zero Go.wp_at_succ

/-- No number, and an error. -/
def RetNI (code : Int) (w : World) (e : Ending) (w' : World) : Prop := e = .returned (.tuple #[.int .i64 0, .int .i64 code]) ∧ Below w.heap.size w w'
/-- A truth and an error's number. -/
def RetBE (b : Bool) (code : Int) (w : World) (e : Ending) (w' : World) : Prop := e = .returned (.tuple #[.bool b, .int .i64 code]) ∧ Below w.heap.size w w'

set_option maxRecDepth 100000 in
set_option maxHeartbeats 1000000 in
theorem mNormal_none {A : Option Addr} {n c : Nat} {w : World} (p : Nat) (hpr : ¬ Nt.Pr p) (hp : p < 4294967296) (hT : Tabs w) :
    Calls Tryz.prog 7 #[.slice A n c, .int .u32 p] w (RetNE 40 w) := by
  have HP := Lib.hid hpr
  have hB0 := below1 w (.cells #[.slice A n c] 23)
  have hT0 := hT.below hB0
  clear hpr
  go_enter Tryz.func7, Tryz.ntmps7
  go_wp2_with fail
  refine (mall_none p HP.out hp hT0).mono ?_
  rintro _ w1 ⟨rfl, hb1⟩
  have HB := Lib.hid ((hB0.trans (hb1.mono hB0.size)).alloc (Nat.le_trans hB0.size hb1.size) (.cells #[.int .u64 0] 51))
  go_wp2
  go_ret2
  exact ⟨rfl, HB.out⟩
set_option maxRecDepth 100000 in
set_option maxHeartbeats 1000000 in
theorem mDegree_none {A : Option Addr} {n c : Nat} {w : World} (p : Nat) (hpr : ¬ Nt.Pr p) (hp : p < 4294967296) (hT : Tabs w) :
    Calls Tryz.prog 8 #[.slice A n c, .int .u32 p] w (RetNI 40 w) := by
  have HP := Lib.hid hpr
  have hB0 := below1 w (.cells #[.slice A n c] 23)
  have hT0 := hT.below hB0
  clear hpr
  go_enter Tryz.func8, Tryz.ntmps8
  go_wp2_with fail
  refine (mall_none p HP.out hp hT0).mono ?_
  rintro _ w1 ⟨rfl, hb1⟩
  have HB := Lib.hid ((hB0.trans (hb1.mono hB0.size)).alloc (Nat.le_trans hB0.size hb1.size) (.cells #[.int .u64 0] 51))
  go_wp2
  go_ret2
  exact ⟨rfl, HB.out⟩
set_option maxRecDepth 100000 in
set_option maxHeartbeats 1000000 in
theorem mMonic_none {A : Option Addr} {n c : Nat} {w : World} (p : Nat) (hpr : ¬ Nt.Pr p) (hp : p < 4294967296) (hT : Tabs w) :
    Calls Tryz.prog 9 #[.slice A n c, .int .u32 p] w (RetNE 40 w) := by
  have HP := Lib.hid hpr
  have hB0 := below1 w (.cells #[.slice A n c] 23)
  have hT0 := hT.below hB0
  clear hpr
  go_enter Tryz.func9, Tryz.ntmps9
  go_wp2_with fail
  refine (mall_none p HP.out hp hT0).mono ?_
  rintro _ w1 ⟨rfl, hb1⟩
  have HB := Lib.hid ((hB0.trans (hb1.mono hB0.size)).alloc (Nat.le_trans hB0.size hb1.size) (.cells #[.int .u64 0] 51))
  go_wp2
  go_ret2
  exact ⟨rfl, HB.out⟩
set_option maxRecDepth 100000 in
set_option maxHeartbeats 1000000 in
theorem mDeriv_none {A : Option Addr} {n c : Nat} {w : World} (p : Nat) (hpr : ¬ Nt.Pr p) (hp : p < 4294967296) (hT : Tabs w) :
    Calls Tryz.prog 25 #[.slice A n c, .int .u32 p] w (RetNE 40 w) := by
  have HP := Lib.hid hpr
  have hB0 := below1 w (.cells #[.slice A n c] 23)
  have hT0 := hT.below hB0
  clear hpr
  go_enter Tryz.func25, Tryz.ntmps25
  go_wp2_with fail
  refine (mall_none p HP.out hp hT0).mono ?_
  rintro _ w1 ⟨rfl, hb1⟩
  have HB := Lib.hid ((hB0.trans (hb1.mono hB0.size)).alloc (Nat.le_trans hB0.size hb1.size) (.cells #[.int .u64 0] 51))
  go_wp2
  go_ret2
  exact ⟨rfl, HB.out⟩
set_option maxRecDepth 100000 in
set_option maxHeartbeats 1000000 in
theorem mFree_none {A : Option Addr} {n c : Nat} {w : World} (p : Nat) (hpr : ¬ Nt.Pr p) (hp : p < 4294967296) (hT : Tabs w) :
    Calls Tryz.prog 26 #[.slice A n c, .int .u32 p] w (RetBE false 40 w) := by
  have HP := Lib.hid hpr
  have hB0 := below1 w (.cells #[.slice A n c] 23)
  have hT0 := hT.below hB0
  clear hpr
  go_enter Tryz.func26, Tryz.ntmps26
  go_wp2_with fail
  refine (mall_none p HP.out hp hT0).mono ?_
  rintro _ w1 ⟨rfl, hb1⟩
  have HB := Lib.hid ((hB0.trans (hb1.mono hB0.size)).alloc (Nat.le_trans hB0.size hb1.size) (.cells #[.int .u64 0] 51))
  go_wp2
  go_ret2
  exact ⟨rfl, HB.out⟩
set_option maxRecDepth 100000 in
set_option maxHeartbeats 1000000 in
theorem mSub_none {A A' : Option Addr} {n c n' c' : Nat} {w : World} (p : Nat) (hpr : ¬ Nt.Pr p) (hp : p < 4294967296) (hT : Tabs w) :
    Calls Tryz.prog 11 #[.slice A n c, .slice A' n' c', .int .u32 p] w (RetNE 40 w) := by
  have HP := Lib.hid hpr
  have hB0 := below1 w (.cells #[.slice A n c, .slice A' n' c'] 23)
  have hT0 := hT.below hB0
  clear hpr
  go_enter Tryz.func11, Tryz.ntmps11
  go_wp2_with fail
  refine (mall_none p HP.out hp hT0).mono ?_
  rintro _ w1 ⟨rfl, hb1⟩
  have HB := Lib.hid ((hB0.trans (hb1.mono hB0.size)).alloc (Nat.le_trans hB0.size hb1.size) (.cells #[.int .u64 0] 51))
  go_wp2
  go_ret2
  exact ⟨rfl, HB.out⟩
/-- The degree comes back. -/
def RetDeg (p : Nat) (L : List Nat) (w : World) (e : Ending) (w' : World) : Prop :=
  ∃ M : List Nat, e = .returned (.tuple #[.int .i64 ((M.length : Int) - 1), .int .i64 0]) ∧ Hid (Pm.Pn p M ∧ Pm.Cg p (Pm.co M) (Pm.co L)) ∧ M.length ≤ 1099511627776 ∧ Below w.heap.size w w'

set_option maxRecDepth 100000 in
set_option maxHeartbeats 1000000 in
theorem mDegree_ok {A : Option Addr} {n c : Nat} {L : List Nat} {w : World} (p : Nat) (hpr : Nt.Pr p) (hp : p < 4294967296) (h : RdU w w.heap.size A n c L) (hn : n ≤ 1099511627776) (hT : Tabs w) :
    Calls Tryz.prog 8 #[.slice A n c, .int .u32 p] w (RetDeg p L w) := by
  have HA := Lib.hid (mall1_any p hpr hp h hn hT)
  have HPR := Lib.hid hpr
  have h0 := hpr.pos
  have hpn : ¬ p = 0 := by omega
  clear hpr
  go_enter Tryz.func8, Tryz.ntmps8
  go_wp2_with fail
  refine HA.out.mono ?_
  rintro _ w1 ⟨g, A1, n1, c1, M1, rfl, hg, hcg0, hp1, hM, hn1, hb1⟩
  have hB2 := below1 w1 (.cells #[.int .u64 p] 51)
  have HC0 := Lib.hid ((hB2.cell (p := ⟨g, 0, none⟩) hg).trans hcg0)
  have hP1 := hp1.next hB2
  have HB := Lib.hid (hb1.trans (hB2.mono hb1.size))
  have hsz : w1.heap.size < (w1.alloc (.cells #[.int .u64 p] 51)).heap.size := by simp
  have HCB := Lib.hid (show (w1.alloc (.cells #[.int .u64 p] 51)).cell? ⟨w1.heap.size, 0, none⟩ = some (.int .u64 p) by go_simp)
  have hc0w := HC0.out
  clear hcg0 hB2 hp1
  have HL1 := Lib.hid hP1.len
  go_wp2
  go_ret2
  exact ⟨M1, by rw [HL1.out]; rfl, hM, by rw [HL1.out]; exact hn1, HB.out⟩
set_option maxRecDepth 100000 in
set_option maxHeartbeats 1000000 in
theorem mNormal_ok {A : Option Addr} {n c : Nat} {L : List Nat} {w : World} (p : Nat) (hpr : Nt.Pr p) (hp : p < 4294967296) (h : RdU w w.heap.size A n c L) (hn : n ≤ 1099511627776) (hT : Tabs w) :
    Calls Tryz.prog 7 #[.slice A n c, .int .u32 p] w (RetPE (fun R => Pm.Pn p R ∧ Pm.Cg p (Pm.co R) (Pm.co L)) w) := by
  have HA := Lib.hid (mall1_any p hpr hp h hn hT)
  have HPR := Lib.hid hpr
  have h0 := hpr.pos
  have hpn : ¬ p = 0 := by omega
  clear hpr
  go_enter Tryz.func7, Tryz.ntmps7
  go_wp2_with fail
  refine HA.out.mono ?_
  rintro _ w1 ⟨g, A1, n1, c1, M1, rfl, hg, hcg0, hp1, hM, hn1, hb1⟩
  have hB2 := below1 w1 (.cells #[.int .u64 p] 51)
  have HC0 := Lib.hid ((hB2.cell (p := ⟨g, 0, none⟩) hg).trans hcg0)
  have hP1 := hp1.next hB2
  have HB := Lib.hid (hb1.trans (hB2.mono hb1.size))
  have hsz : w1.heap.size < (w1.alloc (.cells #[.int .u64 p] 51)).heap.size := by simp
  have HCB := Lib.hid (show (w1.alloc (.cells #[.int .u64 p] 51)).cell? ⟨w1.heap.size, 0, none⟩ = some (.int .u64 p) by go_simp)
  have hc0w := HC0.out
  clear hcg0 hB2 hp1
  go_wp2_with fail
  refine (mtold_any hP1).mono ?_
  rintro _ _ ⟨A4, c4, rfl, hp4, rfl⟩
  go_wp2
  go_ret2
  exact ⟨A4, n1, c4, M1, rfl, hp4, hM, HB.out⟩
set_option maxRecDepth 100000 in
set_option maxHeartbeats 1000000 in
theorem mMonic_ok {A : Option Addr} {n c : Nat} {L : List Nat} {w : World} (p : Nat) (hpr : Nt.Pr p) (hp : p < 4294967296) (h : RdU w w.heap.size A n c L) (hn : n ≤ 1099511627776) (hT : Tabs w) :
    Calls Tryz.prog 9 #[.slice A n c, .int .u32 p] w (RetPE (fun R => ∃ M, (Pm.Pn p M ∧ Pm.Cg p (Pm.co M) (Pm.co L)) ∧ Pm.Mo p M R) w) := by
  have HA := Lib.hid (mall1_any p hpr hp h hn hT)
  have HPR := Lib.hid hpr
  have h0 := hpr.pos
  have hpn : ¬ p = 0 := by omega
  clear hpr
  go_enter Tryz.func9, Tryz.ntmps9
  go_wp2_with fail
  refine HA.out.mono ?_
  rintro _ w1 ⟨g, A1, n1, c1, M1, rfl, hg, hcg0, hp1, hM, hn1, hb1⟩
  have hB2 := below1 w1 (.cells #[.int .u64 p] 51)
  have HC0 := Lib.hid ((hB2.cell (p := ⟨g, 0, none⟩) hg).trans hcg0)
  have hP1 := hp1.next hB2
  have HB := Lib.hid (hb1.trans (hB2.mono hb1.size))
  have hsz : w1.heap.size < (w1.alloc (.cells #[.int .u64 p] 51)).heap.size := by simp
  have HCB := Lib.hid (show (w1.alloc (.cells #[.int .u64 p] 51)).cell? ⟨w1.heap.size, 0, none⟩ = some (.int .u64 p) by go_simp)
  clear hcg0 hB2 hp1
  have hT2 := hT.below HB.out
  go_wp2_with fail
  generalize w1.alloc (.cells #[.int .u64 p] 51) = W2 at HC0 HCB hP1 HB hsz hT2 ⊢
  have hgl : g < W2.heap.size := Nat.lt_trans hg hsz
  have hc0 := HC0.out
  have hcb := HCB.out
  have HE := Lib.hid (mmonic_any p HPR.out hp hP1.rd.drew (by omega) hM.out.1 hT2.drew)
  have HSZ := Lib.hid (HB.out.size)
  go_region_held3 (fun w' => w'.cell? ⟨w1.heap.size, 0, none⟩ = some (.int .u64 p) ∧ w'.cell? ⟨g, 0, none⟩ = some (.slice A1 n1 c1)) (go_keep)
    (first
      | (go_at_call 33; refine HE.out.mono ?_; rintro _ w3 ⟨A3, n3, c3, M3, rfl, hp3, hM3, hb3⟩; have hcb3 := (hb3.cell (p := ⟨w1.heap.size, 0, none⟩) hsz).trans hcb; have hc03 := (hb3.cell (p := ⟨g, 0, none⟩) hgl).trans hc0)
      | (go_at_call 32; refine (mtold_any hp3).mono ?_; rintro _ _ ⟨A4, c4, rfl, hp4, rfl⟩))
  have HF := Lib.hid (HB.out.drew.trans (hb3.mono HB.out.size))
  have HP4 := Lib.hid (hp4.base HSZ.out)
  have HM3 := Lib.hid (show ∃ M, (Pm.Pn p M ∧ Pm.Cg p (Pm.co M) (Pm.co L)) ∧ Pm.Mo p M M3 from ⟨M1, hM.out, hM3.out⟩)
  clear hcb3 hc03
  go_wp2
  go_ret2
  exact ⟨A4, n3, c4, M3, rfl, HP4.out, HM3.out, HF.out⟩
end Go.Proofs.YtmgacikdgbedfaaGreatDoor

/- modpoly: the reference's Monic, Sub, Eval, Gcd. -/
namespace Go.Proofs.YtmgacikdgbedfaaGreatDoor
open Go.RowKit Go.IntWalk
attribute [local go_sem ↓] Go.wp_at_zero Go.wp_at_succ

/-- A list comes back in memory of its own, monic. -/
def MoOf (p : Nat) (L R : List Nat) : Prop := ∃ M, (Pm.Pn p M ∧ Pm.Cg p (Pm.co M) (Pm.co L)) ∧ Pm.Mo p M R
theorem MoOf.unique {p : Nat} (hp : Nt.Pr p) {L R R' : List Nat} (h : MoOf p L R) (h' : MoOf p L R') : R = R' := by
  obtain ⟨M, h1, h2⟩ := h
  obtain ⟨M', h1', h2'⟩ := h'
  obtain rfl := h1.1.ext hp.pos h1'.1 (h1.2.trans h1'.2.symm)
  exact h2.unique hp h2'
theorem RetQ.later {P : List Nat → Prop} {w w1 w' : World} {e : Ending} (h : RetQ P w1 e w') (hb : Below w.heap.size w w1) : RetQ P w e w' := by
  obtain ⟨A, n, c, L, h1, h2, h3, h4⟩ := h
  exact ⟨A, n, c, L, h1, h2.base hb.size, h3, hb.trans (h4.mono hb.size)⟩
set_option maxRecDepth 100000 in
set_option maxHeartbeats 1000000 in
theorem rMonic_any {A : Option Addr} {n c : Nat} {L : List Nat} {w : World} (p : Nat) (hpr : Nt.Pr p) (hp : p < 4294967296) (h : RdU w w.heap.size A n c L) (hn : n ≤ 17592186044416) :
    Calls Tryz.prog 17 #[.slice A n c, .int .u32 p] w (RetQ (MoOf p L) w) := by
  have HP := Lib.hid hpr
  have h0 := hpr.pos
  have h2p := hpr.two_le
  have HR := Lib.hid h
  clear hpr h
  go_enter Tryz.func17, Tryz.ntmps17
  go_wp2_with fail
  refine (rNorm_any p h0 hp HR.out (by omega)).mono ?_
  rintro _ w1 ⟨A1, n1, c1, M, rfl, hp1, hM, hb1⟩
  have HLEN := Lib.hid hp1.len
  have hn1 : n1 ≤ n := pn_short h0 hM.out.1 hM.out.2 hp1 HR.out
  rcases Nat.eq_zero_or_pos n1 with hn0 | hn0
  · have hl := List.eq_nil_of_length_eq_zero (HLEN.out.trans hn0)
    subst hn0 hl
    go_wp2
    go_ret
    exact ⟨none, 0, 0, [], rfl, Po.nil _ _ 0 none (Nat.zero_le _), Lib.hid ⟨[], hM.out, Pm.Pn.nil, fun _ => rfl, fun h => by simp at h⟩, hb1⟩
  · obtain ⟨hx, ad, had, hbx, hcx⟩ := hp1.rd.at_ (n1 - 1) _ (Dg.get_of_ld (by rw [HLEN.out]; omega))
    subst had
    obtain ⟨x, ex⟩ : ∃ x, x = Dg.ld M (n1 - 1) := ⟨_, rfl⟩
    rw [← ex] at hx hcx
    have hne : ¬ x % p = 0 := by
      have h1 := Pm.nm_top hM.out.1.1 (by rw [HLEN.out]; exact hn0)
      rw [HLEN.out, ← ex] at h1
      have h2 := hM.out.1.lt h0 (n1 - 1)
      rw [← ex] at h2
      rwa [Nat.mod_eq_of_lt h2]
    have EX := Lib.hid ex
    have HNE := Lib.hid hne
    have h1 : ((n1 : Int) == 0) = false := by simp; omega
    obtain ⟨m, hm⟩ : ∃ m, m = n1 - 1 := ⟨_, rfl⟩
    rw [← hm] at hcx
    have HMM := Lib.hid hm
    have hs1 : IntKind.i64.wrap ((n1 : Int) - 1) = (m : Int) := by have := hp1.mx; unfold maxLen at this; have := hp1.le; rw [IntWalk.i64_in _ (by omega)]; omega
    have hs2 : (n1 : Int) - 1 = (m : Int) := by omega
    have hm0 : (0 : Int) ≤ (m : Int) := by omega
    have hm1 : (m : Int) < (n1 : Int) := by omega
    have HP1 := Lib.hid hp1
    clear hm ex hne
    go_wp2_with fail
    refine (refInv_any x p rfl rfl hx hp h2p _).mono ?_
    rintro _ _ ⟨v, rfl, hv, rfl⟩
    have hvl : v < 4294967296 := by rw [hv.out]; exact Nat.lt_trans (Nat.mod_lt _ h0) hp
    have HV := Lib.hid (cz_inv HP.out HNE.out hv.out)
    clear hcx hs1 hs2
    go_wp2_with fail
    refine (rScale_any v p hvl h0 hp HP1.out.rd (by omega)).mono ?_
    rintro _ w3 ⟨A3, n3, c3, R, rfl, hp3, hR, hb3⟩
    have HF := Lib.hid (hb1.trans (hb3.mono hb1.size))
    have HP3 := Lib.hid (hp3.base hb1.size)
    have HMO := Lib.hid (show MoOf p L R from ⟨M, hM.out, mo_of (v := v) (by rw [HLEN.out]; exact hn0) (by rw [HLEN.out, ← EX.out]; exact HV.out) hR.out⟩)
    go_wp2
    go_ret
    exact ⟨A3, n3, c3, R, rfl, HP3.out, HMO, HF.out⟩

set_option maxRecDepth 100000 in
set_option maxHeartbeats 1000000 in
theorem rSub_any {A A' : Option Addr} {n c n' c' : Nat} {L L' : List Nat} {w : World} (p : Nat) (h0 : 0 < p) (hp : p < 4294967296) (h : RdU w w.heap.size A n c L) (h' : RdU w w.heap.size A' n' c' L') (hn : n ≤ 17592186044416) (hn' : n' ≤ 17592186044416) :
    Calls Tryz.prog 19 #[.slice A n c, .slice A' n' c', .int .u32 p] w (RetPo p (fun k => Pm.co L k - Pm.co L' k) w) := by
  have HR := Lib.hid h
  have HR' := Lib.hid h'
  obtain ⟨m, hm⟩ : ∃ m, m = p - 1 := ⟨_, rfl⟩
  have hs1 : IntKind.u32.wrap ((p : Int) - 1) = (m : Int) := by rw [show (p : Int) - 1 = (m : Int) by omega]; exact wide_u32 (by omega)
  have hs2 : (p : Int) - 1 = (m : Int) := by omega
  have hm32 : m < 4294967296 := by omega
  have HM := Lib.hid hs2
  clear h h' hm
  go_enter Tryz.func19, Tryz.ntmps19
  go_wp2_with fail
  refine (rScale_any m p hm32 h0 hp HR'.out (by omega)).mono ?_
  rintro _ w1 ⟨A1, n1, c1, S, rfl, hp1, hS, hb1⟩
  have hl : n1 ≤ n' := by
    rw [← hp1.len, ← HR'.out.len]
    refine hS.out.1.short h0 fun k hk => (hS.out.2 k).trans ?_
    have := (Pm.cz.refl (p := p) (m : Int)).mul (Pm.co_up (p := p) L' k hk)
    rwa [Int.mul_zero] at this
  have HR1 := Lib.hid (HR.out.next hb1)
  clear hs1 hs2
  go_wp2_with fail
  refine (rAdd_any p h0 hp HR1.out hp1.rd (by omega) (by omega)).mono ?_
  rintro _ w2 ⟨A2, n2, c2, R, rfl, hp2, hR, hb2⟩
  have HF := Lib.hid (hb1.trans (hb2.mono hb1.size))
  have HP2 := Lib.hid (hp2.base hb1.size)
  have HRR := Lib.hid (pn_cg hR.out (g := fun k => Pm.co L k - Pm.co L' k) fun k => by
    have h1 := (Pm.cz.refl (p := p) (Pm.co L k)).add (hS.out.2 k)
    refine h1.trans ?_
    refine ⟨Pm.co L' k, ?_⟩
    rw [← HM.out]
    dsimp only
    grind)
  go_wp2
  go_ret
  exact ⟨A2, n2, c2, R, rfl, HP2.out, HRR, HF.out⟩
end Go.Proofs.YtmgacikdgbedfaaGreatDoor

/- modpoly: the reference's Eval, Gcd; the derivative. -/
namespace Go.Proofs.YtmgacikdgbedfaaGreatDoor
open Go.RowKit Go.IntWalk
attribute [local go_sem ↓] Go.wp_at_zero Go.wp_at_succ

/-- A number comes back; the orders of some operations were drawn. -/
def RetUz (p : Nat) (z : Int) (w : World) (e : Ending) (w' : World) : Prop := ∃ v : Nat, e = .returned (.int .u32 v) ∧ v < p ∧ Hid (Pm.cz p v z) ∧ Below w.heap.size w w'
set_option maxRecDepth 100000 in
set_option maxHeartbeats 1000000 in
theorem rEval_any {A : Option Addr} {n c : Nat} {L : List Nat} {w : World} (x p : Nat) (hx : x < 4294967296) (h0 : 0 < p) (hp : p < 4294967296) (h : RdU w w.heap.size A n c L) (hn : n ≤ 17592186044416) :
    Calls Tryz.prog 28 #[.slice A n c, .int .u32 x, .int .u32 p] w (RetUz p (Pm.ev L x) w) := by
  have HR := Lib.hid h
  have HLEN := Lib.hid h.len
  have hpn : ¬ p = 0 := by omega
  clear h
  go_enter Tryz.func28, Tryz.ntmps28
  go_wp2_with fail
  go_loopw [7, 8] (fun v i wr => ∃ (J u : Nat), i = .int .i64 ((J : Int) - 1) ∧ v = .int .u32 u ∧ J ≤ n ∧ u < p ∧ Hid (Pm.cz p u (Pm.ev (L.drop J) x)) ∧ Hid (Below w.heap.size w wr)) (fun _ i _ => (intOf i + 1).toNat)
  case atStart => exact ⟨n, 0, rfl, rfl, Nat.le_refl _, h0, Lib.hid (by rw [List.drop_of_length_le (by rw [HLEN.out]; exact Nat.le_refl _)]; exact Pm.cz.refl _), Lib.hid (Below.refl _ _)⟩
  case round =>
    obtain ⟨J, u, rfl, rfl, hJ, hu, hz, hB⟩ := hrel
    rcases Nat.eq_zero_or_pos J with hJ0 | hJ0
    · subst hJ0
      have HZ := Lib.hid (show Pm.cz p ((u % p : Nat) : Int) (Pm.ev L x) from (Pm.cz_mod u).trans hz.out)
      go_wp2
      go_ret
      exact ⟨u % p, ret_i (up_mod rfl rfl), Nat.mod_lt _ h0, HZ, hB.out⟩
    · obtain ⟨i, rfl⟩ : ∃ i, J = i + 1 := ⟨J - 1, by omega⟩
      rw [show (((i + 1 : Nat) : Int) - 1) = (i : Int) by omega]
      obtain ⟨hyw, ad, had, hby, hcy⟩ := (HR.out.below hB.out).at_ i _ (Dg.get_of_ld (by rw [HLEN.out]; omega))
      subst had
      obtain ⟨y, ey⟩ : ∃ y, y = Dg.ld L i := ⟨_, rfl⟩
      rw [← ey] at hyw hcy
      have EY := Lib.hid ey
      have hin : i < n := by omega
      clear ey
      go_wp2_with fail
      go_region_held3 (fun w' => w'.cell? (ad.add i) = some (.int .u32 y)) (go_keep)
        (first
          | (go_at_call 39; refine (refMul_any u x p rfl rfl rfl (by omega) hx hp h0 _).mono ?_; rintro _ _ ⟨m, rfl, hm, rfl⟩)
          | (go_at_call 38; refine (refAdd_any m y p rfl rfl rfl (by rw [hm.out]; exact Nat.lt_trans (Nat.mod_lt _ h0) hp) hyw hp h0 _).mono ?_; rintro _ _ ⟨z, rfl, hz', rfl⟩))
      all_goals
        have HS := Lib.hid (show z < p ∧ Pm.cz p z (Pm.ev (L.drop i) x) by
          refine ⟨by rw [hz'.out]; exact Nat.mod_lt _ h0, Pm.ev_step (by rw [HLEN.out]; omega) hz.out (u := m) (by rw [hm.out]; have := Pm.cz_mod (p := p) (u * x); rwa [Int.natCast_mul] at this) ?_⟩
          rw [hz'.out, ← EY.out]
          have := Pm.cz_mod (p := p) (m + y)
          rwa [Int.natCast_add] at this)
        have HB1 := Lib.hid (show Below w.heap.size w wr.drew from hB.out.drew)
        have hzp := HS.out.1
        clear hcy
        go_wp2
        go_roundw
        case rel => exact ⟨i, z, rfl, rfl, by omega, hzp, Lib.hid HS.out.2, HB1⟩
        case measure => simp [intOf]
end Go.Proofs.YtmgacikdgbedfaaGreatDoor

/- modpoly: the reference's derivative. -/
namespace Go.Proofs.YtmgacikdgbedfaaGreatDoor
open Go.RowKit Go.IntWalk
attribute [local go_sem ↓] Go.wp_at_zero Go.wp_at_succ

/-- The first k numbers of the derivative. -/
def dvs (p : Nat) (L : List Nat) (k : Nat) : List Nat := (List.range k).map fun i => Dg.ld L (i + 1) * ((i + 1) % p) % p
theorem dvs_more (p : Nat) (L : List Nat) (k : Nat) : dvs p L k ++ [Dg.ld L (k + 1) * ((k + 1) % p) % p] = dvs p L (k + 1) := by simp [dvs, List.range_succ]
theorem dvs_cg (p : Nat) {L : List Nat} {k : Nat} (hk : L.length ≤ k + 1) : Pm.Cg p (Pm.co (dvs p L k)) (Pm.dv (Pm.co L)) := fun j => by
  by_cases hj : j < k
  · have e : Dg.ld (dvs p L k) j = Dg.ld L (j + 1) * ((j + 1) % p) % p := by
      rw [Dg.ld_lt (by simpa [dvs] using hj)]
      simp [dvs]
    unfold Pm.co
    rw [e]
    refine Pm.dv_step rfl rfl ?_
    have := Pm.cz_mod (p := p) (Dg.ld L (j + 1) * ((j + 1) % p))
    rwa [Int.natCast_mul] at this
  · have e1 : Pm.co (dvs p L k) j = 0 := Pm.co_zero (by simp [dvs]; omega)
    have e2 : Pm.dv (Pm.co L) j = 0 := by
      unfold Pm.dv
      rw [Pm.co_zero (by omega), Int.mul_zero]
    rw [e1, e2]
    exact Pm.cz.refl _
set_option maxRecDepth 100000 in
set_option maxHeartbeats 4000000 in
theorem rDeriv_any {A : Option Addr} {n c : Nat} {L : List Nat} {w : World} (p : Nat) (h0 : 0 < p) (hp : p < 4294967296) (h : RdU w w.heap.size A n c L) (hn : n ≤ 1048576) :
    Calls Tryz.prog 27 #[.slice A n c, .int .u32 p] w (RetPo p (Pm.dv (Pm.co L)) w) := by
  have HLEN := Lib.hid h.len
  have HR := Lib.hid h
  have hpn : ¬ p = 0 := by omega
  obtain ⟨i0, hi0, hz0, hz1, hz2⟩ := info_parts infoU
  clear h
  go_enter Tryz.func27, Tryz.ntmps27
  go_wp2_with fail
  go_loopw [5, 6] (fun v iv wr => ∃ (k : Nat) (A0 : Option Addr) (c0 : Nat), iv = .int .i64 ((k + 1 : Nat) : Int) ∧ v = .slice A0 k c0 ∧ k ≤ n ∧ (k = 0 ∨ k < n) ∧ Hid (OwU wr w.heap.size A0 k c0 (dvs p L k) ∧ Below w.heap.size w wr)) (fun _ iv _ => n + 1 - (intOf iv).toNat)
  case atStart => exact ⟨0, none, 0, rfl, rfl, Nat.zero_le _, .inl rfl, Lib.hid ⟨OwU.nil _ _, Below.refl _ _⟩⟩
  case round =>
    obtain ⟨k, A0, c0, rfl, rfl, hk, hk0, hI⟩ := hrel
    have HOWN := Lib.hid hI.out.1
    have HB := Lib.hid hI.out.2
    clear hI
    obtain ⟨i, hi⟩ : ∃ i, i = k + 1 := ⟨_, rfl⟩
    rw [← hi]
    by_cases hin : i < n
    · obtain ⟨hxw, ad, had, hbx, hcx⟩ := (HR.out.below HB.out).at_ i _ (Dg.get_of_ld (by rw [HLEN.out]; exact hin))
      subst had
      obtain ⟨x, ex⟩ : ∃ x, x = Dg.ld L i := ⟨_, rfl⟩
      rw [← ex] at hxw hcx
      have EX := Lib.hid ex
      have HIK := Lib.hid hi
      obtain ⟨q, hq⟩ : ∃ q, q = i % p := ⟨_, rfl⟩
      have HQ := Lib.hid hq
      have hqp : q < p := by rw [hq]; exact Nat.mod_lt _ h0
      have hq32 : q < 4294967296 := by omega
      have hw1 : IntKind.u32.wrap (i : Int) = i := wide_u32 (by omega)
      have hqi : (i : Int) % p = q := by rw [hq]; exact up_mod rfl rfl
      have htm : (i : Int).tmod p = q := by rw [hq]; rfl
      have hkk : k ≤ 1048576 := by omega
      clear ex hi hq
      go_wp2_with fail
      go_region_law (first
        | (go_simp; go_at_call 39; refine (refMul_any x q p rfl rfl rfl hxw hq32 hp h0 _).mono ?_; rintro _ _ ⟨z, rfl, hz, rfl⟩; have HNEW := Lib.hid (World.news_of_block (cs := #[.int .u32 z]) (t := 24) (fr := (0, 0)) (heap_alloc_new wr.drew _)); have HOW := Lib.hid ((HOWN.out.next ((Below.refl _ wr).drew)).own.alloc (.cells #[.int .u32 z] 24)); have HBW := Lib.hid (Nat.le_trans HB.out.size (below1 wr.drew (.cells #[.int .u32 z] 24)).size))
        | (refine step_append_lies _ (by rfl) _ _ _ (by rfl) w.heap.size 24 i0 (.int .u32 0) 1 4 Tryz.underlying23 hi0 hz0 hz1 hz2 rfl (by decide) (.slice A0 k c0) k (uc (dvs p L k)) (by rfl) HOW.out ⟨wr.heap.size, 0, none⟩ 1 1 [.int .u32 z] (by rfl) (by rfl) HNEW.out (by simp [Value.oneCell']) (by decide) (by unfold maxLen; omega) (by omega) HBW.out _ rfl ?_; intro g5 cap5 w5 hown5 hgrow5 hat5 hlt5))
      have HB1 := Lib.hid (((HB.out.drew.alloc HB.out.size (.cells #[.int .u32 z] 24))).grown hgrow5 HBW.out (own_block HOW.out))
      have HO1 := Lib.hid (ow_more (y := z) (M := dvs p L (k + 1)) HOWN.out (by rw [hz.out]; exact Nat.lt_trans (Nat.mod_lt _ h0) hp) rfl (by rw [hz.out, EX.out, HQ.out, HIK.out]; exact dvs_more p L k) hown5)
      clear hown5 hgrow5 hat5 hlt5 hcx
      go_wp2
      have hik := HIK.out
      exact ⟨⟨k + 1, _, _, by rw [hik]; go_num, rfl, by omega, by omega, Lib.hid ⟨HO1.out, HB1.out⟩⟩, by simp [intOf]; omega⟩
    · have HCG := Lib.hid (dvs_cg p (L := L) (k := k) (by rw [HLEN.out]; omega))
      go_wp2_with fail
      refine (rNorm_any p h0 hp HOWN.out.rd (by omega)).mono ?_
      intro _ w3 h3
      obtain ⟨A3, n3, c3, M3, rfl, hp3, hM3, hb3⟩ := h3.later HB.out
      have HM3 := Lib.hid (pn_cg hM3.out HCG.out)
      go_wp2
      go_ret
      exact ⟨A3, n3, c3, M3, rfl, hp3, HM3.out, hb3⟩
end Go.Proofs.YtmgacikdgbedfaaGreatDoor

/- modpoly: the reference's Gcd; the field's derivative; Deriv, Free. -/
namespace Go.Proofs.YtmgacikdgbedfaaGreatDoor
open Go.RowKit Go.IntWalk
attribute [local go_sem ↓] Go.wp_at_zero Go.wp_at_succ

/-- What Euclid's steps give, of what is congruent. -/
def GcOf (p : Nat) (L L' G : List Nat) : Prop := ∃ M M', (Pm.Pn p M ∧ Pm.Cg p (Pm.co M) (Pm.co L)) ∧ (Pm.Pn p M' ∧ Pm.Cg p (Pm.co M') (Pm.co L')) ∧ Pm.Gc p M M' G
theorem GcOf.unique {p : Nat} (hp : Nt.Pr p) {L L' G G' : List Nat} (h : GcOf p L L' G) (h' : GcOf p L L' G') : G = G' := by
  obtain ⟨M, N, h1, h2, h3⟩ := h
  obtain ⟨M', N', h1', h2', h3'⟩ := h'
  obtain rfl := h1.1.ext hp.pos h1'.1 (h1.2.trans h1'.2.symm)
  obtain rfl := h2.1.ext hp.pos h2'.1 (h2.2.trans h2'.2.symm)
  exact h3.unique hp h2.1 h3'
theorem nz_of_pn {p : Nat} (hp : Nt.Pr p) {L : List Nat} (h : Pm.Pn p L) (hl : 0 < L.length) : ¬ Pm.Cg p (Pm.co []) (Pm.co L) := fun hc => by
  have h1 := Pm.Pn.nil.ext hp.pos h hc
  rw [← h1] at hl; simp at hl
set_option maxRecDepth 100000 in
set_option maxHeartbeats 1000000 in
theorem rGcd_any {A A' : Option Addr} {n c n' c' : Nat} {L L' : List Nat} {w : World} (p : Nat) (hpr : Nt.Pr p) (hp : p < 4294967296) (h : RdU w w.heap.size A n c L) (h' : RdU w w.heap.size A' n' c' L') (hn : n ≤ 1099511627776) (hn' : n' ≤ 1099511627776) :
    Calls Tryz.prog 29 #[.slice A n c, .slice A' n' c', .int .u32 p] w (RetQ (GcOf p L L') w) := by
  have HP := Lib.hid hpr
  have h0 := hpr.pos
  have HR := Lib.hid h
  have HR' := Lib.hid h'
  clear hpr h h'
  go_enter Tryz.func29, Tryz.ntmps29
  go_wp2_with fail
  refine (rNorm_any p h0 hp HR.out (by omega)).mono ?_
  rintro _ w1 ⟨A1, n1, c1, M1, rfl, hp1, hM1, hb1⟩
  have hn1 : n1 ≤ n := pn_short h0 hM1.out.1 hM1.out.2 hp1 HR.out
  go_wp2_with fail
  refine (rNorm_any p h0 hp (HR'.out.next hb1) (by omega)).mono ?_
  rintro _ w2 ⟨A2, n2, c2, M2, rfl, hp2, hM2, hb2⟩
  have hn2 : n2 ≤ n' := pn_short h0 hM2.out.1 hM2.out.2 hp2 HR'.out
  have HB2 := Lib.hid (hb1.trans (hb2.mono hb1.size))
  have HP1 := Lib.hid (hp1.next hb2)
  have HP2 := Lib.hid (hp2.base hb1.size)
  clear hp1 hp2 hb1 hb2
  go_wp2_with fail
  go_loopw [0, 1] (fun av bv wr => ∃ (A A' : Option Addr) (m c m' c' : Nat) (M M' : List Nat), av = .slice A m c ∧ bv = .slice A' m' c' ∧ m ≤ 1099511627776 ∧ m' ≤ 1099511627776 ∧ Hid (Po wr w.heap.size A m c M ∧ Po wr w.heap.size A' m' c' M') ∧
    Hid (Pm.Pn p M ∧ Pm.Pn p M' ∧ ∀ G, Pm.Gc p M M' G → Pm.Gc p M1 M2 G) ∧ Hid (Below w.heap.size w wr)) (fun _ bv _ => slLen bv)
  case atStart => exact ⟨A1, A2, n1, c1, n2, c2, M1, M2, rfl, rfl, by omega, by omega, Lib.hid ⟨HP1.out, HP2.out⟩, Lib.hid ⟨hM1.out.1, hM2.out.1, fun G hG => hG⟩, HB2⟩
  case round =>
    obtain ⟨B, B', m, d, m', d', M, M', rfl, rfl, hm, hm', hPo, hI, hB⟩ := hrel
    have HLM := Lib.hid hPo.out.2.len
    rcases Nat.eq_zero_or_pos m' with h1 | h1
    · have hM0 : M' = [] := List.eq_nil_of_length_eq_zero (by rw [HLM.out, h1])
      subst h1 hM0
      go_wp2_with fail
      refine (rMonic_any p HP.out hp hPo.out.1.rd (by omega)).mono ?_
      rintro _ w3 ⟨A3, n3, c3, G, rfl, hp3, hG, hb3⟩
      have HF := Lib.hid (hB.out.trans (hb3.mono hB.out.size))
      have HP3 := Lib.hid (hp3.base hB.out.size)
      have HG := Lib.hid (show GcOf p L L' G by
        obtain ⟨N, hN, hmo⟩ := hG.out
        obtain rfl := hN.1.ext h0 hI.out.1 hN.2
        exact ⟨M1, M2, hM1.out, hM2.out, hI.out.2.2 G (Pm.Gc.done hmo)⟩)
      go_wp2
      go_ret
      exact ⟨A3, n3, c3, G, rfl, HP3.out, HG, HF.out⟩
    · go_wp2_with fail
      refine (rDiv_any p HP.out hp hPo.out.1.rd hPo.out.2.rd (by omega) (by omega) (nz_of_pn HP.out hI.out.2.1 (by rw [HLM.out]; exact h1))).mono ?_
      rintro _ w3 ⟨A3, A4, n3, c3, n4, c4, Q, R, N, N', rfl, hp3, hp4, hD, hb3⟩
      have HRM := Lib.hid (show Pm.Rm p M M' R by
        obtain ⟨hQ, hR, hN, hN', hdv⟩ := hD.out
        obtain rfl := hN.1.ext h0 hI.out.1 hN.2
        obtain rfl := hN'.1.ext h0 hI.out.2.1 hN'.2
        exact ⟨hR, Pm.co Q, Pm.Fn.co Q, hdv⟩)
      have hlt : n4 < m' := by
        have e1 := HRM.out.short HP.out (by rw [HLM.out]; exact h1)
        rw [hp4.len, HLM.out] at e1
        exact e1
      have HPP := Lib.hid (And.intro (hPo.out.2.next hb3) (hp4.base hB.out.size))
      have HB3 := Lib.hid (hB.out.trans (hb3.mono hB.out.size))
      have HI := Lib.hid (show Pm.Pn p M' ∧ Pm.Pn p R ∧ ∀ G, Pm.Gc p M' R G → Pm.Gc p M1 M2 G from ⟨hI.out.2.1, HRM.out.1, fun G hG => hI.out.2.2 G (Pm.Gc.step (by rw [HLM.out]; exact h1) HRM.out hG)⟩)
      go_wp2
      go_roundw
      case rel => exact ⟨B', A4, m', d', n4, c4, M', R, rfl, rfl, hm', by omega, HPP, HI, HB3⟩
      case measure => simp [slLen]; exact hlt

theorem mderive_dv {A : Option Addr} {n c : Nat} {L : List Nat} {w : World} (p : Nat) (h0 : 0 < p) (hp : p < 4294967296) (h : RdU w w.heap.size A n c L) (hn : n ≤ 17592186044416) :
    Calls Tryz.prog 46 #[.agg #[.int .u64 p], .slice A n c] w (RetPo p (Pm.dv (Pm.co L)) w) := mderive_any p h0 hp h hn
set_option maxRecDepth 100000 in
set_option maxHeartbeats 1000000 in
theorem mDeriv_ok {A : Option Addr} {n c : Nat} {L : List Nat} {w : World} (p : Nat) (hpr : Nt.Pr p) (hp : p < 4294967296) (h : RdU w w.heap.size A n c L) (hn : n ≤ 1099511627776) (hT : Tabs w) :
    Calls Tryz.prog 25 #[.slice A n c, .int .u32 p] w (RetPE (fun R => Pm.Pn p R ∧ Pm.Cg p (Pm.co R) (Pm.dv (Pm.co L))) w) := by
  have HA := Lib.hid (mall1_any p hpr hp h hn hT)
  have HPR := Lib.hid hpr
  have h0 := hpr.pos
  have hpn : ¬ p = 0 := by omega
  clear hpr
  go_enter Tryz.func25, Tryz.ntmps25
  go_wp2_with fail
  refine HA.out.mono ?_
  rintro _ w1 ⟨g, A1, n1, c1, M1, rfl, hg, hcg0, hp1, hM, hn1, hb1⟩
  have hB2 := below1 w1 (.cells #[.int .u64 p] 51)
  have HC0 := Lib.hid ((hB2.cell (p := ⟨g, 0, none⟩) hg).trans hcg0)
  have hP1 := hp1.next hB2
  have HB := Lib.hid (hb1.trans (hB2.mono hb1.size))
  have hsz : w1.heap.size < (w1.alloc (.cells #[.int .u64 p] 51)).heap.size := by simp
  have HCB := Lib.hid (show (w1.alloc (.cells #[.int .u64 p] 51)).cell? ⟨w1.heap.size, 0, none⟩ = some (.int .u64 p) by go_simp)
  have hT2 := hT.below HB.out
  clear hcg0 hB2 hp1
  go_wp2_with fail
  generalize w1.alloc (.cells #[.int .u64 p] 51) = W2 at HC0 HCB hP1 HB hsz hT2 ⊢
  have hgl : g < W2.heap.size := Nat.lt_trans hg hsz
  have hc0 := HC0.out
  have hcb := HCB.out
  have HE := Lib.hid (mderive_dv p h0 hp hP1.rd.drew (by omega))
  have HSZ := Lib.hid (HB.out.size)
  go_region_held3 (fun w' => w'.cell? ⟨w1.heap.size, 0, none⟩ = some (.int .u64 p) ∧ w'.cell? ⟨g, 0, none⟩ = some (.slice A1 n1 c1)) (go_keep)
    (first
      | (go_at_call 46; refine HE.out.mono ?_; rintro _ w3 ⟨A3, n3, c3, M3, rfl, hp3, hM3, hb3⟩; have hcb3 := (hb3.cell (p := ⟨w1.heap.size, 0, none⟩) hsz).trans hcb; have hc03 := (hb3.cell (p := ⟨g, 0, none⟩) hgl).trans hc0)
      | (go_at_call 32; refine (mtold_any hp3).mono ?_; rintro _ _ ⟨A4, c4, rfl, hp4, rfl⟩))
  have HF := Lib.hid (HB.out.drew.trans (hb3.mono HB.out.size))
  have HP4 := Lib.hid (hp4.base HSZ.out)
  have HM3 := Lib.hid (pn_cg hM3.out (Pm.dv_cg hM.out.2))
  clear hcb3 hc03
  go_wp2
  go_ret2
  exact ⟨A4, n3, c4, M3, rfl, HP4.out, HM3.out, HF.out⟩

/-- Is there a square in it? -/
def FreeIs (p : Nat) (L : List Nat) (b : Bool) (code : Int) : Prop :=
  (code = 70 ∧ b = false ∧ ∃ M, Pm.Pn p M ∧ Pm.Cg p (Pm.co M) (Pm.co L) ∧ M = []) ∨
  (code = 0 ∧ ∃ M D G, Pm.Pn p M ∧ Pm.Cg p (Pm.co M) (Pm.co L) ∧ M ≠ [] ∧ Pm.Pn p D ∧ Pm.Cg p (Pm.co D) (Pm.dv (Pm.co L)) ∧ Pm.Gc p M D G ∧ b = (G.length == 1))
def RetFree (p : Nat) (L : List Nat) (w : World) (e : Ending) (w' : World) : Prop :=
  ∃ (b : Bool) (code : Int), e = .returned (.tuple #[.bool b, .int .i64 code]) ∧ Hid (FreeIs p L b code) ∧ Below w.heap.size w w'
set_option maxRecDepth 100000 in
set_option maxHeartbeats 1000000 in
theorem mFree_ok {A : Option Addr} {n c : Nat} {L : List Nat} {w : World} (p : Nat) (hpr : Nt.Pr p) (hp : p < 4294967296) (h : RdU w w.heap.size A n c L) (hn : n ≤ 1099511627776) (hT : Tabs w) :
    Calls Tryz.prog 26 #[.slice A n c, .int .u32 p] w (RetFree p L w) := by
  have HA := Lib.hid (mall1_any p hpr hp h hn hT)
  have HPR := Lib.hid hpr
  have h0 := hpr.pos
  have hpn : ¬ p = 0 := by omega
  clear hpr
  go_enter Tryz.func26, Tryz.ntmps26
  go_wp2_with fail
  refine HA.out.mono ?_
  rintro _ w1 ⟨g, A1, n1, c1, M1, rfl, hg, hcg0, hp1, hM, hn1, hb1⟩
  have hB2 := below1 w1 (.cells #[.int .u64 p] 51)
  have HC0 := Lib.hid ((hB2.cell (p := ⟨g, 0, none⟩) hg).trans hcg0)
  have hP1 := hp1.next hB2
  have HB := Lib.hid (hb1.trans (hB2.mono hb1.size))
  have hsz : w1.heap.size < (w1.alloc (.cells #[.int .u64 p] 51)).heap.size := by simp
  have HCB := Lib.hid (show (w1.alloc (.cells #[.int .u64 p] 51)).cell? ⟨w1.heap.size, 0, none⟩ = some (.int .u64 p) by go_simp)
  have hT2 := hT.below HB.out
  clear hcg0 hB2 hp1
  have HL1 := Lib.hid hP1.len
  have hc0 := HC0.out
  rcases Nat.eq_zero_or_pos n1 with hn0 | hn0
  · have hM0 : M1 = [] := List.eq_nil_of_length_eq_zero (by rw [HL1.out, hn0])
    subst hn0 hM0
    go_wp2
    go_ret2
    exact ⟨false, 70, rfl, Lib.hid (.inl ⟨rfl, rfl, [], hM.out.1, hM.out.2, rfl⟩), HB.out⟩
  · have h1 : ((n1 : Int) == 0) = false := by simp; omega
    go_wp2_with fail
    clear hc0
    generalize w1.alloc (.cells #[.int .u64 p] 51) = W2 at HC0 HCB hP1 HB hsz hT2 ⊢
    have hgl : g < W2.heap.size := Nat.lt_trans hg hsz
    have hc0 := HC0.out
    have hcb := HCB.out
    have HE := Lib.hid (mderive_dv p h0 hp hP1.rd.drew (by omega))
    have HR1 := Lib.hid (show RdU W2.drew W2.drew.heap.size A1 n1 c1 M1 from hP1.rd.drew)
    have HT2 := Lib.hid (show Tabs W2.drew from hT2.drew)
    go_region_held3 (fun w' => w'.cell? ⟨w1.heap.size, 0, none⟩ = some (.int .u64 p) ∧ w'.cell? ⟨g, 0, none⟩ = some (.slice A1 n1 c1)) (go_keep)
      (first
        | (go_at_call 46; refine HE.out.mono ?_; rintro _ w3 ⟨A3, n3, c3, M3, rfl, hp3, hM3, hb3⟩; have hcb3 := (hb3.cell (p := ⟨w1.heap.size, 0, none⟩) hsz).trans hcb; have hc03 := (hb3.cell (p := ⟨g, 0, none⟩) hgl).trans hc0; have hn3 : n3 ≤ n1 := by { rw [← hp3.len, ← HL1.out]; exact hM3.out.1.short h0 fun k hk => (hM3.out.2 k).trans (Pm.dv_up (n := M1.length) ((Pm.co_up M1).mono (by omega)) k hk) })
        | (go_at_call 47; refine (mgcd_any p HPR.out hp (HR1.out.next hb3) hp3.rd (by omega) (by omega) hM.out.1 hM3.out.1 (HT2.out.below hb3)).mono ?_; rintro _ w4 ⟨A4, n4, c4, G, rfl, hp4, hG, hb4⟩; have hcb4 := (hb4.cell (p := ⟨w1.heap.size, 0, none⟩) (Nat.lt_of_lt_of_le hsz hb3.size)).trans hcb3; have hc04 := (hb4.cell (p := ⟨g, 0, none⟩) (Nat.lt_of_lt_of_le hgl hb3.size)).trans hc03))
    have HF := Lib.hid (HB.out.drew.trans ((hb3.trans (hb4.mono hb3.size)).mono HB.out.size))
    have HL4 := Lib.hid hp4.len
    have HFR := Lib.hid (show FreeIs p L (G.length == 1) 0 from .inr ⟨rfl, M1, M3, G, hM.out.1, hM.out.2, fun h => by rw [h] at HL1; have := HL1.out; simp at this; omega, hM3.out.1, hM3.out.2.trans (Pm.dv_cg hM.out.2), hG.out, rfl⟩)
    have HBB := Lib.hid (show ((n4 : Int) == 1) = (G.length == 1) by rw [HL4.out]; exact Bool.eq_iff_iff.2 (by simp; omega))
    clear hcb3 hc03 hcb4 hc04
    go_wp2
    go_ret2
    exact ⟨G.length == 1, 0, by rw [← HBB.out]; rfl, HFR, HF.out⟩
end Go.Proofs.YtmgacikdgbedfaaGreatDoor

/- The law ModpolyValues. -/
namespace Go.Proofs.YtmgacikdgbedfaaGreatDoor
open Go.RowKit Go.IntWalk
attribute [local go_sem ↓] Go.wp_at_zero Go.wp_at_succ

set_option maxRecDepth 100000 in
set_option maxHeartbeats 2000000 in
theorem values_none {A : Option Addr} {n c : Nat} {L : List Nat} {w : World} (h : RdU w w.heap.size A n c L) (hn : n ≤ 1048576) (x : Nat) (p : Nat) (hp : p < 4294967296) (hpr : ¬ Nt.Pr p) (hT : Tabs w) :
    Calls Tryz.prog 4 #[.slice A n c, .int .u32 x, .int .u32 p] w (RetT w) := by
  have HP := Lib.hid hpr
  have HR := Lib.hid h
  clear hpr h
  go_enter Tryz.func4, Tryz.ntmps4
  go_wp2_with fail
  refine (good_any p hp _).mono ?_
  rintro _ _ ⟨rfl, q, code, rfl, hq⟩
  rcases hq.out with ⟨h1, _⟩ | ⟨_, rfl, rfl⟩
  · exact absurd h1 HP.out
  go_wp2_with fail
  refine (mEval_none p HP.out hp hT).mono ?_
  rintro _ w1 ⟨rfl, hb1⟩
  go_wp2_with fail
  refine (mDeriv_none p HP.out hp (hT.below hb1)).mono ?_
  rintro _ w2 ⟨rfl, hb2⟩
  have HB2 := Lib.hid (hb1.trans (hb2.mono hb1.size))
  clear hb1 hb2
  go_wp2_with fail
  refine (mFree_none p HP.out hp (hT.below HB2.out)).mono ?_
  rintro _ w3 ⟨rfl, hb3⟩
  have HB3 := Lib.hid (HB2.out.trans (hb3.mono HB2.out.size))
  clear hb3
  go_wp2_with fail
  refine (rDeriv_any 7 (by omega) (by omega) (HR.out.next HB3.out) hn).mono ?_
  rintro _ w4 ⟨A4, n4, c4, W, rfl, hp4, hW, hb4⟩
  have HB4 := Lib.hid (HB3.out.trans (hb4.mono HB3.out.size))
  clear hb4 hp4
  go_wp2_with fail
  refine (num_any _ _).mono ?_
  rintro _ _ ⟨z, rfl, hz, rfl⟩
  obtain rfl := hz.out
  go_wp2_with fail
  refine (ltold_err 40 (by omega) _).mono ?_
  rintro _ _ ⟨rfl, j, rfl⟩
  have HB5 := Lib.hid (below_drewN HB4.out j)
  generalize w4.drewN j = W5 at HB5 ⊢
  go_wp2_with fail
  refine (num_any _ _).mono ?_
  rintro _ _ ⟨z, rfl, hz2, rfl⟩
  obtain rfl := hz2.out
  go_wp2_with fail
  refine (awake_any W5 (hT.below HB5.out)).mono ?_
  rintro _ w6 ⟨rfl, hb6⟩
  have HB6 := Lib.hid (HB5.out.trans (hb6.mono HB5.out.size))
  go_wp2
  go_ret
  exact ⟨rfl, HB6.out⟩

set_option maxRecDepth 100000 in
set_option maxHeartbeats 4000000 in
theorem values_ok {A : Option Addr} {n c : Nat} {L : List Nat} {w : World} (h : RdU w w.heap.size A n c L) (hn : n ≤ 1048576) (x : Nat) (hx : x < 4294967296) (p : Nat) (hp : p < 4294967296) (hpr : Nt.Pr p) (hT : Tabs w) :
    Calls Tryz.prog 4 #[.slice A n c, .int .u32 x, .int .u32 p] w (RetT w) := by
  have HP := Lib.hid hpr
  have h0 := hpr.pos
  have HR := Lib.hid h
  clear hpr h
  go_enter Tryz.func4, Tryz.ntmps4
  go_wp2_with fail
  refine (good_any p hp _).mono ?_
  rintro _ _ ⟨rfl, q, code, rfl, hq⟩
  rcases hq.out with ⟨_, rfl, rfl⟩ | ⟨h1, _⟩
  rotate_left
  · exact absurd HP.out h1
  clear hq
  go_wp2_with fail
  refine (mEval_ok x q hx HP.out hp HR.out (by omega) hT).mono ?_
  rintro _ w1 ⟨v, rfl, hv, hvz, hb1⟩
  have HR1 := Lib.hid (HR.out.next hb1)
  go_wp2_with fail
  refine (mDeriv_ok q HP.out hp HR1.out (by omega) (hT.below hb1)).mono ?_
  rintro _ w2 ⟨A2, n2, c2, D, rfl, hp2, hD, hb2⟩
  have HB2 := Lib.hid (hb1.trans (hb2.mono hb1.size))
  have HP2 := Lib.hid hp2.rd
  have HR2 := Lib.hid (HR1.out.next hb2)
  clear hb1 hb2 hp2 HR1
  go_wp2_with fail
  refine (mFree_ok q HP.out hp HR2.out (by omega) (hT.below HB2.out)).mono ?_
  rintro _ w3 ⟨b, code, rfl, hF, hb3⟩
  have HB3 := Lib.hid (HB2.out.trans (hb3.mono HB2.out.size))
  have HP3 := Lib.hid (HP2.out.next hb3)
  have HR3 := Lib.hid (HR2.out.next hb3)
  clear hb3 HP2 HR2 HB2
  go_wp2_with fail
  refine (rDeriv_any q h0 hp HR3.out hn).mono ?_
  rintro _ w4 ⟨A4, n4, c4, W, rfl, hp4, hW, hb4⟩
  have HB4 := Lib.hid (HB3.out.trans (hb4.mono HB3.out.size))
  have HP4 := Lib.hid (HP3.out.next hb4)
  have HR4 := Lib.hid (HR3.out.next hb4)
  have HW4 := Lib.hid hp4.rd
  have HDW := Lib.hid (show D = W from hD.out.1.ext h0 hW.out.1 (hD.out.2.trans hW.out.2.symm))
  clear hb4 HP3 HR3 HB3 hp4
  go_wp2_with fail
  refine (rEval_any x q hx h0 hp HR4.out (by omega)).mono ?_
  rintro _ w5 ⟨v', rfl, hv', hvz', hb5⟩
  obtain rfl : v = v' := Pm.cz_eq hv hv' (hvz.out.trans hvz'.out.symm)
  have HB5 := Lib.hid (HB4.out.trans (hb5.mono HB4.out.size))
  have HP5 := Lib.hid (HP4.out.next hb5)
  have HR5 := Lib.hid (HR4.out.next hb5)
  have HW5 := Lib.hid (HW4.out.next hb5)
  have hvv : ((v : Int) != (v : Int)) = false := by simp
  clear hb5 HP4 HR4 HB4 HW4
  go_wp2_with fail
  refine (num_any _ _).mono ?_
  rintro _ _ ⟨z, rfl, hz, rfl⟩
  obtain rfl := hz.out
  go_wp2_with fail
  refine (ltold_ok HP5.out HW5.out HDW.out).mono ?_
  rintro _ _ ⟨rfl, j, rfl⟩
  have HB6 := Lib.hid (below_drewN HB5.out j)
  have HR6 := Lib.hid (HR5.out.next (below_quiet w5 j))
  have HW6 := Lib.hid (HW5.out.next (below_quiet w5 j))
  clear HB5 HP5 HR5 HW5
  generalize w5.drewN j = W6 at HB6 HR6 HW6 ⊢
  go_wp2_with fail
  refine (rNorm_any q h0 hp HR6.out (by omega)).mono ?_
  rintro _ w7 ⟨A7, n7, c7, N, rfl, hp7, hN, hb7⟩
  have HB7 := Lib.hid (HB6.out.trans (hb7.mono HB6.out.size))
  have HR7 := Lib.hid (HR6.out.next hb7)
  have HW7 := Lib.hid (HW6.out.next hb7)
  have HL7 := Lib.hid hp7.len
  have hn4 := Lib.hid (show n4 ≤ n by
    rw [← HW7.out.len, ← HR.out.len]
    exact hW.out.1.short h0 fun k hk => (hW.out.2 k).trans (Pm.dv_up (n := L.length) ((Pm.co_up L).mono (by omega)) k hk))
  clear hb7 HB6 HR6 HW6 hp7
  rcases hF.out with ⟨rfl, rfl, M, hM1, hM2, rfl⟩ | ⟨rfl, M, D', G, hM1, hM2, hM3, hD1, hD2, hG, rfl⟩
  · have hn7 : n7 = 0 := by
      have e : N = [] := hN.out.1.ext h0 hM1 (hN.out.2.trans hM2.symm)
      rw [← HL7.out, e]; rfl
    subst hn7
    clear hM1 hM2 hF HL7
    go_wp2_with fail
    refine (num_any _ _).mono ?_
    rintro _ _ ⟨z, rfl, hz2, rfl⟩
    obtain rfl := hz2.out
    go_wp2_with fail
    refine (awake_any w7 (hT.below HB7.out)).mono ?_
    rintro _ w8 ⟨rfl, hb8⟩
    have HB8 := Lib.hid (HB7.out.trans (hb8.mono HB7.out.size))
    go_wp2
    go_ret
    exact ⟨rfl, HB8.out⟩
  · have hn7 : ((n7 : Int) == 0) = false := by
      have e : N = M := hN.out.1.ext h0 hM1 (hN.out.2.trans hM2.symm)
      have h1 : n7 ≠ 0 := fun h => hM3 (by rw [← e]; exact List.eq_nil_of_length_eq_zero (by rw [HL7.out]; exact h))
      simp; omega
    have HG := Lib.hid (show ∀ G', GcOf q L W G' → G = G' by
      intro G' h'
      refine GcOf.unique HP.out ⟨M, D', ⟨hM1, hM2⟩, ⟨hD1, hD2.trans hW.out.2.symm⟩, hG⟩ h')
    obtain ⟨gl, hgl⟩ : ∃ gl, gl = G.length := ⟨_, rfl⟩
    have HGL := Lib.hid hgl
    rw [← hgl]
    clear hM1 hM2 hM3 hD1 hD2 hG hF HL7 hgl
    go_wp2_with fail
    refine (num_any _ _).mono ?_
    rintro _ _ ⟨z, rfl, hz2, rfl⟩
    obtain rfl := hz2.out
    go_wp2_with fail
    refine (rGcd_any q HP.out hp HR7.out HW7.out (by omega) (by have := hn4.out; omega)).mono ?_
    rintro _ w8 ⟨A8, n8, c8, G', rfl, hp8, hG', hb8⟩
    have HB8 := Lib.hid (HB7.out.trans (hb8.mono HB7.out.size))
    have hn8 : n8 = gl := by rw [HGL.out, HG.out G' hG'.out, hp8.len]
    subst hn8
    have HBB := Lib.hid (show ((n8 == 1) == ((n8 : Int) == 1)) = true by
      have : (n8 == 1) = ((n8 : Int) == 1) := Bool.eq_iff_iff.2 (by simp; omega)
      rw [this]; simp)
    have hbb := HBB.out
    clear hb8 hp8
    go_wp2_with fail
    refine (awake_any w8 (hT.below HB8.out)).mono ?_
    rintro _ w9 ⟨rfl, hb9⟩
    have HB9 := Lib.hid (HB8.out.trans (hb9.mono HB8.out.size))
    go_wp2
    go_ret
    exact ⟨rfl, HB9.out⟩
theorem walk_ModpolyValues {A : Option Addr} {n c : Nat} {L : List Nat} {w : World} (h : RdU w w.heap.size A n c L) (_ : A = none → n = 0 ∧ c = 0) (hn : n ≤ 1048576) (x : Nat) (hx : x < 4294967296) (p : Nat) (hp : p < 4294967296) (hT : Tabs w) :
    Calls Tryz.prog 4 #[.slice A n c, .int .u32 x, .int .u32 p] w (RetT w) := by
  by_cases hpr : Nt.Pr p
  · exact values_ok h hn x hx p hp hpr hT
  · exact values_none h hn x p hp hpr hT
end Go.Proofs.YtmgacikdgbedfaaGreatDoor
