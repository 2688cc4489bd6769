/- modpoly: the difference. -/
import Derived.Test.YtmgacikdgbedfaaGreatDoorM13
import Derived.Test.YtmgacikdgbedfaaGreatDoorM4
import Derived.Shelf.Abstract
import Derived.Test.YtmgacikdgbedfaaGreatDoorPm5
import Derived.Test.YtmgacikdgbedfaaGreatDoorS1
import Derived.Test.YtmgacikdgbedfaaGreatDoorM9
import Derived.Test.YtmgacikdgbedfaaGreatDoorM5
import Derived.Test.YtmgacikdgbedfaaGreatDoorM7
import Derived.Test.YtmgacikdgbedfaaGreatDoorPm3
import Derived.Test.YtmgacikdgbedfaaGreatDoorM8
import Derived.Laws.CopyOwn
import Derived.Laws.AppendOwnNone
import Derived.Deep.DeepAppendRoom
import Derived.Test.YtmgacikdgbedfaaGreatDoorPm6
namespace Go.Proofs.YtmgacikdgbedfaaGreatDoor
open Go.RowKit Go.IntWalk
attribute [local go_sem ↓] Go.wp_at_zero Go.wp_at_succ

set_option maxRecDepth 100000 in
set_option maxHeartbeats 1000000 in
theorem mSub_none {A A' : Option Addr} {n c n' c' : Nat} {w : World} (p : Nat) (hpr : ¬ Nt.Pr p) (hp : p < 4294967296) (hT : Tabs w) :
    Calls Tryz.prog 11 #[.slice A n c, .slice A' n' c', .int .u32 p] w (RetNE 40 w) := by
  have HP := Lib.hid hpr
  have hB0 := below1 w (.cells #[.slice A n c, .slice A' n' c'] 23)
  have hT0 := hT.below hB0
  clear hpr
  go_enter Tryz.func11, Tryz.ntmps11
  go_wp2_with fail
  refine (mall_none p HP.out hp hT0).mono ?_
  rintro _ w1 ⟨rfl, hb1⟩
  have HB := Lib.hid ((hB0.trans (hb1.mono hB0.size)).alloc (Nat.le_trans hB0.size hb1.size) (.cells #[.int .u64 0] 51))
  go_wp2
  go_ret2
  exact ⟨rfl, HB.out⟩
set_option maxRecDepth 100000 in
set_option maxHeartbeats 1000000 in
theorem mSub_ok {A A' : Option Addr} {n c n' c' : Nat} {L L' : List Nat} {w : World} (p : Nat) (hpr : Nt.Pr p) (hp : p < 4294967296) (h : RdU w w.heap.size A n c L) (h' : RdU w w.heap.size A' n' c' L') (hn : n ≤ 1099511627776) (hn' : n' ≤ 1099511627776) (hT : Tabs w) :
    Calls Tryz.prog 11 #[.slice A n c, .slice A' n' c', .int .u32 p] w (RetPE (fun R => Pm.Pn p R ∧ Pm.Cg p (Pm.co R) (fun k => Pm.co L k - Pm.co L' k)) w) := by
  have HP := Lib.hid hpr
  have h0 := hpr.pos
  have HDO := Lib.hid (show ∀ (W : World) (x y : Nat), x < p → y < p → Calls Tryz.prog 36 #[.agg #[.int .u64 p], .int .u32 x, .int .u32 y] W (RetC p ((x : Int) - y) W) from fun W x y hx hy => fsub_any p x y h0 hp (by omega) (by omega) W)
  clear hpr
  go_enter Tryz.func11, Tryz.ntmps11
  go_wp2_with fail
  refine (mall2_any p HP.out hp h h' hn hn' hT).mono ?_
  rintro _ w1 ⟨g, A1, n1, c1, M1, A2, n2, c2, M2, rfl, hg, hcg0, hcg1, hp1, hp2, hM, hn1, hn2, hb1⟩
  have hB2 := below1 w1 (.cells #[.int .u64 p] 51)
  have hcb : (w1.alloc (.cells #[.int .u64 p] 51)).cell? ⟨w1.heap.size, 0, none⟩ = some (.int .u64 p) := by go_simp
  have HC0 := Lib.hid ((hB2.cell (p := ⟨g, 0, none⟩) hg).trans hcg0)
  have HC1 := Lib.hid ((hB2.cell (p := ⟨g, 1, none⟩) hg).trans hcg1)
  have hP1 := hp1.next hB2
  have hP2 := hp2.next hB2
  have hT2 := (hT.below hb1).below hB2
  have HB := Lib.hid (hb1.trans (hB2.mono hb1.size))
  have hsz : w1.heap.size < (w1.alloc (.cells #[.int .u64 p] 51)).heap.size := by simp
  have HCB := Lib.hid hcb
  clear hcb hcg0 hcg1 hB2 hp1 hp2
  go_wp2_with fail
  generalize w1.alloc (.cells #[.int .u64 p] 51) = W2 at HC0 HC1 HCB hP1 hP2 hT2 HB hsz ⊢
  have hgl : g < W2.heap.size := Nat.lt_trans hg hsz
  have hc0 := HC0.out
  have hc1 := HC1.out
  have hcb := HCB.out
  have hr1 := hP1.rd.drew
  have hr2 := hP2.rd.drew
  have hTd := hT2.drew
  have HSZ := Lib.hid (HB.out.size)
  have HE := Lib.hid (meach_any (F := fun x y => x - y) p h0 hp (enters_of Tryz.func36 (by kernel_rfl) rfl) HDO.out rfl hr1 hr2 (by omega) (by omega) hM.out.1.2 hM.out.2.2.1.2)
  go_region_held3 (fun w' => w'.cell? ⟨w1.heap.size, 0, none⟩ = some (.int .u64 p) ∧ w'.cell? ⟨g, 0, none⟩ = some (.slice A1 n1 c1) ∧ w'.cell? ⟨g, 1, none⟩ = some (.slice A2 n2 c2)) (go_keep)
    (first
      | (go_at_call 34; refine HE.out.mono ?_; rintro _ w3 ⟨A3, n3, c3, M3, rfl, hp3, hM3, hb3⟩; have hcb3 := (hb3.cell (p := ⟨w1.heap.size, 0, none⟩) hsz).trans hcb; have hc03 := (hb3.cell (p := ⟨g, 0, none⟩) hgl).trans hc0; have hc13 := (hb3.cell (p := ⟨g, 1, none⟩) hgl).trans hc1)
      | (go_at_call 32; refine (mtold_any hp3).mono ?_; rintro _ _ ⟨A4, c4, rfl, hp4, rfl⟩))
  have HF := Lib.hid (HB.out.drew.trans (hb3.mono HB.out.size))
  have HP4 := Lib.hid (hp4.base HSZ.out)
  have HM3 := Lib.hid (pn_cg hM3.out (Pm.Cg.sub hM.out.2.1 hM.out.2.2.2))
  clear hcb3 hc03 hc13
  go_wp2
  go_ret2
  exact ⟨A4, n3, c4, M3, rfl, HP4.out, HM3.out, HF.out⟩
end Go.Proofs.YtmgacikdgbedfaaGreatDoor

/- Polynomials modulo a prime: the p-th power of a sum. Nothing of the program. -/
namespace Pm
open Dg

/-- The binomials. -/
def bi : Nat → Nat → Nat
  | 0, _ => 1
  | _ + 1, 0 => 1
  | i + 1, j + 1 => bi i (j + 1) + bi (i + 1) j
theorem bi_zero (i : Nat) : bi i 0 = 1 := by cases i <;> simp [bi]
theorem bi_one (j : Nat) : bi 1 j = j + 1 := by
  induction j with
  | zero => simp [bi]
  | succ j ih => rw [bi, ih, bi]; omega
theorem bi_up : ∀ i j, (i + 1) * bi (i + 1) j = (i + j + 1) * bi i j
  | 0, j => by rw [bi_one, bi]; omega
  | i + 1, 0 => by rw [bi_zero, bi_zero]
  | i + 1, j + 1 => by
    have h1 := bi_up (i + 1) j
    have h2 := bi_up i (j + 1)
    have e : bi (i + 1) (j + 1) = bi i (j + 1) + bi (i + 1) j := by rw [bi]
    have e2 : bi (i + 1 + 1) (j + 1) = bi (i + 1) (j + 1) + bi (i + 1 + 1) j := by rw [bi]
    rw [e2, Nat.mul_add, h1]
    generalize bi (i + 1) (j + 1) = B at *
    generalize bi i (j + 1) = C at *
    generalize bi (i + 1) j = D at *
    subst e
    grind
theorem bi_dvd {p i j : Nat} (hp : Nt.Pr p) (h : i + 1 + (j + 1) = p) : p ∣ bi (i + 1) (j + 1) := by
  have h1 := bi_up i (j + 1)
  rw [show i + (j + 1) + 1 = p by omega] at h1
  have h2 : p ∣ (i + 1) * bi (i + 1) (j + 1) := ⟨_, h1⟩
  rcases hp.dvd_mul h2 with h3 | h3
  · exact absurd (Nat.le_of_dvd (by omega) h3) (by omega)
  · exact h3
/-- The sum over i + j = n. -/
def sg (f : Nat → Nat → Int) : Nat → Int
  | 0 => f 0 0
  | n + 1 => f 0 (n + 1) + sg (fun i j => f (i + 1) j) n
theorem sg_right (f : Nat → Nat → Int) (n : Nat) : sg f (n + 1) = sg (fun i j => f i (j + 1)) n + f (n + 1) 0 := by
  induction n generalizing f with
  | zero => simp [sg]
  | succ n ih => rw [sg, ih, sg]; omega
theorem sg_add (f g : Nat → Nat → Int) (n : Nat) : sg (fun i j => f i j + g i j) n = sg f n + sg g n := by
  induction n generalizing f g with
  | zero => simp [sg]
  | succ n ih =>
    rw [sg, ih (fun i j => f (i + 1) j) (fun i j => g (i + 1) j)]
    simp only [sg]
    omega
theorem sg_congr {f g : Nat → Nat → Int} {n : Nat} (h : ∀ i j, i + j = n → f i j = g i j) : sg f n = sg g n := by
  induction n generalizing f g with
  | zero => exact h 0 0 rfl
  | succ n ih => rw [sg, sg, h 0 (n + 1) (by omega), ih fun i j e => h (i + 1) j (by omega)]
theorem sg_cz {p : Nat} {f : Nat → Nat → Int} {n : Nat} (h : ∀ i j, i + j = n → cz p (f i j) 0) : cz p (sg f n) 0 := by
  induction n generalizing f with
  | zero => exact h 0 0 rfl
  | succ n ih =>
    have := (h 0 (n + 1) (by omega)).add (ih fun i j e => h (i + 1) j (by omega))
    rwa [Int.add_zero] at this
theorem cv_sg (u : Nat → Int) (F : Nat → Nat → Nat → Int) (n k : Nat) : cv u (fun k => sg (fun i j => F i j k) n) k = sg (fun i j => cv u (F i j) k) n := by
  induction n generalizing F with
  | zero => rfl
  | succ n ih =>
    have e : (fun k => sg (fun i j => F i j k) (n + 1)) = fun k => F 0 (n + 1) k + sg (fun i j => F (i + 1) j k) n := rfl
    rw [e, cv_add_right, ih fun i j => F (i + 1) j, sg]
theorem cv_scale (x : Int) (u v : Nat → Int) (k : Nat) : cv u (fun i => x * v i) k = x * cv u v k := by rw [cv_comm, cv_smul_left, cv_comm]
/-- The binomial theorem. -/
theorem pw_sum (u v : Nat → Int) (n k : Nat) : pw (fun i => u i + v i) n k = sg (fun i j => (bi i j : Int) * cv (pw u i) (pw v j) k) n := by
  induction n generalizing k with
  | zero => simp [pw, sg, bi, cv_one]
  | succ n ih =>
    have e : pw (fun i => u i + v i) n = fun k => sg (fun i j => (bi i j : Int) * cv (pw u i) (pw v j) k) n := funext ih
    rw [pw, e, cv_add_left, cv_sg, cv_sg]
    have e1 : sg (fun i j => cv u (fun k => (bi i j : Int) * cv (pw u i) (pw v j) k) k) n = sg (fun i j => (if i = 0 then 0 else (bi (i - 1) j : Int)) * cv (pw u i) (pw v j) k) (n + 1) := by
      rw [sg]
      simp only [if_pos, Int.zero_mul, Int.zero_add]
      refine sg_congr fun i j _ => ?_
      rw [cv_scale, if_neg (by omega), Nat.add_sub_cancel, pw, cv_assoc]
    have e2 : sg (fun i j => cv v (fun k => (bi i j : Int) * cv (pw u i) (pw v j) k) k) n = sg (fun i j => (if j = 0 then 0 else (bi i (j - 1) : Int)) * cv (pw u i) (pw v j) k) (n + 1) := by
      rw [sg_right]
      simp only [if_pos, Int.zero_mul, Int.add_zero]
      refine sg_congr fun i j _ => ?_
      rw [cv_scale, if_neg (by omega), Nat.add_sub_cancel, pw, ← cv_assoc, ← cv_assoc]
      congr 1
      rw [show cv v (pw u i) = cv (pw u i) v from funext fun x => cv_comm _ _ x]
    rw [e1, e2, ← sg_add]
    refine sg_congr fun i j hij => ?_
    rw [← Int.add_mul]
    congr 1
    match i, j with
    | 0, 0 => omega
    | 0, j + 1 => simp [bi]
    | i + 1, 0 => simp [bi_zero]
    | i + 1, j + 1 => simp [bi]
/-- The p-th power of a sum. -/
theorem pw_fresh {p : Nat} (hp : Nt.Pr p) (u v : Nat → Int) : Cg p (pw (fun i => u i + v i) p) (fun k => pw u p k + pw v p k) := fun k => by
  rw [pw_sum]
  obtain ⟨l, rfl⟩ : ∃ l, p = l + 1 + 1 := ⟨p - 2, by have := hp.two_le; omega⟩
  rw [sg, sg_right]
  have h0 : cz (l + 1 + 1) (sg (fun i j => (bi (i + 1) (j + 1) : Int) * cv (pw u (i + 1)) (pw v (j + 1)) k) l) 0 := sg_cz fun i j hij => by
    obtain ⟨c, hc⟩ := bi_dvd (i := i) (j := j) hp (by omega)
    unfold cz
    rw [Int.sub_zero, hc]
    exact ⟨c * cv (pw u (i + 1)) (pw v (j + 1)) k, by rw [Int.natCast_mul, Int.mul_assoc]⟩
  have h1 := ((cz.refl (p := l + 1 + 1) ((bi 0 (l + 1 + 1) : Int) * cv (pw u 0) (pw v (l + 1 + 1)) k)).add (h0.add (cz.refl ((bi (l + 1 + 1) 0 : Int) * cv (pw u (l + 1 + 1)) (pw v 0) k))))
  refine h1.trans (cz.of_eq ?_)
  rw [bi_zero, show bi 0 (l + 1 + 1) = 1 by simp [bi], show pw u 0 = mono 1 0 from rfl, show pw v 0 = mono 1 0 from rfl, cv_one, cv_comm (pw u (l + 1 + 1)), cv_one]
  dsimp only
  omega
theorem pw_cv (f g : Nat → Int) : ∀ n, pw (cv f g) n = cv (pw f n) (pw g n)
  | 0 => by funext k; rw [pw, pw, pw, cv_one]
  | n + 1 => by
    funext k
    rw [pw, pw_cv f g n, pw, pw, cv_assoc, cv_assoc]
    congr 1
    funext j
    rw [← cv_assoc, ← cv_assoc]
    congr 1
    funext i
    exact cv_comm _ _ i
theorem pw_const (a : Int) : ∀ n, pw (mono a 0) n = mono (a ^ n) 0
  | 0 => by simp [pw]
  | n + 1 => by
    funext k
    rw [pw, pw_const a n, cv_mono]
    unfold mono
    simp only [Nat.zero_le, if_true, Nat.sub_zero]
    by_cases hk : k = 0
    · rw [if_pos hk, if_pos hk, Int.pow_succ, Int.mul_comm]
    · rw [if_neg hk, if_neg hk, Int.mul_zero]
/-- A polynomial at x^p. -/
def at_p (p : Nat) : List Nat → Nat → Int
  | [] => fun _ => 0
  | a :: L => fun k => mono a 0 k + cv (mono 1 p) (at_p p L) k
theorem co_cons (a : Nat) (L : List Nat) : co (a :: L) = fun k => mono a 0 k + cv (mono 1 1) (co L) k := funext fun k => by
  rw [cv_mono]
  cases k with
  | zero => simp [co, mono, ld]
  | succ k => simp [co, mono, ld]
theorem freshman {p : Nat} (hp : Nt.Pr p) : ∀ L : List Nat, Cg p (pw (co L) p) (at_p p L)
  | [] => fun k => by
    have : co [] = mono 0 0 := funext fun k => by simp [co, mono, ld]
    rw [this, pw_const, Int.zero_pow (by have := hp.pos; omega)]
    exact cz.of_eq (by simp [mono, at_p])
  | a :: L => by
    rw [co_cons]
    refine (pw_fresh hp _ _).trans fun k => ?_
    rw [pw_const, pw_cv, show pw (mono 1 1) p = mono 1 p from funext (pw_mono p)]
    refine cz.add ?_ (Cg.cv (Cg.refl _) (freshman hp L) k)
    unfold mono
    by_cases hk : k = 0
    · rw [if_pos hk, if_pos hk]
      have h := Nt.fermat_all (a := a) hp
      have h1 := (cz_mod (p := p) (a ^ p)).symm
      rw [h] at h1
      have h2 := h1.trans (cz_mod (p := p) a)
      rwa [Int.natCast_pow] at h2
    · rw [if_neg hk, if_neg hk]; exact cz.refl _
end Pm

/- modpoly: Pow; the reference's sum. -/
namespace Go.Proofs.YtmgacikdgbedfaaGreatDoor
open Go.RowKit Go.IntWalk
attribute [local go_sem ↓] Go.wp_at_zero Go.wp_at_succ

/-- Pow's answer: an error just where the modulus is nought. -/
def RetPow (p E : Nat) (L L' : List Nat) (w : World) (e : Ending) (w' : World) : Prop := (RetNE 70 w e w' ∧ Hid (Pm.Cg p (Pm.co []) (Pm.co L'))) ∨ RetPE (fun R => ∃ M M', (Pm.Pn p M ∧ Pm.Cg p (Pm.co M) (Pm.co L)) ∧ (Pm.Pn p M' ∧ Pm.Cg p (Pm.co M') (Pm.co L')) ∧ 0 < M'.length ∧ Pq p M E M' R) w e w'
set_option maxHeartbeats 1000000 in
theorem rAt_any {A : Option Addr} {B n c : Nat} {L : List Nat} {w : World} (h : RdU w B A n c L) (i : Nat) :
    Calls Tryz.prog 42 #[.slice A n c, .int .i64 i] w (RetU .u32 (Dg.ld L i) w) := by
  have hl := h.len
  by_cases hi : i < n
  · obtain ⟨hx, ad, rfl, _, hc⟩ := h.at_ i _ (Dg.get_of_ld (by omega))
    have hlt : (i : Int) < n := by omega
    clear hl h
    go_enter Tryz.func42, Tryz.ntmps42
    go_wp2
    go_ret
    exact ⟨_, rfl, Lib.hid rfl, rfl⟩
  · have hlt : ¬ (i : Int) < n := by omega
    have he : Dg.ld L i = 0 := Dg.ld_ge (by omega)
    rw [he]
    clear hl h he
    go_enter Tryz.func42, Tryz.ntmps42
    go_wp2
    go_ret
    exact ⟨0, rfl, Lib.hid rfl, rfl⟩
/-- The sums. -/
def ads (p : Nat) (L L' : List Nat) (k : Nat) : List Nat := (List.range k).map fun i => (Dg.ld L i + Dg.ld L' i) % p
theorem ads_more (p : Nat) (L L' : List Nat) (k : Nat) : ads p L L' k ++ [(Dg.ld L k + Dg.ld L' k) % p] = ads p L L' (k + 1) := by
  unfold ads; rw [List.range_succ]; simp
theorem ads_cg (p : Nat) {L L' : List Nat} {k : Nat} (h : L.length ≤ k) (h' : L'.length ≤ k) : Pm.Cg p (Pm.co (ads p L L' k)) (fun i => Pm.co L i + Pm.co L' i) := fun i => by
  unfold Pm.co ads
  dsimp only
  by_cases hi : i < k
  · rw [Dg.ld_lt (by simpa using hi), List.getElem_map, List.getElem_range]
    have := Pm.cz_mod (p := p) (Dg.ld L i + Dg.ld L' i)
    rwa [Int.natCast_add] at this
  · rw [Dg.ld_ge (by simp; omega), Dg.ld_ge (by omega), Dg.ld_ge (by omega)]
    exact Pm.cz.of_eq (by simp)
theorem ld_w {L : List Nat} (h : Dg.Wd L) (i : Nat) : Dg.ld L i < 4294967296 := by
  by_cases hi : i < L.length
  · rw [Dg.ld_lt hi]; exact h _ (List.getElem_mem hi)
  · rw [Dg.ld_ge (by omega)]; omega
set_option maxRecDepth 100000 in
set_option maxHeartbeats 4000000 in
theorem rAdd_any {A A' : Option Addr} {n c n' c' : Nat} {L L' : List Nat} {w : World} (p : Nat) (h0 : 0 < p) (hp : p < 4294967296) (h : RdU w w.heap.size A n c L) (h' : RdU w w.heap.size A' n' c' L') (hn : n ≤ 17592186044416) (hn' : n' ≤ 17592186044416) :
    Calls Tryz.prog 18 #[.slice A n c, .slice A' n' c', .int .u32 p] w (RetPo p (fun k => Pm.co L k + Pm.co L' k) w) := by
  have HLEN := Lib.hid h.len
  have HLEN' := Lib.hid h'.len
  have HR := Lib.hid h
  have HR' := Lib.hid h'
  have HW := Lib.hid (And.intro h.wd h'.wd)
  obtain ⟨i0, hi0, hz0, hz1, hz2⟩ := info_parts infoU
  clear h h'
  go_enter Tryz.func18, Tryz.ntmps18
  go_wp2_with fail
  go_loopw [7, 8] (fun v kv wr => ∃ (k : Nat) (A0 : Option Addr) (c0 : Nat), kv = .int .i64 k ∧ v = .slice A0 k c0 ∧ k ≤ max n n' ∧ Hid (OwU wr w.heap.size A0 k c0 (ads p L L' k) ∧ Below w.heap.size w wr)) (fun _ kv _ => max n n' - (intOf kv).toNat)
  case atStart => exact ⟨0, none, 0, rfl, rfl, Nat.zero_le _, Lib.hid ⟨OwU.nil _ _, Below.refl _ _⟩⟩
  case round =>
    obtain ⟨k, A0, c0, rfl, rfl, hk, hI⟩ := hrel
    have HOWN := Lib.hid hI.out.1
    have HB := Lib.hid hI.out.2
    clear hI
    by_cases hkn : k < max n n'
    · have HK := Lib.hid (show k ≤ 17592186044416 by omega)
      have STEP : Hid (∀ (K : Prop), ((k : Int) < n → K) → (¬ (k : Int) < n → (k : Int) < n' → K) → K) := Lib.hid fun K h1 h2 => by
        by_cases e : (k : Int) < n
        · exact h1 e
        · exact h2 e (by omega)
      refine STEP.out _ (fun e1 => ?_) (fun e1 e2 => ?_)
      all_goals
        go_wp2_with fail
        refine (rAt_any (HR.out.below HB.out) k).mono ?_
        rintro _ _ ⟨x, rfl, hx, rfl⟩
        go_wp2_with fail
        refine (rAt_any (HR'.out.below HB.out) k).mono ?_
        rintro _ _ ⟨y, rfl, hy, rfl⟩
        go_wp2_with fail
        refine (refAdd_any x y p rfl rfl rfl (by rw [hx.out]; exact ld_w HW.out.1 k) (by rw [hy.out]; exact ld_w HW.out.2 k) hp h0 _).mono ?_
        rintro _ _ ⟨z, rfl, hz, rfl⟩
        have HM := Lib.hid (ads_more p L L' k)
        have hO1 := HOWN.out.own.alloc (.cells #[.int .u32 z] 24)
        go_wp2_with (at_builtin; refine wpList_append_own _ rfl _ _ 23 rfl w.heap.size 24 i0 (.int .u32 0) 1 4 Tryz.underlying23 hi0 hz0 hz1 hz2 rfl (by decide) _ _ _ rfl hO1 ⟨wr.heap.size, 0, none⟩ 1 1 [.int .u32 z] rfl rfl (World.news_of_block (cs := #[.int .u32 z]) (t := 24) (fr := (0, 0)) (heap_alloc_new wr _)) (by simp [Value.oneCell']) (by have := HK.out; unfold maxLen; omega) (by have := HK.out; omega) (by have := HB.out.size; simp; omega) ?_; intro v' w6 hown' hgrow _)
        have hG : (wr.alloc (.cells #[.int .u32 z] 24)).grownBy w6 (Value.slice A0 k c0).ownBlock := hgrow
        clear hgrow
        obtain ⟨A6, c6, rfl⟩ := row_sl hown'
        have hB1 : Below w.heap.size w (wr.alloc (.cells #[.int .u32 z] 24)) := HB.out.alloc HB.out.size _
        exact ⟨⟨k + 1, A6, c6, by simp, rfl, by omega, Lib.hid ⟨ow_more HOWN.out (by rw [hz.out]; exact Nat.lt_trans (Nat.mod_lt _ h0) hp) rfl (by rw [hz.out, hx.out, hy.out]; exact HM.out) hown', hB1.grown hG hB1.size (own_block hO1)⟩⟩, by simp [intOf]; omega⟩
    · have e1 : ¬ (k : Int) < n := by omega
      have e2 : ¬ (k : Int) < n' := by omega
      have HK := Lib.hid (show k ≤ 17592186044416 by omega)
      have HCG := Lib.hid (ads_cg p (L := L) (L' := L') (k := k) (by rw [HLEN.out]; omega) (by rw [HLEN'.out]; omega))
      go_wp2_with fail
      refine (rNorm_any p h0 hp HOWN.out.rd HK.out).mono ?_
      intro _ w3 h3
      obtain ⟨A3, n3, c3, M3, rfl, hp3, hM3, hb3⟩ := h3.later HB.out
      have HM3 := Lib.hid (pn_cg hM3.out HCG.out)
      go_wp2
      go_ret
      exact ⟨A3, n3, c3, M3, rfl, hp3, HM3.out, hb3⟩
end Go.Proofs.YtmgacikdgbedfaaGreatDoor

/- modpoly: the reference's product. -/
namespace Go.Proofs.YtmgacikdgbedfaaGreatDoor
open Go.RowKit Go.IntWalk
attribute [local go_sem ↓] Go.wp_at_zero Go.wp_at_succ

set_option maxRecDepth 100000 in
set_option maxHeartbeats 4000000 in
theorem rMul_any {A A' : Option Addr} {n c n' c' : Nat} {L L' : List Nat} {w : World} (p : Nat) (h0 : 0 < p) (hp : p < 4294967296)
    (h : RdU w w.heap.size A n c L) (h' : RdU w w.heap.size A' n' c' L') (hn : n ≤ 4398046511104) (hn' : n' ≤ 4398046511104) :
    Calls Tryz.prog 14 #[.slice A n c, .slice A' n' c', .int .u32 p] w (RetPo p (Pm.cv (Pm.co L) (Pm.co L')) w) := by
  have HR := Lib.hid h
  have HR' := Lib.hid h'
  clear h h'
  go_enter Tryz.func14, Tryz.ntmps14
  go_wp2_with fail
  refine (rNorm_any p h0 hp HR.out (by omega)).mono ?_
  rintro _ w1 ⟨A1, n1, c1, M, rfl, hp1, hM1, hb1⟩
  have hn1 := pn_short h0 hM1.out.1 hM1.out.2 hp1 HR.out
  have HB1 := Lib.hid hb1
  have HP1 := Lib.hid hp1
  clear hb1 hp1
  go_wp2_with fail
  refine (rNorm_any p h0 hp (HR'.out.next HB1.out) (by omega)).mono ?_
  rintro _ w2 ⟨A2, n2, c2, M', rfl, hp2, hM2, hb2⟩
  have hn2 := pn_short h0 hM2.out.1 hM2.out.2 hp2 HR'.out
  have HB2 := Lib.hid (HB1.out.trans (hb2.mono HB1.out.size))
  have HP2 := Lib.hid hp2
  have HP1' := Lib.hid (HP1.out.next hb2)
  have HLEN := Lib.hid HP1.out.len
  have HLEN' := Lib.hid hp2.len
  have HCG := Lib.hid (Pm.Cg.cv hM1.out.2 hM2.out.2)
  have h := HP1'.out.rd
  have h' := HP2.out.rd
  clear hb2 hp2 HP1
  rcases Nat.eq_zero_or_pos n1 with hn0 | hn0
  · have HZ := Lib.hid (Pm.cv_none (L := M) (M := M') (.inl (HLEN.out.trans hn0)))
    subst hn0
    go_wp2
    go_ret
    exact ⟨none, 0, 0, [], rfl, Po.nil _ _ 0 none (Nat.zero_le _), Lib.hid ⟨Pm.Pn.nil, fun j => Pm.cz.trans (by rw [HZ.out j, Pm.co_zero (Nat.zero_le _)]; exact Pm.cz.refl _) (HCG.out j)⟩, HB2.out⟩
  · have hz1 : ((n1 : Int) == 0) = false := by simp; omega
    rcases Nat.eq_zero_or_pos n2 with hn0' | hn0'
    · have HZ := Lib.hid (Pm.cv_none (L := M) (M := M') (.inr (HLEN'.out.trans hn0')))
      subst hn0'
      go_wp2
      go_ret
      exact ⟨none, 0, 0, [], rfl, Po.nil _ _ 0 none (Nat.zero_le _), Lib.hid ⟨Pm.Pn.nil, fun j => Pm.cz.trans (by rw [HZ.out j, Pm.co_zero (Nat.zero_le _)]; exact Pm.cz.refl _) (HCG.out j)⟩, HB2.out⟩
    · have hz2 : ((n2 : Int) == 0) = false := by simp; omega
      obtain ⟨m, hm⟩ : ∃ m, m = n1 + n2 - 1 := ⟨_, rfl⟩
      have hmk : ∀ W : World, (Instr.makeSlice 23 (.int .i64 ((n1 : Int) + n2 - 1)) (.int .i64 ((n1 : Int) + n2 - 1))).run Tryz.prog W = .ok (.slice (some ⟨W.heap.size, 0, none⟩) m m) (W.alloc (.cells (madeCells #[.int .u32 0] m) 24)) := fun W => by
        rw [show (n1 : Int) + n2 - 1 = (m : Int) by omega]
        exact make_polys m (by omega) W
      have HM := Lib.hid hm
      clear hm
      go_wp2_with fail
      have HU0 := UB.made w2 m
      have hB0 := below1 w2 (.cells (madeCells #[.int .u32 0] m) 24)
      clear hmk
      generalize w2.alloc (.cells (madeCells #[.int .u32 0] m) 24) = W1 at HU0 hB0 ⊢
      obtain ⟨gb, hgb⟩ : ∃ gb, gb = w2.heap.size := ⟨_, rfl⟩
      have hbb : w2.heap.size ≤ gb := by omega
      rw [← hgb] at HU0 ⊢
      clear hgb
      go_loopw [35] (fun iv wr => ∃ (i : Nat) (O : List Nat), iv = .int .i64 i ∧ i ≤ n1 ∧ UB wr gb O ∧ Hid (O.length = m ∧ Lt p O ∧ AllC p O (Pm.pt (Pm.co M) (Pm.co M') i 0)) ∧ Below w2.heap.size w2 wr) (fun iv _ => n1 - (intOf iv).toNat)
      case atStart => exact ⟨0, _, rfl, Nat.zero_le _, HU0, Lib.hid ⟨by simp, Lt.zeros h0 m, fun j hj => by rw [Pm.pt_zero, Dg.ld_replicate]; exact Pm.cz.refl _⟩, hB0⟩
      case round =>
        clear HU0 hB0
        obtain ⟨i, O, rfl, hi, hU, hO, hB⟩ := hrel
        by_cases hin : i < n1
        · obtain ⟨hx, ad, rfl, hbx, hcx⟩ := h.at_ i _ (Dg.get_of_ld (by rw [HLEN.out]; exact hin))
          have hcx := (hB.cell (p := ad.add i) (by rw [add_blk]; exact hbx)).trans hcx
          obtain ⟨x, ex⟩ : ∃ x, x = Dg.ld M i := ⟨_, rfl⟩
          rw [← ex] at hx hcx
          have EX := Lib.hid ex
          clear ex
          obtain ⟨wo, rfl⟩ : ∃ wo : World, wo = wr := ⟨_, rfl⟩
          go_wp2_with fail
          go_loopw [42] (fun kv wr => ∃ (k : Nat) (O : List Nat), kv = .int .i64 k ∧ k ≤ n2 ∧ UB wr gb O ∧ Hid (O.length = m ∧ Lt p O ∧ AllC p O (Pm.pt (Pm.co M) (Pm.co M') i k)) ∧ Below w2.heap.size w2 wr) (fun kv _ => n2 - (intOf kv).toNat)
          case atStart => exact ⟨0, O, rfl, Nat.zero_le _, hU, hO, hB⟩
          case round =>
            clear hU hO hB hcx
            obtain ⟨k, O, rfl, hk, hU, hO, hB⟩ := hrel
            by_cases hkn : k < n2
            · obtain ⟨hy, ad', rfl, hby, hcy⟩ := h'.at_ k _ (Dg.get_of_ld (by rw [HLEN'.out]; exact hkn))
              have hcy := (hB.cell (p := ad'.add k) (by rw [add_blk]; exact hby)).trans hcy
              obtain ⟨y, ey⟩ : ∃ y, y = Dg.ld M' k := ⟨_, rfl⟩
              rw [← ey] at hy hcy
              have EY := Lib.hid ey
              clear ey
              obtain ⟨t, ht⟩ : ∃ t, t = i + k := ⟨_, rfl⟩
              have htm : t < m := by have := HM.out; omega
              have hs1 : IntKind.i64.wrap ((i : Int) + k) = (t : Int) := by rw [IntWalk.i64_in _ (by omega)]; omega
              have ht0 : (0 : Int) ≤ (t : Int) := by omega
              have ht1 : (t : Int) < (m : Int) := by omega
              have hcell := hU.cell (Dg.get_of_ld (L := O) (i := t) (by rw [hO.out.1]; exact htm))
              have hfz := hU.frozen t
              have hol := hO.out.2.1.ld h0 t
              obtain ⟨o, eo⟩ : ∃ o, o = Dg.ld O t := ⟨_, rfl⟩
              rw [← eo] at hcell hol
              have EO := Lib.hid eo
              have HT := Lib.hid ht
              have hgl := hU.lt
              clear eo ht
              go_wp2_with fail
              go_region_with
                (first
                  | (go_at_call 39; refine (refMul_any x y p rfl rfl rfl hx hy hp h0 _).mono ?_; rintro _ _ ⟨v, rfl, hv, rfl⟩)
                  | (go_at_call 38; refine (refAdd_any o v p rfl rfl rfl (by omega) (by rw [hv.out]; exact Nat.lt_trans (Nat.mod_lt _ h0) hp) hp h0 _).mono ?_; rintro _ _ ⟨u, rfl, hu, rfl⟩))
              all_goals
                have hU2 := (hU.drewN 1).set t u
                have hB2 := hB.drew.setCell (p := ⟨gb, t, none⟩) (by simp; omega) (.int .u32 (u : Int))
                have HX := Lib.hid (And.intro hU2 hB2)
                have HUP := Lib.hid (show u < p by rw [hu.out]; exact Nat.mod_lt _ h0)
                have HZ1 := Lib.hid (show Pm.cz p (v : Int) ((x : Int) * y) by rw [hv.out]; have := Pm.cz_mod (p := p) (x * y); rwa [Int.natCast_mul] at this)
                have HZ2 := Lib.hid (show Pm.cz p (u : Int) ((o : Int) + v) by rw [hu.out]; have := Pm.cz_mod (p := p) (o + v); rwa [Int.natCast_add] at this)
                clear hU2 hB2 hs1
                go_wp2
                go_roundw
                case rel => exact ⟨k + 1, O.set t u, by go_num, hkn, HX.out.1, Lib.hid ⟨by rw [List.length_set]; exact hO.out.1, hO.out.2.1.set t HUP.out, hO.out.2.2.set (by rw [hO.out.1]; exact htm) (times_step HT.out EX.out EY.out EO.out (by rw [hO.out.1]; exact htm) hO.out.2.2 HZ1.out HZ2.out) (fun j hj => Pm.pt_other (by rw [← HT.out]; exact hj))⟩, HX.out.2⟩
                case measure => simp [intOf]; omega
            · obtain rfl : k = n2 := by omega
              have HN := Lib.hid (show AllC p O (Pm.pt (Pm.co M) (Pm.co M') (i + 1) 0) from fun j hj => by
                rw [← Pm.pt_next (fun q hq => Pm.co_zero (by rw [HLEN'.out]; exact hq))]; exact hO.out.2.2 j hj)
              go_wp2
              go_roundw
              case rel => exact ⟨i + 1, O, by go_num, hin, hU, Lib.hid ⟨hO.out.1, hO.out.2.1, HN.out⟩, hB⟩
              case measure => simp [intOf]; omega
        · obtain rfl : i = n1 := by omega
          have HA := Lib.hid (show Pm.Cg p (Pm.co O) (Pm.cv (Pm.co M) (Pm.co M')) from fun j => by
            by_cases hj : j < O.length
            · have := hO.out.2.2 j hj
              rwa [Pm.pt_all (fun q hq => Pm.co_zero (by rw [HLEN.out]; exact hq))] at this
            · rw [Pm.co_zero (by omega)]
              exact (Pm.cv_end (by rw [HLEN.out]; exact hn0) (by rw [HLEN'.out]; exact hn0') (by rw [HLEN.out, HLEN'.out, ← HM.out, ← hO.out.1]; omega)).symm)
          have hmx : m ≤ maxLen := by have := HM.out; unfold maxLen; omega
          have hR := hU.rd (hO.out.2.1.wd hp) (B := wr.heap.size) hU.lt (k := m) (by rw [hO.out.1]; exact Nat.le_refl _) (by rw [hO.out.1]; exact hmx)
          rw [hO.out.1, List.take_of_length_le (by rw [hO.out.1]; exact Nat.le_refl _)] at hR
          have HRO := Lib.hid hR
          have HBB := Lib.hid (HB2.out.trans (hB.mono HB2.out.size))
          have HML := Lib.hid (show m ≤ 17592186044416 by have := HM.out; omega)
          clear hR hU hB
          go_wp2_with fail
          refine (rNorm_any p h0 hp HRO.out HML.out).mono ?_
          intro _ w3 h3
          obtain ⟨A3, n3, c3, M3, rfl, hp3, hM3, hb3⟩ := h3.later HBB.out
          have HM3 := Lib.hid (pn_cg hM3.out (HA.out.trans HCG.out))
          go_wp2
          go_ret
          exact ⟨A3, n3, c3, M3, rfl, hp3, HM3.out, hb3⟩
end Go.Proofs.YtmgacikdgbedfaaGreatDoor

/- modpoly: the reference's division. -/
namespace Go.Proofs.YtmgacikdgbedfaaGreatDoor
open Go.RowKit Go.IntWalk
attribute [local go_sem ↓] Go.wp_at_zero Go.wp_at_succ

/-- The reference's quotient and rest. -/
def RetDR (p : Nat) (L L' : List Nat) (w : World) (e : Ending) (w' : World) : Prop :=
  ∃ (A1 A2 : Option Addr) (n1 c1 n2 c2 : Nat) (Q R M M' : List Nat), e = .returned (.tuple #[.slice A1 n1 c1, .slice A2 n2 c2]) ∧ Po w' w.heap.size A1 n1 c1 Q ∧ Po w' w.heap.size A2 n2 c2 R ∧
    Hid (Pm.Pn p Q ∧ Pm.Pn p R ∧ (Pm.Pn p M ∧ Pm.Cg p (Pm.co M) (Pm.co L)) ∧ (Pm.Pn p M' ∧ Pm.Cg p (Pm.co M') (Pm.co L')) ∧ Pm.Dv p (Pm.co M) (Pm.co M') (Pm.co Q) (Pm.co R) (M'.length - 1)) ∧ Below w.heap.size w w'
theorem po_up {w : World} {b n c : Nat} {A : Option Addr} {L : List Nat} (h : Po w b A n c L) (hn : 0 < n) : ∃ g, A = some ⟨g, 0, none⟩ ∧ b ≤ g ∧ UP w g L := by
  rcases h.at_ with h0 | ⟨g, cur, h1, h2, h3, h4, h5⟩
  · omega
  · exact ⟨g, h1, h2, cur, h3, by rw [h.len]; exact h4, by rw [h.len]; exact h5⟩
theorem cz_sub_nat {p : Nat} (h0 : 0 < p) (o z : Nat) : Pm.cz p ((o % p + p - z % p) % p : Nat) ((o : Int) - z) := by
  have h1 := Nat.mod_lt z h0
  have e : ((o % p + p - z % p : Nat) : Int) = ((o % p : Nat) : Int) + p - ((z % p : Nat) : Int) := by omega
  have h2 := Pm.cz_mod (p := p) (o % p + p - z % p)
  rw [e] at h2
  have h3 : Pm.cz p (p : Int) 0 := ⟨1, by simp⟩
  have h4 := ((Pm.cz_mod (p := p) o).add h3).sub (Pm.cz_mod (p := p) z)
  rw [Int.add_zero] at h4
  exact h2.trans h4
set_option maxRecDepth 100000 in
set_option maxHeartbeats 8000000 in
theorem rDiv_any {A A' : Option Addr} {n c n' c' : Nat} {L L' : List Nat} {w : World} (p : Nat) (hpr : Nt.Pr p) (hp : p < 4294967296)
    (h : RdU w w.heap.size A n c L) (h' : RdU w w.heap.size A' n' c' L') (hn : n ≤ 4398046511104) (hn' : n' ≤ 4398046511104) (hnz : ¬ Pm.Cg p (Pm.co []) (Pm.co L')) :
    Calls Tryz.prog 48 #[.slice A n c, .slice A' n' c', .int .u32 p] w (RetDR p L L' w) := by
  have HP := Lib.hid hpr
  have h0 := hpr.pos
  have h2p := hpr.two_le
  have HR := Lib.hid h
  have HR' := Lib.hid h'
  have HNZ := Lib.hid hnz
  clear hpr h h' hnz
  go_enter Tryz.func48, Tryz.ntmps48
  go_wp2_with fail
  refine (rNorm_any p h0 hp HR.out (by omega)).mono ?_
  rintro _ w1 ⟨A1, n1, c1, M, rfl, hp1, hM1, hb1⟩
  have hn1 := pn_short h0 hM1.out.1 hM1.out.2 hp1 HR.out
  have HB1 := Lib.hid hb1
  have HP1 := Lib.hid hp1
  clear hb1 hp1
  go_wp2_with fail
  refine (rNorm_any p h0 hp (HR'.out.next HB1.out) (by omega)).mono ?_
  rintro _ w2 ⟨A2, n2, c2, M', rfl, hp2, hM2, hb2⟩
  have hn2 := pn_short h0 hM2.out.1 hM2.out.2 hp2 HR'.out
  have HB2 := Lib.hid (HB1.out.trans (hb2.mono HB1.out.size))
  have HP2 := Lib.hid hp2
  have HP1' := Lib.hid (HP1.out.next hb2)
  have HLEN := Lib.hid HP1.out.len
  have HLEN' := Lib.hid hp2.len
  have hpos2 : 0 < n2 := by
    rcases Nat.eq_zero_or_pos n2 with e | e
    · exfalso
      have hl : M' = [] := List.eq_nil_of_length_eq_zero (HLEN'.out.trans e)
      have := hM2.out.2
      rw [hl] at this
      exact HNZ.out this
    · exact e
  have hb2s := hb2.size
  clear hb2 hp2
  rcases Nat.lt_or_ge n1 n2 with hlt | hge
  · go_wp2
    refine bodyPost_ret (v := .tuple #[.slice none 0 0, .slice A1 n1 c1]) (by simp [results, Tryz.results48, go_sem]) rfl ?_
    exact ⟨none, A1, 0, 0, n1, c1, [], M, M, M', rfl, Po.nil _ _ _ _ (Nat.zero_le _), HP1'.out, Lib.hid ⟨Pm.Pn.nil, hM1.out.1, hM1.out, hM2.out, div_zero' (by rw [HLEN.out, HLEN'.out]; exact hlt)⟩, HB2.out⟩
  · obtain ⟨gr, rfl, hgr, hupr⟩ := po_up HP1'.out (by omega)
    obtain ⟨gB, rfl, hgB, hupB⟩ := po_up HP2.out hpos2
    have hgr1 : gr < w1.heap.size := by
      obtain ⟨g', e, _, hup'⟩ := po_up HP1.out (by omega)
      injection e with e
      injection e with e
      subst e
      exact hup'.lt
    obtain ⟨e, he⟩ : ∃ e, Hid (e + n2 = n1) := ⟨n1 - n2, Lib.hid (by omega)⟩
    obtain ⟨j, hj⟩ : ∃ j, Hid (j + 1 = n2) := ⟨n2 - 1, Lib.hid (by omega)⟩
    have hmk : ∀ W : World, (Instr.makeSlice 23 (.int .i64 ((n1 : Int) - n2 + 1)) (.int .i64 ((n1 : Int) - n2 + 1))).run Tryz.prog W = .ok (.slice (some ⟨W.heap.size, 0, none⟩) ((e + 1 : Nat)) ((e + 1 : Nat))) (W.alloc (.cells (madeCells #[.int .u32 0] (e + 1)) 24)) := fun W => by
      rw [show (n1 : Int) - n2 + 1 = ((e + 1 : Nat) : Int) by have := he.out; omega]
      exact make_polys (e + 1) (by have := he.out; omega) W
    have he1 : e ≤ 4398046511104 := by have := he.out; omega
    have hB3 := below1 w2 (.cells (madeCells #[.int .u32 0] (e + 1)) 24)
    have hcl := (hupB.below hB3 hupB.lt).cell (Dg.get_of_ld (L := M') (i := j) (by rw [HLEN'.out]; have := hj.out; omega))
    have hi1 : (n2 : Int) - 1 = (j : Int) := by have := hj.out; omega
    have hnl : ¬ (n1 : Int) < n2 := by omega
    go_wp2_with fail
    have htop := Pm.nm_top hM2.out.1.1 (by rw [HLEN'.out]; exact hpos2)
    rw [HLEN'.out, show n2 - 1 = j by have := hj.out; omega] at htop
    have htl := hM2.out.1.lt h0 j
    obtain ⟨tp, etp⟩ : ∃ tp, tp = Dg.ld M' j := ⟨_, rfl⟩
    rw [← etp] at htop htl ⊢
    have ETP := Lib.hid etp
    have HTP := Lib.hid (show ¬ tp % p = 0 by rwa [Nat.mod_eq_of_lt htl])
    clear etp hcl hmk
    refine (refInv_any tp p rfl rfl (by omega) hp h2p _).mono ?_
    rintro _ _ ⟨iv, rfl, hiv, rfl⟩
    have hivp : iv < p := by rw [hiv.out]; exact Nat.mod_lt _ h0
    have HIV := Lib.hid (show Pm.cz p ((iv : Int) * Pm.co M' (M'.length - 1)) 1 by
      unfold Pm.co; rw [HLEN'.out, show n2 - 1 = j by have := hj.out; omega, ← ETP.out]; exact cz_inv HP.out HTP.out hiv.out)
    have HUQ := Lib.hid (UB.made w2 (e + 1))
    have HUR := Lib.hid (hupr.below hB3 hupr.lt)
    have HUB := Lib.hid (hupB.below hB3 hupB.lt)
    have HB3 := Lib.hid (HB2.out.trans (hB3.mono HB2.out.size))
    have hgrs : gr < w2.heap.size := hupr.lt
    have hgBs : gB < w2.heap.size := hupB.lt
    clear hB3 hupr hupB
    go_wp2_with fail
    generalize w2.alloc (.cells (madeCells #[.int .u32 0] (e + 1)) 24) = W3 at HUQ HUR HUB HB3 ⊢
    obtain ⟨gq, hgq⟩ : ∃ gq, gq = w2.heap.size := ⟨_, rfl⟩
    have hbw := HB2.out.size
    rw [← hgq] at HUQ hgrs hgBs hbw ⊢
    have hne1 : gr ≠ gq := by omega
    have hne2 : gB ≠ gq := by omega
    have hne3 : gB ≠ gr := by omega
    have hne1' : gq ≠ gr := by omega
    have hgw : w.heap.size ≤ gr := hgr
    clear hgq
    have HS0 := Lib.hid (show Pm.Ds p (Pm.co M) (Pm.co M') (Pm.co (List.replicate (e + 1) 0)) (Pm.co M) (e + 1) (M'.length - 1) from
      (Pm.Ds.start ((Pm.co_up M).mono (by rw [HLEN.out, HLEN'.out]; have := he.out; omega))).cg fun k => Pm.cz.of_eq (Pm.co_zeros _ k))
    go_loopw [10] (fun iv' wr => ∃ (J : Nat) (Q R : List Nat), iv' = .int .i64 ((J : Int) - 1) ∧ J ≤ e + 1 ∧ UB wr gq Q ∧ UP wr gr R ∧ UP wr gB M' ∧
      Hid (Q.length = e + 1 ∧ Lt p Q ∧ R.length = n1 ∧ Lt p R ∧ Pm.Ds p (Pm.co M) (Pm.co M') (Pm.co Q) (Pm.co R) J (M'.length - 1) ∧ ∀ x, x < J → Dg.ld Q x = 0) ∧ Below w.heap.size w wr) (fun iv' _ => (intOf iv' + 1).toNat)
    case atStart =>
      refine ⟨e + 1, _, M, ?_, Nat.le_refl _, HUQ.out, HUR.out, HUB.out, Lib.hid ⟨by simp, Lt.zeros h0 _, HLEN.out, hM1.out.1.2, HS0.out, fun x _ => Dg.ld_replicate _ _⟩, HB3.out⟩
      exact int_i (by omega)
    case round =>
      clear HUQ HUR HUB HB3
      obtain ⟨J, Q, R, rfl, hJ, hUQ, hUP, hUB, hI, hB⟩ := hrel
      have hML := HP1.out.mx
      have hMl := HP1.out.le
      rcases Nat.eq_zero_or_pos J with hJ0 | hJ0
      · subst hJ0
        have hpq := hUQ.po (hI.out.2.1.wd hp) (b := w.heap.size) (by omega) (k := e + 1) (c := e + 1) (by rw [hI.out.1]; exact Nat.le_refl _) (Nat.le_refl _) (by have := he.out; unfold maxLen; omega)
        rw [List.take_of_length_le (by rw [hI.out.1]; exact Nat.le_refl _)] at hpq
        have hpr := hUP.po (hI.out.2.2.2.1.wd hp) (b := w.heap.size) (by omega) (k := n1) (c := c1) (by rw [hI.out.2.2.1]; exact Nat.le_refl _) hMl hML
        rw [List.take_of_length_le (by rw [hI.out.2.2.1]; exact Nat.le_refl _)] at hpr
        have HPQ := Lib.hid hpq
        have HPR := Lib.hid hpr
        have HB := Lib.hid hB
        have hd := Lib.hid hI.out.2.2.2.2.1.done
        have HE1 := Lib.hid (show e + 1 ≤ 17592186044416 by have := he.out; omega)
        clear hpq hpr hUQ hUP hUB hB
        go_wp2_with fail
        refine (rNorm_any p h0 hp HPQ.out.rd HE1.out).mono ?_
        rintro _ w5 ⟨A5, n5, c5, Q5, rfl, hp5, hQ5, hb5⟩
        have HP5 := Lib.hid hp5
        have HPR5 := Lib.hid (HPR.out.next hb5)
        have HB5 := Lib.hid (HB.out.trans (hb5.mono HB.out.size))
        have hbs := HB.out.size
        clear hp5 hb5
        go_wp2_with fail
        refine (rNorm_any p h0 hp HPR5.out.rd (by omega)).mono ?_
        rintro _ w6 ⟨A6, n6, c6, R6, rfl, hp6, hR6, hb6⟩
        have HF1 := Lib.hid ((HP5.out.next hb6).base (b' := w.heap.size) hbs)
        have HF2 := Lib.hid (hp6.base (b' := w.heap.size) HB5.out.size)
        have HB6 := Lib.hid (HB5.out.trans (hb6.mono HB5.out.size))
        have HDV := Lib.hid (show Pm.Dv p (Pm.co M) (Pm.co M') (Pm.co Q5) (Pm.co R6) (M'.length - 1) from
          ⟨fun x => (hd.out.1 x).trans ((Pm.Cg.cv hQ5.out.2.symm (Pm.Cg.refl _) x).add (hR6.out.2 x).symm), hd.out.2.cg hR6.out.2⟩)
        clear hb6 hp6
        go_wp2
        go_ret2
        exact ⟨A5, A6, n5, c5, n6, c6, Q5, R6, M, M', rfl, HF1.out, HF2.out, Lib.hid ⟨hQ5.out.1, hR6.out.1, hM1.out, hM2.out, HDV.out⟩, HB6.out⟩
      · obtain ⟨i, rfl⟩ : ∃ i, J = i + 1 := ⟨J - 1, by omega⟩
        rw [show (((i + 1 : Nat) : Int) - 1) = (i : Int) by omega]
        obtain ⟨t, ht⟩ : ∃ t, Hid (t = i + j) := ⟨_, Lib.hid rfl⟩
        have htn : t < n1 := by have := he.out; have := hj.out; have := ht.out; omega
        have hi0 : (0 : Int) ≤ (i : Int) := by omega
        have hie : i < e + 1 := by omega
        have hib1 : (i : Int) < ((e + 1 : Nat) : Int) := by omega
        have hib2 : (i : Int) < (e : Int) + 1 := by omega
        have hidx : (i : Int) + n2 - 1 = (t : Int) := by have := hj.out; have := ht.out; omega
        have hcq := hUQ.cell (Dg.get_of_ld (L := Q) (i := i) (by rw [hI.out.1]; exact hie))
        have hfq := hUQ.frozen i
        have HRP := Lib.hid (show RdU wr wr.heap.size (some ⟨gr, 0, none⟩) n1 c1 R from by
          have hpr := hUP.po (hI.out.2.2.2.1.wd hp) (b := w.heap.size) (by omega) (k := n1) (c := c1) (by rw [hI.out.2.2.1]; exact Nat.le_refl _) hMl hML
          rw [List.take_of_length_le (by rw [hI.out.2.2.1]; exact Nat.le_refl _)] at hpr
          exact hpr.rd)
        generalize Dg.ld Q i = q0 at hcq
        obtain ⟨wo, rfl⟩ : ∃ wo : World, wo = wr := ⟨_, rfl⟩
        go_wp2_with fail
        refine (rAt_any HRP.out t).mono ?_
        rintro _ _ ⟨rt, rfl, hrt, rfl⟩
        have hrtp : rt < p := by rw [hrt.out]; exact hI.out.2.2.2.1.ld h0 t
        go_wp2_with fail
        refine (refMul_any rt iv p rfl rfl rfl (by omega) (by omega) hp h0 _).mono ?_
        rintro _ _ ⟨v, rfl, hv, rfl⟩
        have hvp : v < p := by rw [hv.out]; exact Nat.mod_lt _ h0
        have HU5 := Lib.hid (hUQ.set i v)
        have HP5 := Lib.hid (hUP.far (p := ⟨gq, i, none⟩) hne1 (.int .u32 (v : Int)))
        have HUB5 := Lib.hid (hUB.far (p := ⟨gq, i, none⟩) hne2 (.int .u32 (v : Int)))
        have HB5 := Lib.hid (hB.setCell (p := ⟨gq, i, none⟩) (by simp; omega) (.int .u32 (v : Int)))
        clear hUQ hUP hUB hB HRP
        go_wp2_with fail
        clear hcq hfq hidx
        generalize wo.setCell ⟨gq, i, none⟩ (.int .u32 (v : Int)) = W5 at HU5 HP5 HUB5 HB5 ⊢
        go_loopw [64] (fun kv wr => ∃ (k : Nat) (O : List Nat), kv = .int .i64 k ∧ k ≤ n2 ∧ Hid (UB wr gq (Q.set i v) ∧ UP wr gr O ∧ UP wr gB M' ∧ (O.length = n1 ∧ Lt p O ∧ AllC p O (Pm.sb (Pm.co R) (Pm.co M') v i k)) ∧ Below w.heap.size w wr)) (fun kv _ => n2 - (intOf kv).toNat)
        case atStart => exact ⟨0, R, rfl, Nat.zero_le _, Lib.hid ⟨HU5.out, HP5.out, HUB5.out, ⟨hI.out.2.2.1, hI.out.2.2.2.1, fun x _ => by rw [Pm.sb_zero]; exact Pm.cz.refl _⟩, HB5.out⟩⟩
        case round =>
          clear HU5 HP5 HUB5 HB5
          obtain ⟨k, O, rfl, hk, hK⟩ := hrel
          by_cases hkn : k < n2
          · have hcy := hK.out.2.2.1.cell (Dg.get_of_ld (L := M') (i := k) (by rw [HLEN'.out]; exact hkn))
            have hyl := hM2.out.1.lt h0 k
            obtain ⟨y, ey⟩ : ∃ y, y = Dg.ld M' k := ⟨_, rfl⟩
            rw [← ey] at hcy hyl
            have EY := Lib.hid ey
            clear ey
            obtain ⟨x, hx⟩ : ∃ x, x = i + k := ⟨_, rfl⟩
            have hxn : x < n1 := by have := he.out; omega
            have hs1 : IntKind.i64.wrap ((i : Int) + k) = (x : Int) := by rw [IntWalk.i64_in _ (by omega)]; omega
            have hx0 : (0 : Int) ≤ (x : Int) := by omega
            have hx1 : (x : Int) < (n1 : Int) := by omega
            have hcr := hK.out.2.1.cell (Dg.get_of_ld (L := O) (i := x) (by rw [hK.out.2.2.2.1.1]; exact hxn))
            have hfz := hK.out.2.1.frozen x
            have hol := hK.out.2.2.2.1.2.1.ld h0 x
            obtain ⟨o, eo⟩ : ∃ o, o = Dg.ld O x := ⟨_, rfl⟩
            rw [← eo] at hcr hol
            have EO := Lib.hid eo
            have HX0 := Lib.hid hx
            have hkI : (k : Int) < n2 := by omega
            clear eo hx
            go_wp2_with fail
            go_region_with
              (first
                | (go_at_call 39; refine (refMul_any v y p rfl rfl rfl (by omega) (by omega) hp h0 _).mono ?_; rintro _ _ ⟨z, rfl, hz, rfl⟩; have hzp : z < p := by { rw [hz.out]; exact Nat.mod_lt _ h0 })
                | (go_at_call 63; refine (refSub_any o z p rfl rfl rfl (by omega) (by omega) hp h0 _).mono ?_; rintro _ _ ⟨u, rfl, hu, j3, rfl⟩))
            all_goals
              have HZ1 := Lib.hid (show Pm.cz p (z : Int) ((v : Int) * y) by rw [hz.out]; have := Pm.cz_mod (p := p) (v * y); rwa [Int.natCast_mul] at this)
              have HUP := Lib.hid (show u < p by rw [hu.out]; exact Nat.mod_lt _ h0)
              have HZ2 := Lib.hid (show Pm.cz p (u : Int) ((o : Int) - z) by rw [hu.out]; exact cz_sub_nat h0 o z)
              have hU2 := (hK.out.1.drewN (1 + j3)).far (p := ⟨gr, x, none⟩) hne1' (.int .u32 (u : Int))
              have hP2 := (hK.out.2.1.drewN (1 + j3)).set x u
              have hB2 := (hK.out.2.2.1.drewN (1 + j3)).far (p := ⟨gr, x, none⟩) hne3 (.int .u32 (u : Int))
              have hW2 := (below_drewN hK.out.2.2.2.2 (1 + j3)).setCell (p := ⟨gr, x, none⟩) (by simp; omega) (.int .u32 (u : Int))
              have HX := Lib.hid (And.intro hU2 (And.intro hP2 (And.intro hB2 hW2)))
              clear hU2 hP2 hB2 hW2 hs1
              go_wp2
              go_roundw
              case rel => exact ⟨k + 1, O.set x u, by go_num, hkn, Lib.hid ⟨HX.out.1, HX.out.2.1, HX.out.2.2.1, ⟨by rw [List.length_set]; exact hK.out.2.2.2.1.1, hK.out.2.2.2.1.2.1.set x HUP.out, hK.out.2.2.2.1.2.2.set (by rw [hK.out.2.2.2.1.1]; exact hxn) (sub_step HX0.out EY.out EO.out (by rw [hK.out.2.2.2.1.1]; exact hxn) hK.out.2.2.2.1.2.2 HZ1.out HZ2.out) (fun q hq => Pm.sb_other (by rw [← HX0.out]; exact hq))⟩, HX.out.2.2.2⟩⟩
              case measure => simp [intOf]; omega
          · obtain rfl : k = n2 := by omega
            have hil : i < Q.length := by rw [hI.out.1]; omega
            have HD := Lib.hid (show Pm.Ds p (Pm.co M) (Pm.co M') (Pm.co (Q.set i v)) (Pm.co O) i (M'.length - 1) from
              hI.out.2.2.2.2.1.step (v := v) (s := iv) ((Pm.co_up M').mono (by omega)) HIV.out (by
                have e1 : Pm.co R (i + (M'.length - 1)) = (rt : Int) := by
                  unfold Pm.co
                  rw [HLEN'.out, show i + (k - 1) = t by have := hj.out; have := ht.out; omega, ← hrt.out]
                rw [e1, hv.out]
                have := Pm.cz_mod (p := p) (rt * iv)
                rwa [Int.natCast_mul] at this)
                (fun x => Pm.cz.of_eq (Pm.co_set hil (hI.out.2.2.2.2.2 i (Nat.lt_succ_self i)) x))
                (sub_all hK.out.2.2.2.1.1 hI.out.2.2.1 (by rw [HLEN'.out]; have := he.out; omega) (by rw [HLEN'.out]; exact hK.out.2.2.2.1.2.2)))
            have hkk : ¬ (k : Int) < k := by omega
            go_wp2
            go_roundw
            case rel => exact ⟨i, Q.set i v, O, rfl, by omega, hK.out.1, hK.out.2.1, hK.out.2.2.1, Lib.hid ⟨by rw [List.length_set]; exact hI.out.1, hI.out.2.1.set i hvp, hK.out.2.2.2.1.1, hK.out.2.2.2.1.2.1, HD.out, fun x hx => by rw [Dg.ld_set_other v (by omega)]; exact hI.out.2.2.2.2.2 x (by omega)⟩, hK.out.2.2.2.2⟩
            case measure => simp [intOf]
end Go.Proofs.YtmgacikdgbedfaaGreatDoor

/- modpoly's laws: Freshman. -/
namespace Pm
theorem drop_cons {L : List Nat} {i x : Nat} (h : L[i]? = some x) : L.drop i = x :: L.drop (i + 1) := by
  have hi : i < L.length := by
    rcases Nat.lt_or_ge i L.length with h1 | h1
    · exact h1
    · rw [List.getElem?_eq_none h1] at h; cases h
  rw [List.getElem?_eq_getElem hi] at h
  injection h with h
  rw [← h, List.drop_eq_getElem_cons hi]
theorem fresh_round {p : Nat} {L O X T S M3 M' Q R : List Nat} {i x : Nat} (hx : L[i]? = some x) (hO : Mf p (co M') (co O) (at_p p (L.drop (i + 1)))) (hX : Mf p (co M') (co X) (mono 1 p))
    (hT : Cg p (co T) (cv (co O) (co X))) (hS : Cg p (co S) (fun k => co T k + co [x] k)) (h3 : Cg p (co M3) (co S)) (hR : Pn p R) (hd : Dv p (co M3) (co M') (co Q) (co R) (M'.length - 1)) : Mf p (co M') (co R) (at_p p (L.drop i)) := by
  rw [drop_cons hx]
  have h1 : Mf p (co M') (co M3) (co R) := Rm.mf ⟨hR, co Q, Fn.co Q, hd⟩
  have h2 : Mf p (co M') (cv (co O) (co X)) (cv (at_p p (L.drop (i + 1))) (mono 1 p)) := hO.mul hX (Fn.co O) (Fn.mono 1 p)
  have h4 : Mf p (co M') (co M3) (fun k => cv (at_p p (L.drop (i + 1))) (mono 1 p) k + co [x] k) :=
    (Mf.of_cg (h3.trans hS)).trans (((Mf.of_cg hT).trans h2).add (Mf.refl _ _))
  refine h1.symm.trans (h4.trans (Mf.of_cg (Cg.of_eq fun k => ?_)))
  show cv (at_p p (L.drop (i + 1))) (mono 1 p) k + co [x] k = mono x 0 k + cv (mono 1 p) (at_p p (L.drop (i + 1))) k
  rw [cv_comm, Int.add_comm]
  congr 1
  cases k with
  | zero => simp [co, mono, Dg.ld]
  | succ k => simp [co, mono, Dg.ld]
theorem fresh_x {p : Nat} {Mx M' X : List Nat} (hm : Cg p (co Mx) (co [0, 1])) (h : Mf p (co M') (co X) (pw (co Mx) p)) : Mf p (co M') (co X) (mono 1 p) := by
  refine h.trans (Mf.of_cg ((Cg.pw hm p).trans (Cg.of_eq fun k => ?_)))
  rw [show co [0, 1] = mono 1 1 from funext co_x, pw_mono]
theorem mul_len' {p : Nat} (hp : 0 < p) {L M R : List Nat} (hR : Pn p R) (e : Cg p (co R) (cv (co L) (co M))) : R.length ≤ L.length + M.length :=
  hR.short hp fun k hk => (e k).trans (by
    rcases Nat.eq_zero_or_pos L.length with h0 | h0
    · rw [cv_none (.inl h0)]; exact cz.refl _
    · rcases Nat.eq_zero_or_pos M.length with h1 | h1
      · rw [cv_none (.inr h1)]; exact cz.refl _
      · exact cv_end h0 h1 (by omega))
theorem add_len' {p : Nat} (hp : 0 < p) {L M R : List Nat} (hR : Pn p R) (e : Cg p (co R) (fun k => co L k + co M k)) : R.length ≤ L.length + M.length :=
  hR.short hp fun k hk => (e k).trans (by
    have := (co_up (p := p) L k (by omega)).add (co_up (p := p) M k (by omega))
    rwa [Int.add_zero] at this)
theorem fresh_end {p : Nat} (hp : Nt.Pr p) {L M M' R O : List Nat} (hM : Cg p (co M) (co L)) (hM' : Pn p M') (hl : 0 < M'.length) (hR : Pn p R) (hO : Pn p O) (h1 : R.length < M'.length) (h2 : O.length < M'.length)
    (e1 : Mf p (co M') (co R) (pw (co M) p)) (e2 : Mf p (co M') (co O) (at_p p L)) : R = O :=
  Mf.unique hp hM' hl hR hO h1 h2 ((e1.trans (Mf.of_cg ((Cg.pw hM p).trans (freshman hp L)))).trans e2.symm)
end Pm
namespace Go.Proofs.YtmgacikdgbedfaaGreatDoor
open Go.RowKit Go.IntWalk
attribute [local go_sem ↓] Go.wp_at_zero Go.wp_at_succ

theorem lsame_eq' {A A' : Option Addr} {B n n' c c' : Nat} {L L' : List Nat} {w : World} (h : RdU w B A n c L) (h' : RdU w B A' n' c' L') (e : L = L') :
    Calls Tryz.prog 22 #[.slice A n c, .slice A' n' c'] w (RetBD true w) := by
  have := lsame_any h h'
  rwa [show (L == L') = true by simpa using e] at this
end Go.Proofs.YtmgacikdgbedfaaGreatDoor

/- modpoly: where the modulus is no prime; Normal, Degree, Monic. -/
namespace Go.Proofs.YtmgacikdgbedfaaGreatDoor
open Go.RowKit Go.IntWalk
attribute [local go_sem ↓] Go.wp_at_zero Go.wp_at_succ

/-- No number, and an error. -/
def RetNI (code : Int) (w : World) (e : Ending) (w' : World) : Prop := e = .returned (.tuple #[.int .i64 0, .int .i64 code]) ∧ Below w.heap.size w w'
/-- A truth and an error's number. -/
def RetBE (b : Bool) (code : Int) (w : World) (e : Ending) (w' : World) : Prop := e = .returned (.tuple #[.bool b, .int .i64 code]) ∧ Below w.heap.size w w'

set_option maxRecDepth 100000 in
set_option maxHeartbeats 1000000 in
theorem mNormal_none {A : Option Addr} {n c : Nat} {w : World} (p : Nat) (hpr : ¬ Nt.Pr p) (hp : p < 4294967296) (hT : Tabs w) :
    Calls Tryz.prog 7 #[.slice A n c, .int .u32 p] w (RetNE 40 w) := by
  have HP := Lib.hid hpr
  have hB0 := below1 w (.cells #[.slice A n c] 23)
  have hT0 := hT.below hB0
  clear hpr
  go_enter Tryz.func7, Tryz.ntmps7
  go_wp2_with fail
  refine (mall_none p HP.out hp hT0).mono ?_
  rintro _ w1 ⟨rfl, hb1⟩
  have HB := Lib.hid ((hB0.trans (hb1.mono hB0.size)).alloc (Nat.le_trans hB0.size hb1.size) (.cells #[.int .u64 0] 51))
  go_wp2
  go_ret2
  exact ⟨rfl, HB.out⟩
set_option maxRecDepth 100000 in
set_option maxHeartbeats 1000000 in
theorem mDegree_none {A : Option Addr} {n c : Nat} {w : World} (p : Nat) (hpr : ¬ Nt.Pr p) (hp : p < 4294967296) (hT : Tabs w) :
    Calls Tryz.prog 8 #[.slice A n c, .int .u32 p] w (RetNI 40 w) := by
  have HP := Lib.hid hpr
  have hB0 := below1 w (.cells #[.slice A n c] 23)
  have hT0 := hT.below hB0
  clear hpr
  go_enter Tryz.func8, Tryz.ntmps8
  go_wp2_with fail
  refine (mall_none p HP.out hp hT0).mono ?_
  rintro _ w1 ⟨rfl, hb1⟩
  have HB := Lib.hid ((hB0.trans (hb1.mono hB0.size)).alloc (Nat.le_trans hB0.size hb1.size) (.cells #[.int .u64 0] 51))
  go_wp2
  go_ret2
  exact ⟨rfl, HB.out⟩
set_option maxRecDepth 100000 in
set_option maxHeartbeats 1000000 in
theorem mMonic_none {A : Option Addr} {n c : Nat} {w : World} (p : Nat) (hpr : ¬ Nt.Pr p) (hp : p < 4294967296) (hT : Tabs w) :
    Calls Tryz.prog 9 #[.slice A n c, .int .u32 p] w (RetNE 40 w) := by
  have HP := Lib.hid hpr
  have hB0 := below1 w (.cells #[.slice A n c] 23)
  have hT0 := hT.below hB0
  clear hpr
  go_enter Tryz.func9, Tryz.ntmps9
  go_wp2_with fail
  refine (mall_none p HP.out hp hT0).mono ?_
  rintro _ w1 ⟨rfl, hb1⟩
  have HB := Lib.hid ((hB0.trans (hb1.mono hB0.size)).alloc (Nat.le_trans hB0.size hb1.size) (.cells #[.int .u64 0] 51))
  go_wp2
  go_ret2
  exact ⟨rfl, HB.out⟩
set_option maxRecDepth 100000 in
set_option maxHeartbeats 1000000 in
theorem mDeriv_none {A : Option Addr} {n c : Nat} {w : World} (p : Nat) (hpr : ¬ Nt.Pr p) (hp : p < 4294967296) (hT : Tabs w) :
    Calls Tryz.prog 25 #[.slice A n c, .int .u32 p] w (RetNE 40 w) := by
  have HP := Lib.hid hpr
  have hB0 := below1 w (.cells #[.slice A n c] 23)
  have hT0 := hT.below hB0
  clear hpr
  go_enter Tryz.func25, Tryz.ntmps25
  go_wp2_with fail
  refine (mall_none p HP.out hp hT0).mono ?_
  rintro _ w1 ⟨rfl, hb1⟩
  have HB := Lib.hid ((hB0.trans (hb1.mono hB0.size)).alloc (Nat.le_trans hB0.size hb1.size) (.cells #[.int .u64 0] 51))
  go_wp2
  go_ret2
  exact ⟨rfl, HB.out⟩
set_option maxRecDepth 100000 in
set_option maxHeartbeats 1000000 in
theorem mFree_none {A : Option Addr} {n c : Nat} {w : World} (p : Nat) (hpr : ¬ Nt.Pr p) (hp : p < 4294967296) (hT : Tabs w) :
    Calls Tryz.prog 26 #[.slice A n c, .int .u32 p] w (RetBE false 40 w) := by
  have HP := Lib.hid hpr
  have hB0 := below1 w (.cells #[.slice A n c] 23)
  have hT0 := hT.below hB0
  clear hpr
  go_enter Tryz.func26, Tryz.ntmps26
  go_wp2_with fail
  refine (mall_none p HP.out hp hT0).mono ?_
  rintro _ w1 ⟨rfl, hb1⟩
  have HB := Lib.hid ((hB0.trans (hb1.mono hB0.size)).alloc (Nat.le_trans hB0.size hb1.size) (.cells #[.int .u64 0] 51))
  go_wp2
  go_ret2
  exact ⟨rfl, HB.out⟩
/-- The degree comes back. -/
def RetDeg (p : Nat) (L : List Nat) (w : World) (e : Ending) (w' : World) : Prop :=
  ∃ M : List Nat, e = .returned (.tuple #[.int .i64 ((M.length : Int) - 1), .int .i64 0]) ∧ Hid (Pm.Pn p M ∧ Pm.Cg p (Pm.co M) (Pm.co L)) ∧ M.length ≤ 1099511627776 ∧ Below w.heap.size w w'

set_option maxRecDepth 100000 in
set_option maxHeartbeats 1000000 in
theorem mDegree_ok {A : Option Addr} {n c : Nat} {L : List Nat} {w : World} (p : Nat) (hpr : Nt.Pr p) (hp : p < 4294967296) (h : RdU w w.heap.size A n c L) (hn : n ≤ 1099511627776) (hT : Tabs w) :
    Calls Tryz.prog 8 #[.slice A n c, .int .u32 p] w (RetDeg p L w) := by
  have HA := Lib.hid (mall1_any p hpr hp h hn hT)
  have HPR := Lib.hid hpr
  have h0 := hpr.pos
  have hpn : ¬ p = 0 := by omega
  clear hpr
  go_enter Tryz.func8, Tryz.ntmps8
  go_wp2_with fail
  refine HA.out.mono ?_
  rintro _ w1 ⟨g, A1, n1, c1, M1, rfl, hg, hcg0, hp1, hM, hn1, hb1⟩
  have hB2 := below1 w1 (.cells #[.int .u64 p] 51)
  have HC0 := Lib.hid ((hB2.cell (p := ⟨g, 0, none⟩) hg).trans hcg0)
  have hP1 := hp1.next hB2
  have HB := Lib.hid (hb1.trans (hB2.mono hb1.size))
  have hsz : w1.heap.size < (w1.alloc (.cells #[.int .u64 p] 51)).heap.size := by simp
  have HCB := Lib.hid (show (w1.alloc (.cells #[.int .u64 p] 51)).cell? ⟨w1.heap.size, 0, none⟩ = some (.int .u64 p) by go_simp)
  have hc0w := HC0.out
  clear hcg0 hB2 hp1
  have HL1 := Lib.hid hP1.len
  go_wp2
  go_ret2
  exact ⟨M1, by rw [HL1.out]; rfl, hM, by rw [HL1.out]; exact hn1, HB.out⟩
set_option maxRecDepth 100000 in
set_option maxHeartbeats 1000000 in
theorem mNormal_ok {A : Option Addr} {n c : Nat} {L : List Nat} {w : World} (p : Nat) (hpr : Nt.Pr p) (hp : p < 4294967296) (h : RdU w w.heap.size A n c L) (hn : n ≤ 1099511627776) (hT : Tabs w) :
    Calls Tryz.prog 7 #[.slice A n c, .int .u32 p] w (RetPE (fun R => Pm.Pn p R ∧ Pm.Cg p (Pm.co R) (Pm.co L)) w) := by
  have HA := Lib.hid (mall1_any p hpr hp h hn hT)
  have HPR := Lib.hid hpr
  have h0 := hpr.pos
  have hpn : ¬ p = 0 := by omega
  clear hpr
  go_enter Tryz.func7, Tryz.ntmps7
  go_wp2_with fail
  refine HA.out.mono ?_
  rintro _ w1 ⟨g, A1, n1, c1, M1, rfl, hg, hcg0, hp1, hM, hn1, hb1⟩
  have hB2 := below1 w1 (.cells #[.int .u64 p] 51)
  have HC0 := Lib.hid ((hB2.cell (p := ⟨g, 0, none⟩) hg).trans hcg0)
  have hP1 := hp1.next hB2
  have HB := Lib.hid (hb1.trans (hB2.mono hb1.size))
  have hsz : w1.heap.size < (w1.alloc (.cells #[.int .u64 p] 51)).heap.size := by simp
  have HCB := Lib.hid (show (w1.alloc (.cells #[.int .u64 p] 51)).cell? ⟨w1.heap.size, 0, none⟩ = some (.int .u64 p) by go_simp)
  have hc0w := HC0.out
  clear hcg0 hB2 hp1
  go_wp2_with fail
  refine (mtold_any hP1).mono ?_
  rintro _ _ ⟨A4, c4, rfl, hp4, rfl⟩
  go_wp2
  go_ret2
  exact ⟨A4, n1, c4, M1, rfl, hp4, hM, HB.out⟩
set_option maxRecDepth 100000 in
set_option maxHeartbeats 1000000 in
theorem mMonic_ok {A : Option Addr} {n c : Nat} {L : List Nat} {w : World} (p : Nat) (hpr : Nt.Pr p) (hp : p < 4294967296) (h : RdU w w.heap.size A n c L) (hn : n ≤ 1099511627776) (hT : Tabs w) :
    Calls Tryz.prog 9 #[.slice A n c, .int .u32 p] w (RetPE (fun R => ∃ M, (Pm.Pn p M ∧ Pm.Cg p (Pm.co M) (Pm.co L)) ∧ Pm.Mo p M R) w) := by
  have HA := Lib.hid (mall1_any p hpr hp h hn hT)
  have HPR := Lib.hid hpr
  have h0 := hpr.pos
  have hpn : ¬ p = 0 := by omega
  clear hpr
  go_enter Tryz.func9, Tryz.ntmps9
  go_wp2_with fail
  refine HA.out.mono ?_
  rintro _ w1 ⟨g, A1, n1, c1, M1, rfl, hg, hcg0, hp1, hM, hn1, hb1⟩
  have hB2 := below1 w1 (.cells #[.int .u64 p] 51)
  have HC0 := Lib.hid ((hB2.cell (p := ⟨g, 0, none⟩) hg).trans hcg0)
  have hP1 := hp1.next hB2
  have HB := Lib.hid (hb1.trans (hB2.mono hb1.size))
  have hsz : w1.heap.size < (w1.alloc (.cells #[.int .u64 p] 51)).heap.size := by simp
  have HCB := Lib.hid (show (w1.alloc (.cells #[.int .u64 p] 51)).cell? ⟨w1.heap.size, 0, none⟩ = some (.int .u64 p) by go_simp)
  clear hcg0 hB2 hp1
  have hT2 := hT.below HB.out
  go_wp2_with fail
  generalize w1.alloc (.cells #[.int .u64 p] 51) = W2 at HC0 HCB hP1 HB hsz hT2 ⊢
  have hgl : g < W2.heap.size := Nat.lt_trans hg hsz
  have hc0 := HC0.out
  have hcb := HCB.out
  have HE := Lib.hid (mmonic_any p HPR.out hp hP1.rd.drew (by omega) hM.out.1 hT2.drew)
  have HSZ := Lib.hid (HB.out.size)
  go_region_held3 (fun w' => w'.cell? ⟨w1.heap.size, 0, none⟩ = some (.int .u64 p) ∧ w'.cell? ⟨g, 0, none⟩ = some (.slice A1 n1 c1)) (go_keep)
    (first
      | (go_at_call 33; refine HE.out.mono ?_; rintro _ w3 ⟨A3, n3, c3, M3, rfl, hp3, hM3, hb3⟩; have hcb3 := (hb3.cell (p := ⟨w1.heap.size, 0, none⟩) hsz).trans hcb; have hc03 := (hb3.cell (p := ⟨g, 0, none⟩) hgl).trans hc0)
      | (go_at_call 32; refine (mtold_any hp3).mono ?_; rintro _ _ ⟨A4, c4, rfl, hp4, rfl⟩))
  have HF := Lib.hid (HB.out.drew.trans (hb3.mono HB.out.size))
  have HP4 := Lib.hid (hp4.base HSZ.out)
  have HM3 := Lib.hid (show ∃ M, (Pm.Pn p M ∧ Pm.Cg p (Pm.co M) (Pm.co L)) ∧ Pm.Mo p M M3 from ⟨M1, hM.out, hM3.out⟩)
  clear hcb3 hc03
  go_wp2
  go_ret2
  exact ⟨A4, n3, c4, M3, rfl, HP4.out, HM3.out, HF.out⟩
end Go.Proofs.YtmgacikdgbedfaaGreatDoor

/- modpoly: the reference's Monic, Sub, Eval, Gcd. -/
namespace Go.Proofs.YtmgacikdgbedfaaGreatDoor
open Go.RowKit Go.IntWalk
attribute [local go_sem ↓] Go.wp_at_zero Go.wp_at_succ

/-- A list comes back in memory of its own, monic. -/
def MoOf (p : Nat) (L R : List Nat) : Prop := ∃ M, (Pm.Pn p M ∧ Pm.Cg p (Pm.co M) (Pm.co L)) ∧ Pm.Mo p M R
theorem MoOf.unique {p : Nat} (hp : Nt.Pr p) {L R R' : List Nat} (h : MoOf p L R) (h' : MoOf p L R') : R = R' := by
  obtain ⟨M, h1, h2⟩ := h
  obtain ⟨M', h1', h2'⟩ := h'
  obtain rfl := h1.1.ext hp.pos h1'.1 (h1.2.trans h1'.2.symm)
  exact h2.unique hp h2'
theorem RetQ.later {P : List Nat → Prop} {w w1 w' : World} {e : Ending} (h : RetQ P w1 e w') (hb : Below w.heap.size w w1) : RetQ P w e w' := by
  obtain ⟨A, n, c, L, h1, h2, h3, h4⟩ := h
  exact ⟨A, n, c, L, h1, h2.base hb.size, h3, hb.trans (h4.mono hb.size)⟩
set_option maxRecDepth 100000 in
set_option maxHeartbeats 1000000 in
theorem rMonic_any {A : Option Addr} {n c : Nat} {L : List Nat} {w : World} (p : Nat) (hpr : Nt.Pr p) (hp : p < 4294967296) (h : RdU w w.heap.size A n c L) (hn : n ≤ 17592186044416) :
    Calls Tryz.prog 17 #[.slice A n c, .int .u32 p] w (RetQ (MoOf p L) w) := by
  have HP := Lib.hid hpr
  have h0 := hpr.pos
  have h2p := hpr.two_le
  have HR := Lib.hid h
  clear hpr h
  go_enter Tryz.func17, Tryz.ntmps17
  go_wp2_with fail
  refine (rNorm_any p h0 hp HR.out (by omega)).mono ?_
  rintro _ w1 ⟨A1, n1, c1, M, rfl, hp1, hM, hb1⟩
  have HLEN := Lib.hid hp1.len
  have hn1 : n1 ≤ n := pn_short h0 hM.out.1 hM.out.2 hp1 HR.out
  rcases Nat.eq_zero_or_pos n1 with hn0 | hn0
  · have hl := List.eq_nil_of_length_eq_zero (HLEN.out.trans hn0)
    subst hn0 hl
    go_wp2
    go_ret
    exact ⟨none, 0, 0, [], rfl, Po.nil _ _ 0 none (Nat.zero_le _), Lib.hid ⟨[], hM.out, Pm.Pn.nil, fun _ => rfl, fun h => by simp at h⟩, hb1⟩
  · obtain ⟨hx, ad, had, hbx, hcx⟩ := hp1.rd.at_ (n1 - 1) _ (Dg.get_of_ld (by rw [HLEN.out]; omega))
    subst had
    obtain ⟨x, ex⟩ : ∃ x, x = Dg.ld M (n1 - 1) := ⟨_, rfl⟩
    rw [← ex] at hx hcx
    have hne : ¬ x % p = 0 := by
      have h1 := Pm.nm_top hM.out.1.1 (by rw [HLEN.out]; exact hn0)
      rw [HLEN.out, ← ex] at h1
      have h2 := hM.out.1.lt h0 (n1 - 1)
      rw [← ex] at h2
      rwa [Nat.mod_eq_of_lt h2]
    have EX := Lib.hid ex
    have HNE := Lib.hid hne
    have h1 : ((n1 : Int) == 0) = false := by simp; omega
    obtain ⟨m, hm⟩ : ∃ m, m = n1 - 1 := ⟨_, rfl⟩
    rw [← hm] at hcx
    have HMM := Lib.hid hm
    have hs1 : IntKind.i64.wrap ((n1 : Int) - 1) = (m : Int) := by have := hp1.mx; unfold maxLen at this; have := hp1.le; rw [IntWalk.i64_in _ (by omega)]; omega
    have hs2 : (n1 : Int) - 1 = (m : Int) := by omega
    have hm0 : (0 : Int) ≤ (m : Int) := by omega
    have hm1 : (m : Int) < (n1 : Int) := by omega
    have HP1 := Lib.hid hp1
    clear hm ex hne
    go_wp2_with fail
    refine (refInv_any x p rfl rfl hx hp h2p _).mono ?_
    rintro _ _ ⟨v, rfl, hv, rfl⟩
    have hvl : v < 4294967296 := by rw [hv.out]; exact Nat.lt_trans (Nat.mod_lt _ h0) hp
    have HV := Lib.hid (cz_inv HP.out HNE.out hv.out)
    clear hcx hs1 hs2
    go_wp2_with fail
    refine (rScale_any v p hvl h0 hp HP1.out.rd (by omega)).mono ?_
    rintro _ w3 ⟨A3, n3, c3, R, rfl, hp3, hR, hb3⟩
    have HF := Lib.hid (hb1.trans (hb3.mono hb1.size))
    have HP3 := Lib.hid (hp3.base hb1.size)
    have HMO := Lib.hid (show MoOf p L R from ⟨M, hM.out, mo_of (v := v) (by rw [HLEN.out]; exact hn0) (by rw [HLEN.out, ← EX.out]; exact HV.out) hR.out⟩)
    go_wp2
    go_ret
    exact ⟨A3, n3, c3, R, rfl, HP3.out, HMO, HF.out⟩

set_option maxRecDepth 100000 in
set_option maxHeartbeats 1000000 in
theorem rSub_any {A A' : Option Addr} {n c n' c' : Nat} {L L' : List Nat} {w : World} (p : Nat) (h0 : 0 < p) (hp : p < 4294967296) (h : RdU w w.heap.size A n c L) (h' : RdU w w.heap.size A' n' c' L') (hn : n ≤ 17592186044416) (hn' : n' ≤ 17592186044416) :
    Calls Tryz.prog 19 #[.slice A n c, .slice A' n' c', .int .u32 p] w (RetPo p (fun k => Pm.co L k - Pm.co L' k) w) := by
  have HR := Lib.hid h
  have HR' := Lib.hid h'
  obtain ⟨m, hm⟩ : ∃ m, m = p - 1 := ⟨_, rfl⟩
  have hs1 : IntKind.u32.wrap ((p : Int) - 1) = (m : Int) := by rw [show (p : Int) - 1 = (m : Int) by omega]; exact wide_u32 (by omega)
  have hs2 : (p : Int) - 1 = (m : Int) := by omega
  have hm32 : m < 4294967296 := by omega
  have HM := Lib.hid hs2
  clear h h' hm
  go_enter Tryz.func19, Tryz.ntmps19
  go_wp2_with fail
  refine (rScale_any m p hm32 h0 hp HR'.out (by omega)).mono ?_
  rintro _ w1 ⟨A1, n1, c1, S, rfl, hp1, hS, hb1⟩
  have hl : n1 ≤ n' := by
    rw [← hp1.len, ← HR'.out.len]
    refine hS.out.1.short h0 fun k hk => (hS.out.2 k).trans ?_
    have := (Pm.cz.refl (p := p) (m : Int)).mul (Pm.co_up (p := p) L' k hk)
    rwa [Int.mul_zero] at this
  have HR1 := Lib.hid (HR.out.next hb1)
  clear hs1 hs2
  go_wp2_with fail
  refine (rAdd_any p h0 hp HR1.out hp1.rd (by omega) (by omega)).mono ?_
  rintro _ w2 ⟨A2, n2, c2, R, rfl, hp2, hR, hb2⟩
  have HF := Lib.hid (hb1.trans (hb2.mono hb1.size))
  have HP2 := Lib.hid (hp2.base hb1.size)
  have HRR := Lib.hid (pn_cg hR.out (g := fun k => Pm.co L k - Pm.co L' k) fun k => by
    have h1 := (Pm.cz.refl (p := p) (Pm.co L k)).add (hS.out.2 k)
    refine h1.trans ?_
    refine ⟨Pm.co L' k, ?_⟩
    rw [← HM.out]
    dsimp only
    grind)
  go_wp2
  go_ret
  exact ⟨A2, n2, c2, R, rfl, HP2.out, HRR, HF.out⟩
end Go.Proofs.YtmgacikdgbedfaaGreatDoor

/- The law's own, spoil, kept. -/
namespace Go.Proofs.YtmgacikdgbedfaaGreatDoor
open Go.RowKit Go.IntWalk
attribute [local go_sem ↓] Go.wp_at_zero Go.wp_at_succ

theorem make_room (k : Nat) (hk : k ≤ 1099511627776) (w : World) :
    (Instr.makeSlice 23 (.int .i64 0) (.int .i64 ((k : Int) + 2))).run Tryz.prog w = .ok (.slice (some ⟨w.heap.size, 0, none⟩) 0 (k + 2)) (w.alloc (.cells (madeCells #[.int .u32 0] (k + 2)) 24)) := by
  obtain ⟨i, hi, hz, hs, hb⟩ := info_parts infoW
  have hr := run_make (P := Tryz.prog) w 23 24 i _ Tryz.underlying23 hi hz .i64 .i64 0 (k + 2) (by omega) (by omega) (by rw [hb]; omega) (by omega)
  have e2 : ((k : Int) + 2).toNat = k + 2 := by omega
  simpa [hs, Value.cells, e2] using hr
/-- A list in memory of its own, with two marks behind it. -/
def RetOwn (L : List Nat) (n : Nat) (w : World) (e : Ending) (w' : World) : Prop :=
  ∃ g : Nat, e = .returned (.slice (some ⟨g, 0, none⟩) n (n + 2)) ∧ w.heap.size ≤ g ∧ Hid (UB w' g (L ++ [77, 78])) ∧ Below w.heap.size w w'
theorem own_splice {w : World} {g n : Nat} {L : List Nat} {b : Nat} (h : w.ownsRow b 24 1 (.slice (some ⟨g, 0, none⟩) n (n + 2)) n (uc L)) :
    ∃ cur : List Value, w.heap[g]? = some (.cells cur.toArray 24 (0, 0)) ∧ cur.length = n + 2 ∧ splice cur n [.int .u32 77, .int .u32 78] = uc (L ++ [77, 78]) := by
  rcases h.2 with ⟨h1, _⟩ | ⟨g', cap, cur, h1, h2, h3, h4, h5, h6, h7⟩
  · cases h1
  · injection h1 with h1 _ h1'
    injection h1 with h1
    injection h1 with h1
    subst h1 h1'
    refine ⟨cur.toList, by simpa using h3, by simpa using h6, ?_⟩
    unfold splice
    rw [Nat.mul_one] at h7
    rw [h7, uc_append]
    have e : cur.toList.drop (n + [Value.int .u32 77, Value.int .u32 78].length) = [] := List.drop_eq_nil_of_le (by simp [h6])
    rw [e]
    rfl
set_option maxRecDepth 100000 in
set_option maxHeartbeats 1000000 in
theorem own_any {A : Option Addr} {n c : Nat} {L : List Nat} {w : World} (h : RdU w w.heap.size A n c L) (hnil : A = none → n = 0 ∧ c = 0) (hn : n ≤ 1048576) :
    Calls Tryz.prog 6 #[.slice A n c] w (RetOwn L n w) := by
  have HLEN := Lib.hid h.len
  have HR := Lib.hid h
  have hmk := fun W : World => make_room n (by omega) W
  obtain ⟨i0, hi0, hz0, hz1, hz2⟩ := info_parts infoW
  have hB0 := below1 w (.cells (madeCells #[.int .u32 0] (n + 2)) 24)
  have hown : (w.alloc (.cells (madeCells #[.int .u32 0] (n + 2)) 24)).ownsRow w.heap.size 24 1 (.slice (some ⟨w.heap.size, 0, none⟩) 0 (n + 2)) 0 [] :=
    ⟨rfl, .inr ⟨w.heap.size, n + 2, _, rfl, Nat.le_refl _, heap_alloc_new w _, Nat.zero_le _, by unfold maxLen; omega, by simp [madeCells], rfl⟩⟩
  have HOWN := Lib.hid hown
  have hsz1 : (Tryz.prog.info? 24).map (·.size) = some 1 := infoW1
  clear h hown
  rcases A with _ | ad
  · obtain ⟨rfl, rfl⟩ := hnil rfl
    obtain rfl : L = [] := List.eq_nil_of_length_eq_zero HLEN.out
    have hmk0 : ∀ W : World, (Instr.makeSlice 23 (.int .i64 0) (.int .i64 2)).run Tryz.prog W = .ok (.slice (some ⟨W.heap.size, 0, none⟩) 0 2) (W.alloc (.cells (madeCells #[.int .u32 0] 2) 24)) := fun W => make_room 0 (by omega) W
    obtain ⟨cur, hcur, hcl, hsp⟩ := own_splice (n := 0) (L := []) HOWN.out
    have HW2 : Hid (∀ w2 : World, w2 = w.alloc (.cells (madeCells #[.int .u32 0] 2) 24) → w2.heap[w.heap.size]? = some (.cells cur.toArray 24 (0, 0)) ∧ Below w.heap.size w w2) := Lib.hid fun w2 e => by rw [e]; exact ⟨hcur, hB0⟩
    have HOWN2 := Lib.hid (show (w.alloc (.cells (madeCells #[.int .u32 0] 2) 24)).ownsRow w.heap.size 24 1 (.slice (some ⟨w.heap.size, 0, none⟩) 0 2) 0 [] from HOWN.out)
    have HSP := Lib.hid hsp
    have HCL := Lib.hid hcl
    have hsz : (w.alloc (.cells (madeCells #[.int .u32 0] 2) 24)).heap.size = w.heap.size + 1 := by simp
    have hBa : Below w.heap.size w (w.alloc (.cells (madeCells #[.int .u32 0] 2) 24)) := below1 w _
    have HG := Lib.hid ((Below.heap_alloc (w.alloc (.cells (madeCells #[.int .u32 0] 2) 24)) (.cells #[.int .u32 77, .int .u32 78] 24) w.heap.size (by simp)).trans hcur)
    have hnw := World.news_of_block (cs := #[.int .u32 77, .int .u32 78]) (t := 24) (fr := (0, 0)) (heap_alloc_new (w.alloc (.cells (madeCells #[.int .u32 0] 2) 24)) _)
    rw [hsz] at hnw
    have HPOS := Lib.hid (show 0 < [Value.int .u32 77, Value.int .u32 78].length → (some (⟨w.heap.size, 0, none⟩ : Addr) = some ⟨w.heap.size, 0, none⟩ ∧ ∃ ad, (some (⟨w.heap.size + 1, 0, none⟩ : Addr)) = some ad ∧ ∀ (j : Nat) v, [Value.int .u32 77, Value.int .u32 78][j]? = some v → ((w.alloc (.cells (madeCells #[.int .u32 0] 2) 24)).alloc (.cells #[.int .u32 77, .int .u32 78] 24)).cell? (ad.add j) = some v) from fun _ => ⟨rfl, _, rfl, hnw⟩)
    have HFIT := Lib.hid (show 0 + [Value.int .u32 77, Value.int .u32 78].length ≤ cur.length by simp; omega)
    have HONE := Lib.hid (show ∀ v ∈ [Value.int .u32 77, Value.int .u32 78], v.oneCell' = true by simp [Value.oneCell'])
    have HB3 := Lib.hid (hBa.alloc hBa.size (.cells #[.int .u32 77, .int .u32 78] 24))
    clear hmk hcur hcl hsp hB0 HW2 hsz hBa hnw
    go_enter Tryz.func6, Tryz.ntmps6
    go_wp2_with (first
      | (at_builtin; refine wpList_append_own_none rfl _ _ 23 rfl w.heap.size 24 i0 1 Tryz.underlying23 hi0 (.slice (some ⟨w.heap.size, 0, none⟩) 0 2) 0 [] rfl HOWN2.out rfl ?_)
      | (with_reducible refine wpList_copy_splice (o := ⟨some 18, _, _, _, _, _⟩) rfl (.tmp 16) (.tmp 17) 23 23 rfl 24 Tryz.underlying23 hsz1 (some ⟨w.heap.size, 0, none⟩) (some ⟨w.heap.size + 1, 0, none⟩) _ _ _ _ rfl rfl w.heap.size 0 cur 24 HG.out [.int .u32 77, .int .u32 78] ?c1 HPOS.out HFIT.out HONE.out w.heap.size w HB3.out (Nat.le_refl _) ?_; rotate_left; intro w3 hg3 hb3))
    go_ret
    exact ⟨w.heap.size, rfl, Nat.le_refl _, Lib.hid (by have h := hg3.out; rw [HSP.out] at h; exact h), hb3⟩
  · have HSRC := Lib.hid (show ∀ (j : Nat) v, (uc L)[j]? = some v → (w.alloc (.cells (madeCells #[.int .u32 0] (n + 2)) 24)).cell? (ad.add j) = some v from by
      intro j v hv
      have hlt : 0 < (uc L).length := by
        rcases Nat.lt_or_ge j (uc L).length with h1 | h1
        · omega
        · rw [List.getElem?_eq_none h1] at hv; cases hv
      obtain ⟨_, ad', e, hc⟩ := (HR.out.below hB0).src ad hlt
      injection e with e
      subst e
      exact hc j v hv)
    have HUCL := Lib.hid (show (uc L).length = n * 1 by rw [uc_len, HLEN.out, Nat.mul_one])
    go_enter Tryz.func6, Tryz.ntmps6
    go_wp2_with (first
      | (at_builtin; refine wpList_append_own_spare _ rfl _ _ 23 rfl w.heap.size 24 i0 1 Tryz.underlying23 hi0 hz1 w.heap.size 0 (n + 2) [] rfl HOWN.out ad n c (uc L) rfl HUCL.out HSRC.out (uc_one L) (by omega) ?_; intro w2 hown2 hgrow2; rw [Nat.zero_add, List.nil_append] at hown2; obtain ⟨cur, hcur, hcl, hsp⟩ := own_splice hown2; have HCL := Lib.hid hcl; have HSP := Lib.hid hsp; have hB2 := Lib.hid (hB0.grown hgrow2 (by simp) (fun k e => by cases e; exact Nat.le_refl _)); have HG := Lib.hid ((Below.heap_alloc w2 (.cells #[.int .u32 77, .int .u32 78] 24) w.heap.size (Array.getElem?_eq_some_iff.1 hcur).1).trans hcur); have HNW := Lib.hid (World.news_of_block (cs := #[.int .u32 77, .int .u32 78]) (t := 24) (fr := (0, 0)) (heap_alloc_new w2 _)); have HMIN := Lib.hid (show [Value.int .u32 77, Value.int .u32 78].length = Nat.min 2 (n + 2 - n) by { rw [show n + 2 - n = 2 by omega]; rfl }); have HPOS := Lib.hid (show 0 < [Value.int .u32 77, Value.int .u32 78].length → (some (⟨w.heap.size, n, none⟩ : Addr) = some ⟨w.heap.size, n, none⟩ ∧ ∃ ad, (some (⟨w2.heap.size, 0, none⟩ : Addr)) = some ad ∧ ∀ (j : Nat) v, [Value.int .u32 77, Value.int .u32 78][j]? = some v → (w2.alloc (.cells #[.int .u32 77, .int .u32 78] 24)).cell? (ad.add j) = some v) from fun _ => ⟨rfl, _, rfl, HNW.out⟩); have HFIT := Lib.hid (show n + [Value.int .u32 77, Value.int .u32 78].length ≤ cur.length by { have := HCL.out; simp; omega }); have HONE := Lib.hid (show ∀ v ∈ [Value.int .u32 77, Value.int .u32 78], v.oneCell' = true by simp [Value.oneCell']); have HB3 := Lib.hid (hB2.out.alloc hB2.out.size (.cells #[.int .u32 77, .int .u32 78] 24)); clear hcl hsp hcur hown2 hgrow2)
      | (with_reducible refine wpList_copy_splice (o := ⟨some 18, _, _, _, _, _⟩) rfl (.tmp 16) (.tmp 17) 23 23 rfl 24 Tryz.underlying23 hsz1 (some ⟨w.heap.size, n, none⟩) (some ⟨w2.heap.size, 0, none⟩) (n + 2 - n) 2 2 2 rfl rfl w.heap.size n cur 24 HG.out [.int .u32 77, .int .u32 78] HMIN.out HPOS.out HFIT.out HONE.out w.heap.size w HB3.out (Nat.le_refl _) ?_; intro w3 hg3 hb3))
    go_ret
    exact ⟨w.heap.size, rfl, Nat.le_refl _, Lib.hid (by have h := hg3.out; rw [HSP.out] at h; exact h), hb3⟩

/-- What is below b, or at or beyond B, is as it was. -/
structure Spd (b B : Nat) (w w' : World) : Prop where
  below : Below b w w'
  size : w'.heap.size = w.heap.size
  far : ∀ g, B ≤ g → w'.heap[g]? = w.heap[g]?
theorem Spd.refl (b B : Nat) (w : World) : Spd b B w w := ⟨Below.refl _ _, rfl, fun _ _ => rfl⟩
theorem Spd.trans {b B : Nat} {w w' w'' : World} (h : Spd b B w w') (k : Spd b B w' w'') : Spd b B w w'' := ⟨h.below.trans k.below, k.size.trans h.size, fun g hg => (k.far g hg).trans (h.far g hg)⟩
theorem Spd.mono {b B b' B' : Nat} {w w' : World} (h : Spd b B w w') (hb : b' ≤ b) (hB : B ≤ B') : Spd b' B' w w' := ⟨h.below.mono hb, h.size, fun g hg => h.far g (by omega)⟩
theorem Spd.set {b B g i : Nat} {w w' : World} (h : Spd b B w w') (hb : b ≤ g) (hB : g < B) (u : Value) : Spd b B w (w'.setCell ⟨g, i, none⟩ u) :=
  ⟨h.below.setCell (p := ⟨g, i, none⟩) hb u, by simp [World.setCell]; exact h.size, fun k hk => (Below.heap_setCell w' ⟨g, i, none⟩ u k (by simp; omega)).trans (h.far k hk)⟩
theorem Spd.po {b B b' n c : Nat} {w w' : World} {A : Option Addr} {L : List Nat} (h : Spd b B w w') (hp : Po w b' A n c L) (hb : B ≤ b') : Po w' b' A n c L := hp.same fun g _ hg _ => h.far g (by omega)
theorem Spd.ub {b B g : Nat} {w w' : World} {L : List Nat} (h : Spd b B w w') (hu : UB w g L) (hg : g < b) : UB w' g L := (h.below.block g hg).trans hu
theorem po_top {w : World} {b n c : Nat} {A : Option Addr} {L : List Nat} (h : Po w b A n c L) : n = 0 ∨ ∀ g, A = some ⟨g, 0, none⟩ → g < w.heap.size := by
  rcases h.at_ with h0 | ⟨g, cur, h1, _, h3, _⟩
  · exact .inl h0
  · refine .inr fun g' e => ?_
    rw [h1] at e
    injection e with e
    injection e with e
    subst e
    exact (Array.getElem?_eq_some_iff.1 h3).1
/-- A list is written over. -/
def RetSp (b B : Nat) (w : World) (e : Ending) (w' : World) : Prop := e = .returned (.tuple #[]) ∧ Spd b B w w'
set_option maxRecDepth 100000 in
set_option maxHeartbeats 1000000 in
theorem spoil_any {A : Option Addr} {b B n c : Nat} {L : List Nat} {w : World} (h : Po w b A n c L) (hB : n = 0 ∨ ∀ g, A = some ⟨g, 0, none⟩ → g < B) :
    Calls Tryz.prog 20 #[.slice A n c] w (RetSp b B w) := by
  rcases Nat.eq_zero_or_pos n with h0 | h0
  · subst h0
    go_enter Tryz.func20, Tryz.ntmps20
    go_wp2
    refine wp_loop_rounds 1 ?_
    rw [rounds_succ]
    go_wp2
    go_end0
    exact ⟨rfl, Spd.refl _ _ _⟩
  · obtain ⟨g, rfl, hbg, hup⟩ := po_up h h0
    have hgB : g < B := hB.resolve_left (by omega) g rfl
    have hnx : n ≤ 9223372036854775807 := Nat.le_trans h.le h.mx
    clear hB
    have HLEN := Lib.hid h.len
    clear h
    go_enter Tryz.func20, Tryz.ntmps20
    go_wp2
    go_loopw [5] (fun i wr => ∃ (k : Nat) (O : List Nat), i = .int .i64 k ∧ k ≤ n ∧ UP wr g O ∧ Hid (O.length = n) ∧ Hid (Spd b B w wr)) (fun i _ => n - (intOf i).toNat)
    case atStart => exact ⟨0, L, rfl, Nat.zero_le _, hup, HLEN, Lib.hid (Spd.refl _ _ _)⟩
    case round =>
      clear hup
      obtain ⟨k, O, rfl, hk, hU, hO, hS⟩ := hrel
      by_cases hkn : k < n
      · have hcell := hU.cell (Dg.get_of_ld (L := O) (i := k) (by rw [hO.out]; exact hkn))
        generalize Dg.ld O k = o0 at hcell
        have hfz := hU.frozen k
        have HX := Lib.hid (And.intro (hU.set k 5) (hS.out.set (i := k) hbg hgB (.int .u32 (5 : Nat))))
        go_wp2
        go_roundw
        case rel => exact ⟨k + 1, O.set k 5, by go_num, hkn, HX.out.1, Lib.hid (by rw [List.length_set]; exact hO.out), Lib.hid HX.out.2⟩
        case measure => simp [intOf]; omega
      · go_wp2
        go_end0
        exact ⟨rfl, hS.out⟩

theorem ub_rd {g B n : Nat} {L : List Nat} {w : World} (hu : UB w g (L ++ [77, 78])) (hw : Dg.Wd L) (hl : L.length = n) (hB : g < B) (hn : n ≤ 1048576) : RdU w B (some ⟨g, 0, none⟩) n (n + 2) L := by
  have hwd : Dg.Wd (L ++ [77, 78]) := fun x hx => by
    rcases List.mem_append.1 hx with hx | hx
    · exact hw x hx
    · simp at hx; omega
  have hr := hu.rd hwd hB (k := n) (by rw [List.length_append, hl]; omega) (by rw [List.length_append, hl]; simp; unfold maxLen; omega)
  rw [List.length_append, hl] at hr
  have e1 : (L ++ [77, 78]).take n = L := by rw [← hl]; simp
  rwa [e1] at hr
/-- A list with its marks is as it was. -/
def RetKp (w : World) (e : Ending) (w' : World) : Prop := e = .returned (.bool true) ∧ ∃ j, w' = w.drewN j
set_option maxRecDepth 100000 in
set_option maxHeartbeats 1000000 in
theorem kept_any {A : Option Addr} {g B n c : Nat} {L : List Nat} {w : World} (hu : UB w g (L ++ [77, 78])) (h : RdU w B A n c L) (hB : g < B) (hn : n ≤ 1048576) :
    Calls Tryz.prog 21 #[.slice (some ⟨g, 0, none⟩) n (n + 2), .slice A n c] w (RetKp w) := by
  have HLEN := Lib.hid h.len
  have hwd : Dg.Wd (L ++ [77, 78]) := fun x hx => by
    rcases List.mem_append.1 hx with hx | hx
    · exact h.wd x hx
    · simp at hx; omega
  have hr := hu.rd hwd hB (k := n) (by rw [List.length_append, HLEN.out]; omega) (by rw [List.length_append, HLEN.out]; simp; unfold maxLen; omega)
  rw [List.length_append, HLEN.out] at hr
  have e1 : (L ++ [77, 78]).take n = L := by rw [← HLEN.out]; simp
  rw [e1] at hr
  have HS := Lib.hid (lsame_any hr h)
  have HLL : Hid ((L == L) = true) := Lib.hid (by simp)
  rw [HLL.out] at HS
  have hc1 : w.cell? ⟨g, n, none⟩ = some (.int .u32 (77 : Nat)) := hu.cell (by rw [List.getElem?_append_right (by rw [HLEN.out]; exact Nat.le_refl _), HLEN.out]; simp)
  have hc2 : w.cell? ⟨g, n + 1, none⟩ = some (.int .u32 (78 : Nat)) := hu.cell (by rw [List.getElem?_append_right (by rw [HLEN.out]; omega), HLEN.out]; simp)
  have HC := Lib.hid (And.intro hc1 hc2)
  clear hu h hwd hr hc1 hc2
  go_enter Tryz.func21, Tryz.ntmps21
  go_wp2_with fail
  refine HS.out.mono ?_
  rintro _ _ ⟨rfl, j, rfl⟩
  have hc1 : (w.drewN j).cell? ⟨g, n, none⟩ = some (.int .u32 77) := HC.out.1
  have hc2 : (w.drewN j).cell? ⟨g, n + 1, none⟩ = some (.int .u32 78) := HC.out.2
  go_wp2
  go_ret
  exact ⟨rfl, j, rfl⟩
end Go.Proofs.YtmgacikdgbedfaaGreatDoor

/- The law ModpolyRings. -/
namespace Go.Proofs.YtmgacikdgbedfaaGreatDoor
open Go.RowKit Go.IntWalk
attribute [local go_sem ↓] Go.wp_at_zero Go.wp_at_succ

set_option maxRecDepth 100000 in
set_option maxHeartbeats 8000000 in
theorem rings_none {A A' : Option Addr} {n n' c c' : Nat} {L L' : List Nat} {w : World} (h : RdU w w.heap.size A n c L) (hnil : A = none → n = 0 ∧ c = 0) (hn : n ≤ 1048576) (h' : RdU w w.heap.size A' n' c' L') (hnil' : A' = none → n' = 0 ∧ c' = 0) (hn' : n' ≤ 1048576) (p : Nat) (hp : p < 4294967296) (hpr : ¬ Nt.Pr p) (hT : Tabs w) :
    Calls Tryz.prog 3 #[.slice A n c, .slice A' n' c', .int .u32 p] w (RetT w) := by
  have HP := Lib.hid hpr
  have HRa := Lib.hid h
  have HRb := Lib.hid h'
  have HWa := Lib.hid h.wd
  have HWb := Lib.hid h'.wd
  have HLa := Lib.hid h.len
  have HLb := Lib.hid h'.len
  have HNa := Lib.hid hnil
  have HNb := Lib.hid hnil'
  clear hpr h h' hnil hnil'
  go_enter Tryz.func3, Tryz.ntmps3
  go_wp2_with fail
  refine (good_any p hp _).mono ?_
  rintro _ _ ⟨rfl, q, code, rfl, hq⟩
  rcases hq.out with ⟨h1, _⟩ | ⟨_, rfl, rfl⟩
  · exact absurd h1 HP.out
  clear hq
  go_wp2_with fail
  refine (own_any HRa.out HNa.out hn).mono ?_
  rintro _ w1 ⟨gx, rfl, hgx, hux, hb⟩
  have HB_0 := Lib.hid hb
  have HX_0 := Lib.hid hux.out
  have hxl := hux.out.lt
  clear hb hux
  go_wp2_with fail
  refine (own_any ((HRb.out.below HB_0.out).more HB_0.out.size) HNb.out hn').mono ?_
  rintro _ w2 ⟨gy, rfl, hgy, huy, hb⟩
  have HB_1 := Lib.hid (HB_0.out.trans (hb.mono HB_0.out.size))
  have HX_1 := Lib.hid (HX_0.out.below hb HX_0.out.lt)
  clear HB_0 HX_0
  have HY_0 := Lib.hid huy.out
  have hyl := huy.out.lt
  have hw12 := hb.size
  clear hb huy
  have h7 : Nt.Pr 7 := Pm.pr7'
  go_wp2_with fail
  refine (mNormal_none p HP.out hp (hT.below HB_1.out)).mono ?_
  rintro _ wk ⟨rfl, hb⟩
  have HB_2 := Lib.hid (HB_1.out.trans (hb.mono HB_1.out.size))
  have HX_2 := Lib.hid (HX_1.out.below hb HX_1.out.lt)
  have HY_2 := Lib.hid (HY_0.out.below hb HY_0.out.lt)
  clear HB_1 HX_1 HY_0
  clear hb
  go_wp2_with fail
  refine (mDegree_none p HP.out hp (hT.below HB_2.out)).mono ?_
  rintro _ wk ⟨rfl, hb⟩
  have HB_3 := Lib.hid (HB_2.out.trans (hb.mono HB_2.out.size))
  have HX_3 := Lib.hid (HX_2.out.below hb HX_2.out.lt)
  have HY_3 := Lib.hid (HY_2.out.below hb HY_2.out.lt)
  clear HB_2 HX_2 HY_2
  clear hb
  go_wp2_with fail
  refine (mMonic_none p HP.out hp (hT.below HB_3.out)).mono ?_
  rintro _ wk ⟨rfl, hb⟩
  have HB_4 := Lib.hid (HB_3.out.trans (hb.mono HB_3.out.size))
  have HX_4 := Lib.hid (HX_3.out.below hb HX_3.out.lt)
  have HY_4 := Lib.hid (HY_3.out.below hb HY_3.out.lt)
  clear HB_3 HX_3 HY_3
  clear hb
  go_wp2_with fail
  refine (mAdd_none p HP.out hp (hT.below HB_4.out)).mono ?_
  rintro _ wk ⟨rfl, hb⟩
  have HB_5 := Lib.hid (HB_4.out.trans (hb.mono HB_4.out.size))
  have HX_5 := Lib.hid (HX_4.out.below hb HX_4.out.lt)
  have HY_5 := Lib.hid (HY_4.out.below hb HY_4.out.lt)
  clear HB_4 HX_4 HY_4
  clear hb
  go_wp2_with fail
  refine (mSub_none p HP.out hp (hT.below HB_5.out)).mono ?_
  rintro _ wk ⟨rfl, hb⟩
  have HB_6 := Lib.hid (HB_5.out.trans (hb.mono HB_5.out.size))
  have HX_6 := Lib.hid (HX_5.out.below hb HX_5.out.lt)
  have HY_6 := Lib.hid (HY_5.out.below hb HY_5.out.lt)
  clear HB_5 HX_5 HY_5
  clear hb
  go_wp2_with fail
  refine (mMul_none p HP.out hp (hT.below HB_6.out)).mono ?_
  rintro _ wk ⟨rfl, hb⟩
  have HB_7 := Lib.hid (HB_6.out.trans (hb.mono HB_6.out.size))
  have HX_7 := Lib.hid (HX_6.out.below hb HX_6.out.lt)
  have HY_7 := Lib.hid (HY_6.out.below hb HY_6.out.lt)
  clear HB_6 HX_6 HY_6
  clear hb
  go_wp2_with fail
  refine (mMul_none p HP.out hp (hT.below HB_7.out)).mono ?_
  rintro _ wk ⟨rfl, hb⟩
  have HB_8 := Lib.hid (HB_7.out.trans (hb.mono HB_7.out.size))
  have HX_8 := Lib.hid (HX_7.out.below hb HX_7.out.lt)
  have HY_8 := Lib.hid (HY_7.out.below hb HY_7.out.lt)
  clear HB_7 HX_7 HY_7
  clear hb
  go_wp2_with fail
  refine (rNorm_any 7 (by omega) (by omega) ((HRa.out.below HB_8.out).more HB_8.out.size) (by omega)).mono ?_
  rintro _ wk ⟨Aa, na, ca, Ra, rfl, hpa, hRa, hb⟩
  have HB_9 := Lib.hid (HB_8.out.trans (hb.mono HB_8.out.size))
  have HX_9 := Lib.hid (HX_8.out.below hb HX_8.out.lt)
  have HY_9 := Lib.hid (HY_8.out.below hb HY_8.out.lt)
  clear HB_8 HX_8 HY_8
  clear hb
  clear hpa hRa
  go_wp2_with fail
  refine (rMul_any 7 (by omega) (by omega) ((HRa.out.below HB_9.out).more HB_9.out.size) ((HRb.out.below HB_9.out).more HB_9.out.size) (by omega) (by omega)).mono ?_
  rintro _ wk ⟨Ab, nb, cb, Rb, rfl, hpb, hRb, hb⟩
  have HB_10 := Lib.hid (HB_9.out.trans (hb.mono HB_9.out.size))
  have HX_10 := Lib.hid (HX_9.out.below hb HX_9.out.lt)
  have HY_10 := Lib.hid (HY_9.out.below hb HY_9.out.lt)
  clear HB_9 HX_9 HY_9
  clear hb
  clear hpb hRb
  go_wp2_with fail
  refine (rNorm_any 7 (by omega) (by omega) ((HRa.out.below HB_10.out).more HB_10.out.size) (by omega)).mono ?_
  rintro _ wk ⟨Ac, nc, cc, Rc, rfl, hpc, hRc, hb⟩
  have HB_11 := Lib.hid (HB_10.out.trans (hb.mono HB_10.out.size))
  have HX_11 := Lib.hid (HX_10.out.below hb HX_10.out.lt)
  have HY_11 := Lib.hid (HY_10.out.below hb HY_10.out.lt)
  clear HB_10 HX_10 HY_10
  clear hb
  clear hpc hRc
  go_wp2_with fail
  refine (ltold_err 40 (by omega) _).mono ?_
  rintro _ wj ⟨rfl, j, rfl⟩
  have hb := below_quiet wk j
  have HB_12 := Lib.hid (HB_11.out.trans (hb.mono HB_11.out.size))
  have HX_12 := Lib.hid (HX_11.out.below hb HX_11.out.lt)
  have HY_12 := Lib.hid (HY_11.out.below hb HY_11.out.lt)
  clear HB_11 HX_11 HY_11
  clear hb
  generalize wk.drewN j = wk1 at HB_12 HX_12 HY_12 ⊢
  go_wp2_with fail
  refine (num_any _ _).mono ?_
  rintro _ _ ⟨z, rfl, hz, rfl⟩
  obtain rfl := hz.out
  clear hz
  go_wp2_with fail
  refine (rMonic_any 7 h7 (by omega) ((HRa.out.below HB_12.out).more HB_12.out.size) (by omega)).mono ?_
  rintro _ wk ⟨Ad, nd, cd, Rd, rfl, hpd, hRd, hb⟩
  have HB_13 := Lib.hid (HB_12.out.trans (hb.mono HB_12.out.size))
  have HX_13 := Lib.hid (HX_12.out.below hb HX_12.out.lt)
  have HY_13 := Lib.hid (HY_12.out.below hb HY_12.out.lt)
  clear HB_12 HX_12 HY_12
  clear hb
  clear hpd hRd
  go_wp2_with fail
  refine (ltold_err 40 (by omega) _).mono ?_
  rintro _ wj ⟨rfl, j, rfl⟩
  have hb := below_quiet wk j
  have HB_14 := Lib.hid (HB_13.out.trans (hb.mono HB_13.out.size))
  have HX_14 := Lib.hid (HX_13.out.below hb HX_13.out.lt)
  have HY_14 := Lib.hid (HY_13.out.below hb HY_13.out.lt)
  clear HB_13 HX_13 HY_13
  clear hb
  generalize wk.drewN j = wk2 at HB_14 HX_14 HY_14 ⊢
  go_wp2_with fail
  refine (rAdd_any 7 (by omega) (by omega) ((HRa.out.below HB_14.out).more HB_14.out.size) ((HRb.out.below HB_14.out).more HB_14.out.size) (by omega) (by omega)).mono ?_
  rintro _ wk ⟨Ae, ne, ce, Re, rfl, hpe, hRe, hb⟩
  have HB_15 := Lib.hid (HB_14.out.trans (hb.mono HB_14.out.size))
  have HX_15 := Lib.hid (HX_14.out.below hb HX_14.out.lt)
  have HY_15 := Lib.hid (HY_14.out.below hb HY_14.out.lt)
  clear HB_14 HX_14 HY_14
  clear hb
  clear hpe hRe
  go_wp2_with fail
  refine (ltold_err 40 (by omega) _).mono ?_
  rintro _ wj ⟨rfl, j, rfl⟩
  have hb := below_quiet wk j
  have HB_16 := Lib.hid (HB_15.out.trans (hb.mono HB_15.out.size))
  have HX_16 := Lib.hid (HX_15.out.below hb HX_15.out.lt)
  have HY_16 := Lib.hid (HY_15.out.below hb HY_15.out.lt)
  clear HB_15 HX_15 HY_15
  clear hb
  generalize wk.drewN j = wk3 at HB_16 HX_16 HY_16 ⊢
  go_wp2_with fail
  refine (rSub_any 7 (by omega) (by omega) ((HRa.out.below HB_16.out).more HB_16.out.size) ((HRb.out.below HB_16.out).more HB_16.out.size) (by omega) (by omega)).mono ?_
  rintro _ wk ⟨Af, nf, cf, Rf, rfl, hpf, hRf, hb⟩
  have HB_17 := Lib.hid (HB_16.out.trans (hb.mono HB_16.out.size))
  have HX_17 := Lib.hid (HX_16.out.below hb HX_16.out.lt)
  have HY_17 := Lib.hid (HY_16.out.below hb HY_16.out.lt)
  clear HB_16 HX_16 HY_16
  clear hb
  clear hpf hRf
  go_wp2_with fail
  refine (ltold_err 40 (by omega) _).mono ?_
  rintro _ wj ⟨rfl, j, rfl⟩
  have hb := below_quiet wk j
  have HB_18 := Lib.hid (HB_17.out.trans (hb.mono HB_17.out.size))
  have HX_18 := Lib.hid (HX_17.out.below hb HX_17.out.lt)
  have HY_18 := Lib.hid (HY_17.out.below hb HY_17.out.lt)
  clear HB_17 HX_17 HY_17
  clear hb
  generalize wk.drewN j = wk4 at HB_18 HX_18 HY_18 ⊢
  go_wp2_with fail
  refine (ltold_err 40 (by omega) _).mono ?_
  rintro _ wj ⟨rfl, j, rfl⟩
  have hb := below_quiet wk4 j
  have HB_19 := Lib.hid (HB_18.out.trans (hb.mono HB_18.out.size))
  have HX_19 := Lib.hid (HX_18.out.below hb HX_18.out.lt)
  have HY_19 := Lib.hid (HY_18.out.below hb HY_18.out.lt)
  clear HB_18 HX_18 HY_18
  clear hb
  generalize wk4.drewN j = wk5 at HB_19 HX_19 HY_19 ⊢
  go_wp2_with fail
  refine (spoil_any (b := w2.heap.size) (B := w2.heap.size) (Po.nil _ _ 0 none (Nat.zero_le _)) (.inl rfl)).mono ?_
  rintro _ wk ⟨rfl, hs⟩
  have HB_20 := Lib.hid (HB_19.out.trans (hs.below.mono (by omega)))
  clear HB_19
  have HX_20 := Lib.hid (hs.ub HX_19.out (by omega))
  clear HX_19
  have HY_20 := Lib.hid (hs.ub HY_19.out (by omega))
  clear HY_19
  clear hs
  go_wp2_with fail
  refine (spoil_any (b := w2.heap.size) (B := w2.heap.size) (Po.nil _ _ 0 none (Nat.zero_le _)) (.inl rfl)).mono ?_
  rintro _ wk ⟨rfl, hs⟩
  have HB_21 := Lib.hid (HB_20.out.trans (hs.below.mono (by omega)))
  clear HB_20
  have HX_21 := Lib.hid (hs.ub HX_20.out (by omega))
  clear HX_20
  have HY_21 := Lib.hid (hs.ub HY_20.out (by omega))
  clear HY_20
  clear hs
  go_wp2_with fail
  refine (spoil_any (b := w2.heap.size) (B := w2.heap.size) (Po.nil _ _ 0 none (Nat.zero_le _)) (.inl rfl)).mono ?_
  rintro _ wk ⟨rfl, hs⟩
  have HB_22 := Lib.hid (HB_21.out.trans (hs.below.mono (by omega)))
  clear HB_21
  have HX_22 := Lib.hid (hs.ub HX_21.out (by omega))
  clear HX_21
  have HY_22 := Lib.hid (hs.ub HY_21.out (by omega))
  clear HY_21
  clear hs
  go_wp2_with fail
  refine (spoil_any (b := w2.heap.size) (B := w2.heap.size) (Po.nil _ _ 0 none (Nat.zero_le _)) (.inl rfl)).mono ?_
  rintro _ wk ⟨rfl, hs⟩
  have HB_23 := Lib.hid (HB_22.out.trans (hs.below.mono (by omega)))
  clear HB_22
  have HX_23 := Lib.hid (hs.ub HX_22.out (by omega))
  clear HX_22
  have HY_23 := Lib.hid (hs.ub HY_22.out (by omega))
  clear HY_22
  clear hs
  go_wp2_with fail
  refine (kept_any HX_23.out ((HRa.out.below HB_23.out).more HB_23.out.size) HX_23.out.lt hn).mono ?_
  rintro _ wj ⟨rfl, j, rfl⟩
  have hb := below_quiet wk j
  have HB_24 := Lib.hid (HB_23.out.trans (hb.mono HB_23.out.size))
  have HX_24 := Lib.hid (HX_23.out.below hb HX_23.out.lt)
  have HY_24 := Lib.hid (HY_23.out.below hb HY_23.out.lt)
  clear HB_23 HX_23 HY_23
  clear hb
  generalize wk.drewN j = wk6 at HB_24 HX_24 HY_24 ⊢
  go_wp2_with fail
  refine (kept_any HY_24.out ((HRb.out.below HB_24.out).more HB_24.out.size) HY_24.out.lt hn').mono ?_
  rintro _ wj ⟨rfl, j, rfl⟩
  have hb := below_quiet wk6 j
  have HB_25 := Lib.hid (HB_24.out.trans (hb.mono HB_24.out.size))
  have HX_25 := Lib.hid (HX_24.out.below hb HX_24.out.lt)
  have HY_25 := Lib.hid (HY_24.out.below hb HY_24.out.lt)
  clear HB_24 HX_24 HY_24
  clear hb
  generalize wk6.drewN j = wk7 at HB_25 HX_25 HY_25 ⊢
  go_wp2_with fail
  refine (awake_any wk7 (hT.below HB_25.out)).mono ?_
  rintro _ w9 ⟨rfl, hb9⟩
  have HF := Lib.hid (HB_25.out.trans (hb9.mono HB_25.out.size))
  go_wp2
  go_ret
  exact ⟨rfl, HF.out⟩
set_option maxRecDepth 100000 in
set_option maxHeartbeats 8000000 in
theorem rings_ok {A A' : Option Addr} {n n' c c' : Nat} {L L' : List Nat} {w : World} (h : RdU w w.heap.size A n c L) (hnil : A = none → n = 0 ∧ c = 0) (hn : n ≤ 1048576) (h' : RdU w w.heap.size A' n' c' L') (hnil' : A' = none → n' = 0 ∧ c' = 0) (hn' : n' ≤ 1048576) (p : Nat) (hp : p < 4294967296) (hpr : Nt.Pr p) (hT : Tabs w) :
    Calls Tryz.prog 3 #[.slice A n c, .slice A' n' c', .int .u32 p] w (RetT w) := by
  have HP := Lib.hid hpr
  have HRa := Lib.hid h
  have HRb := Lib.hid h'
  have HWa := Lib.hid h.wd
  have HWb := Lib.hid h'.wd
  have HLa := Lib.hid h.len
  have HLb := Lib.hid h'.len
  have HNa := Lib.hid hnil
  have HNb := Lib.hid hnil'
  clear hpr h h' hnil hnil'
  go_enter Tryz.func3, Tryz.ntmps3
  go_wp2_with fail
  refine (good_any p hp _).mono ?_
  rintro _ _ ⟨rfl, q, code, rfl, hq⟩
  rcases hq.out with ⟨_, rfl, rfl⟩ | ⟨h1, _⟩
  rotate_left
  · exact absurd HP.out h1
  have h0 := HP.out.pos
  clear hq
  go_wp2_with fail
  refine (own_any HRa.out HNa.out hn).mono ?_
  rintro _ w1 ⟨gx, rfl, hgx, hux, hb⟩
  have HB_0 := Lib.hid hb
  have HX_0 := Lib.hid hux.out
  have hxl := hux.out.lt
  clear hb hux
  go_wp2_with fail
  refine (own_any ((HRb.out.below HB_0.out).more HB_0.out.size) HNb.out hn').mono ?_
  rintro _ w2 ⟨gy, rfl, hgy, huy, hb⟩
  have HB_1 := Lib.hid (HB_0.out.trans (hb.mono HB_0.out.size))
  have HX_1 := Lib.hid (HX_0.out.below hb HX_0.out.lt)
  clear HB_0 HX_0
  have HY_0 := Lib.hid huy.out
  have hyl := huy.out.lt
  have hw12 := hb.size
  clear hb huy
  go_wp2_with fail
  refine (mNormal_ok q HP.out hp (ub_rd HX_1.out HWa.out HLa.out HX_1.out.lt hn) (by omega) (hT.below HB_1.out)).mono ?_
  rintro _ wn ⟨An, nn, cn, Rn, rfl, hpn, hRn, hb⟩
  have hsn := hb.size
  have HB_2 := Lib.hid (HB_1.out.trans (hb.mono HB_1.out.size))
  have HX_2 := Lib.hid (HX_1.out.below hb HX_1.out.lt)
  have HY_2 := Lib.hid (HY_0.out.below hb HY_0.out.lt)
  clear HB_1 HX_1 HY_0
  clear hb
  have Pn_2 := Lib.hid hpn
  have HTn := Lib.hid (po_top hpn)
  have HLn := Lib.hid hpn.len
  clear hpn
  go_wp2_with fail
  refine (mDegree_ok q HP.out hp (ub_rd HX_2.out HWa.out HLa.out HX_2.out.lt hn) (by omega) (hT.below HB_2.out)).mono ?_
  rintro _ wd ⟨M, rfl, hM, hMl, hb⟩
  have hsd := hb.size
  have HB_3 := Lib.hid (HB_2.out.trans (hb.mono HB_2.out.size))
  have HX_3 := Lib.hid (HX_2.out.below hb HX_2.out.lt)
  have HY_3 := Lib.hid (HY_2.out.below hb HY_2.out.lt)
  have Pn_3 := Lib.hid (Pn_2.out.next hb)
  clear HB_2 HX_2 HY_2 Pn_2
  clear hb
  obtain ⟨ml, hml⟩ : ∃ ml, ml = M.length := ⟨_, rfl⟩
  rw [← hml] at hMl ⊢
  have HML := Lib.hid hml
  clear hml
  go_wp2_with fail
  refine (mMonic_ok q HP.out hp (ub_rd HX_3.out HWa.out HLa.out HX_3.out.lt hn) (by omega) (hT.below HB_3.out)).mono ?_
  rintro _ wm ⟨Am, nm, cm, Rm, rfl, hpm, hRm, hb⟩
  have hsm := hb.size
  have HB_4 := Lib.hid (HB_3.out.trans (hb.mono HB_3.out.size))
  have HX_4 := Lib.hid (HX_3.out.below hb HX_3.out.lt)
  have HY_4 := Lib.hid (HY_3.out.below hb HY_3.out.lt)
  have Pn_4 := Lib.hid (Pn_3.out.next hb)
  clear HB_3 HX_3 HY_3 Pn_3
  clear hb
  have Pm_4 := Lib.hid hpm
  have HTm := Lib.hid (po_top hpm)
  have HLm := Lib.hid hpm.len
  clear hpm
  go_wp2_with fail
  refine (mAdd_ok q HP.out hp (ub_rd HX_4.out HWa.out HLa.out HX_4.out.lt hn) (ub_rd HY_4.out HWb.out HLb.out HY_4.out.lt hn') (by omega) (by omega) (hT.below HB_4.out)).mono ?_
  rintro _ ws ⟨As, ns, cs, Rs, rfl, hps, hRs, hb⟩
  have hss := hb.size
  have HB_5 := Lib.hid (HB_4.out.trans (hb.mono HB_4.out.size))
  have HX_5 := Lib.hid (HX_4.out.below hb HX_4.out.lt)
  have HY_5 := Lib.hid (HY_4.out.below hb HY_4.out.lt)
  have Pn_5 := Lib.hid (Pn_4.out.next hb)
  have Pm_5 := Lib.hid (Pm_4.out.next hb)
  clear HB_4 HX_4 HY_4 Pn_4 Pm_4
  clear hb
  have Ps_5 := Lib.hid hps
  have HTs := Lib.hid (po_top hps)
  have HLs := Lib.hid hps.len
  clear hps
  go_wp2_with fail
  refine (mSub_ok q HP.out hp (ub_rd HX_5.out HWa.out HLa.out HX_5.out.lt hn) (ub_rd HY_5.out HWb.out HLb.out HY_5.out.lt hn') (by omega) (by omega) (hT.below HB_5.out)).mono ?_
  rintro _ wt ⟨At, nt, ct, Rt, rfl, hpt, hRt, hb⟩
  have hst := hb.size
  have HB_6 := Lib.hid (HB_5.out.trans (hb.mono HB_5.out.size))
  have HX_6 := Lib.hid (HX_5.out.below hb HX_5.out.lt)
  have HY_6 := Lib.hid (HY_5.out.below hb HY_5.out.lt)
  have Pn_6 := Lib.hid (Pn_5.out.next hb)
  have Pm_6 := Lib.hid (Pm_5.out.next hb)
  have Ps_6 := Lib.hid (Ps_5.out.next hb)
  clear HB_5 HX_5 HY_5 Pn_5 Pm_5 Ps_5
  clear hb
  have Pt_6 := Lib.hid hpt
  have HTt := Lib.hid (po_top hpt)
  have HLt := Lib.hid hpt.len
  clear hpt
  go_wp2_with fail
  refine (mMul_ok q HP.out hp (ub_rd HX_6.out HWa.out HLa.out HX_6.out.lt hn) (ub_rd HY_6.out HWb.out HLb.out HY_6.out.lt hn') (by omega) (by omega) (hT.below HB_6.out)).mono ?_
  rintro _ wu ⟨Au, nu, cu, Ru, rfl, hpu, hRu, hb⟩
  have hsu := hb.size
  have HB_7 := Lib.hid (HB_6.out.trans (hb.mono HB_6.out.size))
  have HX_7 := Lib.hid (HX_6.out.below hb HX_6.out.lt)
  have HY_7 := Lib.hid (HY_6.out.below hb HY_6.out.lt)
  have Pn_7 := Lib.hid (Pn_6.out.next hb)
  have Pm_7 := Lib.hid (Pm_6.out.next hb)
  have Ps_7 := Lib.hid (Ps_6.out.next hb)
  have Pt_7 := Lib.hid (Pt_6.out.next hb)
  clear HB_6 HX_6 HY_6 Pn_6 Pm_6 Ps_6 Pt_6
  clear hb
  have Pu_7 := Lib.hid hpu
  have HTu := Lib.hid (po_top hpu)
  have HLu := Lib.hid hpu.len
  clear hpu
  go_wp2_with fail
  refine (mMul_ok q HP.out hp (ub_rd HX_7.out HWa.out HLa.out HX_7.out.lt hn) (ub_rd HY_7.out HWb.out HLb.out HY_7.out.lt hn') (by omega) (by omega) (hT.below HB_7.out)).mono ?_
  rintro _ wv ⟨Av, nv, cv, Rv, rfl, hpv, hRv, hb⟩
  have hsv := hb.size
  have HB_8 := Lib.hid (HB_7.out.trans (hb.mono HB_7.out.size))
  have HX_8 := Lib.hid (HX_7.out.below hb HX_7.out.lt)
  have HY_8 := Lib.hid (HY_7.out.below hb HY_7.out.lt)
  have Pn_8 := Lib.hid (Pn_7.out.next hb)
  have Pm_8 := Lib.hid (Pm_7.out.next hb)
  have Ps_8 := Lib.hid (Ps_7.out.next hb)
  have Pt_8 := Lib.hid (Pt_7.out.next hb)
  have Pu_8 := Lib.hid (Pu_7.out.next hb)
  clear HB_7 HX_7 HY_7 Pn_7 Pm_7 Ps_7 Pt_7 Pu_7
  clear hb
  have Pv_8 := Lib.hid hpv
  have HTv := Lib.hid (po_top hpv)
  have HLv := Lib.hid hpv.len
  clear hpv
  go_wp2_with fail
  refine (rNorm_any q h0 hp ((HRa.out.below HB_8.out).more HB_8.out.size) (by omega)).mono ?_
  rintro _ wk ⟨Ak, nk, ck, Rk, rfl, hpk, hRk, hb⟩
  have hsk := hb.size
  have HB_9 := Lib.hid (HB_8.out.trans (hb.mono HB_8.out.size))
  have HX_9 := Lib.hid (HX_8.out.below hb HX_8.out.lt)
  have HY_9 := Lib.hid (HY_8.out.below hb HY_8.out.lt)
  have Pn_9 := Lib.hid (Pn_8.out.next hb)
  have Pm_9 := Lib.hid (Pm_8.out.next hb)
  have Ps_9 := Lib.hid (Ps_8.out.next hb)
  have Pt_9 := Lib.hid (Pt_8.out.next hb)
  have Pu_9 := Lib.hid (Pu_8.out.next hb)
  have Pv_9 := Lib.hid (Pv_8.out.next hb)
  clear HB_8 HX_8 HY_8 Pn_8 Pm_8 Ps_8 Pt_8 Pu_8 Pv_8
  clear hb
  have Pk_9 := Lib.hid hpk
  have HTk := Lib.hid (po_top hpk)
  have HLk := Lib.hid hpk.len
  clear hpk
  obtain rfl : nk = ml := by
    have e := hM.out.1.ext h0 hRk.out.1 (hM.out.2.trans hRk.out.2.symm)
    rw [HML.out, e, HLk.out]
  go_wp2_with fail
  refine (rMul_any q h0 hp ((HRa.out.below HB_9.out).more HB_9.out.size) ((HRb.out.below HB_9.out).more HB_9.out.size) (by omega) (by omega)).mono ?_
  rintro _ wp ⟨Ap, np, cp, Rp, rfl, hpp, hRp, hb⟩
  have hsp := hb.size
  have HB_10 := Lib.hid (HB_9.out.trans (hb.mono HB_9.out.size))
  have HX_10 := Lib.hid (HX_9.out.below hb HX_9.out.lt)
  have HY_10 := Lib.hid (HY_9.out.below hb HY_9.out.lt)
  have Pn_10 := Lib.hid (Pn_9.out.next hb)
  have Pm_10 := Lib.hid (Pm_9.out.next hb)
  have Ps_10 := Lib.hid (Ps_9.out.next hb)
  have Pt_10 := Lib.hid (Pt_9.out.next hb)
  have Pu_10 := Lib.hid (Pu_9.out.next hb)
  have Pv_10 := Lib.hid (Pv_9.out.next hb)
  clear HB_9 HX_9 HY_9 Pn_9 Pm_9 Ps_9 Pt_9 Pu_9 Pv_9
  clear hb
  have Pp_10 := Lib.hid hpp
  have HTp := Lib.hid (po_top hpp)
  have HLp := Lib.hid hpp.len
  clear hpp
  go_wp2_with fail
  refine (rNorm_any q h0 hp ((HRa.out.below HB_10.out).more HB_10.out.size) (by omega)).mono ?_
  rintro _ wx1 ⟨Ax1, nx1, cx1, Rx1, rfl, hpx1, hRx1, hb⟩
  have hsx1 := hb.size
  have HB_11 := Lib.hid (HB_10.out.trans (hb.mono HB_10.out.size))
  have HX_11 := Lib.hid (HX_10.out.below hb HX_10.out.lt)
  have HY_11 := Lib.hid (HY_10.out.below hb HY_10.out.lt)
  have Pn_11 := Lib.hid (Pn_10.out.next hb)
  have Pm_11 := Lib.hid (Pm_10.out.next hb)
  have Ps_11 := Lib.hid (Ps_10.out.next hb)
  have Pt_11 := Lib.hid (Pt_10.out.next hb)
  have Pu_11 := Lib.hid (Pu_10.out.next hb)
  have Pv_11 := Lib.hid (Pv_10.out.next hb)
  have Pp_11 := Lib.hid (Pp_10.out.next hb)
  clear HB_10 HX_10 HY_10 Pn_10 Pm_10 Ps_10 Pt_10 Pu_10 Pv_10 Pp_10
  clear hb
  have Px1_11 := Lib.hid hpx1
  have HTx1 := Lib.hid (po_top hpx1)
  have HLx1 := Lib.hid hpx1.len
  clear hpx1
  have HEQ := Lib.hid (hRn.out.1.ext h0 hRx1.out.1 (hRn.out.2.trans hRx1.out.2.symm))
  go_wp2_with fail
  refine (ltold_ok Pn_11.out.rd Px1_11.out.rd HEQ.out).mono ?_
  rintro _ wj ⟨rfl, j, rfl⟩
  clear HEQ
  clear Px1_11
  have hb := below_quiet wx1 j
  have HB_12 := Lib.hid (HB_11.out.trans (hb.mono HB_11.out.size))
  have HX_12 := Lib.hid (HX_11.out.below hb HX_11.out.lt)
  have HY_12 := Lib.hid (HY_11.out.below hb HY_11.out.lt)
  have Pn_12 := Lib.hid (Pn_11.out.next hb)
  have Pm_12 := Lib.hid (Pm_11.out.next hb)
  have Ps_12 := Lib.hid (Ps_11.out.next hb)
  have Pt_12 := Lib.hid (Pt_11.out.next hb)
  have Pu_12 := Lib.hid (Pu_11.out.next hb)
  have Pv_12 := Lib.hid (Pv_11.out.next hb)
  have Pp_12 := Lib.hid (Pp_11.out.next hb)
  clear HB_11 HX_11 HY_11 Pn_11 Pm_11 Ps_11 Pt_11 Pu_11 Pv_11 Pp_11
  clear hb
  generalize wx1.drewN j = wt1 at HB_12 HX_12 HY_12 Pn_12 Pm_12 Ps_12 Pt_12 Pu_12 Pv_12 Pp_12 ⊢
  go_wp2_with fail
  refine (num_any _ _).mono ?_
  rintro _ _ ⟨z, rfl, hz, rfl⟩
  obtain rfl := hz.out
  clear hz
  go_wp2_with fail
  refine (rMonic_any q HP.out hp ((HRa.out.below HB_12.out).more HB_12.out.size) (by omega)).mono ?_
  rintro _ wx2 ⟨Ax2, nx2, cx2, Rx2, rfl, hpx2, hRx2, hb⟩
  have hsx2 := hb.size
  have HB_13 := Lib.hid (HB_12.out.trans (hb.mono HB_12.out.size))
  have HX_13 := Lib.hid (HX_12.out.below hb HX_12.out.lt)
  have HY_13 := Lib.hid (HY_12.out.below hb HY_12.out.lt)
  have Pn_13 := Lib.hid (Pn_12.out.next hb)
  have Pm_13 := Lib.hid (Pm_12.out.next hb)
  have Ps_13 := Lib.hid (Ps_12.out.next hb)
  have Pt_13 := Lib.hid (Pt_12.out.next hb)
  have Pu_13 := Lib.hid (Pu_12.out.next hb)
  have Pv_13 := Lib.hid (Pv_12.out.next hb)
  have Pp_13 := Lib.hid (Pp_12.out.next hb)
  clear HB_12 HX_12 HY_12 Pn_12 Pm_12 Ps_12 Pt_12 Pu_12 Pv_12 Pp_12
  clear hb
  have Px2_13 := Lib.hid hpx2
  have HTx2 := Lib.hid (po_top hpx2)
  have HLx2 := Lib.hid hpx2.len
  clear hpx2
  have HEQ := Lib.hid (MoOf.unique HP.out (show MoOf q L Rm from hRm.out) hRx2.out)
  go_wp2_with fail
  refine (ltold_ok Pm_13.out.rd Px2_13.out.rd HEQ.out).mono ?_
  rintro _ wj ⟨rfl, j, rfl⟩
  clear HEQ
  clear Pm_13
  clear Px2_13
  have hb := below_quiet wx2 j
  have HB_14 := Lib.hid (HB_13.out.trans (hb.mono HB_13.out.size))
  have HX_14 := Lib.hid (HX_13.out.below hb HX_13.out.lt)
  have HY_14 := Lib.hid (HY_13.out.below hb HY_13.out.lt)
  have Pn_14 := Lib.hid (Pn_13.out.next hb)
  have Ps_14 := Lib.hid (Ps_13.out.next hb)
  have Pt_14 := Lib.hid (Pt_13.out.next hb)
  have Pu_14 := Lib.hid (Pu_13.out.next hb)
  have Pv_14 := Lib.hid (Pv_13.out.next hb)
  have Pp_14 := Lib.hid (Pp_13.out.next hb)
  clear HB_13 HX_13 HY_13 Pn_13 Ps_13 Pt_13 Pu_13 Pv_13 Pp_13
  clear hb
  generalize wx2.drewN j = wt2 at HB_14 HX_14 HY_14 Pn_14 Ps_14 Pt_14 Pu_14 Pv_14 Pp_14 ⊢
  go_wp2_with fail
  refine (rAdd_any q h0 hp ((HRa.out.below HB_14.out).more HB_14.out.size) ((HRb.out.below HB_14.out).more HB_14.out.size) (by omega) (by omega)).mono ?_
  rintro _ wx3 ⟨Ax3, nx3, cx3, Rx3, rfl, hpx3, hRx3, hb⟩
  have hsx3 := hb.size
  have HB_15 := Lib.hid (HB_14.out.trans (hb.mono HB_14.out.size))
  have HX_15 := Lib.hid (HX_14.out.below hb HX_14.out.lt)
  have HY_15 := Lib.hid (HY_14.out.below hb HY_14.out.lt)
  have Pn_15 := Lib.hid (Pn_14.out.next hb)
  have Ps_15 := Lib.hid (Ps_14.out.next hb)
  have Pt_15 := Lib.hid (Pt_14.out.next hb)
  have Pu_15 := Lib.hid (Pu_14.out.next hb)
  have Pv_15 := Lib.hid (Pv_14.out.next hb)
  have Pp_15 := Lib.hid (Pp_14.out.next hb)
  clear HB_14 HX_14 HY_14 Pn_14 Ps_14 Pt_14 Pu_14 Pv_14 Pp_14
  clear hb
  have Px3_15 := Lib.hid hpx3
  have HTx3 := Lib.hid (po_top hpx3)
  have HLx3 := Lib.hid hpx3.len
  clear hpx3
  have HEQ := Lib.hid (hRs.out.1.ext h0 hRx3.out.1 (hRs.out.2.trans hRx3.out.2.symm))
  go_wp2_with fail
  refine (ltold_ok Ps_15.out.rd Px3_15.out.rd HEQ.out).mono ?_
  rintro _ wj ⟨rfl, j, rfl⟩
  clear HEQ
  clear Px3_15
  have hb := below_quiet wx3 j
  have HB_16 := Lib.hid (HB_15.out.trans (hb.mono HB_15.out.size))
  have HX_16 := Lib.hid (HX_15.out.below hb HX_15.out.lt)
  have HY_16 := Lib.hid (HY_15.out.below hb HY_15.out.lt)
  have Pn_16 := Lib.hid (Pn_15.out.next hb)
  have Ps_16 := Lib.hid (Ps_15.out.next hb)
  have Pt_16 := Lib.hid (Pt_15.out.next hb)
  have Pu_16 := Lib.hid (Pu_15.out.next hb)
  have Pv_16 := Lib.hid (Pv_15.out.next hb)
  have Pp_16 := Lib.hid (Pp_15.out.next hb)
  clear HB_15 HX_15 HY_15 Pn_15 Ps_15 Pt_15 Pu_15 Pv_15 Pp_15
  clear hb
  generalize wx3.drewN j = wt3 at HB_16 HX_16 HY_16 Pn_16 Ps_16 Pt_16 Pu_16 Pv_16 Pp_16 ⊢
  go_wp2_with fail
  refine (rSub_any q h0 hp ((HRa.out.below HB_16.out).more HB_16.out.size) ((HRb.out.below HB_16.out).more HB_16.out.size) (by omega) (by omega)).mono ?_
  rintro _ wx4 ⟨Ax4, nx4, cx4, Rx4, rfl, hpx4, hRx4, hb⟩
  have hsx4 := hb.size
  have HB_17 := Lib.hid (HB_16.out.trans (hb.mono HB_16.out.size))
  have HX_17 := Lib.hid (HX_16.out.below hb HX_16.out.lt)
  have HY_17 := Lib.hid (HY_16.out.below hb HY_16.out.lt)
  have Pn_17 := Lib.hid (Pn_16.out.next hb)
  have Ps_17 := Lib.hid (Ps_16.out.next hb)
  have Pt_17 := Lib.hid (Pt_16.out.next hb)
  have Pu_17 := Lib.hid (Pu_16.out.next hb)
  have Pv_17 := Lib.hid (Pv_16.out.next hb)
  have Pp_17 := Lib.hid (Pp_16.out.next hb)
  clear HB_16 HX_16 HY_16 Pn_16 Ps_16 Pt_16 Pu_16 Pv_16 Pp_16
  clear hb
  have Px4_17 := Lib.hid hpx4
  have HTx4 := Lib.hid (po_top hpx4)
  have HLx4 := Lib.hid hpx4.len
  clear hpx4
  have HEQ := Lib.hid (hRt.out.1.ext h0 hRx4.out.1 (hRt.out.2.trans hRx4.out.2.symm))
  go_wp2_with fail
  refine (ltold_ok Pt_17.out.rd Px4_17.out.rd HEQ.out).mono ?_
  rintro _ wj ⟨rfl, j, rfl⟩
  clear HEQ
  clear Px4_17
  have hb := below_quiet wx4 j
  have HB_18 := Lib.hid (HB_17.out.trans (hb.mono HB_17.out.size))
  have HX_18 := Lib.hid (HX_17.out.below hb HX_17.out.lt)
  have HY_18 := Lib.hid (HY_17.out.below hb HY_17.out.lt)
  have Pn_18 := Lib.hid (Pn_17.out.next hb)
  have Ps_18 := Lib.hid (Ps_17.out.next hb)
  have Pt_18 := Lib.hid (Pt_17.out.next hb)
  have Pu_18 := Lib.hid (Pu_17.out.next hb)
  have Pv_18 := Lib.hid (Pv_17.out.next hb)
  have Pp_18 := Lib.hid (Pp_17.out.next hb)
  clear HB_17 HX_17 HY_17 Pn_17 Ps_17 Pt_17 Pu_17 Pv_17 Pp_17
  clear hb
  generalize wx4.drewN j = wt4 at HB_18 HX_18 HY_18 Pn_18 Ps_18 Pt_18 Pu_18 Pv_18 Pp_18 ⊢
  have HEQ := Lib.hid (hRu.out.1.ext h0 hRp.out.1 (hRu.out.2.trans hRp.out.2.symm))
  go_wp2_with fail
  refine (ltold_ok Pu_18.out.rd Pp_18.out.rd HEQ.out).mono ?_
  rintro _ wj ⟨rfl, j, rfl⟩
  clear HEQ
  have hb := below_quiet wt4 j
  have HB_19 := Lib.hid (HB_18.out.trans (hb.mono HB_18.out.size))
  have HX_19 := Lib.hid (HX_18.out.below hb HX_18.out.lt)
  have HY_19 := Lib.hid (HY_18.out.below hb HY_18.out.lt)
  have Pn_19 := Lib.hid (Pn_18.out.next hb)
  have Ps_19 := Lib.hid (Ps_18.out.next hb)
  have Pt_19 := Lib.hid (Pt_18.out.next hb)
  have Pu_19 := Lib.hid (Pu_18.out.next hb)
  have Pv_19 := Lib.hid (Pv_18.out.next hb)
  have Pp_19 := Lib.hid (Pp_18.out.next hb)
  clear HB_18 HX_18 HY_18 Pn_18 Ps_18 Pt_18 Pu_18 Pv_18 Pp_18
  clear hb
  generalize wt4.drewN j = wt5 at HB_19 HX_19 HY_19 Pn_19 Ps_19 Pt_19 Pu_19 Pv_19 Pp_19 ⊢
  have HVP := Lib.hid (hRv.out.1.ext h0 hRp.out.1 (hRv.out.2.trans hRp.out.2.symm))
  have hgx : gx < w2.heap.size := by omega
  have hsz := And.intro hsn (And.intro hsd (And.intro hsm (And.intro hss (And.intro hst (And.intro hsu hsv)))))
  go_wp2_with fail
  refine (spoil_any (b := w2.heap.size) (B := wn.heap.size) (Pn_19.out.base (by omega)) HTn.out).mono ?_
  rintro _ wq0 ⟨rfl, hs⟩
  clear Pn_19
  have HB_20 := Lib.hid (HB_19.out.trans (hs.below.mono (by omega)))
  clear HB_19
  have HX_20 := Lib.hid (hs.ub HX_19.out (by omega))
  clear HX_19
  have HY_20 := Lib.hid (hs.ub HY_19.out (by omega))
  clear HY_19
  have Ps_20 := Lib.hid (hs.po Ps_19.out (by omega))
  clear Ps_19
  have Pt_20 := Lib.hid (hs.po Pt_19.out (by omega))
  clear Pt_19
  have Pu_20 := Lib.hid (hs.po Pu_19.out (by omega))
  clear Pu_19
  have Pv_20 := Lib.hid (hs.po Pv_19.out (by omega))
  clear Pv_19
  have Pp_20 := Lib.hid (hs.po Pp_19.out (by omega))
  clear Pp_19
  clear hs
  go_wp2_with fail
  refine (spoil_any (b := w2.heap.size) (B := ws.heap.size) (Ps_20.out.base (by omega)) HTs.out).mono ?_
  rintro _ wq1 ⟨rfl, hs⟩
  clear Ps_20
  have HB_21 := Lib.hid (HB_20.out.trans (hs.below.mono (by omega)))
  clear HB_20
  have HX_21 := Lib.hid (hs.ub HX_20.out (by omega))
  clear HX_20
  have HY_21 := Lib.hid (hs.ub HY_20.out (by omega))
  clear HY_20
  have Pt_21 := Lib.hid (hs.po Pt_20.out (by omega))
  clear Pt_20
  have Pu_21 := Lib.hid (hs.po Pu_20.out (by omega))
  clear Pu_20
  have Pv_21 := Lib.hid (hs.po Pv_20.out (by omega))
  clear Pv_20
  have Pp_21 := Lib.hid (hs.po Pp_20.out (by omega))
  clear Pp_20
  clear hs
  go_wp2_with fail
  refine (spoil_any (b := w2.heap.size) (B := wt.heap.size) (Pt_21.out.base (by omega)) HTt.out).mono ?_
  rintro _ wq2 ⟨rfl, hs⟩
  clear Pt_21
  have HB_22 := Lib.hid (HB_21.out.trans (hs.below.mono (by omega)))
  clear HB_21
  have HX_22 := Lib.hid (hs.ub HX_21.out (by omega))
  clear HX_21
  have HY_22 := Lib.hid (hs.ub HY_21.out (by omega))
  clear HY_21
  have Pu_22 := Lib.hid (hs.po Pu_21.out (by omega))
  clear Pu_21
  have Pv_22 := Lib.hid (hs.po Pv_21.out (by omega))
  clear Pv_21
  have Pp_22 := Lib.hid (hs.po Pp_21.out (by omega))
  clear Pp_21
  clear hs
  go_wp2_with fail
  refine (spoil_any (b := w2.heap.size) (B := wu.heap.size) (Pu_22.out.base (by omega)) HTu.out).mono ?_
  rintro _ wq3 ⟨rfl, hs⟩
  clear Pu_22
  have HB_23 := Lib.hid (HB_22.out.trans (hs.below.mono (by omega)))
  clear HB_22
  have HX_23 := Lib.hid (hs.ub HX_22.out (by omega))
  clear HX_22
  have HY_23 := Lib.hid (hs.ub HY_22.out (by omega))
  clear HY_22
  have Pv_23 := Lib.hid (hs.po Pv_22.out (by omega))
  clear Pv_22
  have Pp_23 := Lib.hid (hs.po Pp_22.out (by omega))
  clear Pp_22
  clear hs
  obtain ⟨wk, rfl⟩ : ∃ wk : World, wk = wq3 := ⟨_, rfl⟩
  go_wp2_with fail
  refine (kept_any HX_23.out ((HRa.out.below HB_23.out).more HB_23.out.size) HX_23.out.lt hn).mono ?_
  rintro _ wj ⟨rfl, j, rfl⟩
  have hb := below_quiet wk j
  have HB_24 := Lib.hid (HB_23.out.trans (hb.mono HB_23.out.size))
  have HX_24 := Lib.hid (HX_23.out.below hb HX_23.out.lt)
  have HY_24 := Lib.hid (HY_23.out.below hb HY_23.out.lt)
  have Pv_24 := Lib.hid (Pv_23.out.next hb)
  have Pp_24 := Lib.hid (Pp_23.out.next hb)
  clear HB_23 HX_23 HY_23 Pv_23 Pp_23
  clear hb
  generalize wk.drewN j = wk6 at HB_24 HX_24 HY_24 Pv_24 Pp_24 ⊢
  go_wp2_with fail
  refine (kept_any HY_24.out ((HRb.out.below HB_24.out).more HB_24.out.size) HY_24.out.lt hn').mono ?_
  rintro _ wj ⟨rfl, j, rfl⟩
  have hb := below_quiet wk6 j
  have HB_25 := Lib.hid (HB_24.out.trans (hb.mono HB_24.out.size))
  have HX_25 := Lib.hid (HX_24.out.below hb HX_24.out.lt)
  have HY_25 := Lib.hid (HY_24.out.below hb HY_24.out.lt)
  have Pv_25 := Lib.hid (Pv_24.out.next hb)
  have Pp_25 := Lib.hid (Pp_24.out.next hb)
  clear HB_24 HX_24 HY_24 Pv_24 Pp_24
  clear hb
  generalize wk6.drewN j = wk7 at HB_25 HX_25 HY_25 Pv_25 Pp_25 ⊢
  go_wp2_with fail
  refine (lsame_eq' Pv_25.out.rd Pp_25.out.rd HVP.out).mono ?_
  rintro _ wj ⟨rfl, j, rfl⟩
  have hb := below_quiet wk7 j
  have HB_26 := Lib.hid (HB_25.out.trans (hb.mono HB_25.out.size))
  have HX_26 := Lib.hid (HX_25.out.below hb HX_25.out.lt)
  have HY_26 := Lib.hid (HY_25.out.below hb HY_25.out.lt)
  have Pv_26 := Lib.hid (Pv_25.out.next hb)
  have Pp_26 := Lib.hid (Pp_25.out.next hb)
  clear HB_25 HX_25 HY_25 Pv_25 Pp_25
  clear hb
  generalize wk7.drewN j = wk8 at HB_26 HX_26 HY_26 Pv_26 Pp_26 ⊢
  go_wp2_with fail
  refine (awake_any wk8 (hT.below HB_26.out)).mono ?_
  rintro _ w9 ⟨rfl, hb9⟩
  have HF := Lib.hid (HB_26.out.trans (hb9.mono HB_26.out.size))
  go_wp2
  go_ret
  exact ⟨rfl, HF.out⟩
theorem walk_ModpolyRings {A A' : Option Addr} {n n' c c' : Nat} {L L' : List Nat} {w : World} (h : RdU w w.heap.size A n c L) (hnil : A = none → n = 0 ∧ c = 0) (hn : n ≤ 1048576) (h' : RdU w w.heap.size A' n' c' L') (hnil' : A' = none → n' = 0 ∧ c' = 0) (hn' : n' ≤ 1048576) (p : Nat) (hp : p < 4294967296) (hT : Tabs w) :
    Calls Tryz.prog 3 #[.slice A n c, .slice A' n' c', .int .u32 p] w (RetT w) := by
  by_cases hpr : Nt.Pr p
  · exact rings_ok h hnil hn h' hnil' hn' p hp hpr hT
  · exact rings_none h hnil hn h' hnil' hn' p hp hpr hT
end Go.Proofs.YtmgacikdgbedfaaGreatDoor
