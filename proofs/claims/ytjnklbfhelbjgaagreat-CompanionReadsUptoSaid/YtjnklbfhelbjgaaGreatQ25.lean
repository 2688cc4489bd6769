/- Reference 11: From. -/
import Derived.Test.YtjnklbfhelbjgaaGreatQ24
import Derived.Test.YtjnklbfhelbjgaaGreatQ23
import Derived.Test.YtjnklbfhelbjgaaGreatQ13
import Derived.Test.YtjnklbfhelbjgaaGreatQ18
namespace Go.Proofs.YtjnklbfhelbjgaaGreat
open Go.RowKit Go.IntWalk
attribute [local go_sem ↓] Go.wp_at_zero Go.wp_at_succ
theorem EntQ.append {w : World} {b : Nat} {E E' : List (Ent × Ent)} {L L' : List Rat} (h : EntQ w b E L) (h' : EntQ w b E' L') : EntQ w b (E ++ E') (L ++ L') := by
 refine ⟨by rw [List.length_append, List.length_append, h.1, h'.1], fun t e x he hx => ?_⟩
 rcases Nat.lt_or_ge t E.length with h1 | h1
 ·rw [List.getElem?_append_left h1] at he
  rw [List.getElem?_append_left (by rw [← h.1]; exact h1)] at hx
  exact h.2 t e x he hx
 ·rw [List.getElem?_append_right h1] at he
  rw [List.getElem?_append_right (by rw [← h.1]; exact h1), ← h.1] at hx
  exact h'.2 _ e x he hx
theorem flat_len {α : Type} {q : Nat} : ∀ MM : List (List α), (∀ L ∈ MM, L.length = q) → MM.flatten.length = MM.length * q
 | [], _ => by simp
 | L :: MM, h => by
   rw [List.flatten_cons, List.length_append, flat_len MM fun M hM => h M (List.mem_cons_of_mem _ hM), h L (List.mem_cons_self ..), List.length_cons, Nat.succ_mul]
   omega
set_option maxRecDepth 100000 in
set_option maxHeartbeats 16000000 in
theorem rFrom_any {N b q : Nat} {G : Option Addr} {r k : Nat} {LL : List (List Rat)} {w : World} (h : OwQss w b G r k LL) (hb : b ≤ w.heap.size) (hq : ∀ L ∈ LL, L.length = q) (hS : ∀ L ∈ LL, ∀ x ∈ L, Qs N x) (hN : N ≤ 1000000) (h1N : 1 ≤ N) (hr : 0 < r ∧ r ≤ 100) (hq1 : 0 < q ∧ q ≤ 100) :
  Calls Tryz.prog 71 #[.slice G r k] w (RetMt (denL LL.flatten) (fromN LL) w) := by
 obtain ⟨i1, hjf, hy0, hy1, hy2⟩ := info_parts infoIs
 obtain ⟨i0, hi, hz0, hz1, hz2⟩ := info_parts infoQ
 have HL := Lib.hid h.len
 have HX := Lib.hid (show ∀ W, Below w.heap.size w W → OwQss W b G r k LL from fun W hb => h.next hb)
 have HBB := Lib.hid hb
 have HQ := Lib.hid hq
 have HS := Lib.hid hS
 have HTOT := Lib.hid (show LL.flatten.length = r * q ∧ r * q ≤ 10000 from ⟨by rw [flat_len LL hq, h.len], Nat.mul_le_mul hr.2 hq1.2⟩)
 have HSF := Lib.hid (show ∀ x ∈ LL.flatten, Qs N x from fun x hx => by
  obtain ⟨L, hL, hx⟩ := List.mem_flatten.1 hx
  exact hS L hL x hx)
 obtain ⟨W1, HW1⟩ : ∃ W, W = w.alloc (.cells #[.bool false, .slice none 0 0, .slice none 0 0] 28) := ⟨_, rfl⟩
 have hM1 : MC W1 w.heap.size false none 0 0 none 0 0 := by rw [HW1]; exact MC.new w false none 0 0 none 0 0
 have hB1 : Below w.heap.size w W1 := by rw [HW1]; exact (Below.refl _ _).alloc (Nat.le_refl _) _
 have HM1 := Lib.hid hM1
 have HB1 := Lib.hid hB1
 have HW1 := Lib.hid HW1
 clear h hb hq hS hM1 hB1
 go_enter Tryz.func71, Tryz.ntmps71
 go_wp2_with fail
 rw [← HW1.out]
 clear HW1
 clear HW1
 go_loopw [3, 14] (fun ov iv wr => ∃ (j m c' : Nat) (A' : Option Addr) (E : List (Ent × Ent)) (M : List Rat), ov = .slice A' m c' ∧ iv = .int .i64 j ∧ j ≤ r ∧ wr.ownsRow W1.heap.size 47 4 (.slice A' m c') m (qcs E) ∧ E.length = m ∧ EntQ wr b E M ∧ Hid (M = (LL.take j).flatten) ∧ Below W1.heap.size W1 wr) (fun _ iv _ => r - (intOf iv).toNat)
 case atStart => exact ⟨0, 0, 0, none, [], [], rfl, rfl, Nat.zero_le _, World.ownsRow_nil _ _ _ _, rfl, ⟨rfl, fun j e z he _ => by simp at he⟩, Lib.hid rfl, Below.refl _ _⟩
 case round =>
  obtain ⟨j, m, c', A', E, M, rfl, rfl, hj, hE, hEl, hEn, hM, hB⟩ := hrel
  have HML := Lib.hid (show m = j * q by
   have e1 := hEn.1
   rw [hEl, hM.out, flat_len _ (fun L hL => HQ.out L (List.mem_of_mem_take hL)), List.length_take, HL.out] at e1
   rw [e1]
   congr 1
   omega)
  by_cases hjr : j = r
  ·subst hjr
   have hMF : M = LL.flatten := by rw [hM.out, List.take_of_length_le (by rw [HL.out]; exact Nat.le_refl _)]
   subst hMF
   have HBW := Lib.hid (HB1.out.trans (hB.mono HB1.out.size))
   have HO := Lib.hid (show OwQs wr b A' m c' LL.flatten from ⟨E, row_base hE (Nat.le_trans HBB.out HB1.out.size), hEl, hEn⟩)
   have HR := Lib.hid (HO.out.p.rd (N := N) (fun x hx => HSF.out x hx))
   have HM0 := Lib.hid (HM1.out.next hB)
   have HDEN := Lib.hid (show ∀ j, Zz.zl (denF 1 (LL.flatten.take j)) ≤ 10000000001 from fun j => by
    have e1 := denF_sz (N := N) (LL.flatten.take j) 1 (fun x hx => HSF.out x (List.mem_of_mem_take hx))
    have e2 : Zz.zl 1 ≤ 1 := Zz.zl_small (by decide)
    have e3 : (LL.flatten.take j).length ≤ 10000 := by
     rw [List.length_take]
     have := HTOT.out
     omega
    have e4 : (LL.flatten.take j).length * N ≤ 10000 * 1000000 := Nat.mul_le_mul e3 hN
    omega)
   have HMT := Lib.hid (show m ≤ 10000 by rw [HML.out]; exact HTOT.out.2)
   clear hE hEl hEn hM hB HO
   obtain ⟨wo, rfl⟩ : ∃ V, V = wr := ⟨_, rfl⟩
   go_wp2_with fail
   refine (rCommon_any HR.out HDEN.out (by have := HMT.out; omega) (by omega) (by decide)).mono ?_
   rintro _ W4 ⟨s2, A2, n2, c2, y, A3, n3, c3, P, rfl, ho4, hoz4, hy4, hb4⟩
   have HP := Lib.hid (show P = (fromN LL).flatten by rw [hy4.out.2, fromN_flat])
   have HY := Lib.hid (show y = denL LL.flatten from hy4.out.1)
   obtain ⟨W5, HW5⟩ : ∃ W', W' = W4.alloc (.cells #[.bool s2, .slice A2 n2 c2] 25) := ⟨_, rfl⟩
   have hb5 : Below W4.heap.size W4 W5 := by rw [HW5]; exact (Below.refl _ _).alloc (Nat.le_refl _) _
   have hZ5 : ZC W5 W4.heap.size s2 A2 n2 c2 := by rw [HW5]; exact ZC.new W4 s2 A2 n2 c2
   have a0 := hZ5.c0
   have a1 := hZ5.c1
   rw [HW5] at a0 a1
   obtain ⟨W6, HW6⟩ : ∃ W', W' = W5.alloc (.cells #[.bool s2, .slice A2 n2 c2, .slice none 0 0] 28) := ⟨_, rfl⟩
   have hb6 : Below W5.heap.size W5 W6 := by rw [HW6]; exact (Below.refl _ _).alloc (Nat.le_refl _) _
   have HM6 := Lib.hid (show MC W6 W5.heap.size s2 A2 n2 c2 none 0 0 by rw [HW6]; exact MC.new W5 s2 A2 n2 c2 none 0 0)
   have hb56 := hb5.trans (hb6.mono hb5.size)
   have HB6 := Lib.hid (hb4.trans (hb56.mono hb4.size))
   have HO6 := Lib.hid (And.intro (ho4.next hb56) ((hoz4.next hb56).ip))
   have HR6 := Lib.hid (HM0.out.next HB6.out)
   have HG := Lib.hid (show w.heap.size < wo.heap.size ∧ wo.heap.size ≤ W5.heap.size ∧ W5.heap.size < W6.heap.size from ⟨HM0.out.lt, Nat.le_trans hb4.size hb5.size, HM6.out.lt⟩)
   have hs5 : W5.heap.size = W4.heap.size + 1 := by rw [HW5]; simp
   rw [HW5] at HW6
   have HW6 := Lib.hid HW6
   clear ho4 hoz4 hy4 hb4 hb5 hb6 hb56 hZ5 HW5
   go_wp2_with fail
   rw [← HW6.out]
   clear HW6 a0 a1
   clear HW6
   rw [← hs5]
   clear hs5
   have HPL := Lib.hid (show n3 = j * q by
    rw [← HO6.out.2.len, HP.out, flat_len _ (fromN_len HQ.out)]
    congr 1
    unfold fromN
    rw [List.length_map, HL.out])
   have HFL := Lib.hid (show (fromN LL).length = j by unfold fromN; rw [List.length_map, HL.out])
   obtain ⟨ad, had⟩ : ∃ ad, A3 = some ad := by
    obtain ⟨E7, _, _, _, _, h5⟩ := HO6.out.2
    rcases h5 with h5 | ⟨g7, off7, cs7, e7, _⟩
    ·have := HPL.out
     have := Nat.mul_pos hr.1 hq1.1
     omega
    ·exact ⟨_, e7⟩
   subst had
   obtain ⟨gm, hgm⟩ : ∃ g, g = W5.heap.size := ⟨_, rfl⟩
   rw [← hgm] at HM6 HG ⊢
   clear hgm
   go_loopw [9, 31] (fun uv iv wr => ∃ (i u : Nat) (A9 : Option Addr) (c9 : Nat) (E9 : List (Option Addr × Nat × Nat)), uv = .int .i64 u ∧ iv = .int .i64 (i : Int) ∧ i ≤ j ∧ Hid (u = i * q) ∧ wr.ownsRow W6.heap.size 65 1 (.slice A9 i c9) i (E9.map psl) ∧ E9.length = i ∧ EntMs wr wo.heap.size E9 ((fromN LL).take i) ∧ MC wr gm s2 A2 n2 c2 A9 i c9 ∧ MC wr w.heap.size false none 0 0 none 0 0 ∧ OwZ wr wo.heap.size s2 A2 n2 c2 y ∧ OwIp wr wo.heap.size (some ad) n3 c3 P ∧ Hid (W6.heap.size ≤ wr.heap.size) ∧ Below wo.heap.size wo wr) (fun _ iv _ => j - (intOf iv).toNat)
   case atStart => exact ⟨0, 0, none, 0, [], rfl, rfl, Nat.zero_le _, Lib.hid (by simp), World.ownsRow_nil _ _ _ _, rfl, ⟨rfl, fun j e z he _ => by simp at he⟩, HM6.out, HR6.out, HO6.out.1, HO6.out.2, Lib.hid (Nat.le_refl _), HB6.out⟩
   case round =>
    obtain ⟨i, u, A9, c9, E9, rfl, rfl, hij, HU, hE, hEl, hEn, hMg, hMz, hoz, hip, hsz, hB⟩ := hrel
    by_cases hin : i = j
    ·subst hin
     have a0 := hMg.c0
     have a1 := hMg.c1
     have a2 := hMg.c2
     have r0 := hMz.c0
     have r1 := hMz.c1
     have r2 := hMz.c2
     have f0 := hMz.fz 0
     have f1 := hMz.fz 1
     have f2 := hMz.fz 2
     have HSS := Lib.hid (hMz.store s2 A2 n2 c2 A9 i c9)
     have HUU := Lib.hid ((hoz.keep (keepI_put hMz s2 A2 n2 c2 A9 i c9).1).base (b' := w.heap.size) (Nat.le_of_lt HG.out.1))
     have hom : OwMs wr wo.heap.size A9 i c9 (fromN LL) := ⟨E9, row_base hE (by have := HG.out; omega), hEl, by rw [List.take_of_length_le (by rw [HFL.out]; exact Nat.le_refl _)] at hEn; exact hEn⟩
     have HQQ := Lib.hid ((hom.put hMz HG.out.1 s2 A2 n2 c2 A9 i c9).base (b' := w.heap.size) (Nat.le_of_lt HG.out.1))
     have HF := Lib.hid (below_putM (HBW.out.trans (hB.mono HBW.out.size)) (Nat.le_refl w.heap.size) s2 A2 n2 c2 A9 i c9)
     unfold putM at HSS HUU HQQ HF
     clear hE hEl hEn hMg hMz hoz hip hB hom
     go_wp2
     generalize ((wr.setCell ⟨w.heap.size, 0, none⟩ (.bool s2)).setCell ⟨w.heap.size, 1, none⟩ (.slice A2 n2 c2)).setCell ⟨w.heap.size, 2, none⟩ (.slice A9 i c9) = V9 at *
     exact bodyPost_ret (by simp [results, Tryz.results71, go_sem, HSS.out.c0, HSS.out.c1, HSS.out.c2]) rfl ⟨s2, A2, n2, c2, A9, i, c9, y, _, rfl, HUU.out, HQQ.out, Lib.hid ⟨HY.out, rfl⟩, HF.out⟩
    ·have hil : i < j := by omega
     clear hin
     have hili : (i : Int) < (j : Int) := by omega
     obtain ⟨gg, A1, n1, c1, L, rfl, hbk, hx, ho1, hp⟩ := oql_at (HX.out wr (HBW.out.trans (hB.mono HBW.out.size))) hil
     have hn1 : n1 = q := by rw [← ho1.len]; exact HQ.out L (List.mem_of_getElem? hp.out)
     subst hn1
     obtain ⟨v, hv⟩ : ∃ v, v = u + n1 := ⟨_, rfl⟩
     have HV := Lib.hid hv
     have hvm : v ≤ n3 := by
      rw [hv, HU.out, HPL.out, ← Nat.succ_mul]
      exact Nat.mul_le_mul_right _ hil
     have hnc := hip.le
     have hn3 : n3 ≤ 10000 := by rw [HPL.out]; exact HTOT.out.2
     have HIS := Lib.hid (show OwIp wr wo.heap.size (some (ad.add (u * 2))) n1 n1 ((P.drop u).take n1) from (hip.drop (by omega)).take (by omega))
     have hsum : (u : Int) + (n1 : Int) = (v : Int) := by omega
     have hw1 : IntKind.i64.wrap ((u : Int) + (n1 : Int)) = (v : Int) := by rw [hsum]; exact IntWalk.i64_in _ (by omega)
     have hw2 : IntKind.i64.wrap (v : Int) = (v : Int) := IntWalk.i64_in _ (by omega)
     have hmx : max (v : Int) 0 = (v : Int) := by omega
     have huv : u ≤ v := by omega
     have hvu : v - u = n1 := by omega
     have huvi : (u : Int) ≤ (v : Int) := by omega
     have hvci : (v : Int) ≤ (c3 : Int) := by omega
     have hne : ¬(v = u) := by omega
     have hne2 : ¬(u = v) := by omega
     have HIL := Lib.hid hil
     have HDD := Lib.hid (Below.refl wr.heap.size wr).drew
     have HE := Lib.hid (row_next hE HDD.out)
     have HEN := Lib.hid (And.intro hEl (hEn.next HDD.out))
     have HMM := Lib.hid (And.intro (hMg.next HDD.out) (hMz.next HDD.out))
     have HOO := Lib.hid (And.intro (hoz.next HDD.out) (And.intro (hip.next HDD.out) (HIS.out.next HDD.out)))
     have HBD := Lib.hid (hB.trans (HDD.out.mono hB.size))
     have HSZ := Lib.hid (show W6.heap.size ≤ wr.heap.size ∧ W6.heap.size ≤ wr.drew.heap.size from ⟨hsz.out, Nat.le_trans hsz.out HDD.out.size⟩)
     have m2 := hMg.c2
     have m3 := (hMg.alloc (.cells #[.slice (some (ad.add (u * 2))) n1 n1] 65)).c2
     clear hE hEl hEn hMg hMz hoz hip hB ho1 hsz hv
     go_upto_region 13 with fail
     go_region_law (refine step_append_sl rfl _ _ 26 rfl W6.heap.size 65 i1 (.slice none 0 0) 1 24 Tryz.underlying26 hjf hy0 hy1 hy2 rfl (by decide) _ _ _ rfl (HE.out.alloc _) (some ⟨wr.heap.size, 0, none⟩) 1 1 [.slice (some (ad.add (u * 2))) n1 n1] rfl rfl (fun e => by cases e) (fun a e => by cases e; exact pcell_new wr.drew _ _) (by simp [Value.oneCell']) (by unfold maxLen; omega) (by omega) (by have h2 := HSZ.out; simp; omega) ?_; intro A8 c8 W8 hown8 hgrow8; have hM8 := MC.grown (HMM.out.1.alloc (.cells #[.slice (some (ad.add (u * 2))) n1 n1] 65)) (HE.out.alloc _) hgrow8; have m8 := hM8.c2; have f8 := hM8.fz 2)
     all_goals
      have hba : Below wr.drew.heap.size wr.drew (wr.drew.alloc (.cells #[.slice (some (ad.add (u * 2))) n1 n1] 65)) := (Below.refl _ _).alloc (Nat.le_refl _) _
      have hki := keepI_grown (HE.out.alloc (.cells #[.slice (some (ad.add (u * 2))) n1 n1] 65)) hgrow8
      have hkm := keepI_mc hM8 2 (.slice A8 (i + 1) c8)
      have HNM := Lib.hid (hM8.num A8 (i + 1) c8)
      have HMZ := Lib.hid ((MC.grown (HMM.out.2.alloc (.cells #[.slice (some (ad.add (u * 2))) n1 n1] 65)) (HE.out.alloc _) hgrow8).far (p := ⟨gm, 2, none⟩) (by have := HG.out; simp; omega) (.slice A8 (i + 1) c8))
      have HOZ9 := Lib.hid (((HOO.out.1.next hba).keep hki.1).keep hkm.1)
      have HIP9 := Lib.hid (((HOO.out.2.1.next hba).keep hki).keep hkm)
      have HRN := Lib.hid (show (fromN LL).take i ++ [(P.drop u).take n1] = (fromN LL).take (i + 1) by
       have hif : i < (fromN LL).length := by rw [HFL.out]; exact HIL.out
       rw [List.take_add_one, List.getElem?_eq_getElem hif, HP.out, HU.out, flat_row (fromN LL) i _ (fromN_len HQ.out) (List.getElem?_eq_getElem hif)]
       rfl)
      have HEN9 := Lib.hid (show EntMs _ wo.heap.size (E9 ++ [(some (ad.add (u * 2)), n1, n1)]) ((fromN LL).take (i + 1)) from by
       rw [← HRN.out]
       exact (((HEN.out.2.next hba).keep hki).keep hkm).snoc (((HOO.out.2.2.next hba).keep hki).keep hkm))
      have HE9 := Lib.hid (show (W8.setCell ⟨gm, 2, none⟩ (.slice A8 (i + 1) c8)).ownsRow W6.heap.size 65 1 (.slice A8 (i + 1) c8) (i + 1) ((E9 ++ [(some (ad.add (u * 2)), n1, n1)]).map psl) by
       rw [List.map_append]
       exact row_far hown8 (p := ⟨gm, 2, none⟩) HG.out.2.2 _)
      have HB9 := Lib.hid (((HBD.out.alloc HBD.out.size (.cells #[.slice (some (ad.add (u * 2))) n1 n1] 65)).grown hgrow8 (by have := HBD.out.size; simp at this ⊢; omega) (fun t e => Nat.le_trans (by have := HG.out; omega) (own_block HE.out t e))).setCell (p := ⟨gm, 2, none⟩) (by have := HG.out; show wo.heap.size ≤ gm; omega) (.slice A8 (i + 1) c8))
      have HS9 := Lib.hid (show W6.heap.size ≤ (W8.setCell ⟨gm, 2, none⟩ (.slice A8 (i + 1) c8)).heap.size by
       have h1 := hgrow8.size
       have h2 := HSZ.out.2
       simp at h1 h2 ⊢
       omega)
      have HLN := Lib.hid (show (E9 ++ [(some (ad.add (u * 2)), n1, n1)]).length = i + 1 by rw [List.length_append, HEN.out.1]; rfl)
      have HU9 := Lib.hid (show v = (i + 1) * n1 by rw [HV.out, HU.out, Nat.succ_mul])
      clear hown8 hgrow8 hba hki hkm hM8 m8 f8 m2 m3
      go_wp2
      go_roundw
      case rel => exact ⟨i + 1, v, A8, c8, _, by go_num, by go_num, by have := HIL.out; omega, HU9, HE9.out, HLN.out, HEN9.out, HNM.out, HMZ.out, HOZ9.out, HIP9.out, HS9, HB9.out⟩
      case measure => simp [intOf]; have := HIL.out; omega
  ·have hjl : j < r := by omega
   have hjli : (j : Int) < (r : Int) := by omega
   clear hjr
   obtain ⟨gg, A1, n1, c1, L, rfl, hbk, hx, ho1, hp⟩ := oql_at (HX.out wr (HB1.out.trans (hB.mono HB1.out.size))) hjl
   have hn1 : n1 = q := by rw [← ho1.len]; exact HQ.out L (List.mem_of_getElem? hp.out)
   subst hn1
   obtain ⟨E1, hE1, hEn1, hEl1, hnil, hcell⟩ := ho1.news
   have hmm : m + n1 ≤ 10000 := by
    rw [HML.out, ← Nat.succ_mul]
    exact Nat.le_trans (Nat.mul_le_mul_right _ hjl) HTOT.out.2
   have HE := Lib.hid hE
   have HEN := Lib.hid (And.intro hEl hEn)
   have HE1 := Lib.hid (And.intro hE1 (And.intro hEn1 (And.intro hEl1 (And.intro hnil hcell))))
   have HBW := Lib.hid hB
   have HTK := Lib.hid (show M ++ L = (LL.take (j + 1)).flatten by
    rw [List.take_add_one, hp.out, Option.toList_some, List.flatten_append, hM.out]
    simp)
   clear hE hEl hEn ho1 hE1 hEn1 hEl1 hnil hcell hM hB
   go_wp2_with (at_builtin; refine wpList_append_sl rfl _ _ 72 rfl W1.heap.size 47 i0 (.agg #[.bool false, .slice none 0 0, .bool false, .slice none 0 0]) 4 64 Tryz.underlying72 hi hz0 hz1 hz2 rfl (by decide) _ _ _ rfl HE.out A1 n1 c1 (qcs E1) rfl HE1.out.2.2.1 HE1.out.2.2.2.1 HE1.out.2.2.2.2 (qcs_one' E1) (by unfold maxLen; omega) (by omega) HBW.out.size ?_; intro A5 c5 w1 hown1 hgrow)
   have HB5 := Lib.hid (HBW.out.grown hgrow HBW.out.size (own_block HE.out))
   have hkT : KeepT wr w1 := KeepT.grown HE.out (by decide) hgrow
   have HEN5 := Lib.hid ((HEN.out.2.keep hkT).append (HE1.out.2.1.keep hkT))
   have HOW := Lib.hid (show w1.ownsRow W1.heap.size 47 4 (.slice A5 (m + n1) c5) (m + n1) (qcs (E ++ E1)) by rw [qcs_append]; exact hown1)
   clear hown1 hgrow hkT
   go_wp2
   go_roundw
   case rel => exact ⟨j + 1, m + n1, c5, A5, E ++ E1, M ++ L, rfl, by go_num, by omega, HOW.out, by rw [List.length_append, HEN.out.1, HE1.out.1], HEN5.out, HTK, HB5.out⟩
   case measure => simp [intOf]; omega
end Go.Proofs.YtjnklbfhelbjgaaGreat

/- Reference 11: fill, Zero. -/
namespace Go.Proofs.YtjnklbfhelbjgaaGreat
open Go.RowKit Go.IntWalk
attribute [local go_sem ↓] Go.wp_at_zero Go.wp_at_succ
set_option maxRecDepth 100000 in
set_option maxHeartbeats 8000000 in
theorem rFill_any {r q : Nat} {w : World} (hr : r ≤ 1048576) (hqm : q ≤ 1048576) :
  Calls Tryz.prog 151 #[.int .i64 r, .int .i64 q] w (RetMQ r q (fun _ _ => 0) w) := by
 obtain ⟨i1, hjf, hy0, hy1, hy2⟩ := info_parts infoQr
 have hmk := fun W : World => make_qs Tryz.underlying72 q (by omega) W
 go_enter Tryz.func151, Tryz.ntmps151
 go_wp2_with fail
 go_loopw [5, 6] (fun ov iv wr => ∃ (j c' : Nat) (A' : Option Addr) (GG : List Nat) (EE : Nat → List (Ent × Ent)), ov = .slice A' j c' ∧ iv = .int .i64 j ∧ j ≤ r ∧ MQ wr w.heap.size w.heap.size A' j c' q GG EE (fun _ _ => 0) ∧ Below w.heap.size w wr) (fun _ iv _ => r - (intOf iv).toNat)
 case atStart => exact ⟨0, 0, none, [], fun _ => [], rfl, rfl, Nat.zero_le _, MQ.nil _ _ _ _ _ _, Below.refl _ _⟩
 case round =>
  obtain ⟨j, c', A', GG, EE, rfl, rfl, hj', ho, hB⟩ := hrel
  by_cases hjr : j = r
  ·have HO := Lib.hid ho
   have HBF := Lib.hid hB
   subst hjr
   clear ho hB
   go_wp2
   go_ret
   exact ⟨A', c', GG, EE, rfl, HO.out, HBF.out⟩
  ·have hjl : j < r := by omega
   have hjli : (j : Int) < (r : Int) := by omega
   obtain ⟨wo, rfl⟩ : ∃ V, V = wr := ⟨_, rfl⟩
   clear hjr
   obtain ⟨W3, HW3⟩ : ∃ W, W = wo.alloc (.cells (qcs (List.replicate q zq)).toArray 47) := ⟨_, rfl⟩
   have hb3 : Below wo.heap.size wo W3 := by rw [HW3]; exact (Below.refl _ _).alloc (Nat.le_refl _) _
   have HZ3 := Lib.hid (show QB W3 wo.heap.size (List.replicate q zq) by rw [HW3]; exact QB.made wo q)
   have HOT := Lib.hid ho
   have HB3 := Lib.hid (And.intro hB hb3)
   have HJL := Lib.hid (show j + 1 ≤ 1048576 by omega)
   have HLT := Lib.hid (show ∀ x ∈ GG, x < wo.heap.size from fun x hx => by
    obtain ⟨i, hi⟩ := List.getElem?_of_mem hx
    exact (ho.row i x hi).2.1.lt)
   have HW3 := Lib.hid HW3
   clear ho hB hb3
   go_wp2_with fail
   rw [← HW3.out]
   clear HW3
   clear HW3
   obtain ⟨g, hg⟩ : ∃ g, g = wo.heap.size := ⟨_, rfl⟩
   have HG := Lib.hid hg
   rw [← hg]
   clear hg
   go_loopw [18] (fun iv wr => ∃ (i : Nat) (E : List (Ent × Ent)), iv = .int .i64 i ∧ i ≤ q ∧ QB wr g E ∧ Hid (E.length = q) ∧ EntJ wr w.heap.size E (fun _ => 0) i ∧ Below wo.heap.size wo wr) (fun iv _ => q - (intOf iv).toNat)
   case atStart => exact ⟨0, _, rfl, Nat.zero_le _, by rw [HG.out]; exact HZ3.out, Lib.hid (by simp), EntJ.zero _ _ _ _, HB3.out.2⟩
   case round =>
    obtain ⟨i, E, rfl, hi5, hz5, hEl, hE5, hB5⟩ := hrel
    by_cases hin : i = q
    ·have HZ5 := Lib.hid hz5
     have HE5 := Lib.hid hE5
     have HB5 := Lib.hid hB5
     have HM := Lib.hid (HOT.out.next hB5)
     subst hin
     clear hz5 hE5 hB5
     go_wp2_with (at_builtin; refine wpList_append_own _ rfl _ _ 68 rfl w.heap.size 72 i1 (.slice none 0 0) 1 24 Tryz.underlying68 hjf hy0 hy1 hy2 rfl (by decide) _ _ _ rfl (HM.out.own.alloc _) ⟨wr.heap.size, 0, none⟩ 1 1 [.slice (some ⟨g, 0, none⟩) i i] rfl rfl (scell_new wr (.slice (some ⟨g, 0, none⟩) i i) 72) (by simp [Value.oneCell']) (by have := HJL.out; unfold maxLen; omega) (by have := HJL.out; omega) (by have h1 := HB5.out.size; have h2 := HB3.out.1.size; simp; omega) ?_; intro v' w1 hown' hgrow _)
     have hba : Below wr.heap.size wr (wr.alloc (.cells #[.slice (some ⟨g, 0, none⟩) i i] 72)) := (Below.refl _ _).alloc (Nat.le_refl _) _
     obtain ⟨A9, c9, rfl, ho9⟩ := (HM.out.next hba).snoc (HZ5.out.next hba) (by rw [HG.out]; exact HB3.out.1.size) hEl.out (HE5.out.next hba) (fun x hx => by rw [HG.out]; exact HLT.out x hx) hown' hgrow
     have hbx := HB3.out.1.trans (HB5.out.mono HB3.out.1.size)
     have HB9 := Lib.hid ((hbx.alloc hbx.size (.cells #[.slice (some ⟨g, 0, none⟩) i i] 72)).grown hgrow (by have := hbx.size; simp; omega) (own_block HM.out.own))
     have HO9 := Lib.hid (ho9.to (F' := fun _ _ => 0) (fun a _ t _ => by
      by_cases e : a = j
      ·rw [if_pos e]
      ·rw [if_neg e]))
     clear hown' hgrow HM ho9 hbx hba
     go_wp2
     go_roundw
     case rel => exact ⟨j + 1, c9, A9, _, _, rfl, by go_num, by omega, HO9.out, HB9.out⟩
     case measure => simp [intOf]; omega
    ·have hil : i < q := by omega
     have hili : (i : Int) < (q : Int) := by omega
     clear hin
     have HQ6 := Lib.hid (And.intro hz5 hE5)
     have HB6 := Lib.hid hB5
     clear hz5 hE5 hB5
     go_wp2_with fail
     refine (rQOf_any 0 (by decide) (by decide) wr).mono ?_
     rintro _ W7 ⟨s7, A7, n7, c7, s8, A8, n8, c8, y, rfl, ho7, hy, hb7⟩
     have hZ4 := HQ6.out.1.next hb7
     have hE4 := HQ6.out.2.next hb7
     have HB7 := Lib.hid (HB6.out.trans (hb7.mono HB6.out.size))
     obtain ⟨e, he⟩ : ∃ e, E[i]? = some e := ⟨E[i]'(by rw [hEl.out]; exact hil), List.getElem?_eq_getElem _⟩
     obtain ⟨k0, k1, k2, k3⟩ := hZ4.cells he
     have f0 := hZ4.frozen (i * 4)
     have f1 := hZ4.frozen (i * 4 + 1)
     have f2 := hZ4.frozen (i * 4 + 2)
     have f3 := hZ4.frozen (i * 4 + 3)
     have HZ8 := Lib.hid (hZ4.store i ((s7, A7, n7, c7), (s8, A8, n8, c8)))
     have HE8 := Lib.hid (hE4.store (e := ((s7, A7, n7, c7), (s8, A8, n8, c8))) hZ4 (by have := ho7.base (b' := w.heap.size) (Nat.le_trans HB3.out.1.size HB6.out.size); rw [hy.out] at this; exact this))
     have HB8 := Lib.hid (below_setQ HB7.out (show wo.heap.size ≤ g by rw [HG.out]; exact Nat.le_refl _) i ((s7, A7, n7, c7), (s8, A8, n8, c8)))
     unfold setQ at HZ8 HE8 HB8
     clear hb7 ho7 hy he hZ4 hE4
     go_wp2_with fail
     go_roundw
     case rel => exact ⟨i + 1, E.set i ((s7, A7, n7, c7), (s8, A8, n8, c8)), by go_num, by omega, HZ8.out, Lib.hid (by rw [List.length_set]; exact hEl.out), HE8.out, HB8.out⟩
     case measure => simp [intOf]; omega
abbrev rD (r q : Nat) (F : Nat → Nat → Rat) : Int := denL (Mx.tab r q F).flatten
abbrev rN (r q : Nat) (F : Nat → Nat → Rat) : List (List Int) := fromN (Mx.tab r q F)
theorem tab_mem {r q : Nat} {F : Nat → Nat → Rat} {P : Rat → Prop} (h : ∀ i, i < r → ∀ k, k < q → P (F i k)) : ∀ L ∈ Mx.tab r q F, ∀ x ∈ L, P x := by
 intro L hL x hx
 unfold Mx.tab at hL
 obtain ⟨i, hi, rfl⟩ := List.mem_map.1 hL
 obtain ⟨k, hk, rfl⟩ := List.mem_map.1 hx
 exact h i (List.mem_range.1 hi) k (List.mem_range.1 hk)
theorem tab_lens {r q : Nat} {F : Nat → Nat → Rat} : ∀ L ∈ Mx.tab r q F, L.length = q := by
 intro L hL
 unfold Mx.tab at hL
 obtain ⟨i, hi, rfl⟩ := List.mem_map.1 hL
 simp
theorem rFrom_tab {N b B r q k : Nat} {A : Option Addr} {GG : List Nat} {EE : Nat → List (Ent × Ent)} {F : Nat → Nat → Rat} {w : World} (h : MQ w b B A r k q GG EE F) (hb : b ≤ B) (hB : B ≤ w.heap.size) (hS : ∀ i, i < r → ∀ k, k < q → Qs N (F i k)) (hN : N ≤ 1000000) (h1N : 1 ≤ N) (hr : 0 < r ∧ r ≤ 100) (hq1 : 0 < q ∧ q ≤ 100) :
  Calls Tryz.prog 71 #[.slice A r k] w (RetMt (rD r q F) (rN r q F) w) :=
 rFrom_any (h.rows hb (by unfold maxLen; omega)) (Nat.le_trans hb hB) tab_lens (tab_mem hS) hN h1N hr hq1
set_option maxRecDepth 100000 in
set_option maxHeartbeats 8000000 in
theorem rZero_any {r q : Nat} {w : World} (hr : 0 < r ∧ r ≤ 100) (hq1 : 0 < q ∧ q ≤ 100) :
  Calls Tryz.prog 97 #[.int .i64 r, .int .i64 q] w (RetMt (rD r q fun _ _ => 0) (rN r q fun _ _ => 0) w) := by
 obtain ⟨W1, HW1⟩ : ∃ W, W = w.alloc (.cells #[.bool false, .slice none 0 0, .slice none 0 0] 28) := ⟨_, rfl⟩
 have HM1 := Lib.hid (show MC W1 w.heap.size false none 0 0 none 0 0 by rw [HW1]; exact MC.new w false none 0 0 none 0 0)
 have HB1 := Lib.hid (show Below w.heap.size w W1 by rw [HW1]; exact (Below.refl _ _).alloc (Nat.le_refl _) _)
 have HW1 := Lib.hid HW1
 go_enter Tryz.func97, Tryz.ntmps97
 go_wp2_with fail
 rw [← HW1.out]
 clear HW1
 clear HW1
 refine (rFill_any (w := W1) (by omega) (by omega)).mono ?_
 rintro _ W2 ⟨A2, c2, G2, E2, rfl, hm2, hb2⟩
 have HM2 := Lib.hid hm2
 have HB2 := Lib.hid hb2
 clear hm2 hb2
 go_wp2_with fail
 refine (rFrom_tab (N := 1) HM2.out (Nat.le_refl _) HB2.out.size (fun _ _ _ _ => Qs.zero (Nat.le_refl _)) (by decide) (Nat.le_refl _) hr hq1).mono ?_
 rintro _ W8 ⟨s8, A8, n8, c8, G8, r8, k8, y8, MM, rfl, ho8, hm8, hy8, hb8⟩
 have hb18 := HB2.out.trans (hb8.mono HB2.out.size)
 have hMz := HM1.out.next hb18
 have r0 := hMz.c0
 have r1 := hMz.c1
 have r2 := hMz.c2
 have f0 := hMz.fz 0
 have f1 := hMz.fz 1
 have f2 := hMz.fz 2
 have HWL := Lib.hid (show w.heap.size < W2.heap.size from Nat.lt_of_lt_of_le HM1.out.lt HB2.out.size)
 have HSS := Lib.hid (hMz.store s8 A8 n8 c8 G8 r8 k8)
 have HU := Lib.hid ((ho8.keep (keepI_put hMz s8 A8 n8 c8 G8 r8 k8).1).base (b' := w.heap.size) (Nat.le_of_lt HWL.out))
 have HQQ := Lib.hid ((hm8.put hMz HWL.out s8 A8 n8 c8 G8 r8 k8).base (b' := w.heap.size) (Nat.le_of_lt HWL.out))
 have HF := Lib.hid (below_putM (HB1.out.trans (hb18.mono HB1.out.size)) (Nat.le_refl w.heap.size) s8 A8 n8 c8 G8 r8 k8)
 unfold putM at HSS HU HQQ HF
 clear hMz ho8 hm8 hb8 hb18
 go_wp2
 generalize ((W8.setCell ⟨w.heap.size, 0, none⟩ (.bool s8)).setCell ⟨w.heap.size, 1, none⟩ (.slice A8 n8 c8)).setCell ⟨w.heap.size, 2, none⟩ (.slice G8 r8 k8) = V9 at *
 exact bodyPost_ret (by simp [results, Tryz.results97, go_sem, HSS.out.c0, HSS.out.c1, HSS.out.c2]) rfl ⟨s8, A8, n8, c8, G8, r8, k8, y8, MM, rfl, HU.out, HQQ.out, hy8, HF.out⟩
end Go.Proofs.YtjnklbfhelbjgaaGreat

/- Reference 11: Norm, Equal at two matrices of one size. -/
namespace Go.Proofs.YtjnklbfhelbjgaaGreat
open Go.RowKit Go.IntWalk
attribute [local go_sem ↓] Go.wp_at_zero Go.wp_at_succ
theorem rN_sz {N r q : Nat} {F : Nat → Nat → Rat} (hS : ∀ i, i < r → ∀ k, k < q → Qs N (F i k)) (hN : N ≤ 1000000) (hr : r ≤ 100) (hq : q ≤ 100) : ∀ L ∈ rN r q F, L.length ≤ q ∧ ∀ z ∈ L, Zz.zl z ≤ 20000000000 := fun L hL => ⟨Nat.le_of_eq (fromN_len tab_lens L hL), fun z hz => by
 have e1 := fromN_sz (tab_mem hS) L hL z hz
 have e3 : (Mx.tab r q F).flatten.length = r * q := by
  rw [flat_len _ tab_lens]
  unfold Mx.tab
  simp
 have e4 : r * q ≤ 100 * 100 := Nat.mul_le_mul hr hq
 have e2 : (Mx.tab r q F).flatten.length * N ≤ 10000 * 1000000 := Nat.mul_le_mul (by omega) hN
 omega⟩
theorem cols_q {RR : List RawRow} {q : Nat} (h : ∀ R ∈ RR, R.length = q) (h0 : 0 < RR.length) : colsOf RR = q := by
 unfold colsOf
 cases RR with
 | nil => simp at h0
 | cons R RR => simpa using h R (List.mem_cons_self ..)
theorem same_words {LL LL' : List (List Rat)} : (ofZ (denL LL.flatten) = ofZ (denL LL'.flatten) ∧ (fromN LL).map (·.map ofZ) = (fromN LL').map (·.map ofZ)) ↔ LL = LL' := by
 constructor
 ·rintro ⟨h1, h2⟩
  have e1 := ofZ_inj h1
  have e2 : fromN LL = fromN LL' := by rw [← zss_ofZ (fromN LL), h2, zss_ofZ]
  rw [← ent_from LL, ← ent_from LL', e1, e2]
 ·rintro rfl
  exact ⟨rfl, rfl⟩
set_option maxRecDepth 100000 in
set_option maxHeartbeats 8000000 in
theorem rNorm_any {N K M q : Nat} {s : Bool} {A G : Option Addr} {n c r k : Nat} {d : Int} {RR : List RawRow} {w : World} (h : RdZ w w.heap.size s A n c d) (h' : RdRss w w.heap.size N K G r k RR) (hd : d ≠ 0) (hq : ∀ R ∈ RR, R.length = q) (hn : n ≤ 1000000000000) (hN : N ≤ 1000000000000) (hS : ∀ i, i < r → ∀ k, k < q → Qs M (me d RR i k)) (hM : M ≤ 1000000) (h1M : 1 ≤ M) (hr : 0 < r ∧ r ≤ 100) (hq1 : 0 < q ∧ q ≤ 100) :
  Calls Tryz.prog 102 #[.agg #[.bool s, .slice A n c, .slice G r k]] w (RetMt (rD r q (me d RR)) (rN r q (me d RR)) w) := by
 obtain ⟨W1, HW1⟩ : ∃ W, W = (w.alloc (.cells #[.bool s, .slice A n c, .slice G r k] 28)).alloc (.cells #[.bool false, .slice none 0 0, .slice none 0 0] 28) := ⟨_, rfl⟩
 have hb0 : Below w.heap.size w (w.alloc (.cells #[.bool s, .slice A n c, .slice G r k] 28)) := (Below.refl _ _).alloc (Nat.le_refl _) _
 have hM0 : MC W1 w.heap.size s A n c G r k := by rw [HW1]; exact (MC.new w s A n c G r k).next ((Below.refl _ _).alloc (Nat.le_refl _) _)
 have HM1 := Lib.hid (show MC W1 (w.heap.size + 1) false none 0 0 none 0 0 by rw [HW1]; have := MC.new (w.alloc (.cells #[.bool s, .slice A n c, .slice G r k] 28)) false none 0 0 none 0 0; simpa using this)
 have HB1 := Lib.hid (show Below w.heap.size w W1 by rw [HW1]; exact hb0.alloc hb0.size _)
 have HX := Lib.hid (And.intro (h.next HB1.out) (h'.next HB1.out))
 have m0 := hM0.c0
 have m1 := hM0.c1
 have m2 := hM0.c2
 rw [HW1] at m0 m1 m2
 have HW1 := Lib.hid HW1
 clear h h' hb0 hM0
 go_enter Tryz.func102, Tryz.ntmps102
 go_wp2_with fail
 rw [← HW1.out]
 clear HW1 m0 m1 m2
 clear HW1
 refine (rMRows_any HX.out.1 HX.out.2 hd hq hn hN (by omega) (by omega)).mono ?_
 rintro _ W2 ⟨A2, c2, G2, E2, rfl, hm2, hb2⟩
 have HM2 := Lib.hid hm2
 have HB2 := Lib.hid hb2
 clear hm2 hb2
 go_wp2_with fail
 refine (rFrom_tab HM2.out (Nat.le_refl _) HB2.out.size hS hM h1M hr hq1).mono ?_
 rintro _ W8 ⟨s8, A8, n8, c8, G8, r8, k8, y8, MM, rfl, ho8, hm8, hy8, hb8⟩
 have hb18 := HB2.out.trans (hb8.mono HB2.out.size)
 have hMz := HM1.out.next hb18
 have r0 := hMz.c0
 have r1 := hMz.c1
 have r2 := hMz.c2
 have f0 := hMz.fz 0
 have f1 := hMz.fz 1
 have f2 := hMz.fz 2
 have HWL := Lib.hid (show w.heap.size + 1 < W2.heap.size from Nat.lt_of_lt_of_le HM1.out.lt HB2.out.size)
 have HWM := Lib.hid (show w.heap.size ≤ W2.heap.size by have := HWL.out; omega)
 have HSS := Lib.hid (hMz.store s8 A8 n8 c8 G8 r8 k8)
 have HU := Lib.hid ((ho8.keep (keepI_put hMz s8 A8 n8 c8 G8 r8 k8).1).base (b' := w.heap.size) HWM.out)
 have HQQ := Lib.hid ((hm8.put hMz HWL.out s8 A8 n8 c8 G8 r8 k8).base (b' := w.heap.size) HWM.out)
 have HF := Lib.hid (below_putM (HB1.out.trans (hb18.mono HB1.out.size)) (Nat.le_succ w.heap.size) s8 A8 n8 c8 G8 r8 k8)
 unfold putM at HSS HU HQQ HF
 clear hMz ho8 hm8 hb8 hb18
 go_wp2
 generalize ((W8.setCell ⟨w.heap.size + 1, 0, none⟩ (.bool s8)).setCell ⟨w.heap.size + 1, 1, none⟩ (.slice A8 n8 c8)).setCell ⟨w.heap.size + 1, 2, none⟩ (.slice G8 r8 k8) = V9 at *
 exact bodyPost_ret (by simp [results, Tryz.results102, go_sem, HSS.out.c0, HSS.out.c1, HSS.out.c2]) rfl ⟨s8, A8, n8, c8, G8, r8, k8, y8, MM, rfl, HU.out, HQQ.out, hy8, HF.out⟩
set_option maxRecDepth 100000 in
set_option maxHeartbeats 8000000 in
theorem rMEqual_any {N K N' K' M q : Nat} {s s' : Bool} {A G A' G' : Option Addr} {n c r k n' c' k' : Nat} {d d' : Int} {RR RR' : List RawRow} {w : World} (h : RdZ w w.heap.size s A n c d) (h' : RdRss w w.heap.size N K G r k RR) (hd : d ≠ 0) (hq : ∀ R ∈ RR, R.length = q) (hn : n ≤ 1000000000000) (hN : N ≤ 1000000000000) (hS : ∀ i, i < r → ∀ k, k < q → Qs M (me d RR i k))
  (g : RdZ w w.heap.size s' A' n' c' d') (g' : RdRss w w.heap.size N' K' G' r k' RR') (gd : d' ≠ 0) (gq : ∀ R ∈ RR', R.length = q) (gn : n' ≤ 1000000000000) (gN : N' ≤ 1000000000000) (gS : ∀ i, i < r → ∀ k, k < q → Qs M (me d' RR' i k)) (hM : M ≤ 1000000) (h1M : 1 ≤ M) (hr : 0 < r ∧ r ≤ 100) (hq1 : 0 < q ∧ q ≤ 100) :
  Calls Tryz.prog 56 #[.agg #[.bool s, .slice A n c, .slice G r k], .agg #[.bool s', .slice A' n' c', .slice G' r k']] w (RetBo (ent d RR = ent d' RR') w) := by
 obtain ⟨W1, HW1⟩ : ∃ W, W = (w.alloc (.cells #[.bool s, .slice A n c, .slice G r k] 28)).alloc (.cells #[.bool s', .slice A' n' c', .slice G' r k'] 28) := ⟨_, rfl⟩
 have hb0 : Below w.heap.size w (w.alloc (.cells #[.bool s, .slice A n c, .slice G r k] 28)) := (Below.refl _ _).alloc (Nat.le_refl _) _
 have hM0 : MC W1 w.heap.size s A n c G r k := by rw [HW1]; exact (MC.new w s A n c G r k).next ((Below.refl _ _).alloc (Nat.le_refl _) _)
 have hM1 : MC W1 (w.heap.size + 1) s' A' n' c' G' r k' := by rw [HW1]; have := MC.new (w.alloc (.cells #[.bool s, .slice A n c, .slice G r k] 28)) s' A' n' c' G' r k'; simpa using this
 have HB1 := Lib.hid (show Below w.heap.size w W1 by rw [HW1]; exact hb0.alloc hb0.size _)
 have HX := Lib.hid (show ∀ W, Below W1.heap.size W1 W → (MC W w.heap.size s A n c G r k ∧ MC W (w.heap.size + 1) s' A' n' c' G' r k') ∧ (RdZ W W.heap.size s A n c d ∧ RdRss W W.heap.size N K G r k RR) ∧ (RdZ W W.heap.size s' A' n' c' d' ∧ RdRss W W.heap.size N' K' G' r k' RR') from fun W hb => ⟨⟨hM0.next hb, hM1.next hb⟩, ⟨(h.next HB1.out).next hb, (h'.next HB1.out).next hb⟩, (g.next HB1.out).next hb, (g'.next HB1.out).next hb⟩)
 have HLL := Lib.hid (And.intro h'.len g'.len)
 have HSZ := Lib.hid (show ((RR.length : Int) = r ∧ (colsOf RR : Int) = q) ∧ ((RR'.length : Int) = r ∧ (colsOf RR' : Int) = q) from ⟨⟨by rw [h'.len], by rw [cols_q hq (by rw [h'.len]; exact hr.1)]⟩, by rw [g'.len], by rw [cols_q gq (by rw [g'.len]; exact hr.1)]⟩)
 have HSS := Lib.hid (And.intro hS gS)
 have HQ := Lib.hid (And.intro hq gq)
 have HDD := Lib.hid (And.intro hd gd)
 have m0 := hM0.c0
 have m1 := hM0.c1
 have m2 := hM0.c2
 have m3 := hM1.c0
 have m4 := hM1.c1
 have m5 := hM1.c2
 rw [HW1] at m0 m1 m2 m3 m4 m5
 have HW1 := Lib.hid HW1
 clear h h' g g' hb0 hM0 hM1 hS gS hq gq hd gd
 go_enter Tryz.func56, Tryz.ntmps56
 go_wp2_with fail
 rw [← HW1.out]
 clear HW1 m0 m1 m2 m3 m4 m5
 clear HW1
 refine (rMSize_any (HX.out _ (Below.refl _ _)).2.1.2 (by omega)).mono ?_
 rintro _ W2 ⟨x2, y2, rfl, hxy2, hb2⟩
 obtain rfl : x2 = (r : Int) := hxy2.out.1.trans HSZ.out.1.1
 obtain rfl : y2 = (q : Int) := hxy2.out.2.trans HSZ.out.1.2
 have HB2 := Lib.hid hb2
 obtain ⟨⟨hA, hB⟩, _⟩ := HX.out W2 hb2
 have m3 := hB.c0
 have m4 := hB.c1
 have m5 := hB.c2
 clear hA hB hb2 hxy2
 go_wp2_with fail
 clear m3 m4 m5
 refine (rMSize_any (HX.out _ HB2.out).2.2.2 (by omega)).mono ?_
 rintro _ W3 ⟨x3, y3, rfl, hxy3, hb3⟩
 obtain rfl : x3 = (r : Int) := hxy3.out.1.trans HSZ.out.2.1
 obtain rfl : y3 = (q : Int) := hxy3.out.2.trans HSZ.out.2.2
 have HB3 := Lib.hid (HB2.out.trans (hb3.mono HB2.out.size))
 clear hb3 hxy3
 have HXX := Lib.hid (show ∀ W, Below W3.heap.size W3 W → W.cell? ⟨w.heap.size, 0, none⟩ = some (.bool s) ∧ W.cell? ⟨w.heap.size, 1, none⟩ = some (.slice A n c) ∧ W.cell? ⟨w.heap.size, 2, none⟩ = some (.slice G r k) ∧ W.cell? ⟨w.heap.size + 1, 0, none⟩ = some (.bool s') ∧ W.cell? ⟨w.heap.size + 1, 1, none⟩ = some (.slice A' n' c') ∧ W.cell? ⟨w.heap.size + 1, 2, none⟩ = some (.slice G' r k') from fun W hb => by
  obtain ⟨⟨hA, hB⟩, _⟩ := HX.out W (HB3.out.trans (hb.mono HB3.out.size))
  exact ⟨hA.c0, hA.c1, hA.c2, hB.c0, hB.c1, hB.c2⟩)
 have HRR := Lib.hid (show ∀ W, Below W3.heap.size W3 W → (RdZ W W.heap.size s A n c d ∧ RdRss W W.heap.size N K G r k RR) ∧ (RdZ W W.heap.size s' A' n' c' d' ∧ RdRss W W.heap.size N' K' G' r k' RR') from fun W hb => (HX.out W (HB3.out.trans (hb.mono HB3.out.size))).2)
 have HBD := Lib.hid (Below.refl W3.heap.size W3).drew
 obtain ⟨x0, x1, x2, x3, x4, x5⟩ := HXX.out _ (Below.refl _ _)
 go_upto_region 3 with fail
 go_region_held3 (fun w' => w'.cell? ⟨w.heap.size, 0, none⟩ = some (.bool s) ∧ w'.cell? ⟨w.heap.size, 1, none⟩ = some (.slice A n c) ∧ w'.cell? ⟨w.heap.size, 2, none⟩ = some (.slice G r k) ∧ w'.cell? ⟨w.heap.size + 1, 0, none⟩ = some (.bool s') ∧ w'.cell? ⟨w.heap.size + 1, 1, none⟩ = some (.slice A' n' c') ∧ w'.cell? ⟨w.heap.size + 1, 2, none⟩ = some (.slice G' r k'))
  (first | exact HXX.out _ HB7.out | exact HXX.out _ HB6.out | exact HXX.out _ HB5.out | exact HXX.out _ HBD.out)
  (first
   | (go_at_call 10; refine (rMSame_any HM6.out.1.1.own.rd (HM6.out.1.2.rd (K := q) (N := 20000000000) (by rw [HV5.out.2]; exact rN_sz HSS.out.1 hM hr.2 hq1.2)) HM6.out.2.1.own.rd (HM6.out.2.2.rd (K := q) (N := 20000000000) (by rw [HV6.out.2]; exact rN_sz HSS.out.2 hM hr.2 hq1.2)) (by rw [← HM6.out.1.2.len, HV5.out.2]; unfold rN fromN Mx.tab; simp; omega)).mono ?_; rintro _ W7 ⟨b7, rfl, hb7v, hb7⟩; have HB7 := Lib.hid (HB6.out.trans (hb7.mono HB6.out.size)))
   | (go_at_call 102; refine (rNorm_any (HRR.out _ HBD.out).1.1 (HRR.out _ HBD.out).1.2 HDD.out.1 HQ.out.1 hn hN HSS.out.1 hM h1M hr hq1).mono ?_; rintro _ W5 ⟨s5, A5, n5, c5, G5, r5, k5, y5, M5, rfl, ho5, hm5, hv5, hb5⟩; have HB5 := Lib.hid (HBD.out.trans hb5); have HM5 := Lib.hid (And.intro ho5 hm5); have HV5 := hv5; clear ho5 hm5)
   | (go_at_call 102; refine (rNorm_any (HRR.out _ HB5.out).2.1 (HRR.out _ HB5.out).2.2 HDD.out.2 HQ.out.2 gn gN HSS.out.2 hM h1M hr hq1).mono ?_; rintro _ W6 ⟨s6, A6, n6, c6, G6, r6, k6, y6, M6, rfl, ho6, hm6, hv6, hb6⟩; have HB6 := Lib.hid (HB5.out.trans (hb6.mono HB5.out.size)); have HM6 := Lib.hid (And.intro (And.intro (HM5.out.1.next hb6) (HM5.out.2.next hb6)) (And.intro ho6 hm6)); have HV6 := hv6; clear ho6 hm6))
 all_goals
  have HRB := Lib.hid (show b7 = true ↔ ent d RR = ent d' RR' by
   rw [hb7v.out, ent_tab HQ.out.1, ent_tab HQ.out.2, HLL.out.1, HLL.out.2, ← same_words, HV5.out.2, HV6.out.2]
   have e1 := HM6.out.1.1.sgn
   have e2 := HM6.out.2.1.sgn
   rw [e1, e2, HV5.out.1, HV6.out.1]
   exact Iff.rfl)
  have HBF := Lib.hid (HB1.out.trans ((HB3.out.trans (HB7.out.mono HB3.out.size)).mono HB1.out.size))
  clear x0 x1 x2 x3 x4 x5 hb7v hb7
  go_wp2
  go_ret
  exact ⟨b7, rfl, HRB, HBF.out⟩
end Go.Proofs.YtjnklbfhelbjgaaGreat

/- Reference 17: Of, the companion matrix of a normal polynomial. -/
namespace Go.Proofs.YtjnklbfhelbjgaaGreat
open Go.RowKit Go.IntWalk
attribute [local go_sem ↓] Go.wp_at_zero Go.wp_at_succ
theorem ent_rN (r q : Nat) (F : Nat → Nat → Rat) : ent (rD r q F) ((rN r q F).map (·.map ofZ)) = Mx.tab r q F := by
 rw [ent_ofZ]
 exact ent_from _
theorem rN_rows (r q : Nat) (F : Nat → Nat → Rat) : ∀ R ∈ (rN r q F).map (·.map ofZ), R.length = q := by
 intro R hR
 obtain ⟨L, hL, rfl⟩ := List.mem_map.1 hR
 rw [List.length_map]
 exact fromN_len tab_lens L hL
theorem rN_len (r q : Nat) (F : Nat → Nat → Rat) : (rN r q F).length = r := by
 unfold rN fromN Mx.tab
 simp
theorem me_rN {r q : Nat} {F : Nat → Nat → Rat} {i k : Nat} (hi : i < r) (hk : k < q) : me (rD r q F) ((rN r q F).map (·.map ofZ)) i k = F i k := by
 have e := ent_rN r q F
 rw [ent_tab (rN_rows r q F), List.length_map, rN_len] at e
 rw [← Mx.sub_tab (f := me (rD r q F) ((rN r q F).map (·.map ofZ))) hi hk, e, Mx.sub_tab hi hk]
theorem rD_ne (r q : Nat) (F : Nat → Nat → Rat) : rD r q F ≠ 0 := by
 have := denL_pos (Mx.tab r q F).flatten
 show denL _ ≠ 0
 omega
theorem rD_sz {N r q : Nat} {F : Nat → Nat → Rat} (hS : ∀ i, i < r → ∀ k, k < q → Qs N (F i k)) (hN : N ≤ 1000000) (hr : r ≤ 100) (hq : q ≤ 100) : Zz.zl (rD r q F) ≤ 10000000001 := by
 have e1 := denF_sz (N := N) (Mx.tab r q F).flatten 1 (fun x hx => by
  obtain ⟨L, hL, hx⟩ := List.mem_flatten.1 hx
  exact tab_mem hS L hL x hx)
 have e2 : Zz.zl 1 ≤ 1 := Zz.zl_small (by decide)
 have e3 : (Mx.tab r q F).flatten.length = r * q := by
  rw [flat_len _ tab_lens, Mx.tab_len]
 have e4 : r * q ≤ 100 * 100 := Nat.mul_le_mul hr hq
 have e5 : (Mx.tab r q F).flatten.length * N ≤ 10000 * 1000000 := Nat.mul_le_mul (by omega) hN
 show Zz.zl (denF 1 _) ≤ _
 omega
theorem MQ.pt {w : World} {b B : Nat} {a : Nat} {k c N : Nat} {G : List Nat} {EE : Nat → List (Ent × Ent)} {F : Nat → Nat → Rat} (h : MQ w b B (some ⟨a, 0, none⟩) k c N G EE F) {i j : Nat} (hi : i < k) (hj : j < N) :
  ∃ (g : Nat) (e : Ent × Ent), G[i]? = some g ∧ w.cell? ⟨a, i, none⟩ = some (.slice (some ⟨g, 0, none⟩) N N) ∧ a < w.heap.size ∧ B ≤ g ∧ QB w g (EE i) ∧ (EE i)[j]? = some e := by
 obtain ⟨a', g, h0, h1, h2, h3, h4, h5, h6, h7, h8⟩ := h.at_ hi
 injection h0 with h0
 injection h0 with h0
 subst h0
 exact ⟨g, (EE i)[j]'(by omega), h3, h4, h1, h5, h6, List.getElem?_eq_getElem _⟩
def cpA (L : List Rat) (i : Nat) (a t : Nat) : Rat := if a < i then Mx.cmp L a t else 0
def cpB (L : List Rat) (i : Nat) (a t : Nat) : Rat := if a < i then Mx.cmp L a t else if a = i ∧ t + 1 = i then 1 else 0
theorem cmp_top {L : List Rat} {n a t : Nat} (hL : L.length = n + 1) (h : t + 1 = n) : Mx.cmp L a t = -(Pq.co L a) := by
 unfold Mx.cmp
 rw [if_pos (by omega)]
theorem cmp_low {L : List Rat} {n a t : Nat} (hL : L.length = n + 1) (h : t + 1 ≠ n) : Mx.cmp L a t = if a = t + 1 then 1 else 0 := by
 unfold Mx.cmp
 rw [if_neg (by omega)]
theorem cpB_upd {L : List Rat} {i : Nat} (h : 0 < i) (a t : Nat) : upd (cpA L i) i (i - 1) 1 a t = cpB L i a t := by
 unfold upd cpA cpB
 by_cases h1 : a = i ∧ t = i - 1
 ·rw [if_pos h1, if_neg (by omega), if_pos (by omega)]
 ·rw [if_neg h1]
  by_cases h2 : a < i
  ·rw [if_pos h2, if_pos h2]
  ·rw [if_neg h2, if_neg h2, if_neg (by omega)]
theorem cpC_upd {L : List Rat} {n i : Nat} (hL : L.length = n + 1) (a t : Nat) (hn : 0 < n) : upd (cpB L i) i (n - 1) (-(Pq.co L i)) a t = cpA L (i + 1) a t := by
 unfold upd cpA cpB
 by_cases h1 : a = i ∧ t = n - 1
 ·rw [if_pos h1, if_pos (by omega), cmp_top hL (by omega), h1.1]
 ·rw [if_neg h1]
  by_cases h2 : a < i
  ·rw [if_pos h2, if_pos (by omega)]
  ·rw [if_neg h2]
   by_cases h3 : a = i
   ·subst h3
    rw [if_pos (Nat.lt_succ_self a), cmp_low hL (by omega)]
    by_cases h4 : t + 1 = a
    ·rw [if_pos (by omega), if_pos h4.symm]
    ·rw [if_neg (by omega), if_neg (by omega)]
   ·rw [if_neg (by omega), if_neg (by omega)]
theorem cpD_upd {L : List Rat} {n i : Nat} (hL : L.length = n + 1) (hi : i + 1 = n) (hn : 1 < n) (a t : Nat) : upd (cpA L (i + 1)) i (n - 2) 1 a t = cpA L (i + 1) a t := by
 unfold upd
 by_cases h1 : a = i ∧ t = n - 2
 ·rw [if_pos h1]
  unfold cpA
  rw [if_pos (by omega), cmp_low hL (by omega), if_pos (by omega)]
 ·rw [if_neg h1]
set_option maxRecDepth 100000 in
set_option maxHeartbeats 16000000 in
theorem rOf_any {N n0 n : Nat} {A : Option Addr} {c : Nat} {L : List Rat} {w : World} (h : RdQs w w.heap.size N A n0 c (L.map pr)) (hz : Pq.Nz L) (hL : L.length = n + 1) (hS : ∀ x ∈ L, Qs N x) (hN : N ≤ 1000000) (h1N : 1 ≤ N) (hn1 : 0 < n ∧ n ≤ 100) :
  Calls Tryz.prog 50 #[.slice A n0 c] w (RetMt (rD n n (Mx.cmp L)) (rN n n (Mx.cmp L)) w) := by
 have hn0 : n0 = n + 1 := by
  have := h.len
  rw [List.length_map, hL] at this
  omega
 subst hn0
 obtain ⟨W1, HW1⟩ : ∃ W, W = w.alloc (.cells #[.bool false, .slice none 0 0, .slice none 0 0] 28) := ⟨_, rfl⟩
 have HM1 := Lib.hid (show MC W1 w.heap.size false none 0 0 none 0 0 by rw [HW1]; exact MC.new w false none 0 0 none 0 0)
 have HB1 := Lib.hid (show Below w.heap.size w W1 by rw [HW1]; exact (Below.refl _ _).alloc (Nat.le_refl _) _)
 have HR := Lib.hid (h.next HB1.out)
 have HNZ := Lib.hid hz
 have HLN := Lib.hid hL
 have HS := Lib.hid hS
 have HCS := Lib.hid (show ∀ i, i < n → ∀ k, k < n → Qs N (Mx.cmp L i k) from fun i _ k _ => cmp_sz hS h1N i k)
 have HW1 := Lib.hid HW1
 clear h hz hL hS
 go_enter Tryz.func50, Tryz.ntmps50
 go_wp2_with fail
 rw [← HW1.out]
 clear HW1
 clear HW1
 refine (rqnorm_own HR.out (by omega) (by omega)).mono ?_
 rintro _ W2 ⟨A2, n2, c2, L2, rfl, ho2, hL2, hb2⟩
 obtain rfl : L2 = L := hL2.out.unique (Pq.IsP.self HNZ.out)
 have hn2 : n2 = n + 1 := by rw [← ho2.len]; exact HLN.out
 subst hn2
 have HO2 := Lib.hid ho2
 have HB2 := Lib.hid hb2
 have hw1 : IntKind.i64.wrap (((n + 1 : Nat) : Int) - 1) = (n : Int) := by
  rw [show ((n + 1 : Nat) : Int) - 1 = (n : Int) by omega]
  exact IntWalk.i64_in _ (by omega)
 have hw2 : IntKind.i64.wrap ((n : Int) + 1 - 1) = (n : Int) := by
  rw [show (n : Int) + 1 - 1 = (n : Int) by omega]
  exact IntWalk.i64_in _ (by omega)
 have hw3 : IntKind.i64.wrap (n : Int) = (n : Int) := IntWalk.i64_in _ (by omega)
 clear ho2 hb2 hL2
 go_wp2_with fail
 refine (rZero_any (w := W2) hn1 hn1).mono ?_
 rintro _ W3 ⟨s3, A3, n3, c3, G3, r3, k3, y3, M3, rfl, ho3, hm3, hy3, hb3⟩
 obtain ⟨rfl, rfl⟩ := hy3.out
 have hr3 : r3 = n := by rw [← hm3.len, rN_len]
 subst hr3
 have HB3 := Lib.hid hb3
 have HZ3 := Lib.hid (show Zz.zl (rD r3 r3 fun _ _ => 0) ≤ 10000000001 from rD_sz (N := 1) (fun _ _ _ _ => Qs.zero (Nat.le_refl _)) (by decide) hn1.2 hn1.2)
 have HN3 := Lib.hid (show n3 ≤ 1000000000000 by rw [ho3.len]; exact Nat.le_trans HZ3.out (by decide))
 have HO3 := Lib.hid (And.intro ho3.rd (hm3.rd (K := r3) (N := 20000000000) (rN_sz (N := 1) (fun _ _ _ _ => Qs.zero (Nat.le_refl _)) (by decide) hn1.2 hn1.2)))
 clear ho3 hm3 hy3 hb3
 go_wp2_with fail
 refine (rMRows_any HO3.out.1 HO3.out.2 (rD_ne _ _ _) (rN_rows _ _ _) HN3.out (by decide) (by omega) (by omega)).mono ?_
 rintro _ W4 ⟨A4, c4, G4, E4, rfl, hm4, hb4⟩
 have HB4 := Lib.hid (HB3.out.trans (hb4.mono HB3.out.size))
 have hmz := hm4.to (F' := cpA L2 0) (fun i hi k hk => by rw [me_rN hi hk]; unfold cpA; rw [if_neg (Nat.not_lt_zero _)])
 obtain ⟨a4, rfl⟩ : ∃ a, A4 = some ⟨a, 0, none⟩ := by
  rcases hmz.form with ⟨_, h0, _⟩ | ⟨g, e, _⟩
  ·omega
  ·exact ⟨g, e⟩
 have hmb := hmz.base (b' := W3.heap.size) (Nat.le_refl _)
 have HM4 := Lib.hid hmz
 have HL4 := Lib.hid (show ∀ W, Below W3.heap.size W4 W → MC W w.heap.size false none 0 0 none 0 0 ∧ OwQp W W1.heap.size A2 (r3 + 1) c2 L2 ∧ Below w.heap.size w W from fun W hb => by
  have h23 := HB3.out.trans ((hb4.trans hb).mono HB3.out.size)
  exact ⟨HM1.out.next (HB2.out.trans (h23.mono HB2.out.size)), HO2.out.next h23, HB1.out.trans ((HB2.out.trans (h23.mono HB2.out.size)).mono HB1.out.size)⟩)
 have HSZ4 := Lib.hid (show w.heap.size < W3.heap.size from Nat.lt_of_lt_of_le HM1.out.lt (Nat.le_trans HB2.out.size HB3.out.size))
 clear hm4 hb4 hmz hmb
 go_wp2_with fail
 go_loopw [17] (fun iv wr => ∃ (i : Nat) (EE : Nat → List (Ent × Ent)), iv = .int .i64 (i : Int) ∧ i ≤ r3 ∧ MQ wr W3.heap.size W3.heap.size (some ⟨a4, 0, none⟩) r3 c4 r3 G4 EE (cpA L2 i) ∧ Below W3.heap.size W4 wr) (fun iv _ => r3 - (intOf iv).toNat)
 case atStart => exact ⟨0, E4, rfl, Nat.zero_le _, HM4.out, Below.refl _ _⟩
 case round =>
  obtain ⟨i, EE, rfl, hi, hm, hB⟩ := hrel
  by_cases hin : i = r3
  ·subst hin
   have HM := Lib.hid (hm.to (F' := Mx.cmp L2) (fun a ha t _ => by unfold cpA; rw [if_pos ha]))
   have HBW := Lib.hid hB
   have HSW := Lib.hid (show W3.heap.size ≤ wr.heap.size by have := HB4.out.size; have := hB.size; have := HM4.out.form; rcases this with ⟨_, h0, _⟩ | ⟨g, _, h1, h2, _⟩ <;> omega)
   clear hm hB
   go_wp2_with fail
   refine (rFrom_tab HM.out (Nat.le_refl _) HSW.out HCS.out hN h1N hn1 hn1).mono ?_
   rintro _ W8 ⟨s8, A8, n8, c8, G8, r8, k8, y8, MM, rfl, ho8, hm8, hy8, hb8⟩
   have hb48 := HBW.out.trans (hb8.mono HSW.out)
   obtain ⟨hMz, _, hbw⟩ := HL4.out W8 hb48
   have r0 := hMz.c0
   have r1 := hMz.c1
   have r2 := hMz.c2
   have f0 := hMz.fz 0
   have f1 := hMz.fz 1
   have f2 := hMz.fz 2
   have HWL := Lib.hid (show w.heap.size < wr.heap.size from Nat.lt_of_lt_of_le HSZ4.out HSW.out)
   have HSS := Lib.hid (hMz.store s8 A8 n8 c8 G8 r8 k8)
   have HU := Lib.hid ((ho8.keep (keepI_put hMz s8 A8 n8 c8 G8 r8 k8).1).base (b' := w.heap.size) (Nat.le_of_lt HWL.out))
   have HQQ := Lib.hid ((hm8.put hMz HWL.out s8 A8 n8 c8 G8 r8 k8).base (b' := w.heap.size) (Nat.le_of_lt HWL.out))
   have HF := Lib.hid (below_putM hbw (Nat.le_refl w.heap.size) s8 A8 n8 c8 G8 r8 k8)
   unfold putM at HSS HU HQQ HF
   clear hMz ho8 hm8 hb8 hb48 hbw
   go_wp2
   generalize ((W8.setCell ⟨w.heap.size, 0, none⟩ (.bool s8)).setCell ⟨w.heap.size, 1, none⟩ (.slice A8 n8 c8)).setCell ⟨w.heap.size, 2, none⟩ (.slice G8 r8 k8) = V9 at *
   exact bodyPost_ret (by simp [results, Tryz.results50, go_sem, HSS.out.c0, HSS.out.c1, HSS.out.c2]) rfl ⟨s8, A8, n8, c8, G8, r8, k8, y8, MM, rfl, HU.out, HQQ.out, hy8, HF.out⟩
  ·have hil : i < r3 := by omega
   have hili : (i : Int) < (r3 : Int) := by omega
   clear hin
   obtain ⟨wo, rfl⟩ : ∃ V, V = wr := ⟨_, rfl⟩
   have HM := Lib.hid hm
   have HBO := Lib.hid hB
   have HS3 := Lib.hid (show W3.heap.size ≤ wo.heap.size by have := hB.size; have := HM4.out.form; rcases this with ⟨_, h0, _⟩ | ⟨g, _, h1, h2, _⟩ <;> omega)
   clear hm hB
   go_upto_if 21 with fail
   go_cut [] from 21 to 29 (fun V => ∃ EE, MQ V W3.heap.size W3.heap.size (some ⟨a4, 0, none⟩) r3 c4 r3 G4 EE (cpB L2 i) ∧ Below W3.heap.size W4 V)
   case first =>
    by_cases h0 : 0 < i
    ·have h0i : (0 : Int) < (i : Int) := by omega
     obtain ⟨i1, hi1⟩ : ∃ i1, i = i1 + 1 := ⟨i - 1, by omega⟩
     have hi1r : i1 < r3 := by omega
     have hi1i : (i1 : Int) < (r3 : Int) := by omega
     have hwi : IntKind.i64.wrap ((i : Int) - 1) = (i1 : Int) := by
      rw [show (i : Int) - 1 = (i1 : Int) by omega]
      exact IntWalk.i64_in _ (by omega)
     have HI1 := Lib.hid hi1
     clear hi1
     obtain ⟨g, e, hg, hx, ha, hBg, hqb, he⟩ := HM.out.pt hil hi1r
     have HX := Lib.hid (And.intro hg (And.intro hx (And.intro ha (And.intro hBg (And.intro hqb he)))))
     have HBD := Lib.hid (Below.refl wo.heap.size wo).drew
     clear hg ha hBg hqb he
     go_upto_region 8 with fail
     go_region_law (go_simp; go_at_call 55; refine (rQOf_any 1 (by decide) (by decide) _).mono ?_; rintro _ W7 ⟨s7, A7, n7, c7, s8, A8, n8, c8, y, rfl, ho7, hy, hb7⟩; have HB7 := Lib.hid (HBD.out.trans hb7); have hx7 := (HB7.out.cell (p := ⟨a4, i, none⟩) HX.out.2.2.1).trans HX.out.2.1; have hz7 := HX.out.2.2.2.2.1.next HB7.out; obtain ⟨k0, k1, k2, k3⟩ := hz7.cells HX.out.2.2.2.2.2; have f0 := hz7.frozen (i1 * 4); have f1 := hz7.frozen (i1 * 4 + 1); have f2 := hz7.frozen (i1 * 4 + 2); have f3 := hz7.frozen (i1 * 4 + 3); have HO7 := Lib.hid (And.intro ho7 hy.out); clear hz7 ho7 hy hb7)
     all_goals
      have HM9 := Lib.hid (((HM.out.next HB7.out).set HX.out.1 hi1r (e := ((s7, A7, n7, c7), (s8, A8, n8, c8))) (x := 1) (by have := (HO7.out.1).base (b' := W3.heap.size) (Nat.le_trans HS3.out HBD.out.size); rw [HO7.out.2] at this; exact this)).to (F' := cpB L2 i) (fun a _ t _ => by have := cpB_upd (L := L2) h0 a t; rw [show i - 1 = i1 by have := HI1.out; omega] at this; exact this))
      have HB9 := Lib.hid (below_setQ (HBO.out.trans (HB7.out.mono HS3.out)) HX.out.2.2.2.1 i1 ((s7, A7, n7, c7), (s8, A8, n8, c8)))
      unfold setQ at HM9 HB9
      clear hx hx7 k0 k1 k2 k3 f0 f1 f2 f3
      go_wp2
      go_meet
      exact ⟨_, HM9.out, HB9.out⟩
    ·obtain rfl : i = 0 := by omega
     go_wp2
     go_meet
     exact ⟨EE, HM.out.to (fun a _ t _ => by unfold cpA cpB; rw [if_neg (Nat.not_lt_zero _), if_neg (Nat.not_lt_zero _), if_neg (by omega)]), HBO.out⟩
   case rest =>
    obtain ⟨EF, hmc, hbc⟩ := hcut
    obtain ⟨m1, hm1⟩ : ∃ m1, r3 = m1 + 1 := ⟨r3 - 1, by omega⟩
    have hm1r : m1 < r3 := by omega
    have hm1i : (m1 : Int) < (r3 : Int) := by omega
    have hwm : IntKind.i64.wrap ((r3 : Int) - 1) = (m1 : Int) := by
     rw [show (r3 : Int) - 1 = (m1 : Int) by omega]
     exact IntWalk.i64_in _ (by omega)
    have HM1 := Lib.hid hm1
    clear hm1
    obtain ⟨_, hop, _⟩ := HL4.out wc hbc
    have hi2 : i < r3 + 1 := by omega
    have hi2i : (i : Int) < ((r3 + 1 : Nat) : Int) := by omega
    have hi2j : (i : Int) < (r3 : Int) + 1 := by omega
    obtain ⟨ad, s1, B1, p1, k1, s2, B2, p2, k2, x, rfl, hbk2, hx0, hx1, hx2, hx3, hq, hqx⟩ := op_at hop hi2
    have hxc : Pq.co L2 i = x := Pq.co_get hqx.out
    have hxs := HS.out x (List.mem_of_getElem? hqx.out)
    obtain ⟨g, e, hg, hx, ha, hBg, hqb, he⟩ := hmc.pt hil hm1r
    have HX := Lib.hid (And.intro hg (And.intro hx (And.intro ha (And.intro hBg (And.intro hqb he)))))
    have HBD := Lib.hid (Below.refl wc.heap.size wc).drew
    have HQ := Lib.hid (And.intro hq (And.intro hxc hxs))
    have HM5 := Lib.hid hmc
    have HBC := Lib.hid hbc
    have HS5 := Lib.hid (show W3.heap.size ≤ wc.heap.size by have := hbc.size; have := HM4.out.form; rcases this with ⟨_, h0, _⟩ | ⟨g, _, h1, h2, _⟩ <;> omega)
    clear hg ha hBg hqb he hmc hbc hop hq hqx hxc hxs
    go_upto_region 9 with fail
    go_region_law (go_simp; go_at_call 53; refine (rQNeg_any (N := N) (HQ.out.1.next HBD.out).num.rd (HQ.out.1.next HBD.out).den.rd ⟨by rw [HQ.out.1.num.len]; exact HQ.out.2.2.1, by rw [HQ.out.1.den.len]; exact HQ.out.2.2.2⟩ (by omega) (qden_ne x)).mono ?_; rintro _ W7 ⟨s7, A7, n7, c7, s8, A8, n8, c8, y, rfl, ho7, hy, hb7⟩; have HB7 := Lib.hid (HBD.out.trans hb7); have hx7 := (HB7.out.cell (p := ⟨a4, i, none⟩) HX.out.2.2.1).trans HX.out.2.1; have hz7 := HX.out.2.2.2.2.1.next HB7.out; obtain ⟨k0, k1, k2, k3⟩ := hz7.cells HX.out.2.2.2.2.2; have f0 := hz7.frozen (m1 * 4); have f1 := hz7.frozen (m1 * 4 + 1); have f2 := hz7.frozen (m1 * 4 + 2); have f3 := hz7.frozen (m1 * 4 + 3); have HO7 := Lib.hid (And.intro ho7 hy.out); clear hz7 ho7 hy hb7)
    all_goals
     have HM9 := Lib.hid (((HM5.out.next HB7.out).set HX.out.1 hm1r (e := ((s7, A7, n7, c7), (s8, A8, n8, c8))) (x := -(Pq.co L2 i)) (by have := (HO7.out.1).base (b' := W3.heap.size) (Nat.le_trans HS5.out HBD.out.size); rw [HO7.out.2, Rat.num_divInt_den, ← HQ.out.2.1] at this; exact this)).to (F' := cpA L2 (i + 1)) (fun a _ t _ => by have := cpC_upd (L := L2) (n := r3) (i := i) HLN.out a t hn1.1; rw [show r3 - 1 = m1 by have := HM1.out; omega] at this; exact this))
     have HB9 := Lib.hid (below_setQ (HBC.out.trans (HB7.out.mono HS5.out)) HX.out.2.2.2.1 m1 ((s7, A7, n7, c7), (s8, A8, n8, c8)))
     unfold setQ at HM9 HB9
     clear hx hx7 k0 k1 k2 k3 f0 f1 f2 f3 hx0 hx1 hx2 hx3
     by_cases hlast : i = m1
     ·subst hlast
      by_cases h1n : 1 < r3
      ·have h1ni : (1 : Int) < (r3 : Int) := by omega
       go_upto_region 11 with fail
       generalize (((W7.setCell ⟨g, i * 4, none⟩ (.bool s7)).setCell ⟨g, i * 4 + 1, none⟩ (.slice A7 n7 c7)).setCell ⟨g, i * 4 + 2, none⟩ (.bool s8)).setCell ⟨g, i * 4 + 3, none⟩ (.slice A8 n8 c8) = V9 at *
       obtain ⟨m2, hm2⟩ : ∃ m2, r3 = m2 + 2 := ⟨r3 - 2, by omega⟩
       have hm2r : m2 < r3 := by omega
       have hm2i : (m2 : Int) < (r3 : Int) := by omega
       have hwm2 : IntKind.i64.wrap ((r3 : Int) - 2) = (m2 : Int) := by
        rw [show (r3 : Int) - 2 = (m2 : Int) by omega]
        exact IntWalk.i64_in _ (by omega)
       have HM2 := Lib.hid hm2
       clear hm2
       have hmv := HM9.out
       obtain ⟨g', e', hg', hx', ha', hBg', hqb', he'⟩ := hmv.pt hil hm2r
       have HX' := Lib.hid (And.intro hg' (And.intro hx' (And.intro ha' (And.intro hBg' (And.intro hqb' he')))))
       have HBD' := Lib.hid (Below.refl V9.heap.size V9).drew
       have HS9 := Lib.hid (show W3.heap.size ≤ V9.heap.size by have := HB9.out.size; have := HM4.out.form; rcases this with ⟨_, h0, _⟩ | ⟨g, _, h1, h2, _⟩ <;> omega)
       clear hmv hg' ha' hBg' hqb' he'
       go_region_law (go_simp; go_at_call 55; refine (rQOf_any 1 (by decide) (by decide) _).mono ?_; rintro _ X7 ⟨u7, D7, p7, q7, u8, D8, p8, q8, y', rfl, ho7', hy', hb7'⟩; have HB7' := Lib.hid (HBD'.out.trans hb7'); have hx7' := (HB7'.out.cell (p := ⟨a4, i, none⟩) HX'.out.2.2.1).trans HX'.out.2.1; have hz7' := HX'.out.2.2.2.2.1.next HB7'.out; obtain ⟨k0, k1, k2, k3⟩ := hz7'.cells HX'.out.2.2.2.2.2; have f0 := hz7'.frozen (m2 * 4); have f1 := hz7'.frozen (m2 * 4 + 1); have f2 := hz7'.frozen (m2 * 4 + 2); have f3 := hz7'.frozen (m2 * 4 + 3); have HO7' := Lib.hid (And.intro ho7' hy'.out); clear hz7' ho7' hy' hb7')
       all_goals
        have HM8 := Lib.hid (((HM9.out.next HB7'.out).set HX'.out.1 hm2r (e := ((u7, D7, p7, q7), (u8, D8, p8, q8))) (x := 1) (by have := (HO7'.out.1).base (b' := W3.heap.size) (Nat.le_trans HS9.out HBD'.out.size); rw [HO7'.out.2] at this; exact this)).to (F' := cpA L2 (i + 1)) (fun a _ t _ => by have := cpD_upd (L := L2) (n := r3) (i := i) HLN.out (by have := HM1.out; omega) h1n a t; rw [show r3 - 2 = m2 by have := HM2.out; omega] at this; exact this))
        have HB8 := Lib.hid (below_setQ (HB9.out.trans (HB7'.out.mono HS9.out)) HX'.out.2.2.2.1 m2 ((u7, D7, p7, q7), (u8, D8, p8, q8)))
        unfold setQ at HM8 HB8
        clear hx' hx7' k0 k1 k2 k3 f0 f1 f2 f3
        go_wp2
        go_roundw
        case rel => exact ⟨i + 1, _, by go_num, by omega, HM8.out, HB8.out⟩
        case measure => simp [intOf]; omega
      ·have h1ni : ¬((1 : Int) < (r3 : Int)) := by omega
       have h1nj : (r3 : Int) ≤ 1 := by omega
       go_wp2
       go_roundw
       case rel => exact ⟨i + 1, _, by go_num, by omega, HM9.out, HB9.out⟩
       case measure => simp [intOf]; omega
     ·have hlasti : ¬((i : Int) = (m1 : Int)) := by omega
      go_wp2
      go_roundw
      case rel => exact ⟨i + 1, _, by go_num, by omega, HM9.out, HB9.out⟩
      case measure => simp [intOf]; omega
end Go.Proofs.YtjnklbfhelbjgaaGreat
