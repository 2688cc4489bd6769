/- companion: Sum, Of. -/
import Derived.Test.YtjnklbfhelbjgaaGreatQ19
import Derived.Test.YtjnklbfhelbjgaaGreatQ15
import Derived.Test.YtjnklbfhelbjgaaGreatQ12
import Derived.Test.YtjnklbfhelbjgaaGreatQ11
import Derived.Test.YtjnklbfhelbjgaaGreatQ14
import Derived.Test.YtjnklbfhelbjgaaGreatQ10
import Derived.Test.YtjnklbfhelbjgaaGreatQ13
namespace Go.Proofs.YtjnklbfhelbjgaaGreat
open Go.RowKit Go.IntWalk
attribute [local go_sem ↓] Go.wp_at_zero Go.wp_at_succ
abbrev RetSum (LL : List (List Rat)) (w : World) (e : Ending) (w' : World) : Prop := RetME (sumD LL) (sumN LL) 0 w e w'
set_option maxRecDepth 100000 in
set_option maxHeartbeats 8000000 in
theorem cSum_any {N K : Nat} {A : Option Addr} {n c : Nat} {LL : List (List Rat)} {w : World} (h : RdPs w w.heap.size N K A n c (LL.map fun L => L.map pr)) (hg : Good N LL) (hN : N ≤ 1000000) (h1N : 1 ≤ N) (hn0 : 0 < n) :
  Calls Tryz.prog 39 #[.slice A n c] w (RetSum LL w) := by
 obtain ⟨i0, hi, hz0, hz1, hz2⟩ := info_parts infoMat
 obtain ⟨W1, HW1⟩ : ∃ W, W = w.alloc (.cells #[.bool false, .slice none 0 0, .slice none 0 0] 28) := ⟨_, rfl⟩
 have hB : Below w.heap.size w W1 := by rw [HW1]; exact (Below.refl _ _).alloc (Nat.le_refl _) _
 have hM : MC W1 w.heap.size false none 0 0 none 0 0 := by rw [HW1]; exact MC.new w false none 0 0 none 0 0
 have HX := Lib.hid (h.next hB)
 have HG := Lib.hid hg
 have HL := Lib.hid (show LL.length = n by rw [← h.len, List.length_map])
 have HB := Lib.hid hB
 have HM := Lib.hid hM
 have HW1 := Lib.hid HW1
 clear h hg hB hM
 go_enter Tryz.func39, Tryz.ntmps39
 go_wp2_with fail
 rw [← HW1.out]
 clear HW1
 clear HW1
 refine (monics_any HX.out HG.out hN h1N).mono ?_
 rintro _ W2 ⟨A2, n2, c2, rfl, ho2, hb2⟩
 have hn2 : n2 = n := by rw [← ho2.len, HL.out]
 subst hn2
 have hn24 : n2 ≤ 24 := by rw [← HL.out]; exact HG.out.count
 have HO2 := Lib.hid (show ∀ W, Below W2.heap.size W2 W → OwPs W W1.heap.size A2 n2 c2 LL from fun W hb => ho2.next hb)
 have HB2 := Lib.hid (HB.out.trans (hb2.mono HB.out.size))
 have HM2 := Lib.hid (HM.out.next hb2)
 clear ho2 hb2 HB HM HX
 go_wp2_with fail
 go_loopw [5, 19] (fun ov iv wr => ∃ (j : Nat) (A' : Option Addr) (c' : Nat), ov = .slice A' j c' ∧ iv = .int .i64 (j : Int) ∧ j ≤ n2 ∧ OwMts wr W2.heap.size A' j c' ((LL.map gm).take j) ∧ Below W2.heap.size W2 wr) (fun _ iv _ => n2 - (intOf iv).toNat)
 case atStart => exact ⟨0, none, 0, rfl, rfl, Nat.zero_le _, OwMts.nil _ _, Below.refl _ _⟩
 case round =>
  obtain ⟨j, A', c', rfl, rfl, hj, ho, hB⟩ := hrel
  by_cases hjn : j = n2
  ·have HO := Lib.hid (show OwMts wr W2.heap.size A' j c' (LL.map gm) by rw [List.take_of_length_le (by rw [List.length_map, HL.out, hjn]; exact Nat.le_refl _)] at ho; exact ho)
   have HBF := Lib.hid (HB2.out.trans (hB.mono HB2.out.size))
   have HMF := Lib.hid (HM2.out.next hB)
   subst hjn
   clear ho hB
   go_wp2_with fail
   refine (mBlocks_any HO.out (sq_good HG.out hN h1N) (Nat.le_refl _) hn0).mono ?_
   rintro _ W8 ⟨s8, A8, n8, c8, G8, r8, k8, y8, MM, kk, rfl, ho8, hm8, hy8, hb8⟩
   have hMz := HMF.out.next hb8
   have r0 := hMz.c0
   have r1 := hMz.c1
   have r2 := hMz.c2
   have f0 := hMz.fz 0
   have f1 := hMz.fz 1
   have f2 := hMz.fz 2
   have HSS := Lib.hid (hMz.store s8 A8 n8 c8 G8 r8 k8)
   have HU := Lib.hid ((ho8.base (b' := w.heap.size) HBF.out.size).keep (keepI_put hMz s8 A8 n8 c8 G8 r8 k8).1)
   have HQQ := Lib.hid ((hm8.put hMz HMF.out.lt s8 A8 n8 c8 G8 r8 k8).base (b' := w.heap.size) HBF.out.size)
   have HF := Lib.hid (below_putM (HBF.out.trans (hb8.mono HBF.out.size)) (Nat.le_refl w.heap.size) s8 A8 n8 c8 G8 r8 k8)
   unfold putM at HSS HU HQQ HF
   clear hMz ho8 hm8 hb8
   go_wp2_with fail
   generalize ((W8.setCell ⟨w.heap.size, 0, none⟩ (.bool s8)).setCell ⟨w.heap.size, 1, none⟩ (.slice A8 n8 c8)).setCell ⟨w.heap.size, 2, none⟩ (.slice G8 r8 k8) = W9 at *
   have z0 := HSS.out.c0
   have z1 := HSS.out.c1
   have z2 := HSS.out.c2
   exact bodyPost_ret (by simp [results, Tryz.results39, go_sem, z0, z1, z2]) rfl ⟨s8, A8, n8, c8, G8, r8, k8, _, _, kk, rfl, HU.out, HQQ.out, hy8, HF.out⟩
  ·have hjl : j < n2 := by omega
   have hjli : (j : Int) < (n2 : Int) := by omega
   clear hjn
   obtain ⟨gp, A3, n3, c3, L, rfl, hbk, hx, ho3, hp⟩ := opl_at (HO2.out wr hB) hjl
   have hLm := List.mem_of_getElem? hp.out
   have hlen := ho3.len
   have h2 := HG.out.len L hLm
   have h25 := HG.out.le L hLm
   have HO3 := Lib.hid ho3
   have HSZ := Lib.hid (HG.out.sz L hLm)
   have HNN := Lib.hid (show n3 = (n3 - 1) + 1 ∧ 0 < n3 - 1 ∧ n3 - 1 ≤ 100 by omega)
   have HTK := Lib.hid (show (LL.map gm).take j ++ [gm L] = (LL.map gm).take (j + 1) by
    rw [List.take_add_one, List.getElem?_map, hp.out]
    rfl)
   have HOT := Lib.hid ho
   have HBT := Lib.hid hB
   clear ho hB ho3 hlen h2 h25 hLm
   go_wp2_with fail
   refine (block_any (n := n3 - 1) HO3.out HSZ.out hN h1N HNN.out.1 HNN.out.2.1 HNN.out.2.2).mono ?_
   rintro _ W5 ⟨s5, A5, n5, c5, G5, r5, k5, y5, MM, rfl, ho5, hm5, hy5, hb5⟩
   obtain ⟨rfl, rfl⟩ := hy5.out
   obtain ⟨E, hE, hEl, hEn⟩ := HOT.out.next hb5
   have HE := Lib.hid hE
   have HEN := Lib.hid (And.intro hEl hEn)
   have HP5 := Lib.hid (And.intro (ho5.base (b' := W2.heap.size) HBT.out.size) (hm5.base (b' := W2.heap.size) HBT.out.size))
   have HB5 := Lib.hid (HBT.out.trans (hb5.mono HBT.out.size))
   clear hE hEl hEn ho5 hm5 hb5 hx
   go_wp2_with (at_builtin; refine wpList_append_own _ rfl _ _ 125 rfl W2.heap.size 28 i0 (.agg #[.bool false, .slice none 0 0, .slice none 0 0]) 3 56 Tryz.underlying125 hi hz0 hz1 hz2 rfl (by decide) _ _ _ rfl (HE.out.alloc _) ⟨W5.heap.size, 0, none⟩ 1 1 [.bool s5, .slice A5 n5 c5, .slice G5 r5 k5] rfl rfl (mcell_new W5 (.bool s5) (.slice A5 n5 c5) (.slice G5 r5 k5) 28) (by simp [Value.oneCell']) (by unfold maxLen; omega) (by omega) (by have := HB5.out.size; simp; omega) ?_; intro v' w1 hown' hgrow _)
   obtain ⟨A9, c9, rfl, ho9⟩ := mts_more (e := ((s5, A5, n5, c5), (G5, r5, k5))) (x := gm L) HP5.out rfl (HE.out.alloc _) HEN.out.1 (HEN.out.2.next ((Below.refl _ _).alloc (Nat.le_refl _) (.cells #[.bool s5, .slice A5 n5 c5, .slice G5 r5 k5] 28))) hown' hgrow
   have HB9 := Lib.hid ((HB5.out.alloc HB5.out.size (.cells #[.bool s5, .slice A5 n5 c5, .slice G5 r5 k5] 28)).grown hgrow (by have := HB5.out.size; simp; omega) (own_block HE.out))
   have HO9 := Lib.hid (show OwMts w1 W2.heap.size A9 (j + 1) c9 ((LL.map gm).take (j + 1)) by rw [← HTK.out]; exact ho9)
   clear hown' hgrow HE HEN ho9
   go_wp2
   go_roundw
   case rel => exact ⟨j + 1, A9, c9, rfl, by go_num, by omega, HO9.out, HB9.out⟩
   case measure => simp [intOf]; omega
set_option maxRecDepth 100000 in
set_option maxHeartbeats 4000000 in
theorem cOf_any {N : Nat} {A : Option Addr} {n c : Nat} {L : List Rat} {w : World} (h : RdQs w w.heap.size N A n c (L.map pr)) (hg : Good N [L]) (hN : N ≤ 1000000) (h1N : 1 ≤ N) :
  Calls Tryz.prog 47 #[.slice A n c] w (RetSum [L] w) := by
 obtain ⟨W1, HW1⟩ : ∃ W, W = w.alloc (.cells #[.bool false, .slice none 0 0, .slice none 0 0] 28) := ⟨_, rfl⟩
 have hB : Below w.heap.size w W1 := by rw [HW1]; exact (Below.refl _ _).alloc (Nat.le_refl _) _
 have hM : MC W1 w.heap.size false none 0 0 none 0 0 := by rw [HW1]; exact MC.new w false none 0 0 none 0 0
 obtain ⟨W2, HW2⟩ : ∃ W, W = W1.alloc (.cells #[.slice A n c] 73) := ⟨_, rfl⟩
 have hn : n ≤ 25 := by rw [← h.len, List.length_map]; exact hg.le L (List.mem_cons_self ..)
 have HX := Lib.hid (ps_one (K := 25) (h.next hB) hn HW2)
 have hb2 : Below W1.heap.size W1 W2 := by rw [HW2]; exact (Below.refl _ _).alloc (Nat.le_refl _) _
 have HB := Lib.hid (hB.trans (hb2.mono hB.size))
 have HM := Lib.hid (hM.next hb2)
 have HG := Lib.hid hg
 have hs1 : W1.heap.size = w.heap.size + 1 := by rw [HW1]; simp
 rw [hs1] at HX
 rw [HW1] at HW2
 have HW2 := Lib.hid HW2
 clear h hg hB hM hb2 hs1 HW1
 go_enter Tryz.func47, Tryz.ntmps47
 go_wp2_with fail
 rw [← HW2.out]
 clear HW2
 clear HW2
 refine (cSum_any (LL := [L]) HX.out HG.out hN h1N (by decide)).mono ?_
 rintro _ W8 ⟨s8, A8, n8, c8, G8, r8, k8, y8, MM, kk, rfl, ho8, hm8, hy8, hb8⟩
 have hMz := HM.out.next hb8
 have r0 := hMz.c0
 have r1 := hMz.c1
 have r2 := hMz.c2
 have f0 := hMz.fz 0
 have f1 := hMz.fz 1
 have f2 := hMz.fz 2
 have HSS := Lib.hid (hMz.store s8 A8 n8 c8 G8 r8 k8)
 have HU := Lib.hid ((ho8.base (b' := w.heap.size) HB.out.size).keep (keepI_put hMz s8 A8 n8 c8 G8 r8 k8).1)
 have HQQ := Lib.hid ((hm8.put hMz HM.out.lt s8 A8 n8 c8 G8 r8 k8).base (b' := w.heap.size) HB.out.size)
 have HF := Lib.hid (below_putM (HB.out.trans (hb8.mono HB.out.size)) (Nat.le_refl w.heap.size) s8 A8 n8 c8 G8 r8 k8)
 unfold putM at HSS HU HQQ HF
 clear hMz ho8 hm8 hb8
 go_wp2_with fail
 generalize ((W8.setCell ⟨w.heap.size, 0, none⟩ (.bool s8)).setCell ⟨w.heap.size, 1, none⟩ (.slice A8 n8 c8)).setCell ⟨w.heap.size, 2, none⟩ (.slice G8 r8 k8) = W9 at *
 have z0 := HSS.out.c0
 have z1 := HSS.out.c1
 have z2 := HSS.out.c2
 exact bodyPost_ret (by simp [results, Tryz.results47, go_sem, z0, z1, z2]) rfl ⟨s8, A8, n8, c8, G8, r8, k8, _, _, kk, rfl, HU.out, HQQ.out, hy8, HF.out⟩
end Go.Proofs.YtjnklbfhelbjgaaGreat

/- Reference 11: Rows. -/
namespace Go.Proofs.YtjnklbfhelbjgaaGreat
open Go.RowKit Go.IntWalk
attribute [local go_sem ↓] Go.wp_at_zero Go.wp_at_succ
def RetMQ (r N : Nat) (F : Nat → Nat → Rat) (w : World) (e : Ending) (w' : World) : Prop :=
 ∃ (A : Option Addr) (c : Nat) (G : List Nat) (EE : Nat → List (Ent × Ent)), e = .returned (.slice A r c) ∧ MQ w' w.heap.size w.heap.size A r c N G EE F ∧ Below w.heap.size w w'
def me (d : Int) (RR : List RawRow) (i k : Nat) : Rat := Rat.divInt (toZ ((RR.getD i []).getD k (false, []))) d
theorem me_at {d : Int} {RR : List RawRow} {i k : Nat} {R : RawRow} {x : Bool × List Nat} (h : RR[i]? = some R) (hx : R[k]? = some x) : me d RR i k = Rat.divInt (toZ x) d := by
 unfold me
 rw [List.getD_eq_getElem?_getD, List.getD_eq_getElem?_getD, h]
 simp [hx]
theorem ent_tab {d : Int} {RR : List RawRow} {N : Nat} (h : ∀ R ∈ RR, R.length = N) : ent d RR = Mx.tab RR.length N (me d RR) := by
 refine Mx.eq_tab (ent_len d RR) (fun L hL => ?_) fun i hi k hk => ?_
 ·obtain ⟨R, hR, rfl⟩ := List.mem_map.1 hL
  rw [List.length_map]
  exact h R hR
 ·have e := List.getElem?_eq_getElem hi
  have hl := h _ (List.getElem_mem hi)
  have ex := List.getElem?_eq_getElem (l := RR[i]) (i := k) (by omega)
  rw [me_at e ex]
  unfold Mx.sub
  rw [List.getD_eq_getElem?_getD, ent_row e]
  refine Pq.co_get ?_
  show (RR[i].map _)[k]? = _
  rw [List.getElem?_map, ex]
  rfl
set_option maxRecDepth 100000 in
set_option maxHeartbeats 8000000 in
theorem rMRows_any {N K q : Nat} {s : Bool} {A G : Option Addr} {n c r k : Nat} {d : Int} {RR : List RawRow} {w : World} (h : RdZ w w.heap.size s A n c d) (h' : RdRss w w.heap.size N K G r k RR) (hd : d ≠ 0) (hq : ∀ R ∈ RR, R.length = q) (hn : n ≤ 1000000000000) (hN : N ≤ 1000000000000) (hr : r ≤ 1048576) (hqm : q ≤ 1048576) :
  Calls Tryz.prog 51 #[.agg #[.bool s, .slice A n c, .slice G r k]] w (RetMQ r q (me d RR) w) := by
 obtain ⟨W1, HW1⟩ : ∃ W, W = w.alloc (.cells #[.bool s, .slice A n c, .slice G r k] 28) := ⟨_, rfl⟩
 have hM : MC W1 w.heap.size s A n c G r k := by rw [HW1]; exact MC.new w s A n c G r k
 have hB : Below w.heap.size w W1 := by rw [HW1]; exact (Below.refl _ _).alloc (Nat.le_refl _) _
 obtain ⟨i1, hjf, hy0, hy1, hy2⟩ := info_parts infoQr
 have HB := Lib.hid hB
 have HX := Lib.hid (show ∀ W, Below W1.heap.size W1 W → MC W w.heap.size s A n c G r k ∧ RdZ W W.heap.size s A n c d ∧ RdRss W W.heap.size N K G r k RR from fun W hb => ⟨hM.next hb, (h.next hB).next hb, (h'.next hB).next hb⟩)
 have HL := Lib.hid h'.len
 have HD0 := Lib.hid hd
 have HQ := Lib.hid hq
 have m2 := hM.c2
 rw [HW1] at m2
 have HW1 := Lib.hid HW1
 clear h h' hM hB hd hq
 go_enter Tryz.func51, Tryz.ntmps51
 go_wp2_with fail
 rw [← HW1.out]
 clear HW1 m2
 clear HW1
 go_loopw [3, 12] (fun ov iv wr => ∃ (j c' : Nat) (A' : Option Addr) (GG : List Nat) (EE : Nat → List (Ent × Ent)), ov = .slice A' j c' ∧ iv = .int .i64 j ∧ j ≤ r ∧ MQ wr W1.heap.size W1.heap.size A' j c' q GG EE (me d RR) ∧ Below W1.heap.size W1 wr) (fun _ iv _ => r - (intOf iv).toNat)
 case atStart => exact ⟨0, 0, none, [], fun _ => [], rfl, rfl, Nat.zero_le _, MQ.nil _ _ _ _ _ _, Below.refl _ _⟩
 case round =>
  obtain ⟨j, c', A', GG, EE, rfl, rfl, hj', ho, hB⟩ := hrel
  by_cases hjr : j = r
  ·have HO := Lib.hid ho
   have HBF := Lib.hid (HB.out.trans (hB.mono HB.out.size))
   subst hjr
   clear ho hB
   go_wp2
   go_ret
   exact ⟨A', c', GG, EE, rfl, ⟨row_base HO.out.own HB.out.size, HO.out.len, HO.out.nod, fun i g hg => by
    obtain ⟨h1, h2, h3, h4⟩ := HO.out.row i g hg
    exact ⟨Nat.le_trans HB.out.size h1, h2, h3, h4.base HB.out.size⟩⟩, HBF.out⟩
  ·have hjl : j < r := by omega
   have hjli : (j : Int) < (r : Int) := by omega
   obtain ⟨wo, rfl⟩ : ∃ V, V = wr := ⟨_, rfl⟩
   clear hjr
   obtain ⟨ad, A1, n1, c1, R, rfl, hbk, hx, hr1, hn1, hp⟩ := rss_at (HX.out wo hB).2.2 hjl
   have hn1q : n1 = q := by rw [← hr1.len]; exact HQ.out R (List.mem_of_getElem? hp.out)
   subst hn1q
   have hmk := fun W : World => make_qs Tryz.underlying72 n1 (by omega) W
   obtain ⟨W3, HW3⟩ : ∃ W, W = wo.alloc (.cells (qcs (List.replicate n1 zq)).toArray 47) := ⟨_, rfl⟩
   have hb3 : Below wo.heap.size wo W3 := by rw [HW3]; exact (Below.refl _ _).alloc (Nat.le_refl _) _
   have HZ3 := Lib.hid (show QB W3 wo.heap.size (List.replicate n1 zq) by rw [HW3]; exact QB.made wo n1)
   have HOT := Lib.hid ho
   have HB3 := Lib.hid (And.intro hB hb3)
   have HRR := Lib.hid (And.intro hr1 hr1.len)
   have HJL := Lib.hid (show j + 1 ≤ 1048576 by omega)
   have HLT := Lib.hid (show ∀ x ∈ GG, x < wo.heap.size from fun x hx => by
    obtain ⟨i, hi⟩ := List.getElem?_of_mem hx
    exact (ho.row i x hi).2.1.lt)
   have HW3 := Lib.hid HW3
   clear ho hB hb3 hr1
   go_wp2_with fail
   rw [← HW3.out]
   clear HW3 hx
   clear HW3
   clear hmk
   obtain ⟨g, hg⟩ : ∃ g, g = wo.heap.size := ⟨_, rfl⟩
   have HG := Lib.hid hg
   rw [← hg]
   clear hg
   go_loopw [21] (fun iv wr => ∃ (i : Nat) (E : List (Ent × Ent)), iv = .int .i64 i ∧ i ≤ n1 ∧ QB wr g E ∧ Hid (E.length = n1) ∧ EntJ wr W1.heap.size E (me d RR j) i ∧ Below wo.heap.size wo wr) (fun iv _ => n1 - (intOf iv).toNat)
   case atStart => exact ⟨0, _, rfl, Nat.zero_le _, by rw [HG.out]; exact HZ3.out, Lib.hid (by simp), EntJ.zero _ _ _ _, HB3.out.2⟩
   case round =>
    obtain ⟨i, E, rfl, hi5, hz5, hEl, hE5, hB5⟩ := hrel
    by_cases hin : i = n1
    ·have HZ5 := Lib.hid hz5
     have HE5 := Lib.hid hE5
     have HB5 := Lib.hid hB5
     have HM := Lib.hid (HOT.out.next hB5)
     subst hin
     clear hz5 hE5 hB5
     go_wp2_with (at_builtin; refine wpList_append_own _ rfl _ _ 68 rfl W1.heap.size 72 i1 (.slice none 0 0) 1 24 Tryz.underlying68 hjf hy0 hy1 hy2 rfl (by decide) _ _ _ rfl (HM.out.own.alloc _) ⟨wr.heap.size, 0, none⟩ 1 1 [.slice (some ⟨g, 0, none⟩) i i] rfl rfl (scell_new wr (.slice (some ⟨g, 0, none⟩) i i) 72) (by simp [Value.oneCell']) (by have := HJL.out; unfold maxLen; omega) (by have := HJL.out; omega) (by have h1 := HB5.out.size; have h2 := HB3.out.1.size; simp; omega) ?_; intro v' w1 hown' hgrow _)
     have hba : Below wr.heap.size wr (wr.alloc (.cells #[.slice (some ⟨g, 0, none⟩) i i] 72)) := (Below.refl _ _).alloc (Nat.le_refl _) _
     obtain ⟨A9, c9, rfl, ho9⟩ := (HM.out.next hba).snoc (HZ5.out.next hba) (by rw [HG.out]; exact HB3.out.1.size) hEl.out (HE5.out.next hba) (fun x hx => by rw [HG.out]; exact HLT.out x hx) hown' hgrow
     have hbx := HB3.out.1.trans (HB5.out.mono HB3.out.1.size)
     have HB9 := Lib.hid ((hbx.alloc hbx.size (.cells #[.slice (some ⟨g, 0, none⟩) i i] 72)).grown hgrow (by have := hbx.size; simp; omega) (own_block HM.out.own))
     have HO9 := Lib.hid (ho9.to (F' := me d RR) (fun a _ t _ => by
      by_cases e : a = j
      ·rw [if_pos e, e]
      ·rw [if_neg e]))
     clear hown' hgrow HM ho9 hbx hba
     go_wp2
     go_roundw
     case rel => exact ⟨j + 1, c9, A9, _, _, rfl, by go_num, by omega, HO9.out, HB9.out⟩
     case measure => simp [intOf]; omega
    ·have hil : i < n1 := by omega
     have hili : (i : Int) < (n1 : Int) := by omega
     clear hin
     obtain ⟨ad2, s6, M6, A6, n6, c6, rfl, hbk6, hz60, hz61, hr6, hn6, hp6⟩ := rs_at (HRR.out.1.next hB5) hil
     obtain ⟨W6, HW6⟩ : ∃ W, W = wr.alloc (.cells #[.bool s6, .slice A6 n6 c6] 25) := ⟨_, rfl⟩
     have hb6 : Below wr.heap.size wr W6 := by rw [HW6]; exact (Below.refl _ _).alloc (Nat.le_refl _) _
     have hb26 := HB3.out.1.trans ((hB5.trans (hb6.mono hB5.size)).mono HB3.out.1.size)
     obtain ⟨hM6, hd6, _⟩ := HX.out W6 hb26
     have HZ6 := Lib.hid (And.intro (show RdZ W6 W6.heap.size s6 A6 n6 c6 (toZ (s6, M6)) from ⟨M6, hr6.next hb6, rfl⟩) hd6)
     have HQ6 := Lib.hid (And.intro (hz5.next hb6) (hE5.next hb6))
     have HB6 := Lib.hid (hB5.trans (hb6.mono hB5.size))
     have a0 := hM6.c0
     have a1 := hM6.c1
     rw [HW6] at a0 a1
     have HW6 := Lib.hid HW6
     clear hb6 hb26 hM6 hd6 hr6 hz5 hE5 hB5
     go_wp2_with fail
     rw [← HW6.out]
     clear HW6 a0 a1 hz60 hz61
     clear HW6
     refine (rQMake_any HZ6.out.1 HZ6.out.2 (by omega) hn HD0.out).mono ?_
     rintro _ W7 ⟨s7, A7, n7, c7, s8, A8, n8, c8, y, rfl, ho7, hy, hb7⟩
     have hZ4 := HQ6.out.1.next hb7
     have hE4 := HQ6.out.2.next hb7
     have HB7 := Lib.hid (HB6.out.trans (hb7.mono HB6.out.size))
     obtain ⟨e, he⟩ : ∃ e, E[i]? = some e := ⟨E[i]'(by rw [hEl.out]; exact hil), List.getElem?_eq_getElem _⟩
     obtain ⟨k0, k1, k2, k3⟩ := hZ4.cells he
     have f0 := hZ4.frozen (i * 4)
     have f1 := hZ4.frozen (i * 4 + 1)
     have f2 := hZ4.frozen (i * 4 + 2)
     have f3 := hZ4.frozen (i * 4 + 3)
     have HZ8 := Lib.hid (hZ4.store i ((s7, A7, n7, c7), (s8, A8, n8, c8)))
     have HE8 := Lib.hid (hE4.store (e := ((s7, A7, n7, c7), (s8, A8, n8, c8))) hZ4 (by have := ho7.base (b' := W1.heap.size) (Nat.le_trans HB3.out.1.size HB6.out.size); rw [hy.out, ← me_at hp.out hp6.out] at this; exact this))
     have HB8 := Lib.hid (below_setQ HB7.out (show wo.heap.size ≤ g by rw [HG.out]; exact Nat.le_refl _) i ((s7, A7, n7, c7), (s8, A8, n8, c8)))
     unfold setQ at HZ8 HE8 HB8
     clear hb7 ho7 hy he hZ4 hE4
     go_wp2_with fail
     go_roundw
     case rel => exact ⟨i + 1, E.set i ((s7, A7, n7, c7), (s8, A8, n8, c8)), by go_num, by omega, HZ8.out, Lib.hid (by rw [List.length_set]; exact hEl.out), HE8.out, HB8.out⟩
     case measure => simp [intOf]; omega
end Go.Proofs.YtjnklbfhelbjgaaGreat

/- qmat.Equal of two square matrices of one size. -/
namespace Go.Proofs.YtjnklbfhelbjgaaGreat
open Go.RowKit Go.IntWalk
attribute [local go_sem ↓] Go.wp_at_zero Go.wp_at_succ
structure RdMts (w : World) (B S K : Nat) (A : Option Addr) (n : Nat) (XX : List (Int × List RawRow)) : Prop where
 len : XX.length = n
 at_ : ∀ (j : Nat) (x : Int × List RawRow), XX[j]? = some x → ∃ (ad : Addr) (s : Bool) (A1 : Option Addr) (n1 c1 : Nat) (G1 : Option Addr) (r1 k1 : Nat), A = some ad ∧ ad.block < B ∧ w.cell? (ad.add (j * 3)) = some (.bool s) ∧ w.cell? ⟨(ad.add (j * 3)).block, (ad.add (j * 3)).off + 1, none⟩ = some (.slice A1 n1 c1) ∧ w.cell? ⟨(ad.add (j * 3)).block, (ad.add (j * 3)).off + 2, none⟩ = some (.slice G1 r1 k1) ∧ RdZ w B s A1 n1 c1 x.1 ∧ RdRss w B S K G1 r1 k1 x.2 ∧ n1 ≤ 1000000000000 ∧ r1 ≤ 1048576
theorem RdMts.next {w w' : World} {S K : Nat} {A : Option Addr} {n : Nat} {XX : List (Int × List RawRow)} (h : RdMts w w.heap.size S K A n XX) (hb : Below w.heap.size w w') : RdMts w' w'.heap.size S K A n XX :=
 ⟨h.len, fun j x hx => by
  obtain ⟨ad, s, A1, n1, c1, G1, r1, k1, h1, h2, h3, h4, h5, h6, h7, h8, h9⟩ := h.at_ j x hx
  obtain ⟨k3, k4, k5⟩ := mts_cells hb h2 h3 h4 h5
  exact ⟨ad, s, A1, n1, c1, G1, r1, k1, h1, Nat.lt_of_lt_of_le h2 hb.size, k3, k4, k5, h6.next hb, h7.next hb, h8, h9⟩⟩
theorem mts_two {w w1 : World} {S K : Nat} {s s' : Bool} {A A' G G' : Option Addr} {n c n' c' r k r' k' : Nat} {d d' : Int} {RR RR' : List RawRow} (h : RdZ w w.heap.size s A n c d) (hr : RdRss w w.heap.size S K G r k RR) (h' : RdZ w w.heap.size s' A' n' c' d') (hr' : RdRss w w.heap.size S K G' r' k' RR') (hn : n ≤ 1000000000000 ∧ n' ≤ 1000000000000) (hrr : r ≤ 1048576 ∧ r' ≤ 1048576)
  (hw : w1 = w.alloc (.cells #[.bool s, .slice A n c, .slice G r k, .bool s', .slice A' n' c', .slice G' r' k'] 28)) : RdMts w1 w1.heap.size S K (some ⟨w.heap.size, 0, none⟩) 2 [(d, RR), (d', RR')] := by
 have hb : Below w.heap.size w w1 := by rw [hw]; exact (Below.refl _ _).alloc (Nat.le_refl _) _
 have hc : w1.heap[w.heap.size]? = some (.cells #[.bool s, .slice A n c, .slice G r k, .bool s', .slice A' n' c', .slice G' r' k'] 28 (0, 0)) := by rw [hw]; exact heap_alloc_new w _
 have hlt : w.heap.size < w1.heap.size := (Array.getElem?_eq_some_iff.1 hc).1
 refine ⟨rfl, fun j y hy => ?_⟩
 match j, hy with
 | 0, hy =>
   simp at hy
   subst hy
   exact ⟨_, s, A, n, c, G, r, k, rfl, hlt, by rw [add_base, cell_of_row w1 _ _ _ _ _ hc]; rfl, by rw [add_base]; exact (cell_of_row w1 _ _ _ _ _ hc).trans rfl, by rw [add_base]; exact (cell_of_row w1 _ _ _ _ _ hc).trans rfl, h.next hb, hr.next hb, hn.1, hrr.1⟩
 | 1, hy =>
   simp at hy
   subst hy
   exact ⟨_, s', A', n', c', G', r', k', rfl, hlt, by rw [add_base, cell_of_row w1 _ _ _ _ _ hc]; rfl, by rw [add_base]; exact (cell_of_row w1 _ _ _ _ _ hc).trans rfl, by rw [add_base]; exact (cell_of_row w1 _ _ _ _ _ hc).trans rfl, h'.next hb, hr'.next hb, hn.2, hrr.2⟩
 | j + 2, hy => simp at hy
set_option maxRecDepth 100000 in
set_option maxHeartbeats 4000000 in
theorem checksR_any {S K : Nat} {A : Option Addr} {n c : Nat} {XX : List (Int × List RawRow)} {w : World} (h : RdMts w w.heap.size S K A n XX) (hs : ∀ x ∈ XX, chk x.1 x.2 = 0) (hn : n ≤ 1048576) :
  Calls Tryz.prog 92 #[.slice A n c] w (fun e w' => e = .returned (.int .i64 0) ∧ Below w.heap.size w w') := by
 have H := Lib.hid (show ∀ W, Below w.heap.size w W → RdMts W W.heap.size S K A n XX from fun W hb => h.next hb)
 have HS := Lib.hid hs
 clear h hs
 go_enter Tryz.func92, Tryz.ntmps92
 go_wp2_with fail
 go_loopw [8] (fun iv wr => ∃ (j : Nat), iv = .int .i64 (j : Int) ∧ j ≤ n ∧ Below w.heap.size w wr) (fun iv _ => n - (intOf iv).toNat)
 case atStart => exact ⟨0, rfl, Nat.zero_le _, Below.refl _ _⟩
 case round =>
  obtain ⟨j, rfl, hj, hB⟩ := hrel
  by_cases hjn : j = n
  ·subst hjn
   have HB := Lib.hid hB
   clear hB
   go_wp2
   go_ret
   exact ⟨rfl, HB.out⟩
  ·have hjl : j < n := by omega
   have hjli : (j : Int) < (n : Int) := by omega
   clear hjn
   have hX : XX[j]? = some (XX[j]'(by rw [(H.out wr hB).len]; exact hjl)) := List.getElem?_eq_getElem _
   obtain ⟨x, hx⟩ : ∃ x, XX[j]? = some x := ⟨_, hX⟩
   clear hX
   obtain ⟨ad, s1, A1, n1, c1, G1, r1, k1, rfl, hbk, hx0, hx1, hx2, hod, hom, hn1, hr1⟩ := (H.out wr hB).at_ j x hx
   obtain ⟨W2, HW2⟩ : ∃ W, W = wr.alloc (.cells #[.bool s1, .slice A1 n1 c1, .slice G1 r1 k1] 28) := ⟨_, rfl⟩
   have hb2 : Below wr.heap.size wr W2 := by rw [HW2]; exact (Below.refl _ _).alloc (Nat.le_refl _) _
   have HC := Lib.hid (show chk x.1 x.2 = 0 from HS.out _ (List.mem_of_getElem? hx))
   have HZ := Lib.hid (And.intro (hod.next hb2) (hom.next hb2))
   have HB2 := Lib.hid (hB.trans (hb2.mono hB.size))
   have HW2 := Lib.hid HW2
   clear hB hb2 hod hom hx
   go_wp2_with fail
   rw [← HW2.out]
   clear HW2 hx0 hx1 hx2
   clear HW2
   refine (mcheck_any HZ.out.1 HZ.out.2 (by omega) hr1).mono ?_
   rintro _ W4 ⟨v, rfl, hv, hb4⟩
   obtain rfl : v = 0 := by rw [hv.out, HC.out]
   have HF := Lib.hid (HB2.out.trans (hb4.mono HB2.out.size))
   clear hb4 hv
   go_wp2
   go_roundw
   case rel => exact ⟨j + 1, by go_num, by omega, HF.out⟩
   case measure => simp [intOf]; omega
end Go.Proofs.YtjnklbfhelbjgaaGreat

/- qmat.same, qmat.Equal. -/
namespace Go.Proofs.YtjnklbfhelbjgaaGreat
open Go.RowKit Go.IntWalk
attribute [local go_sem ↓] Go.wp_at_zero Go.wp_at_succ
theorem ent_eq {da db : Int} {RA RB : List RawRow} {q r : Nat} (hA : RA.length = r) (hB : RB.length = r) (hqa : ∀ R ∈ RA, R.length = q) (hqb : ∀ R ∈ RB, R.length = q) (h : ∀ i, i < r → ∀ k, k < q → me da RA i k = me db RB i k) : ent da RA = ent db RB := by
 rw [ent_tab hqa, ent_tab hqb, hA, hB]
 exact Mx.tab_congr h
theorem me_eq {da db : Int} {RA RB : List RawRow} {q r : Nat} (hA : RA.length = r) (hB : RB.length = r) (hqa : ∀ R ∈ RA, R.length = q) (hqb : ∀ R ∈ RB, R.length = q) (h : ent da RA = ent db RB) {i k : Nat} (hi : i < r) (hk : k < q) : me da RA i k = me db RB i k := by
 rw [ent_tab hqa, ent_tab hqb, hA, hB] at h
 exact Mx.tab_inj h hi hk
set_option maxRecDepth 100000 in
set_option maxHeartbeats 16000000 in
theorem msame_any {S K q : Nat} {s s' : Bool} {A A' G G' : Option Addr} {n c n' c' r k k' : Nat} {da db : Int} {RA RB : List RawRow} {w : World} (ha : RdZ w w.heap.size s A n c da) (hA : RdRss w w.heap.size S K G r k RA) (hb : RdZ w w.heap.size s' A' n' c' db) (hB : RdRss w w.heap.size S K G' r k' RB) (hda : da ≠ 0) (hdb : db ≠ 0) (hqa : ∀ R ∈ RA, R.length = q) (hqb : ∀ R ∈ RB, R.length = q) (hn : n ≤ 400000000000 ∧ n' ≤ 400000000000) (hS : S ≤ 400000000000) (hr : r ≤ 1048576) (hq : q ≤ 1048576) :
  Calls Tryz.prog 93 #[.agg #[.bool s, .slice A n c, .slice G r k], .agg #[.bool s', .slice A' n' c', .slice G' r k']] w (RetBo (ent da RA = ent db RB) w) := by
 obtain ⟨W1, HW1⟩ : ∃ W, W = (w.alloc (.cells #[.bool s, .slice A n c, .slice G r k] 28)).alloc (.cells #[.bool s', .slice A' n' c', .slice G' r k'] 28) := ⟨_, rfl⟩
 have hB1 : Below w.heap.size w W1 := by rw [HW1]; exact ((Below.refl _ _).alloc (Nat.le_refl _) _).alloc (by simp) _
 have hM : MC W1 w.heap.size s A n c G r k := by rw [HW1]; exact (MC.new w s A n c G r k).alloc _
 have hM' : MC W1 (w.heap.size + 1) s' A' n' c' G' r k' := by rw [HW1]; have := MC.new (w.alloc (.cells #[.bool s, .slice A n c, .slice G r k] 28)) s' A' n' c' G' r k'; simpa using this
 have HX := Lib.hid (show ∀ W, Below W1.heap.size W1 W → MC W w.heap.size s A n c G r k ∧ MC W (w.heap.size + 1) s' A' n' c' G' r k' ∧ (RdZ W W.heap.size s A n c da ∧ RdZ W W.heap.size s' A' n' c' db) ∧ RdRss W W.heap.size S K G r k RA ∧ RdRss W W.heap.size S K G' r k' RB from fun W hw => ⟨hM.next hw, hM'.next hw, ⟨(ha.next hB1).next hw, (hb.next hB1).next hw⟩, (hA.next hB1).next hw, (hB.next hB1).next hw⟩)
 have HLA := Lib.hid (And.intro hA.len hB.len)
 have HQ := Lib.hid (And.intro hqa hqb)
 have HD := Lib.hid (And.intro hda hdb)
 have HB1 := Lib.hid hB1
 have m2 := hM.c2
 have m5 := hM'.c2
 rw [HW1] at m2 m5
 have HW1 := Lib.hid HW1
 clear ha hA hb hB hda hdb hqa hqb hB1 hM hM'
 go_enter Tryz.func93, Tryz.ntmps93
 go_wp2_with fail
 rw [← HW1.out]
 clear HW1 m2 m5
 clear HW1
 go_loopw [19] (fun iv wr => ∃ i : Nat, iv = .int .i64 (i : Int) ∧ i ≤ r ∧ Hid (∀ i', i' < i → ∀ t, t < q → me da RA i' t = me db RB i' t) ∧ Below W1.heap.size W1 wr) (fun iv _ => r - (intOf iv).toNat)
 case atStart => exact ⟨0, rfl, Nat.zero_le _, Lib.hid fun i' hi => absurd hi (Nat.not_lt_zero _), Below.refl _ _⟩
 case round =>
  obtain ⟨i, rfl, hi, hall, hB⟩ := hrel
  by_cases hir : i = r
  ·have HE := Lib.hid (show ent da RA = ent db RB from ent_eq HLA.out.1 HLA.out.2 HQ.out.1 HQ.out.2 (fun i' hi' => hall.out i' (by omega)))
   have HF := Lib.hid (HB1.out.trans (hB.mono HB1.out.size))
   subst hir
   clear hB hall
   go_wp2
   go_ret
   exact ⟨true, rfl, Lib.hid ⟨fun _ => HE.out, fun _ => rfl⟩, HF.out⟩
  ·have hil : i < r := by omega
   have hili : (i : Int) < (r : Int) := by omega
   clear hir
   obtain ⟨wo, rfl⟩ : ∃ V, V = wr := ⟨_, rfl⟩
   obtain ⟨hMa, hMb, _, hRA, hRB⟩ := HX.out wo hB
   obtain ⟨ad, A1, n1, c1, R1, rfl, hbk, hx, hr1, _, hp1⟩ := rss_at hRA hil
   obtain ⟨ad', A2, n2, c2, R2, rfl, hbk', hy, hr2, _, hp2⟩ := rss_at hRB hil
   have hn1 : n1 = q := by rw [← hr1.len]; exact HQ.out.1 R1 (List.mem_of_getElem? hp1.out)
   have hn2 : n2 = q := by rw [← hr2.len]; exact HQ.out.2 R2 (List.mem_of_getElem? hp2.out)
   subst hn1
   subst hn2
   have b2 := hMb.c2
   have HY := Lib.hid (show ∀ W, Below wo.heap.size wo W → W.cell? (ad'.add i) = some (.slice A2 n2 c2) from fun W hw => (hw.cell (p := ad'.add i) (by rw [add_blk]; exact hbk')).trans hy)
   have HRR := Lib.hid (And.intro hr1 hr2)
   have HBO := Lib.hid hB
   clear hMa hMb hRA hRB hr1 hr2 hB
   go_wp2_with fail
   clear hx hy b2
   go_loopw [35] (fun iv wr => ∃ t : Nat, iv = .int .i64 (t : Int) ∧ t ≤ n2 ∧ Hid (∀ t', t' < t → me da RA i t' = me db RB i t') ∧ Below wo.heap.size wo wr) (fun iv _ => n2 - (intOf iv).toNat)
   case atStart => exact ⟨0, rfl, Nat.zero_le _, Lib.hid fun t' ht => absurd ht (Nat.not_lt_zero _), Below.refl _ _⟩
   case round =>
    obtain ⟨t, rfl, ht, hin, hB5⟩ := hrel
    by_cases htn : t = n2
    ·have HA := Lib.hid (show ∀ i', i' < i + 1 → ∀ t, t < n2 → me da RA i' t = me db RB i' t from fun i' hi' t' ht' => by
      rcases Nat.lt_or_ge i' i with h1 | h1
      ·exact hall.out i' h1 t' ht'
      ·rw [show i' = i by omega]; exact hin.out t' (by omega))
     have HF := Lib.hid (HBO.out.trans (hB5.mono HBO.out.size))
     subst htn
     clear hB5 hall hin
     go_wp2
     go_roundw
     case rel => exact ⟨i + 1, by go_num, by omega, HA, HF.out⟩
     case measure => simp [intOf]; omega
    ·have htl : t < n2 := by omega
     have htli : (t : Int) < (n2 : Int) := by omega
     clear htn
     obtain ⟨ad1, s1, M1, A5, n5, c5, rfl, hbk1, hx0, hx1, hru1, hn5, hpe1⟩ := rs_at (HRR.out.1.next hB5) htl
     obtain ⟨ad2, s2, M2, A6, n6, c6, rfl, hbk2, hy0, hy1, hru2, hn6, hpe2⟩ := rs_at (HRR.out.2.next hB5) htl
     obtain ⟨W5, HW5⟩ : ∃ W, W = wr.alloc (.cells #[.bool s1, .slice A5 n5 c5] 25) := ⟨_, rfl⟩
     have hb5 : Below wr.heap.size wr W5 := by rw [HW5]; exact (Below.refl _ _).alloc (Nat.le_refl _) _
     have hz5 : ZC W5 wr.heap.size s1 A5 n5 c5 := by rw [HW5]; exact ZC.new wr s1 A5 n5 c5
     have hbo5 := hB5.trans (hb5.mono hB5.size)
     have hbw5 := HBO.out.trans (hbo5.mono HBO.out.size)
     obtain ⟨hMa, hMb, hZZ, _⟩ := HX.out W5 hbw5
     obtain ⟨gx, hgx⟩ : ∃ gx, gx = wr.heap.size := ⟨_, rfl⟩
     have HGX := Lib.hid hgx
     rw [← hgx] at hz5
     obtain ⟨hw0, hw1⟩ := zs_cells hb5 hbk2 hy0 hy1
     have hh := HY.out W5 hbo5
     have hlt2 : ad2.block < W5.heap.size := Nat.lt_of_lt_of_le hbk2 hb5.size
     have hltx : gx < W5.heap.size := hz5.lt
     have HCC := Lib.hid (show ∀ W, Below W5.heap.size W5 W → W.cell? ⟨gx, 0, none⟩ = some (.bool s1) ∧ W.cell? ⟨gx, 1, none⟩ = some (.slice A5 n5 c5) ∧ W.cell? ⟨w.heap.size + 1, 0, none⟩ = some (.bool s') ∧ W.cell? ⟨w.heap.size + 1, 1, none⟩ = some (.slice A' n' c') ∧ W.cell? ⟨w.heap.size + 1, 2, none⟩ = some (.slice (some ad') r k') ∧ W.cell? (ad'.add i) = some (.slice (some ad2) n2 c2) ∧ W.cell? (ad2.add (t * 2)) = some (.bool s2) ∧ W.cell? ⟨(ad2.add (t * 2)).block, (ad2.add (t * 2)).off + 1, none⟩ = some (.slice A6 n6 c6) ∧ W.cell? ⟨w.heap.size, 0, none⟩ = some (.bool s) ∧ W.cell? ⟨w.heap.size, 1, none⟩ = some (.slice A n c) from fun W hw => ⟨(hz5.next hw).c0, (hz5.next hw).c1, (hMb.next hw).c0, (hMb.next hw).c1, (hMb.next hw).c2, HY.out W (hbo5.trans (hw.mono hbo5.size)), (zs_cells hw hlt2 hw0 hw1).1, (zs_cells hw hlt2 hw0 hw1).2, (hMa.next hw).c0, (hMa.next hw).c1⟩)
     have HRD := Lib.hid (show ∀ W, Below W5.heap.size W5 W → RdZ W W.heap.size s1 A5 n5 c5 (toZ (s1, M1)) ∧ RdZ W W.heap.size s2 A6 n6 c6 (toZ (s2, M2)) ∧ RdZ W W.heap.size s A n c da ∧ RdZ W W.heap.size s' A' n' c' db from fun W hw => ⟨⟨M1, (hru1.next hb5).next hw, rfl⟩, ⟨M2, (hru2.next hb5).next hw, rfl⟩, hZZ.1.next hw, hZZ.2.next hw⟩)
     have HBW5 := Lib.hid hbw5
     have HBO5 := Lib.hid hbo5
     have HV := Lib.hid (And.intro (me_at (d := da) hp1.out hpe1.out) (me_at (d := db) hp2.out hpe2.out))
     have HB6 := Lib.hid (Below.refl W5.heap.size W5).drew
     have HW5 := Lib.hid HW5
     clear hb5 hz5 hbo5 hbw5 hMa hMb hZZ hw0 hw1 hh hru1 hru2 hB5 hy0 hy1 hgx hpe1 hpe2
     go_upto_region 11 with fail
     rw [← HW5.out]
     rw [← HGX.out]
     clear HW5 hx0 hx1
     clear HW5
     obtain ⟨q0, q1, q2, q3, q4, q5, q6, q7, q8, q9⟩ := HCC.out W5 (Below.refl _ _)
     go_region_held3 (fun W => W.cell? ⟨gx, 0, none⟩ = some (.bool s1) ∧ W.cell? ⟨gx, 1, none⟩ = some (.slice A5 n5 c5) ∧ W.cell? ⟨w.heap.size + 1, 0, none⟩ = some (.bool s') ∧ W.cell? ⟨w.heap.size + 1, 1, none⟩ = some (.slice A' n' c') ∧ W.cell? ⟨w.heap.size + 1, 2, none⟩ = some (.slice (some ad') r k') ∧ W.cell? (ad'.add i) = some (.slice (some ad2) n2 c2) ∧ W.cell? (ad2.add (t * 2)) = some (.bool s2) ∧ W.cell? ⟨(ad2.add (t * 2)).block, (ad2.add (t * 2)).off + 1, none⟩ = some (.slice A6 n6 c6) ∧ W.cell? ⟨w.heap.size, 0, none⟩ = some (.bool s) ∧ W.cell? ⟨w.heap.size, 1, none⟩ = some (.slice A n c))
      (first | exact HCC.out _ HB9.out | exact HCC.out _ HB8.out | exact HCC.out _ HB7.out | exact HCC.out _ HB6.out)
      (first
       | (have hx := HZ2.out; clear hx; go_at_call 144; refine (zcmp_any (HZ1.out.2.next HBZ.out).rd HZ2.out.2.rd (by rw [HZ1.out.2.len]; have := HL1.out; omega) (by rw [HZ2.out.2.len]; have := HL2.out; omega)).mono ?_; rintro _ W9 ⟨z9, rfl, hz9, hb9⟩; have HB9 := Lib.hid (HB8.out.trans (hb9.mono HB8.out.size)); have HZ9 := Lib.hid hz9.out)
       | (have hx := HZ1.out; clear hx; go_at_call 146; refine (imul_any (HRD.out _ HB7.out).2.1 (HRD.out _ HB7.out).2.2.1 (by omega) (by omega)).mono ?_; rintro _ W8 ⟨s8, A8, n8, c8, z8, rfl, ho8, hz8, hb8⟩; have HB8 := Lib.hid (HB7.out.trans (hb8.mono HB7.out.size)); have HBZ := Lib.hid hb8; have HZ2 := Lib.hid (And.intro hz8.out ho8); have HL2 := Lib.hid (show Zz.zl z8 ≤ 800000000000 by rw [hz8.out]; have e1 := Zz.zl_mul (toZ (s2, M2)) da; have e2 := (HRD.out _ HB7.out).2.1.len; have e3 := (HRD.out _ HB7.out).2.2.1.len; omega))
       | (go_at_call 146; refine (imul_any (HRD.out _ HB6.out).1 (HRD.out _ HB6.out).2.2.2 (by omega) (by omega)).mono ?_; rintro _ W7 ⟨s7, A7, n7, c7, z7, rfl, ho7, hz7, hb7⟩; have HB7 := Lib.hid (HB6.out.trans (hb7.mono HB6.out.size)); have HZ1 := Lib.hid (And.intro hz7.out ho7); have HL1 := Lib.hid (show Zz.zl z7 ≤ 800000000000 by rw [hz7.out]; have e1 := Zz.zl_mul (toZ (s1, M1)) db; have e2 := (HRD.out _ HB6.out).1.len; have e3 := (HRD.out _ HB6.out).2.2.2.len; omega)))
     all_goals
      have HZQ := Lib.hid (show z9 = 0 ↔ me da RA i t = me db RB i t by
       rw [HV.out.1, HV.out.2, Rat.divInt_eq_divInt_iff HD.out.1 HD.out.2, HZ9.out, Int.sign_eq_zero_iff_zero, HZ1.out.1, HZ2.out.1]
       omega)
      have HFF := Lib.hid (HBO5.out.trans (HB9.out.mono HBO5.out.size))
      have HFW := Lib.hid (HB1.out.trans ((HBW5.out.trans (HB9.out.mono HBW5.out.size)).mono HB1.out.size))
      clear q0 q1 q2 q3 q4 q5 q6 q7 q8 q9 hz9 hb9 hz8 hb8 hz7 hb7 ho7 ho8
      by_cases h0 : z9 = 0
      ·have HA := Lib.hid (show ∀ t', t' < t + 1 → me da RA i t' = me db RB i t' from fun t' ht' => by
        rcases Nat.lt_or_ge t' t with h1 | h1
        ·exact hin.out t' h1
        ·rw [show t' = t by omega]; exact HZQ.out.1 h0)
       subst h0
       clear hin
       go_wp2
       go_roundw
       case rel => exact ⟨t + 1, by go_num, by omega, HA, HFF.out⟩
       case measure => simp [intOf]; omega
      ·have hzb : (z9 == 0) = false := by simp [h0]
       have HNE := Lib.hid (show ¬ent da RA = ent db RB from fun e => h0 (HZQ.out.2 (me_eq HLA.out.1 HLA.out.2 HQ.out.1 HQ.out.2 e hil htl)))
       clear hin hall
       go_wp2
       go_ret
       exact ⟨false, rfl, Lib.hid ⟨fun e => by simp at e, fun e => absurd e HNE.out⟩, HFW.out⟩
set_option maxRecDepth 100000 in
set_option maxHeartbeats 8000000 in
theorem mEqual_any {S K q : Nat} {s s' : Bool} {A A' G G' : Option Addr} {n c n' c' r k k' : Nat} {da db : Int} {RA RB : List RawRow} {w : World} (ha : RdZ w w.heap.size s A n c da) (hA : RdRss w w.heap.size S K G r k RA) (hb : RdZ w w.heap.size s' A' n' c' db) (hB : RdRss w w.heap.size S K G' r k' RB) (hda : chk da RA = 0) (hdb : chk db RB = 0) (hqa : ∀ R ∈ RA, R.length = q) (hqb : ∀ R ∈ RB, R.length = q) (hn : n ≤ 400000000000 ∧ n' ≤ 400000000000) (hS : S ≤ 400000000000) (hr : r ≤ 1048576) (hq : q ≤ 1048576) :
  Calls Tryz.prog 40 #[.agg #[.bool s, .slice A n c, .slice G r k], .agg #[.bool s', .slice A' n' c', .slice G' r k']] w (fun e w' => ∃ b : Bool, e = .returned (.tuple #[.bool b, .int .i64 0]) ∧ Hid (b = true ↔ ent da RA = ent db RB) ∧ Below w.heap.size w w') := by
 obtain ⟨W1, HW1⟩ : ∃ W, W = (w.alloc (.cells #[.bool s, .slice A n c, .slice G r k] 28)).alloc (.cells #[.bool s', .slice A' n' c', .slice G' r k'] 28) := ⟨_, rfl⟩
 have hB1 : Below w.heap.size w W1 := by rw [HW1]; exact ((Below.refl _ _).alloc (Nat.le_refl _) _).alloc (by simp) _
 have hM : MC W1 w.heap.size s A n c G r k := by rw [HW1]; exact (MC.new w s A n c G r k).alloc _
 have hM' : MC W1 (w.heap.size + 1) s' A' n' c' G' r k' := by rw [HW1]; have := MC.new (w.alloc (.cells #[.bool s, .slice A n c, .slice G r k] 28)) s' A' n' c' G' r k'; simpa using this
 obtain ⟨W2, HW2⟩ : ∃ W, W = W1.alloc (.cells #[.bool s, .slice A n c, .slice G r k, .bool s', .slice A' n' c', .slice G' r k'] 28) := ⟨_, rfl⟩
 have hb2 : Below W1.heap.size W1 W2 := by rw [HW2]; exact (Below.refl _ _).alloc (Nat.le_refl _) _
 have hT := mts_two (ha.next hB1) (hA.next hB1) (hb.next hB1) (hB.next hB1) ⟨by omega, by omega⟩ ⟨hr, hr⟩ HW2
 have hs1 : W1.heap.size = w.heap.size + 1 + 1 := by rw [HW1]; simp
 rw [hs1] at hT
 have hb12 := hB1.trans (hb2.mono hB1.size)
 have HT := Lib.hid hT
 have HX := Lib.hid (show ∀ W, Below W2.heap.size W2 W → MC W w.heap.size s A n c G r k ∧ MC W (w.heap.size + 1) s' A' n' c' G' r k' ∧ (RdZ W W.heap.size s A n c da ∧ RdZ W W.heap.size s' A' n' c' db) ∧ RdRss W W.heap.size S K G r k RA ∧ RdRss W W.heap.size S K G' r k' RB from fun W hw => ⟨(hM.next hb2).next hw, (hM'.next hb2).next hw, ⟨(ha.next hb12).next hw, (hb.next hb12).next hw⟩, (hA.next hb12).next hw, (hB.next hb12).next hw⟩)
 have HC := Lib.hid (And.intro hda hdb)
 have HQ := Lib.hid (And.intro hqa hqb)
 have HB2 := Lib.hid hb12
 rw [HW1] at HW2
 have HW2 := Lib.hid HW2
 clear ha hA hb hB hda hdb hqa hqb hB1 hM hM' hb2 hT hs1 hb12 HW1
 go_enter Tryz.func40, Tryz.ntmps40
 go_wp2_with fail
 rw [← HW2.out]
 clear HW2
 clear HW2
 refine (checksR_any HT.out (fun x hx => by
  simp at hx
  rcases hx with rfl | rfl
  ·exact HC.out.1
  ·exact HC.out.2) (by decide)).mono ?_
 rintro _ W3 ⟨rfl, hb3⟩
 obtain ⟨hMa, hMb, hZZ, hRA, hRB⟩ := HX.out W3 hb3
 have HZ3 := Lib.hid (And.intro hZZ (And.intro hRA hRB))
 have HB3 := Lib.hid (HB2.out.trans (hb3.mono HB2.out.size))
 have a0 := hMa.c0
 have a1 := hMa.c1
 have a2 := hMa.c2
 have b0 := hMb.c0
 have b1 := hMb.c1
 have b2 := hMb.c2
 clear hMa hMb hZZ hRA hRB hb3
 go_wp2_with fail
 refine (msame_any HZ3.out.1.1 HZ3.out.2.1 HZ3.out.1.2 HZ3.out.2.2 (chk_zero HC.out.1).1 (chk_zero HC.out.2).1 HQ.out.1 HQ.out.2 hn hS hr hq).mono ?_
 rintro _ W4 ⟨b, rfl, hbb, hb4⟩
 have HF := Lib.hid (HB3.out.trans (hb4.mono HB3.out.size))
 clear hb4 a0 a1 a2 b0 b1 b2
 go_wp2
 go_ret2
 exact ⟨b, rfl, hbb, HF.out⟩
end Go.Proofs.YtjnklbfhelbjgaaGreat

/- Fractions' cells that are stored into: what stays. -/
namespace Go.Proofs.YtjnklbfhelbjgaaGreat
open Go.RowKit Go.IntWalk
section
variable {w w' : World} {g b B : Nat} {s s' t t' : Bool} {A A' D D' : Option Addr} {n c n' c' k m k' m' : Nat} {x : Rat} {z : Int}
theorem OwQ.made (h : OwQ w b s A n c s' A' n' c' x) (o : Obj) : OwQ (w.alloc o) b s A n c s' A' n' c' x := h.next ((Below.refl w.heap.size w).alloc (Nat.le_refl _) o)
end
end Go.Proofs.YtjnklbfhelbjgaaGreat

/- Reference 05: Height. -/
namespace Go.Proofs.YtjnklbfhelbjgaaGreat
open Go.RowKit Go.IntWalk
attribute [local go_sem ↓] Go.wp_at_zero Go.wp_at_succ
theorem ix0 (a b : Int) (w : World) : (Instr.index 180 (.agg #[.int .i64 a, .int .i64 b]) (.int .i64 0)).run Tryz.prog w = .ok (.int .i64 a) w := by kernel_rfl
theorem ix1 (a b : Int) (w : World) : (Instr.index 180 (.agg #[.int .i64 a, .int .i64 b]) (.int .i64 1)).run Tryz.prog w = .ok (.int .i64 b) w := by kernel_rfl
set_option maxRecDepth 100000 in
set_option maxHeartbeats 8000000 in
theorem rQHeight_any {N : Nat} {A : Option Addr} {n c : Nat} {L : List (Int × Int)} {w : World} (h : RdQs w w.heap.size N A n c L) (hd : ∀ p ∈ L, p.2 ≠ 0) (hn : n ≤ 1048576) (hN : N ≤ 1000000000000) (h1N : 1 ≤ N) :
  Calls Tryz.prog 96 #[.slice A n c] w (RetK (ht (L.map qval) : Int) w) := by
 have H := Lib.hid (show ∀ W, Below w.heap.size w W → RdQs W W.heap.size N A n c L from fun W hb => h.next hb)
 have HL := Lib.hid h.len
 have HD := Lib.hid hd
 have HS := Lib.hid (h.sz hd h1N)
 clear h hd
 go_enter Tryz.func96, Tryz.ntmps96
 go_wp2_with fail
 go_loopw [3, 10] (fun nv iv wr => ∃ (j v : Nat), nv = .int .i64 (v : Int) ∧ iv = .int .i64 (j : Int) ∧ j ≤ n ∧ Hid (v = ht ((L.take j).map qval)) ∧ Below w.heap.size w wr) (fun _ iv _ => n - (intOf iv).toNat)
 case atStart => exact ⟨0, 0, rfl, rfl, Nat.zero_le _, Lib.hid rfl, Below.refl _ _⟩
 case round =>
  obtain ⟨j, v, rfl, rfl, hj, hv, hB⟩ := hrel
  by_cases hjn : j = n
  ·have HV := Lib.hid (show v = ht (L.map qval) from by rw [hv.out, hjn, List.take_of_length_le (by rw [HL.out]; exact Nat.le_refl _)])
   subst hjn
   have HF := Lib.hid hB
   clear hB hv
   go_wp2
   go_ret
   exact ⟨_, rfl, Lib.hid (by rw [HV.out]), HF.out⟩
  ·have hjl : j < n := by omega
   have hjli : (j : Int) < (n : Int) := by omega
   clear hjn
   obtain ⟨ad, s1, A1, n1, c1, s2, A2, n2, c2, z, d, rfl, hbk, hx0, hx1, hx2, hx3, hr1, hr2, hn1, hn2, hp⟩ := qs_at (H.out wr hB) hjl
   obtain ⟨W5, HW5⟩ : ∃ W, W = wr.alloc (.cells #[.bool s1, .slice A1 n1 c1, .bool s2, .slice A2 n2 c2] 47) := ⟨_, rfl⟩
   have hb5 : Below wr.heap.size wr W5 := by rw [HW5]; exact (Below.refl _ _).alloc (Nat.le_refl _) _
   have hQ5 : QC W5 wr.heap.size s1 A1 n1 c1 s2 A2 n2 c2 := by rw [HW5]; exact QC.new wr s1 A1 n1 c1 s2 A2 n2 c2
   have HQ5 := Lib.hid hQ5
   have HR5 := Lib.hid (And.intro (hr1.next hb5) (hr2.next hb5))
   have HD1 := Lib.hid (HD.out _ (List.mem_of_getElem? hp.out))
   have HXV := Lib.hid (show Pq.co (L.map qval) j = Rat.divInt z d from Pq.co_get (by rw [List.getElem?_map, hp.out]; rfl))
   have HF5 := Lib.hid (hB.trans (hb5.mono hB.size))
   have HWS := Lib.hid hB.size
   have HTK := Lib.hid (show ht ((L.take (j + 1)).map qval) = max v (qbits (Rat.divInt z d)) from by
    rw [List.take_add_one, hp.out, List.map_append, show ((some (z, d)).toList).map qval = [Rat.divInt z d] from rfl, ht_snoc, hv.out])
   have HXS := Lib.hid (show Qs N (Rat.divInt z d) from by rw [← HXV.out]; exact HS.out j)
   have q0 := hQ5.c0
   have q1 := hQ5.c1
   have q2 := hQ5.c2
   have q3 := hQ5.c3
   rw [HW5] at q0 q1 q2 q3
   have HW5 := Lib.hid HW5
   clear hb5 hQ5 hB hv hp hr1 hr2
   go_wp2_with fail
   rw [← HW5.out]
   clear HW5 hx0 hx1 hx2 hx3 q0 q1 q2 q3
   clear HW5
   refine (rQNorm_any HR5.out.1 HR5.out.2 (by omega) (by omega) HD1.out).mono ?_
   rintro _ W6 ⟨s5, A5, n5, c5, s6, A6, n6, c6, y, rfl, ho6, hy, hb6⟩
   obtain rfl := hy.out
   have hQ6 := HQ5.out.next hb6
   have f0 := hQ6.fz 0
   have f1 := hQ6.fz 1
   have f2 := hQ6.fz 2
   have f3 := hQ6.fz 3
   have q0 := hQ6.c0
   have q1 := hQ6.c1
   have q2 := hQ6.c2
   have q3 := hQ6.c3
   have HS7 := Lib.hid (hQ6.store s5 A5 n5 c5 s6 A6 n6 c6)
   have HO7 := Lib.hid (ho6.keep (keep_putQ hQ6 s5 A5 n5 c5 s6 A6 n6 c6))
   have HF7 := Lib.hid (below_putQ (HF5.out.trans (hb6.mono HF5.out.size)) (HWS.out) s5 A5 n5 c5 s6 A6 n6 c6)
   unfold putQ at HS7 HO7 HF7
   clear hQ6 ho6 hb6
   go_upto_region 6 with fail
   generalize (((W6.setCell ⟨wr.heap.size, 0, none⟩ (.bool s5)).setCell ⟨wr.heap.size, 1, none⟩ (.slice A5 n5 c5)).setCell ⟨wr.heap.size, 2, none⟩ (.bool s6)).setCell ⟨wr.heap.size, 3, none⟩ (.slice A6 n6 c6) = W7 at *
   clear q0 q1 q2 q3 f0 f1 f2 f3
   have q1 := HS7.out.c1
   have q3 := HS7.out.c3
   have HB8 := Lib.hid (Below.refl W7.heap.size W7).drew
   have HCC := Lib.hid (show ∀ W, Below W7.heap.size W7 W → W.cell? ⟨wr.heap.size, 1, none⟩ = some (.slice A5 n5 c5) ∧ W.cell? ⟨wr.heap.size, 3, none⟩ = some (.slice A6 n6 c6) from fun W hb => ⟨(HS7.out.next hb).c1, (HS7.out.next hb).c3⟩)
   have HRD := Lib.hid (show ∀ W, Below W7.heap.size W7 W → RdU W W.heap.size A5 n5 c5 (Dg.dg (Rat.divInt z d).num.natAbs) ∧ RdU W W.heap.size A6 n6 c6 (Dg.dg (Rat.divInt z d).den) from fun W hb => ⟨(HO7.out.num.own.next hb).rd, (HO7.out.den.own.next hb).rd⟩)
   have HNN := Lib.hid (show n5 ≤ N ∧ n6 ≤ N from ⟨by rw [HO7.out.num.len]; exact HXS.out.1, by rw [HO7.out.den.len]; exact HXS.out.2⟩)
   go_region_held3 (fun w' => w'.cell? ⟨wr.heap.size, 1, none⟩ = some (.slice A5 n5 c5) ∧ w'.cell? ⟨wr.heap.size, 3, none⟩ = some (.slice A6 n6 c6))
    (first | exact HCC.out _ HB9.out | exact HCC.out _ HB10.out | exact HCC.out _ HB8.out)
    (first
     | (have hz := HZ1.out; clear hz; go_at_call 150; refine (rnlen_any (HRD.out _ HB9.out).2 (by have := HNN.out; omega)).mono ?_; rintro _ W10 ⟨z2, rfl, hz2, hb10⟩; have HB10 := Lib.hid (HB9.out.trans (hb10.mono HB9.out.size)); have HZ2 := Lib.hid (show z2 = (nlen (Rat.divInt z d).den : Int) by rw [hz2.out, Dg.val_dg]))
     | (go_at_call 150; refine (rnlen_any (HRD.out _ HB8.out).1 (by have := HNN.out; omega)).mono ?_; rintro _ W9 ⟨z1, rfl, hz1, hb9⟩; have HB9 := Lib.hid (HB8.out.trans hb9); have HZ1 := Lib.hid (show z1 = (nlen (Rat.divInt z d).num.natAbs : Int) by rw [hz1.out, Dg.val_dg])))
   all_goals
    have HFF := Lib.hid (HF7.out.trans (HB10.out.mono HF7.out.size))
    obtain ⟨a, ha⟩ : ∃ a, a = nlen (Rat.divInt z d).num.natAbs := ⟨_, rfl⟩
    obtain ⟨b, hb⟩ : ∃ b, b = nlen (Rat.divInt z d).den := ⟨_, rfl⟩
    obtain rfl : z1 = (a : Int) := by rw [HZ1.out, ha]
    obtain rfl : z2 = (b : Int) := by rw [HZ2.out, hb]
    have HAB := Lib.hid (show ht ((L.take (j + 1)).map qval) = max (max v a) b from by rw [HTK.out, qbits, ha, hb, Nat.max_assoc])
    clear q1 q3 hz1 hz2 hb9 hb10 HZ1 HZ2 ha hb
    go_wp2_with fail
    go_loopw [3, 25] (fun nv iv wx => ∃ (i m : Nat), nv = .int .i64 (m : Int) ∧ iv = .int .i64 (i : Int) ∧ Hid ((i = 0 ∧ m = v) ∨ (i = 1 ∧ m = max v a) ∨ (i = 2 ∧ m = max (max v a) b)) ∧ wx = W10) (fun _ iv _ => 2 - (intOf iv).toNat)
    case atStart => exact ⟨0, v, rfl, rfl, Lib.hid (.inl ⟨rfl, rfl⟩), rfl⟩
    case round =>
     obtain ⟨i, m, rfl, rfl, him, rfl⟩ := hrel
     rcases him.out with ⟨rfl, rfl⟩ | ⟨rfl, rfl⟩ | ⟨rfl, rfl⟩
     ·rcases Nat.lt_or_ge m a with hlt | hge
      ·have hli : (m : Int) < (a : Int) := by omega
       have HM := Lib.hid (show a = max m a by omega)
       clear hlt him
       have e0 := fun W : World => ix0 (a : Int) (b : Int) W
       have e1 := fun W : World => ix1 (a : Int) (b : Int) W
       go_wp2
       go_roundw
       case rel => exact ⟨1, a, rfl, by go_num, Lib.hid (.inr (.inl ⟨rfl, HM.out⟩)), by first | rfl | trivial⟩
       case measure => simp [intOf]
      ·have hli : decide ((m : Int) < (a : Int)) = false := by simp only [decide_eq_false_iff_not]; omega
       have hli2 : ¬(m : Int) < (a : Int) := by omega
       have HM := Lib.hid (show m = max m a by omega)
       clear hge him
       have e0 := fun W : World => ix0 (a : Int) (b : Int) W
       have e1 := fun W : World => ix1 (a : Int) (b : Int) W
       go_wp2
       go_roundw
       case rel => exact ⟨1, m, rfl, by go_num, Lib.hid (.inr (.inl ⟨rfl, HM.out⟩)), by first | rfl | trivial⟩
       case measure => simp [intOf]
     ·generalize hq : max v a = q at *
      rcases Nat.lt_or_ge q b with hlt | hge
      ·have hli : (q : Int) < (b : Int) := by omega
       have HM := Lib.hid (show b = max q b by omega)
       have HQ := Lib.hid hq
       clear hlt him hq
       have e0 := fun W : World => ix0 (a : Int) (b : Int) W
       have e1 := fun W : World => ix1 (a : Int) (b : Int) W
       go_wp2
       go_roundw
       case rel => exact ⟨2, b, rfl, by go_num, Lib.hid (.inr (.inr ⟨rfl, by first | exact HM.out | (rw [HQ.out]; exact HM.out)⟩)), by first | rfl | trivial⟩
       case measure => simp [intOf]
      ·have hli : decide ((q : Int) < (b : Int)) = false := by simp only [decide_eq_false_iff_not]; omega
       have hli2 : ¬(q : Int) < (b : Int) := by omega
       have HM := Lib.hid (show q = max q b by omega)
       have HQ := Lib.hid hq
       clear hge him hq
       have e0 := fun W : World => ix0 (a : Int) (b : Int) W
       have e1 := fun W : World => ix1 (a : Int) (b : Int) W
       go_wp2
       go_roundw
       case rel => exact ⟨2, q, rfl, by go_num, Lib.hid (.inr (.inr ⟨rfl, by first | exact HM.out | (rw [HQ.out]; exact HM.out)⟩)), by first | rfl | trivial⟩
       case measure => simp [intOf]
     ·clear him
      go_wp2
      go_roundw
      case rel => exact ⟨j + 1, max (max v a) b, rfl, by go_num, by omega, Lib.hid HAB.out.symm, HFF.out⟩
      case measure => simp [intOf]; omega
end Go.Proofs.YtjnklbfhelbjgaaGreat

/- Reference 11: Height, Fit. -/
namespace Go.Proofs.YtjnklbfhelbjgaaGreat
open Go.RowKit Go.IntWalk
attribute [local go_sem ↓] Go.wp_at_zero Go.wp_at_succ
theorem ht_flat_take {LL : List (List Rat)} {j : Nat} {L : List Rat} (h : LL[j]? = some L) : ht (LL.take (j + 1)).flatten = max (ht (LL.take j).flatten) (ht L) := by
 rw [List.take_add_one, h, List.flatten_append, ht_append]
 simp
set_option maxRecDepth 100000 in
set_option maxHeartbeats 8000000 in
theorem rMHeight_any {N K q : Nat} {s : Bool} {A G : Option Addr} {n c r k : Nat} {d : Int} {RR : List RawRow} {w : World} (h : RdZ w w.heap.size s A n c d) (h' : RdRss w w.heap.size N K G r k RR) (hd : d ≠ 0) (hq : ∀ R ∈ RR, R.length = q) (hn : n ≤ N) (hN : N ≤ 1000000000000) (h1N : 1 ≤ N) (hr : r ≤ 1048576) (hqm : q ≤ 1048576) :
  Calls Tryz.prog 46 #[.agg #[.bool s, .slice A n c, .slice G r k]] w (RetK (ht (ent d RR).flatten : Int) w) := by
 obtain ⟨W1, HW1⟩ : ∃ W, W = w.alloc (.cells #[.bool s, .slice A n c, .slice G r k] 28) := ⟨_, rfl⟩
 have hB : Below w.heap.size w W1 := by rw [HW1]; exact (Below.refl _ _).alloc (Nat.le_refl _) _
 have HB := Lib.hid hB
 have HX := Lib.hid (And.intro (h.next hB) (h'.next hB))
 have HE := Lib.hid (ent_sz h' hd (Nat.le_trans h.len hn))
 have HT := Lib.hid (show ent d RR = Mx.tab r q (me d RR) by rw [← h'.len]; exact ent_tab hq)
 have HD0 := Lib.hid hd
 have HQ := Lib.hid hq
 have HW1 := Lib.hid HW1
 clear h h' hB hd hq
 go_enter Tryz.func46, Tryz.ntmps46
 go_wp2_with fail
 rw [← HW1.out]
 clear HW1
 clear HW1
 refine (rMRows_any HX.out.1 HX.out.2 HD0.out HQ.out (by omega) hN hr hqm).mono ?_
 rintro _ W2 ⟨A2, c2, GG, EE, rfl, ho, hb2⟩
 have HO := Lib.hid (show ∀ W, Below W2.heap.size W2 W → OwQss W W1.heap.size A2 r c2 (ent d RR) from fun W hb => by rw [HT.out]; exact (ho.next hb).rows (Nat.le_refl _) (by unfold maxLen; omega))
 have HB2 := Lib.hid (show Below w.heap.size w W2 from HB.out.trans (hb2.mono HB.out.size))
 clear ho hb2
 go_wp2_with fail
 go_loopw [3, 10] (fun nv iv wr => ∃ (j v : Nat), nv = .int .i64 (v : Int) ∧ iv = .int .i64 (j : Int) ∧ j ≤ r ∧ Hid (v = ht ((ent d RR).take j).flatten) ∧ Below W2.heap.size W2 wr) (fun _ iv _ => r - (intOf iv).toNat)
 case atStart => exact ⟨0, 0, rfl, rfl, Nat.zero_le _, Lib.hid rfl, Below.refl _ _⟩
 case round =>
  obtain ⟨j, v, rfl, rfl, hj, hv, hB⟩ := hrel
  by_cases hjr : j = r
  ·have HV := Lib.hid (show v = ht (ent d RR).flatten from by rw [hv.out, List.take_of_length_le (by rw [HT.out, Mx.tab_len, hjr]; exact Nat.le_refl _)])
   have HF := Lib.hid (HB2.out.trans (hB.mono HB2.out.size))
   subst hjr
   clear hB hv
   go_wp2
   go_ret
   exact ⟨_, rfl, Lib.hid (by rw [HV.out]), HF.out⟩
  ·have hjl : j < r := by omega
   have hjli : (j : Int) < (r : Int) := by omega
   clear hjr
   obtain ⟨g, A3, n3, c3, L, rfl, hbk, hx, ho3, hp⟩ := oql_at (HO.out wr hB) hjl
   have HLM := Lib.hid (HE.out L (List.mem_of_getElem? hp.out))
   have HR3 := Lib.hid (ho3.rd (N := N) HLM.out.2)
   have HTK := Lib.hid (show ht ((ent d RR).take (j + 1)).flatten = max v (ht L) by rw [ht_flat_take hp.out, hv.out])
   have HLL := Lib.hid (show n3 ≤ 1048576 by
    have e := hp.out
    rw [HT.out, Mx.tab_row hjl] at e
    injection e with e
    rw [← ho3.len, ← e]
    simpa using hqm)
   have HB3 := Lib.hid hB
   clear ho3 hp hB hv
   go_wp2_with fail
   refine (rQHeight_any HR3.out (fun p hp => by
    obtain ⟨x, _, rfl⟩ := List.mem_map.1 hp
    exact pr_ne x) HLL.out hN h1N).mono ?_
   rintro _ W4 ⟨z, rfl, hz, hb4⟩
   obtain ⟨u, hu⟩ : ∃ u, u = ht L := ⟨_, rfl⟩
   obtain rfl : z = (u : Int) := by rw [hz.out, map_qval_pr, hu]
   have HB4 := Lib.hid (HB3.out.trans (hb4.mono HB3.out.size))
   rw [← hu] at HTK
   clear hz hb4 hu hx
   by_cases hgt : v < u
   ·have hgi : (v : Int) < (u : Int) := by omega
    have HM := Lib.hid (show u = ht ((ent d RR).take (j + 1)).flatten by rw [HTK.out]; omega)
    clear hgt
    go_wp2
    go_roundw
    case rel => exact ⟨j + 1, u, rfl, by go_num, by omega, HM, HB4.out⟩
    case measure => simp [intOf]; omega
   ·have hgi : decide ((v : Int) < (u : Int)) = false := by simp only [decide_eq_false_iff_not]; omega
    have hgi2 : ¬(v : Int) < (u : Int) := by omega
    have HM := Lib.hid (show v = ht ((ent d RR).take (j + 1)).flatten by rw [HTK.out]; omega)
    clear hgt
    go_wp2
    go_roundw
    case rel => exact ⟨j + 1, v, rfl, by go_num, by omega, HM, HB4.out⟩
    case measure => simp [intOf]; omega
end Go.Proofs.YtjnklbfhelbjgaaGreat
