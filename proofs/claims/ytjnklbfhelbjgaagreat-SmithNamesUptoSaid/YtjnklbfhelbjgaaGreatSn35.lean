/- qmat.made: a matrix in normal form. -/
import Derived.Test.YtjnklbfhelbjgaaGreatSn34
import Derived.Sort.CutIn
namespace Go.Proofs.YtjnklbfhelbjgaaGreat
open Go.RowKit Go.IntWalk Go.Shelf
attribute [local go_sem] Oper.semAt_some
section
variable {w : World} {sd : Bool} {Ad : Option Addr} {nd cd : Nat} {gv : Value} {y : Int} {W W' : World}
theorem MgW.far (h : MgW w sd Ad nd cd gv y W) {g' : Nat} (hp : w.heap.size + 4 ≤ g') {s : Bool} {A : Option Addr} {n c : Nat} {G : Option Addr} {r k : Nat} (hm : MC W g' s A n c G r k) (j : Nat) (u : Value) : MgW w sd Ad nd cd gv y (W.setCell ⟨g', j, none⟩ u) := by
 obtain ⟨⟨s1, A1, n1, c1, h1, h2⟩, h3, h4, h5, h6, h7⟩ := h
 refine ⟨⟨s1, A1, n1, c1, h1.far (p := ⟨g', j, none⟩) (by show w.heap.size + 1 + 1 ≠ g'; omega) u, h2.keep (keepI_mc hm j u).1⟩, h3.far (p := ⟨g', j, none⟩) (by show w.heap.size ≠ g'; omega) u, h4.far (p := ⟨g', j, none⟩) (by show w.heap.size + 1 ≠ g'; omega) u, (Below.heap_setCell W ⟨g', j, none⟩ u _ (by show w.heap.size + 1 + 1 + 1 ≠ g'; omega)).trans h5, h6.setCell (p := ⟨g', j, none⟩) (by show w.heap.size ≤ g'; omega) u, by simpa [World.setCell] using h7⟩
theorem MgW.grown (h : MgW w sd Ad nd cd gv y W) {B : Nat} {A : Option Addr} {n c m : Nat} {xs : List Value} (hE : W.ownsRow B 65 1 (.slice A n c) m xs) (hB : w.heap.size ≤ B) (hg : W.grownBy W' (Value.slice A n c).ownBlock) (hn : m = n) : MgW w sd Ad nd cd gv y W' := by
 subst hn
 obtain ⟨⟨s1, A1, n1, c1, h1, h2⟩, h3, h4, h5, h6, h7⟩ := h
 exact ⟨⟨s1, A1, n1, c1, grown_heap hE hg h1 (by decide), h2.keep (keepI_grown hE hg).1⟩, grown_heap hE hg h3 (by decide), grown_heap hE hg h4 (by decide), grown_heap hE hg h5 (by decide), h6.grown hg h6.size (fun k e => Nat.le_trans hB (own_block hE k e)), Nat.le_trans h7 hg.size⟩
theorem others_append {B : Nat} {e : TypeId} {q m : Nat} {v : Value} {xs : List Value} (hE : W.ownsRow B e q v m xs) (hg : W.grownBy W' v.ownBlock) : KeepsOthers W W' := KeepsOthers.of_grownBy hg fun j o ej hj => by
 rcases hE.2 with ⟨rfl, _⟩ | ⟨g, cap, cur, rfl, _, hgb, _⟩
 ·simp [Value.ownBlock] at ej
 ·obtain rfl : g = j := by simpa [Value.ownBlock] using ej
  rw [hgb] at hj; cases hj; rfl
theorem MC.den {g : Nat} {s : Bool} {A : Option Addr} {n c : Nat} {G : Option Addr} {r k : Nat} (h : MC W g s A n c G r k) (s' : Bool) (A' : Option Addr) (n' c' : Nat) : MC ((W.setCell ⟨g, 0, none⟩ (.bool s')).setCell ⟨g, 1, none⟩ (.slice A' n' c')) g s' A' n' c' G r k := by
 unfold MC at *
 simp [World.setCell, Array.getElem?_modify, h]
end
theorem mN_take {RR : List RawRow} {j : Nat} {R : RawRow} (h : RR[j]? = some R) (g : Int) : ((zss RR).take j).map (fun L => L.map fun x => x.tdiv g) ++ [(R.map toZ).map fun x => x.tdiv g] = ((zss RR).take (j + 1)).map (fun L => L.map fun x => x.tdiv g) := by
 have e : (zss RR)[j]? = some (R.map toZ) := by unfold zss; rw [List.getElem?_map, h]; rfl
 rw [List.take_add_one, e, List.map_append]
 rfl
theorem tdiv_take {R : RawRow} {j : Nat} {x : Bool × List Nat} (h : R[j]? = some x) (g : Int) : ((R.take j).map toZ).map (fun x => x.tdiv g) ++ [(toZ x).tdiv g] = ((R.take (j + 1)).map toZ).map (fun x => x.tdiv g) := by
 rw [List.take_add_one, h, List.map_append, List.map_append]
 rfl
set_option maxRecDepth 100000 in
set_option maxHeartbeats 16000000 in
theorem mmade_any {N K : Nat} {s : Bool} {A G : Option Addr} {n c r k : Nat} {d : Int} {RR : List RawRow} {w : World} (h : RdZ w w.heap.size s A n c d) (h' : RdRss w w.heap.size N K G r k RR) (hd : d ≠ 0) (hn : n ≤ 400000000000) (hN : N ≤ 400000000000) (hr : r ≤ 1048576) (hK : K ≤ 1048576) (hc : colsOf RR ≠ 0) :
  Calls Tryz.prog 120 #[.agg #[.bool s, .slice A n c], .slice G r k] w (RetMt (d.tdiv (mG d (zss RR))) (mN d (zss RR)) w) := by
 obtain ⟨XX, hG, hXX⟩ := h'.grid hN
 obtain ⟨i1, hjf, hy0, hy1, hy2⟩ := info_parts infoIs
 obtain ⟨i0, hi, hz0, hz1, hz2⟩ := info_parts infoZ
 have HX := Lib.hid (show ∀ W, Below w.heap.size w W → RdZ W W.heap.size s A n c d ∧ RdRss W W.heap.size N K G r k RR from fun W hb => ⟨h.next hb, h'.next hb⟩)
 have HL := Lib.hid h'.len
 have HD0 := Lib.hid hd
 have HC := Lib.hid hc
 have HXX := Lib.hid hXX
 have HLZ := Lib.hid (show Zz.zl d ≤ 400000000000 from Nat.le_trans h.len hn)
 have hrm : r ≤ maxLen := by unfold maxLen; omega
 refine (callsIn_wide (n := 4)).1 ?_
 refine callsIn_of_wp_marks Tryz.func120 rfl trivial ?_ rfl
 simp only [Tryz.ntmps120, List.size_toArray, List.length_cons, List.length_nil, Nat.reduceAdd, Nat.reduceSub, Array.replicate_succ, Array.replicate_zero, List.push_toArray, List.append_toArray, List.nil_append, List.cons_append]
 gi_wp2_with (refine ⟨trivial, ?_⟩; gi_at_call 172; refine (callsIn_wide.2 (eachZ_any _)).mono ?_; rintro e w' ⟨rfl, rfl⟩)
 obtain ⟨W3, HW3⟩ : ∃ W, W = (((w.alloc (.cells #[.bool s, .slice A n c] 25)).alloc (.cells #[.bool false, .slice none 0 0, .slice none 0 0] 28)).alloc (.cells #[.bool false, .slice none 0 0] 25)).alloc (.cells #[.slice G r k] 165) := ⟨_, rfl⟩
 have hb3 : Below w.heap.size w W3 := by rw [HW3]; exact ((((Below.refl _ _).alloc (Nat.le_refl _) _).alloc (by simp) _).alloc (by simp; omega) _).alloc (by simp; omega) _
 have hsz : W3.heap.size = w.heap.size + 4 := by rw [HW3]; simp
 have hM3 : MgW w s A n c (.slice G r k) 0 W3 := by
  refine ⟨⟨false, none, 0, 0, ?_, OwZ.zero _ _⟩, ?_, ?_, ?_, hb3, Nat.le_of_eq hsz.symm⟩
  ·rw [HW3]
   have := ZC.new ((w.alloc (.cells #[.bool s, .slice A n c] 25)).alloc (.cells #[.bool false, .slice none 0 0, .slice none 0 0] 28)) false none 0 0
   exact (by simpa using this : ZC _ (w.heap.size + 1 + 1) _ _ _ _).alloc _
  ·rw [HW3]
   exact (((ZC.new w s A n c).alloc _).alloc _).alloc _
  ·rw [HW3]
   have := MC.new (w.alloc (.cells #[.bool s, .slice A n c] 25)) false none 0 0 none 0 0
   exact ((by simpa using this : MC _ (w.heap.size + 1) _ _ _ _ _ _ _).alloc _).alloc _
  ·rw [HW3]
   have := Boxed.new (((w.alloc (.cells #[.bool s, .slice A n c] 25)).alloc (.cells #[.bool false, .slice none 0 0, .slice none 0 0] 28)).alloc (.cells #[.bool false, .slice none 0 0] 25)) 165 (.slice G r k)
   simpa using this
 have HSQ := Lib.hid (eachZ_stops 3 (by omega) (w.heap.size + 1 + 1 + 1) w.heap.size hrm W3 (by omega) (by omega) (hG.below hb3) hM3.bs.cell)
 have HI0 := Lib.hid (show (fun (pre : List (GZ w w.heap.size)) W => MgW w s A n c (.slice G r k) (gz pre) W ∧ Zz.zl (gz pre) ≤ 400000000000) [] W3 from ⟨hM3, by show Zz.zl 0 ≤ _; rw [Zz.zl_zero]; omega⟩)
 rw [← HW3]
 clear HW3 hb3 hM3 hG hXX h h' hd hc
 apply rangeFunc_box (n := 4) (P := Tryz.prog) (by omega) (gf := 211) (lb := #[.pointer (some ⟨w.heap.size + 1 + 1 + 1, 0, none⟩)]) rfl (enters_of Tryz.func211 (by kernel_rfl) rfl)
  HSQ.out (by omega) (by omega) rfl (fun (pre : List (GZ w w.heap.size)) W => MgW w s A n c (.slice G r k) (gz pre) W ∧ Zz.zl (gz pre) ≤ 400000000000) (by rw [hsz]; exact fun pre W W' row hs hg hr => ⟨MgW.own _ W W' row hs.1 hg hr, hs.2⟩) (fun _ _ hh => by rw [hsz]; exact hh.1.s) HI0.out 25 (fun x => #[.bool x.1.1.1, .slice x.1.1.2.1 x.1.1.2.2.1 x.1.1.2.2.2])
 case hassign =>
  intro l x W K B hB hK
  unfold gZ
  gi_wp2
  rw [← hB]
  exact hK
 case hbody =>
  rintro l pre x B W ⟨hI, hzl⟩ hB hx hlen
  obtain ⟨s1, A1, n1, c1, hz1', ho1⟩ := hI.g
  have hq : ZC W B x.1.1.1 x.1.1.2.1 x.1.1.2.2.1 x.1.1.2.2.2 := hx
  have hxr : RdZ W W.heap.size x.1.1.1 x.1.1.2.1 x.1.1.2.2.1 x.1.1.2.2.2 (toZ x.1.2) := ⟨x.1.2.2, x.2.2.1.next hI.lo, by unfold toZ; rw [x.2.1]⟩
  obtain ⟨W4, HW4⟩ : ∃ W', W' = W.alloc (.cells #[.bool s1, .slice A1 n1 c1, .bool x.1.1.1, .slice x.1.1.2.1 x.1.1.2.2.1 x.1.1.2.2.2] 25) := ⟨_, rfl⟩
  have HZS := Lib.hid (zs_two (N := 400000000000) ho1.rd hxr (by rw [ho1.len]; exact hzl) x.2.2.2 HW4)
  have hb4 : Below W.heap.size W W4 := by rw [HW4]; exact (Below.refl _ _).alloc (Nat.le_refl _) _
  have HXL := Lib.hid (show Zz.zl (gz (pre ++ [x])) ≤ 400000000000 by
   rw [gz_snoc]
   have e1 := Zz.zl_gcd (gz pre) (toZ x.1.2)
   have e2 := hxr.len
   have e3 := x.2.2.2
   omega)
  have HI := Lib.hid hI
  have HB4 := Lib.hid hb4
  have a0 := hz1'.c0
  have a1 := hz1'.c1
  have q0 := hq.c0
  have q1 := hq.c1
  have HW4 := Lib.hid HW4
  clear hI hq hx hxr hb4 hz1' ho1 hzl
  gi_wp2_with fail
  refine ⟨trivial, ?_⟩
  rw [← HW4.out]
  clear HW4 a0 a1 q0 q1
  clear HW4
  refine (CallsIn.inRound l (callsIn_wide.2 (gcdl_any HZS.out (by decide)))).mono ?_
  rintro _ W7 ⟨s7, A7, n7, c7, y7, rfl, ho7, hy7, hb7⟩
  have HY7 := Lib.hid (show y7 = gz (pre ++ [x]) by rw [hy7.out, Qz.gcd_list, gz_snoc])
  have hb47 := HB4.out.trans (hb7.mono HB4.out.size)
  have hI7 := HI.out.next hb47
  obtain ⟨_, _, _, _, hz7, _⟩ := hI7.g
  have f0 := hz7.fz 0
  have f1 := hz7.fz 1
  have b0 := hz7.c0
  have b1 := hz7.c1
  have HP := Lib.hid (hI7.put (ho7.base (b' := w.heap.size) (Nat.le_trans HI.out.lo.size HB4.out.size)))
  have HK := Lib.hid (HI.out.kept hb47 (.bool s7) (.slice A7 n7 c7))
  clear hI7 hz7 hb47 hb7 ho7 hy7
  gi_wp2
  exact ⟨HK.out.1.from _, HK.out.2, by rw [← HY7.out]; exact HP.out, HXL.out⟩
 case hdone =>
  rintro D ys W hD rfl ⟨hI, hzl⟩ hK
  have hgm : gz XX.flatten = mg (zss RR) := gz_all HXX.out
  rw [hgm] at hI hzl
  have HD := Lib.hid (show ∀ W', KeepsOthers W W' → W'.heap[D]? = some (.deferred (some [])) from fun W' hk => hk.same D _ hK rfl)
  have HDD := Lib.hid hD
  obtain ⟨m0, hm0⟩ : ∃ m0, m0 = mg (zss RR) := ⟨_, rfl⟩
  rw [← hm0] at hI hzl
  have HM0 := Lib.hid hm0
  have HZL := Lib.hid hzl
  obtain ⟨G1, hG1⟩ : ∃ G1 : Int, G1 = if m0 = 0 then (d.natAbs : Int) else (Int.gcd m0 d : Int) := ⟨_, rfl⟩
  have HG1 := Lib.hid hG1
  have HGL := Lib.hid (show Zz.zl G1 ≤ 400000000000 by
   rw [hG1]
   split
   ·rw [Zz.zl_abs]; exact HLZ.out
   ·have e1 := Zz.zl_gcd m0 d
    have e2 := HLZ.out
    omega)
  have HI := Lib.hid hI
  obtain ⟨s1, A1, n1, c1, hz1', ho1⟩ := hI.g
  have HO1 := Lib.hid ho1
  have HN1 := Lib.hid (show n1 ≤ 400000000000 by rw [ho1.len]; exact hzl)
  have a0 := hz1'.c0
  have a1 := hz1'.c1
  clear hm0 hG1 hI hzl hgm hz1' ho1 hK hD
  gi_wp2_with fail
  refine ⟨trivial, ?_⟩
  refine (callsIn_wide.2 (sign_any HO1.out.rd (by have := HN1.out; omega))).mono ?_
  rintro _ W5 ⟨k5, rfl, hk5, hb5⟩
  have HI5 := Lib.hid (HI.out.next hb5)
  have HO5 := Lib.hid (HO1.out.next hb5)
  have HK5 := Lib.hid (below_others hb5)
  obtain ⟨_, _, _, _, hz5, _⟩ := HI5.out.g
  have HK0 := Lib.hid (show k5 = 0 ↔ m0 = 0 by rw [hk5.out]; exact Int.sign_eq_zero_iff_zero)
  clear hb5 hk5 a0 a1 hz5
  gi_upto_if 24 with fail
  gi_cut [] from 24 (fun wr => MgW w s A n c (.slice G r k) G1 wr ∧ KeepsOthers W wr)
  case first =>
   obtain ⟨s5, A5, n5, c5, hz5, ho5⟩ := HI5.out.g
   have HO5' := Lib.hid ho5
   have d0 := HI5.out.d.c0
   have d1 := HI5.out.d.c1
   by_cases hk0 : k5 = 0
   ·have HV := Lib.hid (show G1 = (d.natAbs : Int) by rw [HG1.out, if_pos (HK0.out.1 hk0)])
    subst hk0
    clear hz5 ho5
    gi_wp2_with fail
    refine ⟨trivial, ?_⟩
    refine (callsIn_wide.2 (abs_any (HX.out _ HI5.out.lo).1 (by omega))).mono ?_
    rintro _ W7 ⟨s7, A7, n7, c7, y7, rfl, ho7, hy7, hb7⟩
    have hI7 := HI5.out.next hb7
    obtain ⟨_, _, _, _, hz7, _⟩ := hI7.g
    have f0 := hz7.fz 0
    have f1 := hz7.fz 1
    have b0 := hz7.c0
    have b1 := hz7.c1
    have HP := Lib.hid (hI7.put (ho7.base (b' := w.heap.size) HI5.out.lo.size))
    have HKK := Lib.hid (HK5.out.trans (HI5.out.kept hb7 (.bool s7) (.slice A7 n7 c7)).1)
    have HY := Lib.hid (show y7 = G1 by rw [hy7.out, HV.out])
    clear hI7 hz7 hb7 ho7 hy7 d0 d1
    gi_wp2
    gi_meet
    exact ⟨by rw [← HY.out]; exact HP.out, HKK.out⟩
   ·have hkb : (k5 == 0) = false := by simpa using hk0
    have HV := Lib.hid (show G1 = (Int.gcd m0 d : Int) by rw [HG1.out, if_neg (fun e => hk0 (HK0.out.2 e))])
    obtain ⟨W6, HW6⟩ : ∃ W', W' = W5.alloc (.cells #[.bool s5, .slice A5 n5 c5, .bool s, .slice A n c] 25) := ⟨_, rfl⟩
    have HZS := Lib.hid (zs_two (N := 400000000000) ho5.rd (HX.out _ HI5.out.lo).1 (by rw [ho5.len]; exact HZL.out) hn HW6)
    have hb6 : Below W5.heap.size W5 W6 := by rw [HW6]; exact (Below.refl _ _).alloc (Nat.le_refl _) _
    have HB6 := Lib.hid hb6
    have a0 := hz5.c0
    have a1 := hz5.c1
    have HW6 := Lib.hid HW6
    clear hz5 ho5 hb6 hk0
    gi_wp2_with fail
    refine ⟨trivial, ?_⟩
    rw [← HW6.out]
    clear HW6 a0 a1 d0 d1
    clear HW6
    refine (callsIn_wide.2 (gcdl_any HZS.out (by decide))).mono ?_
    rintro _ W7 ⟨s7, A7, n7, c7, y7, rfl, ho7, hy7, hb7⟩
    have hb57 := HB6.out.trans (hb7.mono HB6.out.size)
    have hI7 := HI5.out.next hb57
    obtain ⟨_, _, _, _, hz7, _⟩ := hI7.g
    have f0 := hz7.fz 0
    have f1 := hz7.fz 1
    have b0 := hz7.c0
    have b1 := hz7.c1
    have HP := Lib.hid (hI7.put (ho7.base (b' := w.heap.size) (Nat.le_trans HI5.out.lo.size HB6.out.size)))
    have HKK := Lib.hid (HK5.out.trans (HI5.out.kept hb57 (.bool s7) (.slice A7 n7 c7)).1)
    have HY := Lib.hid (show y7 = G1 by rw [hy7.out, Qz.gcd_list, HV.out])
    clear hI7 hz7 hb7 hb57 ho7 hy7
    gi_wp2
    gi_meet
    exact ⟨by rw [← HY.out]; exact HP.out, HKK.out⟩
  case rest =>
   have HI6 := Lib.hid hcut.1
   have HK6 := Lib.hid hcut.2
   have HWC := Lib.hid (show w.heap.size + 4 ≤ wc.heap.size from hcut.1.s)
   clear hcut HI5 HO5 HK5 HI HO1
   have d0 := HI6.out.d.c0
   have d1 := HI6.out.d.c1
   gi_wp2_with fail
   refine ⟨trivial, ?_⟩
   refine (callsIn_wide.2 (sign_any (HX.out _ HI6.out.lo).1 (by omega))).mono ?_
   rintro _ W7 ⟨k7, rfl, hk7, hb7⟩
   have HI7 := Lib.hid (HI6.out.next hb7)
   have HK7 := Lib.hid (HK6.out.trans (below_others hb7))
   have HSG := Lib.hid (show k7 < 0 ↔ d < 0 by rw [hk7.out]; exact Int.sign_neg_iff)
   obtain ⟨GG, hGG⟩ : ∃ GG, GG = mG d (zss RR) := ⟨_, rfl⟩
   have HGG := Lib.hid (show GG = if d < 0 then -G1 else G1 by rw [hGG]; unfold mG; rw [← HM0.out, ← HG1.out])
   have HGGD := Lib.hid hGG
   clear d0 d1 hb7 hk7 hGG
   gi_upto_if 33 with fail
   gi_cut [] from 33 (fun wr => MgW w s A n c (.slice G r k) GG wr ∧ KeepsOthers W wr)
   case first =>
    obtain ⟨s8, A8, n8, c8, hz8, ho8⟩ := HI7.out.g
    have HO8 := Lib.hid ho8
    by_cases hneg : k7 < 0
    ·have HV := Lib.hid (show GG = -G1 by rw [HGG.out, if_pos (HSG.out.1 hneg)])
     have a0 := hz8.c0
     have a1 := hz8.c1
     clear hz8 ho8
     gi_wp2_with fail
     refine ⟨trivial, ?_⟩
     refine (callsIn_wide.2 (neg_any HO8.out.rd (by rw [HO8.out.len]; have := HGL.out; omega))).mono ?_
     rintro _ W9 ⟨s9, A9, n9, c9, y9, rfl, ho9, hy9, hb9⟩
     have hI9 := HI7.out.next hb9
     obtain ⟨_, _, _, _, hz9, _⟩ := hI9.g
     have f0 := hz9.fz 0
     have f1 := hz9.fz 1
     have b0 := hz9.c0
     have b1 := hz9.c1
     have HP := Lib.hid (hI9.put (ho9.base (b' := w.heap.size) HI7.out.lo.size))
     have HKK := Lib.hid (HK7.out.trans (HI7.out.kept hb9 (.bool s9) (.slice A9 n9 c9)).1)
     have HY := Lib.hid (show y9 = GG by rw [hy9.out, HV.out])
     clear hI9 hz9 hb9 ho9 hy9 a0 a1
     gi_wp2
     gi_meet
     exact ⟨by rw [← HY.out]; exact HP.out, HKK.out⟩
    ·have HV := Lib.hid (show GG = G1 by rw [HGG.out, if_neg (fun e => hneg (HSG.out.2 e))])
     have hnb : 0 ≤ k7 := by omega
     clear hneg hz8 ho8
     gi_wp2
     gi_meet
     exact ⟨by rw [HV.out]; exact HI7.out, HK7.out⟩
   case rest =>
    have HI8 := Lib.hid hcut.1
    have HK8 := Lib.hid hcut.2
    have HGL2 := Lib.hid (show Zz.zl GG ≤ 400000000000 by
     rw [HGG.out]
     split
     ·rw [Zz.zl_neg]; exact HGL.out
     ·exact HGL.out)
    have HGNE := Lib.hid (show GG ≠ 0 by rw [HGGD.out]; exact mG_ne HD0.out)
    have HGDV := Lib.hid (show GG ∣ d by rw [HGGD.out]; exact mG_den _ _)
    have HSW := Lib.hid hcut.1.s
    clear hcut HI7 HK7 HI6 HK6 HWC
    obtain ⟨W8, HW8⟩ : ∃ W', W' = wc.alloc (.cells #[.bool false, .slice none 0 0, .slice none 0 0] 28) := ⟨_, rfl⟩
    have hb8 : Below wc.heap.size wc W8 := by rw [HW8]; exact (Below.refl _ _).alloc (Nat.le_refl _) _
    have hM8 : MC W8 wc.heap.size false none 0 0 none 0 0 := by rw [HW8]; exact MC.new wc false none 0 0 none 0 0
    have HI9 := Lib.hid (HI8.out.next hb8)
    have HK9 := Lib.hid (HK8.out.trans (below_others hb8))
    have HM9 := Lib.hid hM8
    obtain ⟨s2, A2, n2, c2, hz2', ho2⟩ := HI9.out.g
    have HO2 := Lib.hid ho2
    have d0 := HI9.out.d.c0
    have d1 := HI9.out.d.c1
    have a0 := hz2'.c0
    have a1 := hz2'.c1
    rw [HW8] at d0 d1 a0 a1
    have HW8 := Lib.hid HW8
    obtain ⟨go, hgo⟩ : ∃ go, go = wc.heap.size := ⟨_, rfl⟩
    have HGO := Lib.hid (show w.heap.size + 4 ≤ go ∧ go < W8.heap.size from ⟨by rw [hgo]; exact HSW.out, by rw [hgo]; exact hM8.lt⟩)
    have HGQ := Lib.hid hgo
    clear hb8 hM8 hz2' ho2 hgo HI8 HK8
    gi_wp2_with fail
    refine ⟨trivial, ?_⟩
    rw [← HW8.out]
    rw [← HGQ.out] at HM9 ⊢
    clear HW8 d0 d1 a0 a1
    clear HW8
    refine (callsIn_wide.2 (exact_any (HX.out _ HI9.out.lo).1 HO2.out.rd (by omega) (by rw [HO2.out.len]; have := HGL2.out; omega) HGNE.out)).mono ?_
    rintro _ V1 ⟨s3, A3, n3, c3, q3, e3, rfl, ho3, hq3, hv1⟩
    have HQ3 := Lib.hid (show q3 = d.tdiv GG by
     rcases hq3.out with ⟨_, f2, _⟩ | ⟨f1, _, _⟩
     ·exact f2
     ·exact absurd (Int.tmod_eq_zero_of_dvd HGDV.out) f1)
    have hM1 := HM9.out.next hv1
    have b0 := hM1.c0
    have b1 := hM1.c1
    have b2 := hM1.c2
    have f0 := hM1.fz 0
    have f1 := hM1.fz 1
    have hI1 := HI9.out.next hv1
    have hI1a := hI1.far HGO.out.1 hM1 0 (.bool s3)
    have HMD := Lib.hid (hM1.den s3 A3 n3 c3)
    have hM1a : MC (V1.setCell ⟨go, 0, none⟩ (.bool s3)) go s3 none 0 0 none 0 0 := by
     unfold MC at hM1 ⊢
     simp [World.setCell, Array.getElem?_modify, hM1]
    have HIV := Lib.hid (hI1a.far HGO.out.1 hM1a 1 (.slice A3 n3 c3))
    have HO3 := Lib.hid (show OwZ ((V1.setCell ⟨go, 0, none⟩ (.bool s3)).setCell ⟨go, 1, none⟩ (.slice A3 n3 c3)) w.heap.size s3 A3 n3 c3 (d.tdiv GG) by
     rw [← HQ3.out]
     exact ((ho3.base HI9.out.lo.size).keep (keepI_mc hM1 0 (.bool s3)).1).keep (keepI_mc hM1a 1 (.slice A3 n3 c3)).1)
    have HKV := Lib.hid (((HK9.out.trans (below_others hv1)).trans (KeepsOthers.setCell _ ⟨go, 0, none⟩ (.bool s3))).trans (KeepsOthers.setCell _ ⟨go, 1, none⟩ (.slice A3 n3 c3)))
    have HSV := Lib.hid (show go < ((V1.setCell ⟨go, 0, none⟩ (.bool s3)).setCell ⟨go, 1, none⟩ (.slice A3 n3 c3)).heap.size by
     have h1 := HGO.out.2
     have h2 := hv1.size
     simp [World.setCell]
     omega)
    clear hM1 hI1 hI1a hM1a ho3 hq3 hv1 HM9 HI9 HK9
    gi_wp2_with fail
    refine ⟨trivial, ?_⟩
    generalize (V1.setCell ⟨go, 0, none⟩ (.bool s3)).setCell ⟨go, 1, none⟩ (.slice A3 n3 c3) = V2 at *
    clear b0 b1 b2 f0 f1
    refine (callsIn_wide.2 (cols_any (HX.out _ HIV.out.lo).2 hr)).mono ?_
    rintro _ V3 ⟨v3, rfl, hv3, hb3⟩
    have hvb : (v3 == 0) = false := by rw [hv3.out]; have := HC.out; simp; omega
    have HM3 := Lib.hid (HMD.out.next hb3)
    have HI3 := Lib.hid (HIV.out.next hb3)
    have HO3' := Lib.hid (HO3.out.next hb3)
    have HK3 := Lib.hid (HKV.out.trans (below_others hb3))
    have HS3 := Lib.hid (Nat.lt_of_lt_of_le HSV.out hb3.size)
    clear hv3 hb3 HMD HIV HO3 HKV HSV
    gi_wp2_with fail
    gi_loopw [51] (fun iv wr => ∃ (j : Nat) (A' : Option Addr) (c' : Nat), iv = .int .i64 (j : Int) ∧ j ≤ r ∧ MC wr go s3 A3 n3 c3 A' j c' ∧ OwZ wr w.heap.size s3 A3 n3 c3 (d.tdiv GG) ∧ OwMs wr V3.heap.size A' j c' (((zss RR).take j).map (fun L => L.map fun x => x.tdiv GG)) ∧ MgW w s A n c (.slice G r k) GG wr ∧ KeepsOthers W wr ∧ V3.heap.size ≤ wr.heap.size) (fun iv _ => r - (intOf iv).toNat)
    case atStart => exact ⟨0, none, 0, rfl, Nat.zero_le _, HM3.out, HO3'.out, OwMs.nil _ _, HI3.out, HK3.out, Nat.le_refl _⟩
    case round =>
     obtain ⟨j, A', c', rfl, hj, hMg, hoz, hom, hI, hK, hsz3⟩ := hrel
     by_cases hjr : j = r
     ·have HOM := Lib.hid (show OwMs wr V3.heap.size A' j c' (mN d (zss RR)) by
       have e : (zss RR).take j = zss RR := List.take_of_length_le (by unfold zss; rw [List.length_map, HL.out, hjr]; exact Nat.le_refl _)
       rw [e] at hom
       unfold mN
       rw [← HGGD.out]
       exact hom)
      subst hjr
      have hMz := hI.r
      have a0 := hMg.c0
      have a1 := hMg.c1
      have a2 := hMg.c2
      have r0 := hMz.c0
      have r1 := hMz.c1
      have r2 := hMz.c2
      have f0 := hMz.fz 0
      have f1 := hMz.fz 1
      have f2 := hMz.fz 2
      have HS := Lib.hid (hMz.store s3 A3 n3 c3 A' j c')
      have HU := Lib.hid (hoz.keep (keepI_put hMz s3 A3 n3 c3 A' j c').1)
      have HQ := Lib.hid ((HOM.out.put hMz (show w.heap.size + 1 < V3.heap.size by have := HGO.out; have := HS3.out; omega) s3 A3 n3 c3 A' j c').base (b' := w.heap.size) (by have := HGO.out; have := HS3.out; omega))
      have HF := Lib.hid (below_putM hI.lo (show w.heap.size ≤ w.heap.size + 1 by omega) s3 A3 n3 c3 A' j c')
      have HKD := Lib.hid (HD.out _ (((hK.trans (KeepsOthers.setCell _ ⟨w.heap.size + 1, 0, none⟩ (.bool s3))).trans (KeepsOthers.setCell _ ⟨w.heap.size + 1, 1, none⟩ (.slice A3 n3 c3))).trans (KeepsOthers.setCell _ ⟨w.heap.size + 1, 2, none⟩ (.slice A' j c'))))
      unfold putM at HS HU HQ HF
      clear hMg hMz hoz hom hI hK
      gi_wp2_with fail
      generalize ((wr.setCell ⟨w.heap.size + 1, 0, none⟩ (.bool s3)).setCell ⟨w.heap.size + 1, 1, none⟩ (.slice A3 n3 c3)).setCell ⟨w.heap.size + 1, 2, none⟩ (.slice A' j c') = W9 at *
      have hdr : ∀ q, some D = some q → ∃ o : Obj, W9.heap[q]? = some o ∧ o.isCells = false := fun q e => by cases e; exact ⟨_, HKD.out, rfl⟩
      have z0 := cell_kept HS.out.c0 (grownBy_putObj' _ D (.deferred none)) hdr
      have z1 := cell_kept HS.out.c1 (grownBy_putObj' _ D (.deferred none)) hdr
      have z2 := cell_kept HS.out.c2 (grownBy_putObj' _ D (.deferred none)) hdr
      have hkc := keepC_own (grownBy_putObj' W9 D (.deferred none)) hdr
      refine ⟨by simp, .inl ⟨_, _, rfl, run_takeDeferred HKD.out, ?_⟩⟩
      refine ⟨.agg #[.bool s3, .slice A3 n3 c3, .slice A' j c'], by simp [results, Tryz.f120, go_sem, z0, z1, z2], s3, A3, n3, c3, A', j, c', _, _, rfl, HU.out.keep hkc.q.1, HQ.out.keepC hkc, Lib.hid ⟨by rw [HGGD.out], rfl⟩, ?_⟩
      exact HF.out.trans (belowK_b (w := w) (Nat.le_refl _) _ D _ _ (by have := HDD.out; omega) HKD.out rfl rfl)
     ·have hjl : j < r := by omega
      have hjli : (j : Int) < (r : Int) := by omega
      clear hjr
      obtain ⟨wo, rfl⟩ : ∃ V, V = wr := ⟨_, rfl⟩
      obtain ⟨ad, A1, n1, c1, R, rfl, hbk, hx, hr1, hn1, hp⟩ := rss_at (HX.out wo hI.lo).2 hjl
      have hmk := fun W : World => make_iroom n1 (by omega) W
      obtain ⟨W6, HW6⟩ : ∃ W', W' = wo.alloc (.cells (madeCells #[.bool false, .slice none 0 0] (n1 * 2)) 25) := ⟨_, rfl⟩
      have hb6 : Below wo.heap.size wo W6 := by rw [HW6]; exact (Below.refl _ _).alloc (Nat.le_refl _) _
      have HO6 := Lib.hid (show OwZs W6 wo.heap.size (some ⟨wo.heap.size, 0, none⟩) 0 n1 [] by rw [HW6]; exact OwZs.room wo n1 (by unfold maxLen; omega))
      have HMG := Lib.hid hMg
      have HOZ := Lib.hid hoz
      have HOM := Lib.hid hom
      have HIO := Lib.hid hI
      have HKO := Lib.hid hK
      have HB6 := Lib.hid hb6
      have HSZ3 := Lib.hid hsz3
      have HRR := Lib.hid (And.intro hr1 hr1.len)
      have HJL := Lib.hid (show j + 1 ≤ 1048576 by omega)
      have HW6 := Lib.hid HW6
      clear hMg hoz hom hI hK hb6 hr1 hsz3
      gi_wp2_with fail
      rw [← HW6.out]
      clear HW6 hx
      clear HW6
      clear hmk
      gi_loopw [10, 60] (fun ov iv wx => ∃ (i c5 : Nat) (A5 : Option Addr), ov = .slice A5 i c5 ∧ iv = .int .i64 (i : Int) ∧ i ≤ n1 ∧ OwZs wx wo.heap.size A5 i c5 (((R.take i).map toZ).map fun x => x.tdiv GG) ∧ Below wo.heap.size wo wx) (fun _ iv _ => n1 - (intOf iv).toNat)
      case atStart => exact ⟨0, n1, _, rfl, rfl, Nat.zero_le _, HO6.out, HB6.out⟩
      case round =>
       obtain ⟨i, c5, A5, rfl, rfl, hi5, ho5, hB5⟩ := hrel
       by_cases hin : i = n1
       ·have HO5 := Lib.hid (show OwIp wr V3.heap.size A5 i c5 ((R.map toZ).map fun x => x.tdiv GG) by
         rw [List.take_of_length_le (l := R) (i := i) (by rw [HRR.out.2, hin]; exact Nat.le_refl _)] at ho5
         exact ho5.ip.base HSZ3.out)
        have HB5 := Lib.hid hB5
        have HMW := Lib.hid (HMG.out.next hB5)
        have HZW := Lib.hid (HOZ.out.next hB5)
        have HIW := Lib.hid (HIO.out.next hB5)
        obtain ⟨E, hE, hEl, hEn⟩ := HOM.out.next hB5
        have HE := Lib.hid hE
        have HEN := Lib.hid (And.intro hEl hEn)
        have m2 := HMW.out.c2
        subst hin
        clear ho5 hB5 hE hEl hEn
        gi_wp2_with (gi_at_builtin; refine wpListIn_append_own _ rfl _ _ 26 rfl V3.heap.size 65 i1 (.slice none 0 0) 1 24 Tryz.underlying26 hjf hy0 hy1 hy2 rfl (by decide) _ _ _ rfl (HE.out.alloc _) ⟨wr.heap.size, 0, none⟩ 1 1 [.slice A5 i c5] rfl rfl (scell_new wr (.slice A5 i c5) 65) (by simp [Value.oneCell']) (by have := HJL.out; unfold maxLen; omega) (by have := HJL.out; omega) (by have h1 := HB5.out.size; have h2 := HSZ3.out; simp; omega) ?_; intro v' w1 hown' hgrow _; obtain ⟨A9, c9, rfl, ho9⟩ := ms_more (e := (A5, i, c5)) (L := (R.map toZ).map fun x => x.tdiv GG) HO5.out rfl (HE.out.alloc _) HEN.out.1 (HEN.out.2.next ((Below.refl _ _).alloc (Nat.le_refl _) (.cells #[.slice A5 i c5] 65))) hown' hgrow; have hM9 := MC.grown (HMW.out.alloc (.cells #[.slice A5 i c5] 65)) (HE.out.alloc _) hgrow; have m9 := hM9.c2; have fz9 := hM9.fz 2; have HO9 := Lib.hid ho9; have HM9 := Lib.hid hM9; have HGW := Lib.hid hgrow; clear hown' ho9 hM9 hgrow)
        have hba : Below wr.heap.size wr (wr.alloc (.cells #[.slice A5 i c5] 65)) := (Below.refl _ _).alloc (Nat.le_refl _) _
        have hlt : go < V3.heap.size := HS3.out
        have HNM := Lib.hid (HM9.out.num A9 (j + 1) c9)
        have HZ9 := Lib.hid (((HZW.out.next hba).keep (keepI_grown (HE.out.alloc _) HGW.out).1).keep (keepI_mc HM9.out 2 (.slice A9 (j + 1) c9)).1)
        have HN9 := Lib.hid (HO9.out.num HM9.out hlt (.slice A9 (j + 1) c9))
        have HTK := Lib.hid (mN_take hp.out GG)
        have HI9' := Lib.hid (((HIW.out.next hba).grown (HE.out.alloc _) (by have := HGO.out; omega) HGW.out rfl).far HGO.out.1 HM9.out 2 (.slice A9 (j + 1) c9))
        have HK9' := Lib.hid ((((HKO.out.trans (below_others HB5.out)).trans (below_others hba)).trans (others_append (HE.out.alloc _) HGW.out)).trans (KeepsOthers.setCell _ ⟨go, 2, none⟩ (.slice A9 (j + 1) c9)))
        have HS9 := Lib.hid (show V3.heap.size ≤ (w1.setCell ⟨go, 2, none⟩ (.slice A9 (j + 1) c9)).heap.size by
         have h1 := HGW.out.size
         have h2 := HB5.out.size
         have h3 := HSZ3.out
         simp [World.setCell] at h1 ⊢
         omega)
        clear m2 m9 fz9 hba hlt
        gi_wp2
        go_roundw
        case rel => exact ⟨j + 1, A9, c9, by go_num, by omega, HNM.out, HZ9.out, by rw [← HTK.out]; exact HN9.out, HI9'.out, HK9'.out, HS9.out⟩
        case measure => simp [intOf]; omega
       ·have hil : i < n1 := by omega
        have hili : (i : Int) < (n1 : Int) := by omega
        clear hin
        obtain ⟨ad2, s6, M6, A6, n6, c6, rfl, hbk6, hz60, hz61, hr6, hn6, hp6⟩ := rs_at (HRR.out.1.next hB5) hil
        obtain ⟨W7, HW7⟩ : ∃ W', W' = wr.alloc (.cells #[.bool s6, .slice A6 n6 c6] 25) := ⟨_, rfl⟩
        have hb7 : Below wr.heap.size wr W7 := by rw [HW7]; exact (Below.refl _ _).alloc (Nat.le_refl _) _
        have hb57 := hB5.trans (hb7.mono hB5.size)
        obtain ⟨s2', A2', n2', c2', hz7, ho7⟩ := (HIO.out.next hb57).g
        have HZ7 := Lib.hid (And.intro (show RdZ W7 W7.heap.size s6 A6 n6 c6 (toZ (s6, M6)) from ⟨M6, hr6.next hb7, rfl⟩) ho7)
        have HO7 := Lib.hid (ho5.next hb7)
        have HB7 := Lib.hid hb57
        have HDV := Lib.hid (show GG ∣ toZ (s6, M6) by
         rw [HGGD.out]
         exact mG_num (L := R.map toZ) (List.mem_map.2 ⟨R, List.mem_of_getElem? hp.out, rfl⟩) (List.mem_map.2 ⟨_, List.mem_of_getElem? hp6.out, rfl⟩))
        have a0 := hz7.c0
        have a1 := hz7.c1
        rw [HW7] at a0 a1
        have HW7 := Lib.hid HW7
        clear hb7 hb57 hz7 ho7 hr6 ho5 hB5
        gi_wp2_with fail
        refine ⟨trivial, ?_⟩
        rw [← HW7.out]
        clear HW7 a0 a1 hz60 hz61
        clear HW7
        refine (callsIn_wide.2 (exact_any HZ7.out.1 HZ7.out.2.rd (by omega) (by rw [HZ7.out.2.len]; have := HGL2.out; omega) HGNE.out)).mono ?_
        rintro _ W8 ⟨s8, A8, n8, c8, y8, e8, rfl, ho8, hy8, hb8⟩
        obtain ⟨W9, HW9⟩ : ∃ W', W' = W8.alloc (.cells #[.bool s8, .slice A8 n8 c8] 25) := ⟨_, rfl⟩
        have hb9 : Below W8.heap.size W8 W9 := by rw [HW9]; exact (Below.refl _ _).alloc (Nat.le_refl _) _
        have hB9 := HB7.out.trans ((hb8.trans (hb9.mono hb8.size)).mono HB7.out.size)
        obtain ⟨E, hE, hEl, hEn⟩ := (HO7.out.next hb8).next hb9
        have HO9 := Lib.hid ((ho8.base (b' := wo.heap.size) HB7.out.size).next hb9)
        rw [HW9] at hE hB9 hEn
        rw [HW9] at HO9
        have HE := Lib.hid hE
        have HEN := Lib.hid (And.intro hEl hEn)
        have HY := Lib.hid (show (((R.take i).map toZ).map fun x => x.tdiv GG) ++ [y8] = ((R.take (i + 1)).map toZ).map fun x => x.tdiv GG by
         rcases hy8.out with ⟨_, f2, _⟩ | ⟨f1, _, _⟩
         ·rw [f2]; exact tdiv_take hp6.out GG
         ·exact absurd (Int.tmod_eq_zero_of_dvd HDV.out) f1)
        have HB9 := Lib.hid hB9
        clear hE hEl hEn hb8 ho8 hb9 hB9 hy8
        clear HW9
        gi_wp2_with (gi_at_builtin; refine wpListIn_append_own _ rfl _ _ 65 rfl wo.heap.size 25 i0 (.agg #[.bool false, .slice none 0 0]) 2 32 Tryz.underlying65 hi hz0 hz1 hz2 rfl (by decide) _ _ _ rfl (HE.out.alloc _) ⟨W8.heap.size + 1, 0, none⟩ 1 1 [.bool s8, .slice A8 n8 c8] rfl rfl (by simpa using zcell_new (W8.alloc (.cells #[.bool s8, .slice A8 n8 c8] 25)) (.bool s8) (.slice A8 n8 c8) 25) (by simp [Value.oneCell']) (by unfold maxLen; omega) (by omega) (by have := HB9.out.size; simp at this ⊢; omega) ?_; intro v' w1 hown' hgrow _; obtain ⟨A9, c9, rfl, ho9⟩ := zs_more (e := (s8, A8, n8, c8)) (z := y8) HO9.out rfl (HE.out.alloc _) HEN.out.1 HEN.out.2 hown' hgrow; have HN9 := Lib.hid ho9; have HBF := Lib.hid ((HB9.out.alloc HB9.out.size (.cells #[.bool s8, .slice A8 n8 c8] 25)).grown hgrow (by have := HB9.out.size; simp at this ⊢; omega) (own_block HE.out)); clear hown' hgrow ho9)
        gi_wp2
        go_roundw
        case rel => exact ⟨i + 1, c9, A9, rfl, by go_num, by omega, by rw [← HY.out]; exact HN9.out, HBF.out⟩
        case measure => simp [intOf]; omega
end Go.Proofs.YtjnklbfhelbjgaaGreat

/- qmat.Norm. -/
namespace Go.Proofs.YtjnklbfhelbjgaaGreat
open Go.RowKit Go.IntWalk
attribute [local go_sem ↓] Go.wp_at_zero Go.wp_at_succ
def RetMe (d : Int) (LL : List (List Int)) (w : World) (e : Ending) (w' : World) : Prop :=
 ∃ (s : Bool) (A : Option Addr) (n c : Nat) (G : Option Addr) (r k : Nat), e = .returned (.tuple #[.agg #[.bool s, .slice A n c, .slice G r k], .int .i64 0]) ∧ OwZ w' w.heap.size s A n c d ∧ OwMs w' w.heap.size G r k LL ∧ Below w.heap.size w w'
set_option maxRecDepth 100000 in
set_option maxHeartbeats 4000000 in
theorem mNorm_any {N K : Nat} {s : Bool} {A G : Option Addr} {n c r k : Nat} {d : Int} {RR : List RawRow} {w : World} (h : RdZ w w.heap.size s A n c d) (h' : RdRss w w.heap.size N K G r k RR) (hd : d ≠ 0) (hev : Evn RR) (hn : n ≤ 400000000000) (hN : N ≤ 400000000000) (hr : r ≤ 1048576) (hK : K ≤ 1048576) (hc : colsOf RR ≠ 0) :
  Calls Tryz.prog 160 #[.agg #[.bool s, .slice A n c, .slice G r k]] w (RetMe (d.tdiv (mG d (zss RR))) (mN d (zss RR)) w) := by
 obtain ⟨W1, HW1⟩ : ∃ W, W = w.alloc (.cells #[.bool s, .slice A n c, .slice G r k] 28) := ⟨_, rfl⟩
 have hP : MC W1 w.heap.size s A n c G r k := by rw [HW1]; exact MC.new w s A n c G r k
 have hb1 : Below w.heap.size w W1 := by rw [HW1]; exact (Below.refl _ _).alloc (Nat.le_refl _) _
 obtain ⟨W2, HW2⟩ : ∃ W, W = W1.alloc (.cells #[.bool false, .slice none 0 0, .slice none 0 0] 28) := ⟨_, rfl⟩
 have hM : MC W2 W1.heap.size false none 0 0 none 0 0 := by rw [HW2]; exact MC.new W1 false none 0 0 none 0 0
 have hb2 : Below W1.heap.size W1 W2 := by rw [HW2]; exact (Below.refl _ _).alloc (Nat.le_refl _) _
 have hb02 := hb1.trans (hb2.mono hb1.size)
 have hs1 : W1.heap.size = w.heap.size + 1 := by rw [HW1]; simp
 obtain ⟨gp, hgp⟩ : ∃ g, g = w.heap.size := ⟨_, rfl⟩
 obtain ⟨gr, hgr⟩ : ∃ g, g = w.heap.size + 1 := ⟨_, rfl⟩
 rw [hs1, ← hgr] at hM
 rw [← hgp] at hP
 have HX := Lib.hid (show ∀ W, Below W2.heap.size W2 W → MC W gp s A n c G r k ∧ MC W gr false none 0 0 none 0 0 ∧ RdZ W W.heap.size s A n c d ∧ RdRss W W.heap.size N K G r k RR from fun W hb => ⟨(hP.next hb2).next hb, hM.next hb, (h.next hb02).next hb, (h'.next hb02).next hb⟩)
 have HB := Lib.hid (And.intro hb02 (show w.heap.size ≤ gr by omega))
 have HG := Lib.hid (And.intro hgp hgr)
 have HD := Lib.hid hd
 have hch : chk d RR = 0 := by unfold chk; rw [if_neg hd, if_pos hev]
 have HCH := Lib.hid hch
 rw [HW1] at HW2
 have HW2 := Lib.hid HW2
 clear h h' hP hM hb1 hb2 hb02 hs1 hgp hgr hd hev hch HW1
 go_enter Tryz.func160, Tryz.ntmps160
 go_wp2_with fail
 rw [← HW2.out, ← HG.out.2, ← HG.out.1]
 clear HW2
 clear HW2
 refine (mcheck_any (HX.out _ (Below.refl _ _)).2.2.1 (HX.out _ (Below.refl _ _)).2.2.2 (by omega) hr).mono ?_
 rintro _ W3 ⟨v, rfl, hv, hb3⟩
 obtain rfl : v = 0 := hv.out.trans HCH.out
 have q0 := (HX.out _ hb3).1.c0
 have q1 := (HX.out _ hb3).1.c1
 have q2 := (HX.out _ hb3).1.c2
 have HB3 := Lib.hid hb3
 clear hv hb3
 go_wp2_with fail
 refine (mmade_any (HX.out _ HB3.out).2.2.1 (HX.out _ HB3.out).2.2.2 HD.out hn hN hr hK hc).mono ?_
 rintro _ W8 ⟨s8, A8, n8, c8, G8, r8, k8, y8, MM, rfl, ho8, hm8, hy8, hb8⟩
 obtain ⟨rfl, rfl⟩ := hy8.out
 have hMz := (HX.out _ (HB3.out.trans (hb8.mono HB3.out.size))).2.1
 have r0 := hMz.c0
 have r1 := hMz.c1
 have r2 := hMz.c2
 have f0 := hMz.fz 0
 have f1 := hMz.fz 1
 have f2 := hMz.fz 2
 have hlt : gr < W3.heap.size := (HX.out _ HB3.out).2.1.lt
 have hw3 : w.heap.size ≤ W3.heap.size := Nat.le_trans HB.out.1.size HB3.out.size
 have HSS := Lib.hid (hMz.store s8 A8 n8 c8 G8 r8 k8)
 have HU := Lib.hid ((ho8.base (b' := w.heap.size) hw3).keep (keepI_put hMz s8 A8 n8 c8 G8 r8 k8).1)
 have HQQ := Lib.hid ((hm8.put hMz hlt s8 A8 n8 c8 G8 r8 k8).base (b' := w.heap.size) hw3)
 have HF := Lib.hid (below_putM ((HB.out.1.trans (HB3.out.mono HB.out.1.size)).trans (hb8.mono hw3)) HB.out.2 s8 A8 n8 c8 G8 r8 k8)
 unfold putM at HSS HU HQQ HF
 clear hMz ho8 hm8 hb8 hy8 q0 q1 q2 hlt hw3
 go_wp2_with fail
 generalize ((W8.setCell ⟨gr, 0, none⟩ (.bool s8)).setCell ⟨gr, 1, none⟩ (.slice A8 n8 c8)).setCell ⟨gr, 2, none⟩ (.slice G8 r8 k8) = W9 at *
 have z0 := HSS.out.c0
 have z1 := HSS.out.c1
 have z2 := HSS.out.c2
 go_wp2
 exact bodyPost_ret (by simp [results, Tryz.results160, go_sem, z0, z1, z2]) rfl ⟨_, _, _, _, _, _, _, rfl, HU.out, HQQ.out, HF.out⟩
end Go.Proofs.YtjnklbfhelbjgaaGreat
