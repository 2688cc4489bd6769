/- qmat.From: a matrix of fractions. -/
import Derived.Test.YtjnklbfhelbjgaaGreatQ17
import Derived.Test.YtjnklbfhelbjgaaGreatQ13
import Derived.Test.YtjnklbfhelbjgaaGreatQ12
import Derived.Test.YtjnklbfhelbjgaaGreatQ05
namespace Go.Proofs.YtjnklbfhelbjgaaGreat
open Go.RowKit Go.IntWalk Go.Shelf
section
attribute [local go_sem ↓] Go.wp_at_zero Go.wp_at_succ
set_option maxRecDepth 100000 in
set_option maxHeartbeats 2000000 in
theorem evenQ_any {b q : Nat} {A : Option Addr} {n c : Nat} {LL : List (List Rat)} {w : World} (h : OwQss w b A n c LL) (hq : ∀ L ∈ LL, L.length = q) (hn : n ≤ 1048576) :
  Calls Tryz.prog 119 #[.slice A n c] w (fun e w' => e = .returned (.bool true) ∧ Below w.heap.size w w') := by
 have H := Lib.hid h
 have HQ := Lib.hid hq
 clear h hq
 go_enter Tryz.func119, Tryz.ntmps119
 go_wp2_with fail
 go_loopw [7] (fun iv wr => ∃ (j : Nat), iv = .int .i64 (j : Int) ∧ j ≤ n ∧ Below w.heap.size w wr) (fun iv _ => n - (intOf iv).toNat)
 case atStart => exact ⟨0, rfl, Nat.zero_le _, Below.refl _ _⟩
 case round =>
  obtain ⟨j, rfl, hj, hB⟩ := hrel
  by_cases hjn : j = n
  ·subst hjn
   have HB := Lib.hid hB
   clear hB
   go_wp2
   go_ret
   exact ⟨rfl, HB.out⟩
  ·have hjl : j < n := by omega
   have hjli : (j : Int) < (n : Int) := by omega
   have hn0 : (0 : Int) < (n : Int) := by omega
   have h0n : 0 < n := by omega
   clear hjn
   obtain ⟨g, A1, n1, c1, L, rfl, hbk, hx, ho, hp⟩ := oql_at (H.out.next hB) hjl
   obtain ⟨g', A2, n2, c2, L0, e, _, hy, ho0, hp0⟩ := oql_at (H.out.next hB) h0n
   injection e with e
   injection e with e _ _
   subst e
   have hn1 : n1 = q := by rw [← ho.len]; exact HQ.out L (List.mem_of_getElem? hp.out)
   have hn2 : n2 = q := by rw [← ho0.len]; exact HQ.out L0 (List.mem_of_getElem? hp0.out)
   subst hn1
   subst hn2
   have HB := Lib.hid hB
   clear hB ho ho0
   go_wp2
   go_roundw
   case rel => exact ⟨j + 1, by go_num, by omega, HB.out⟩
   case measure => simp [intOf]; omega
end
attribute [local go_sem] Oper.semAt_some
def RetME (d : Int) (LL : List (List Int)) (k : Int) (w : World) (e : Ending) (w' : World) : Prop :=
 ∃ (s : Bool) (A : Option Addr) (n c : Nat) (G : Option Addr) (r q : Nat) (y : Int) (MM : List (List Int)) (kk : Int), e = .returned (.tuple #[.agg #[.bool s, .slice A n c, .slice G r q], .int .i64 kk]) ∧ OwZ w' w.heap.size s A n c y ∧ OwMs w' w.heap.size G r q MM ∧ Hid (y = d ∧ MM = LL ∧ kk = k) ∧ Below w.heap.size w w'
abbrev frD (LL : List (List Rat)) : Int := (denL LL.flatten).tdiv (mG (denL LL.flatten) (fromN LL))
abbrev frN (LL : List (List Rat)) : List (List Int) := mN (denL LL.flatten) (fromN LL)
theorem fr_ent (LL : List (List Rat)) : entZ (frD LL) (frN LL) = LL := by
 unfold frD frN
 rw [ent_made (by have := denL_pos LL.flatten; omega), ent_from]
theorem fr_ne (LL : List (List Rat)) : frD LL ≠ 0 := tdiv_mG_ne (by have := denL_pos LL.flatten; omega)
theorem zss_ofZ (LL : List (List Int)) : zss (LL.map fun L => L.map ofZ) = LL := by
 unfold zss
 rw [List.map_map]
 conv => rhs; rw [← List.map_id LL]
 refine List.map_congr_left fun L _ => ?_
 show (L.map ofZ).map toZ = L
 rw [List.map_map]
 conv => rhs; rw [← List.map_id L]
 exact List.map_congr_left fun z _ => toZ_ofZ z
theorem OwIp.rest {w : World} {b n c : Nat} {ad : Addr} {L : List Int} (h : OwIp w b (some ad) n c L) {k : Nat} (hk : k ≤ n) : OwIp w b (if c = k then some ad else some (ad.add (k * 2))) (n - k) (c - k) (L.drop k) := by
 by_cases hc : c = k
 ·have hn : n = k := by have := h.le.1; omega
  subst hc
  subst hn
  rw [if_pos rfl, Nat.sub_self, List.drop_eq_nil_of_le (by rw [h.len]; exact Nat.le_refl _)]
  exact OwIp.nil w b _ (Nat.zero_le _)
 ·rw [if_neg hc]
  exact h.drop hk
theorem flat_row {α : Type} {q : Nat} : ∀ (MM : List (List α)) (j : Nat) (M : List α), (∀ L ∈ MM, L.length = q) → MM[j]? = some M → (MM.flatten.drop (j * q)).take q = M
 | [], _, _, _, h => by simp at h
 | L :: MM, 0, M, hq, h => by
   simp at h
   subst h
   have := hq L (List.mem_cons_self ..)
   rw [Nat.zero_mul, List.drop_zero, List.flatten_cons, List.take_append_of_le_length (by omega), List.take_of_length_le (by omega)]
 | L :: MM, j + 1, M, hq, h => by
   have h1 := hq L (List.mem_cons_self ..)
   have ih := flat_row MM j M (fun L hL => hq L (List.mem_cons_of_mem _ hL)) (by simpa using h)
   rw [List.flatten_cons, Nat.succ_mul, List.drop_append]
   rw [List.drop_of_length_le (by omega), List.nil_append, show j * q + q - L.length = j * q by omega]
   exact ih
theorem fromN_len {LL : List (List Rat)} {q : Nat} (h : ∀ L ∈ LL, L.length = q) : ∀ M ∈ fromN LL, M.length = q := by
 intro M hM
 obtain ⟨L, hL, rfl⟩ := List.mem_map.1 hM
 rw [List.length_map]
 exact h L hL
set_option maxRecDepth 100000 in
set_option maxHeartbeats 16000000 in
theorem mFrom_any {N b q : Nat} {G : Option Addr} {r k : Nat} {LL : List (List Rat)} {w : World} (h : OwQss w b G r k LL) (hb : b ≤ w.heap.size) (hq : ∀ L ∈ LL, L.length = q) (hS : ∀ L ∈ LL, ∀ x ∈ L, Qs N x) (hN : N ≤ 1000000) (h1N : 1 ≤ N) (hr : 0 < r ∧ r ≤ 100) (hq1 : 0 < q ∧ q ≤ 100) :
  Calls Tryz.prog 66 #[.slice G r k] w (RetME (frD LL) (frN LL) 0 w) := by
 obtain ⟨XX, hG, hXX⟩ := h.grid
 obtain ⟨i1, hjf, hy0, hy1, hy2⟩ := info_parts infoIs
 obtain ⟨i0, hi, hz0, hz1, hz2⟩ := info_parts infoQ
 have hnm : r ≤ maxLen := by unfold maxLen; omega
 have HL := Lib.hid h.len
 have HTOT := Lib.hid (show XX.flatten.length ≤ 10000 by
  have e : XX.flatten.length = (XX.flatten.map (fun x => x.1.2)).length := (List.length_map ..).symm
  rw [e, List.map_flatten, hXX]
  have h1 := flatten_le (K := q) LL (fun L hL => Nat.le_of_eq (hq L hL))
  rw [h.len] at h1
  have h2 : r * q ≤ 100 * 100 := Nat.mul_le_mul hr.2 hq1.2
  omega)
 have HX := Lib.hid (show ∀ W, Below w.heap.size w W → OwQss W b G r k LL from fun W hb => h.next hb)
 have HXX := Lib.hid hXX
 have HBB := Lib.hid hb
 have HQ := Lib.hid hq
 have HS := Lib.hid hS
 refine (callsIn_wide (n := 4)).1 ?_
 refine callsIn_of_wp_marks Tryz.func66 rfl trivial ?_ rfl
 simp only [Tryz.ntmps66, List.size_toArray, List.length_cons, List.length_nil, Nat.reduceAdd, Nat.reduceSub, Array.replicate_succ, Array.replicate_zero, List.push_toArray, List.append_toArray, List.nil_append, List.cons_append]
 gi_wp2_with (refine ⟨trivial, ?_⟩; gi_at_call 117; refine (callsIn_wide.2 (eachQ_any _)).mono ?_; rintro e w' ⟨rfl, rfl⟩)
 obtain ⟨W3, HW3⟩ : ∃ W, W = ((w.alloc (.cells #[.bool false, .slice none 0 0, .slice none 0 0] 28)).alloc (.cells #[.slice none 0 0] 72)).alloc (.cells #[.slice G r k] 148) := ⟨_, rfl⟩
 have hb3 : Below w.heap.size w W3 := by rw [HW3]; exact (((Below.refl _ _).alloc (Nat.le_refl _) _).alloc (by simp) _).alloc (by simp; omega) _
 have hsz : W3.heap.size = w.heap.size + 3 := by rw [HW3]; simp
 have hm3 : MC W3 w.heap.size false none 0 0 none 0 0 := by rw [HW3]; exact ((MC.new w false none 0 0 none 0 0).alloc _).alloc _
 have hbx : Boxed W3 (w.heap.size + 1) 72 (.slice none 0 0) := by
  rw [HW3]
  have := Boxed.new (w.alloc (.cells #[.bool false, .slice none 0 0, .slice none 0 0] 28)) 72 (.slice none 0 0)
  exact (by simpa using this : Boxed _ (w.heap.size + 1) _ _).alloc _
 have hbs : Boxed W3 (w.heap.size + 1 + 1) 148 (.slice G r k) := by
  rw [HW3]
  have := Boxed.new ((w.alloc (.cells #[.bool false, .slice none 0 0, .slice none 0 0] 28)).alloc (.cells #[.slice none 0 0] 72)) 148 (.slice G r k)
  simpa using this
 have HI0 := Lib.hid (show (fun (pre : List (GQ w b)) W => AllI (W0 := w) (b := b) (w.heap.size + 3) (w.heap.size + 1) (w.heap.size + 1 + 1) (.slice G r k) pre W ∧ MC W w.heap.size false none 0 0 none 0 0) [] W3 from
  ⟨⟨⟨none, 0, [], hbx, World.ownsRow_nil _ _ _ _, rfl, ⟨rfl, fun j e z he _ => by simp at he⟩⟩, hbs, hb3, Nat.le_of_eq hsz.symm⟩, hm3⟩)
 have HSQ := Lib.hid (eachQ_stops 3 (by omega) (w.heap.size + 1 + 1) w.heap.size hnm W3 (by omega) (by omega) (hG.below hb3) hbs.cell)
 rw [← HW3]
 clear HW3 hbx hbs hb3 hG hXX hm3 h hb hq hS
 apply rangeFunc_box (n := 4) (P := Tryz.prog) (by omega) (gf := 168) (lb := #[.pointer (some ⟨w.heap.size + 1 + 1, 0, none⟩)]) rfl (enters_of Tryz.func168 (by kernel_rfl) rfl)
  HSQ.out (by omega) (by omega) rfl (fun (pre : List (GQ w b)) W => AllI (W0 := w) (b := b) (w.heap.size + 3) (w.heap.size + 1) (w.heap.size + 1 + 1) (.slice G r k) pre W ∧ MC W w.heap.size false none 0 0 none 0 0) (by rw [hsz]; exact fun pre W W' row hs hg hr => ⟨AllI.own (by omega) pre W W' row hs.1 hg hr, keepC_own hg (fun r e => (hr r e).2) _ _ _ _ hs.2⟩) (fun _ _ hh => by rw [hsz]; exact hh.1.s) HI0.out 47 (fun x => #[.bool x.1.1.1.1, .slice x.1.1.1.2.1 x.1.1.1.2.2.1 x.1.1.1.2.2.2, .bool x.1.1.2.1, .slice x.1.1.2.2.1 x.1.1.2.2.2.1 x.1.1.2.2.2.2])
 case hassign =>
  intro l x W K B hB hK
  unfold gQ
  gi_wp2
  rw [← hB]
  exact hK
 case hbody =>
  rintro l pre x B W ⟨⟨⟨A', c', E, h1, h2, h3, h4⟩, h5, h6, h7⟩, hmc⟩ hB hx hlen
  have hq : QC W B x.1.1.1.1 x.1.1.1.2.1 x.1.1.1.2.2.1 x.1.1.1.2.2.2 x.1.1.2.1 x.1.1.2.2.1 x.1.1.2.2.2.1 x.1.1.2.2.2.2 := hx
  have k0 := h1.cell
  have q0 := hq.c0
  have q1 := hq.c1
  have q2 := hq.c2
  have q3 := hq.c3
  have hlen2 : pre.length < 10000 := Nat.lt_of_lt_of_le hlen HTOT.out
  have HST := Lib.hid (show ∀ (w1 : World) (v' : Value), w1.ownsRow w.heap.size 47 4 v' (pre.length + 1) (qcs E ++ [.bool x.1.1.1.1, .slice x.1.1.1.2.1 x.1.1.1.2.2.1 x.1.1.1.2.2.2, .bool x.1.1.2.1, .slice x.1.1.2.2.1 x.1.1.2.2.2.1 x.1.1.2.2.2.2]) → (W.alloc (.cells #[.bool x.1.1.1.1, .slice x.1.1.1.2.1 x.1.1.1.2.2.1 x.1.1.1.2.2.2, .bool x.1.1.2.1, .slice x.1.1.2.2.1 x.1.1.2.2.2.1 x.1.1.2.2.2.2] 47)).grownBy w1 (Value.slice A' pre.length c').ownBlock → _ from fun w1 v' => AllI.step (m := w.heap.size + 3) (Ba := w.heap.size + 1) (Bs := w.heap.size + 1 + 1) (gv := .slice G r k) (x := x) (w1 := w1) (v' := v') (t := 47) (by omega) (by omega) h1 h2 h3 h4 h5 h6 h7)
  have H2 := Lib.hid (h2.alloc (.cells #[.bool x.1.1.1.1, .slice x.1.1.1.2.1 x.1.1.1.2.2.1 x.1.1.1.2.2.2, .bool x.1.1.2.1, .slice x.1.1.2.2.1 x.1.1.2.2.2.1 x.1.1.2.2.2.2] 47))
  have HMC := Lib.hid (hmc.alloc (.cells #[.bool x.1.1.1.1, .slice x.1.1.1.2.1 x.1.1.1.2.2.1 x.1.1.1.2.2.2, .bool x.1.1.2.1, .slice x.1.1.2.2.1 x.1.1.2.2.2.1 x.1.1.2.2.2.2] 47))
  have hsW : w.heap.size ≤ W.heap.size := h6.size
  clear h1 h2 h3 h4 h5 h6 h7 hq hx hmc
  gi_wp2_with (gi_at_builtin; refine wpListIn_append_own _ rfl _ _ 72 rfl w.heap.size 47 i0 (.agg #[.bool false, .slice none 0 0, .bool false, .slice none 0 0]) 4 64 Tryz.underlying72 hi hz0 hz1 hz2 rfl (by decide) _ _ _ rfl H2.out ⟨W.heap.size, 0, none⟩ 1 1 [.bool x.1.1.1.1, .slice x.1.1.1.2.1 x.1.1.1.2.2.1 x.1.1.1.2.2.2, .bool x.1.1.2.1, .slice x.1.1.2.2.1 x.1.1.2.2.2.1 x.1.1.2.2.2.2] rfl rfl (qcell_new W _ _ _ _ _) (by simp [Value.oneCell']) (by unfold maxLen; omega) (by omega) (by simp; omega) ?_; intro v' w1 hown' hgrow _; obtain ⟨A9, c9, rfl, k1, k2, k3, k4⟩ := HST.out _ _ hown' hgrow; have kc := k1.cell; have kf := k1.frozen; have HK := Lib.hid (And.intro k2 (And.intro k3 k4)); have HMG := Lib.hid (show MC (w1.setCell ⟨w.heap.size + 1, 0, none⟩ (.slice A9 (pre.length + 1) c9)) w.heap.size false none 0 0 none 0 0 from MC.far (grown_heap H2.out hgrow HMC.out (by decide)) (p := ⟨w.heap.size + 1, 0, none⟩) (by show w.heap.size ≠ w.heap.size + 1; omega) _); clear hown' hgrow k0 q0 q1 q2 q3 k1 k2 k3 k4)
  exact ⟨HK.out.2.1.from _, HK.out.2.2, HK.out.1, HMG.out⟩
 case hdone =>
  rintro D ys W hD rfl ⟨⟨⟨A', c', E, h1, h2, h3, h4⟩, h5, h6, h7⟩, hmc⟩ hK
  obtain ⟨m, hqq⟩ : ∃ m, XX.flatten.length = m := ⟨_, rfl⟩
  rw [hqq] at h1 h2 h3
  have HM := Lib.hid (show m ≤ 10000 by rw [← hqq]; exact HTOT.out)
  clear hqq
  have k0 := h1.cell
  have hlD : D < W.heap.size := (Array.getElem?_eq_some_iff.1 hK).1
  have hflat : XX.flatten.map (fun x => x.1.2) = LL.flatten := by rw [List.map_flatten, HXX.out]
  have HO := Lib.hid (show OwQs W b A' m c' LL.flatten from ⟨E, row_base h2 HBB.out, h3, by rw [← hflat]; exact h4⟩)
  have HSF := Lib.hid (show ∀ x ∈ LL.flatten, Qs N x from fun x hx => by
   obtain ⟨L, hL, hx⟩ := List.mem_flatten.1 hx
   exact HS.out L hL x hx)
  have HR := Lib.hid (HO.out.p.rd (N := N) (fun x hx => HSF.out x hx))
  have HDEN := Lib.hid (show ∀ j, Zz.zl (denF 1 (LL.flatten.take j)) ≤ 10000000001 from fun j => by
   have e1 := denF_sz (N := N) (LL.flatten.take j) 1 (fun x hx => HSF.out x (List.mem_of_mem_take hx))
   have e2 : Zz.zl 1 ≤ 1 := Zz.zl_small (by decide)
   have e3 : (LL.flatten.take j).length ≤ 10000 := by
    rw [List.length_take]
    have := HO.out.len
    have := HM.out
    omega
   have e4 : (LL.flatten.take j).length * N ≤ 10000 * 1000000 := Nat.mul_le_mul e3 hN
   omega)
  have HD := Lib.hid (show ∀ W', KeepsOthers W W' → W'.heap[D]? = some (.deferred (some [])) from fun W' hk => hk.same D _ hK rfl)
  have HDD := Lib.hid hD
  have H6 := Lib.hid h6
  have HMC := Lib.hid hmc
  clear h1 h2 h3 h4 h5 h6 h7 hflat hK hmc hD
  gi_wp2_with fail
  refine ⟨trivial, ?_⟩
  refine (callsIn_wide.2 (common_any HR.out HDEN.out (by have := HM.out; omega) (by omega) (by decide) h1N)).mono ?_
  rintro _ W4 ⟨s2, A2, n2, c2, y, A3, n3, c3, P, kk, rfl, ho4, hoz4, hy4, hb4⟩
  obtain rfl : kk = 0 := hy4.out.2.2
  have HP := Lib.hid (show P = (fromN LL).flatten by rw [hy4.out.2.1, fromN_flat])
  have HY := Lib.hid (show y = denL LL.flatten from hy4.out.1)
  obtain ⟨W5, HW5⟩ : ∃ W', W' = W4.alloc (.cells #[.bool s2, .slice A2 n2 c2] 25) := ⟨_, rfl⟩
  have hb5 : Below W4.heap.size W4 W5 := by rw [HW5]; exact (Below.refl _ _).alloc (Nat.le_refl _) _
  have HZ5 := Lib.hid (show ZC W5 W4.heap.size s2 A2 n2 c2 by rw [HW5]; exact ZC.new W4 s2 A2 n2 c2)
  have HB5 := Lib.hid (hb4.trans (hb5.mono hb4.size))
  have HO5 := Lib.hid (And.intro (ho4.next hb5) ((hoz4.next hb5).ip))
  have HG4 := Lib.hid (show W.heap.size ≤ W4.heap.size from hb4.size)
  have HW5 := Lib.hid HW5
  clear ho4 hoz4 hy4 hb4 hb5 k0
  gi_wp2_with fail
  refine ⟨trivial, ?_⟩
  rw [← HW5.out]
  clear HW5
  clear HW5
  obtain ⟨gd, hgd⟩ : ∃ gd, gd = W4.heap.size := ⟨_, rfl⟩
  rw [← hgd] at HZ5 HG4 ⊢
  clear hgd
  have HX5 := Lib.hid (HX.out W5 (H6.out.trans (HB5.out.mono H6.out.size)))
  refine (callsIn_wide.2 (evenQ_any HX5.out HQ.out (by omega))).mono ?_
  rintro _ W6 ⟨rfl, hb6⟩
  have HZ6 := Lib.hid (HZ5.out.next hb6)
  have HO6 := Lib.hid (And.intro (HO5.out.1.next hb6) (HO5.out.2.next hb6))
  have HB6 := Lib.hid (HB5.out.trans (hb6.mono HB5.out.size))
  have HPL := Lib.hid (show n3 = r * q by
   rw [← HO5.out.2.len, HP.out]
   have e : ∀ MM : List (List Int), (∀ L ∈ MM, L.length = q) → MM.flatten.length = MM.length * q := fun MM => by
    induction MM with
    | nil => intro _; simp
    | cons L MM ih =>
      intro hh
      rw [List.flatten_cons, List.length_append, ih (fun M hM => hh M (List.mem_cons_of_mem _ hM)), hh L (List.mem_cons_self ..), List.length_cons, Nat.succ_mul]
      omega
   rw [e _ (fromN_len HQ.out)]
   congr 1
   unfold fromN
   rw [List.length_map, HL.out])
  have HFL := Lib.hid (show (fromN LL).length = r by unfold fromN; rw [List.length_map, HL.out])
  clear hb6 HZ5 HO5 HB5 HX5
  gi_wp2_with fail
  gi_loopw [7, 9, 35] (fun nv ov iv wr => ∃ (j : Nat) (A7 : Option Addr) (m7 c7 : Nat) (A9 : Option Addr) (c9 : Nat), nv = .slice A7 m7 c7 ∧ ov = .slice A9 j c9 ∧ iv = .int .i64 (j : Int) ∧ j ≤ r ∧ OwIp wr W.heap.size A7 m7 c7 (P.drop (j * q)) ∧ OwMs wr W.heap.size A9 j c9 ((fromN LL).take j) ∧ ZC wr gd s2 A2 n2 c2 ∧ OwZ wr W.heap.size s2 A2 n2 c2 y ∧ Below W.heap.size W wr ∧ KeepsOthers W wr) (fun _ _ iv _ => r - (intOf iv).toNat)
  case atStart => exact ⟨0, A3, n3, c3, none, 0, rfl, rfl, rfl, Nat.zero_le _, by simpa using HO6.out.2, OwMs.nil _ _, HZ6.out, HO6.out.1, HB6.out, below_others HB6.out⟩
  case round =>
   obtain ⟨j, A7, m7, c7, A9, c9, rfl, rfl, rfl, hj, hip, hom, hzc, hoz, hB, hK⟩ := hrel
   by_cases hjr : j = r
   ·have HOM := Lib.hid (show OwMs wr W.heap.size A9 j c9 (fromN LL) by rw [List.take_of_length_le (by rw [HFL.out, hjr]; exact Nat.le_refl _)] at hom; exact hom)
    have HFS := Lib.hid (show ∀ L ∈ fromN LL, L.length ≤ q ∧ ∀ z ∈ L, Zz.zl z ≤ 20000000000 from fun L hL => ⟨Nat.le_of_eq (fromN_len HQ.out L hL), fun z hz => by
     have e1 := fromN_sz HS.out L hL z hz
     have e2 : LL.flatten.length * N ≤ 10000 * 1000000 := Nat.mul_le_mul (by rw [HO.out.len]; exact HM.out) hN
     omega⟩)
    have HRD := Lib.hid (HOM.out.rd HFS.out)
    have HOZ := Lib.hid hoz
    have HYL := Lib.hid (show n2 ≤ 400000000000 by
     rw [hoz.len, HY.out]
     have e := HDEN.out LL.flatten.length
     rw [List.take_length] at e
     show Zz.zl (denF 1 LL.flatten) ≤ _
     omega)
    have HYN := Lib.hid (show y ≠ 0 by rw [HY.out]; have := denL_pos LL.flatten; omega)
    have HCL := Lib.hid (show colsOf ((fromN LL).map fun L => L.map ofZ) ≠ 0 by
     have e := HFL.out
     have e1 := fromN_len HQ.out
     unfold colsOf
     cases hh : fromN LL with
     | nil => rw [hh] at e; simp at e; omega
     | cons M MM =>
       rw [hh] at e1
       have := e1 M (List.mem_cons_self ..)
       simp
       intro h0
       rw [h0] at this
       simp at this
       omega)
    have HBW := Lib.hid hB
    have HKW := Lib.hid hK
    have a0 := hzc.c0
    have a1 := hzc.c1
    subst hjr
    clear hip hom hzc hoz hB hK
    gi_wp2_with fail
    refine ⟨trivial, ?_⟩
    refine (callsIn_wide.2 (mmade_any HOZ.out.rd HRD.out HYN.out HYL.out (by decide) (by omega) (by omega) HCL.out)).mono ?_
    rintro _ W8 ⟨s8, A8, n8, c8, G8, r8, k8, y8, MM, rfl, ho8, hm8, hy8, hb8⟩
    have HB8 := Lib.hid (HBW.out.trans (hb8.mono HBW.out.size))
    have hMz := (HMC.out.next HB8.out)
    have r0 := hMz.c0
    have r1 := hMz.c1
    have r2 := hMz.c2
    have f0 := hMz.fz 0
    have f1 := hMz.fz 1
    have f2 := hMz.fz 2
    have HSS := Lib.hid (hMz.store s8 A8 n8 c8 G8 r8 k8)
    have HU := Lib.hid ((ho8.base (b' := w.heap.size) (Nat.le_trans H6.out.size HBW.out.size)).keep (keepI_put hMz s8 A8 n8 c8 G8 r8 k8).1)
    have HWL := Lib.hid (show w.heap.size < wr.heap.size from Nat.lt_of_lt_of_le HMC.out.lt HBW.out.size)
    have HQQ := Lib.hid ((hm8.put hMz HWL.out s8 A8 n8 c8 G8 r8 k8).base (b' := w.heap.size) (Nat.le_of_lt HWL.out))
    have HF := Lib.hid (below_putM (H6.out.trans (HB8.out.mono H6.out.size)) (Nat.le_refl w.heap.size) s8 A8 n8 c8 G8 r8 k8)
    have HKD := Lib.hid (HD.out _ ((((HKW.out.trans (below_others hb8)).trans (KeepsOthers.setCell _ ⟨w.heap.size, 0, none⟩ (.bool s8))).trans (KeepsOthers.setCell _ ⟨w.heap.size, 1, none⟩ (.slice A8 n8 c8))).trans (KeepsOthers.setCell _ ⟨w.heap.size, 2, none⟩ (.slice G8 r8 k8))))
    have HY8 := Lib.hid (show y8 = frD LL ∧ MM = frN LL by rw [hy8.out.1, hy8.out.2, zss_ofZ, HY.out]; exact ⟨rfl, rfl⟩)
    unfold putM at HSS HU HQQ HF
    clear hMz ho8 hm8 hy8 hb8 a0 a1
    gi_wp2_with fail
    generalize ((W8.setCell ⟨w.heap.size, 0, none⟩ (.bool s8)).setCell ⟨w.heap.size, 1, none⟩ (.slice A8 n8 c8)).setCell ⟨w.heap.size, 2, none⟩ (.slice G8 r8 k8) = W9 at *
    have hdr : ∀ q, some D = some q → ∃ o : Obj, W9.heap[q]? = some o ∧ o.isCells = false := fun q e => by cases e; exact ⟨_, HKD.out, rfl⟩
    have z0 := cell_kept HSS.out.c0 (grownBy_putObj' _ D (.deferred none)) hdr
    have z1 := cell_kept HSS.out.c1 (grownBy_putObj' _ D (.deferred none)) hdr
    have z2 := cell_kept HSS.out.c2 (grownBy_putObj' _ D (.deferred none)) hdr
    have hkc := keepC_own (grownBy_putObj' W9 D (.deferred none)) hdr
    refine ⟨by simp, .inl ⟨_, _, rfl, run_takeDeferred HKD.out, ?_⟩⟩
    refine ⟨.tuple #[.agg #[.bool s8, .slice A8 n8 c8, .slice G8 r8 k8], .int .i64 0], by simp [results, Tryz.f66, go_sem, z0, z1, z2], s8, A8, n8, c8, G8, r8, k8, _, _, 0, rfl, HU.out.keep hkc.q.1, HQQ.out.keepC hkc, Lib.hid ⟨HY8.out.1, HY8.out.2, rfl⟩, ?_⟩
    exact HF.out.trans (belowK_b (w := w) (Nat.le_refl _) _ D _ _ (by have := HDD.out; omega) HKD.out rfl rfl)
   ·have hjl : j < r := by omega
    have hjli : (j : Int) < (r : Int) := by omega
    clear hjr
    obtain ⟨gg, A1, n1, c1, L, rfl, hbk, hx, ho1, hp⟩ := oql_at (HX.out wr (H6.out.trans (hB.mono H6.out.size))) hjl
    have hn1 : n1 = q := by rw [← ho1.len]; exact HQ.out L (List.mem_of_getElem? hp.out)
    subst hn1
    have HML := Lib.hid hip.len
    have hm7 : n1 ≤ m7 := by
     have e := HML.out
     have e2 : P.length = r * n1 := by rw [← HPL.out]; exact HO6.out.2.len
     rw [List.length_drop, e2] at e
     have e3 : (j + 1) * n1 ≤ r * n1 := Nat.mul_le_mul_right _ (by omega)
     rw [Nat.succ_mul] at e3
     omega
    have hmc7 := hip.le
    obtain ⟨ad, rfl⟩ : ∃ ad, A7 = some ad := by
     obtain ⟨E7, _, _, _, _, h5⟩ := hip
     rcases h5 with h5 | ⟨g7, off7, cs7, e7, _⟩
     ·omega
     ·exact ⟨_, e7⟩
    have HIP := Lib.hid hip
    have HOM := Lib.hid hom
    have HZC := Lib.hid (And.intro hzc hoz)
    have HBK := Lib.hid (And.intro hB hK)
    clear ho1 hip hom hzc hoz hB hK
    have HRW := Lib.hid (show (P.drop (j * n1)).take n1 = (fromN LL)[j]'(by rw [HFL.out]; exact hjl) by
     rw [HP.out]
     exact flat_row (fromN LL) j _ (fromN_len HQ.out) (List.getElem?_eq_getElem _))
    have HTK := Lib.hid (show (fromN LL).take j ++ [(P.drop (j * n1)).take n1] = (fromN LL).take (j + 1) by
     rw [HRW.out, List.take_add_one, List.getElem?_eq_getElem (by rw [HFL.out]; exact hjl)]
     rfl)
    have HDP := Lib.hid (show (P.drop (j * n1)).drop n1 = P.drop ((j + 1) * n1) by rw [List.drop_drop, Nat.succ_mul])
    have HIT := Lib.hid (HIP.out.take hm7)
    have HIR := Lib.hid (HIP.out.rest hm7)
    obtain ⟨E9, hE9, hEl9, hEn9⟩ := HOM.out
    have HE := Lib.hid hE9
    have HEN := Lib.hid (And.intro hEl9 hEn9)
    have HSW := Lib.hid (show W.heap.size ≤ wr.heap.size from HBK.out.1.size)
    clear hE9 hEl9 hEn9 HOM HRW
    have hm7i : (n1 : Int) ≤ (m7 : Int) := by omega
    have hck : (c7 = n1) ∨ ¬(c7 = n1) := Classical.em _
    rcases hck with hck | hck
    all_goals
     gi_wp2_with (gi_at_builtin; refine wpListIn_append_own _ rfl _ _ 26 rfl W.heap.size 65 i1 (.slice none 0 0) 1 24 Tryz.underlying26 hjf hy0 hy1 hy2 rfl (by decide) _ _ _ rfl (HE.out.alloc _) ⟨wr.heap.size, 0, none⟩ 1 1 [.slice (some ad) n1 n1] rfl rfl (scell_new wr (.slice (some ad) n1 n1) 65) (by simp [Value.oneCell']) (by unfold maxLen; omega) (by omega) (by have h2 := HSW.out; simp; omega) ?_; intro v' w1 hown' hgrow _; obtain ⟨B9, c8, rfl, ho9⟩ := ms_more (e := (some ad, n1, n1)) (L := (P.drop (j * n1)).take n1) HIT.out rfl (HE.out.alloc _) HEN.out.1 (HEN.out.2.next ((Below.refl _ _).alloc (Nat.le_refl _) (.cells #[.slice (some ad) n1 n1] 65))) hown' hgrow; have HO9 := Lib.hid ho9; have HGW := Lib.hid hgrow; clear hown' ho9 hgrow)
     have hba : Below wr.heap.size wr (wr.alloc (.cells #[.slice (some ad) n1 n1] 65)) := (Below.refl _ _).alloc (Nat.le_refl _) _
     have hki := keepI_grown (HE.out.alloc _) HGW.out
     have HIW := Lib.hid ((HIR.out.next hba).keep hki)
     have HZW := Lib.hid (show ZC w1 gd s2 A2 n2 c2 from grown_heap (HE.out.alloc _) HGW.out (HZC.out.1.alloc _) (by decide))
     have HYW := Lib.hid ((HZC.out.2.next hba).keep hki.1)
     have HBW := Lib.hid ((HBK.out.1.alloc HSW.out (.cells #[.slice (some ad) n1 n1] 65)).grown HGW.out (by have h2 := HSW.out; simp; omega) (own_block HE.out))
     have HKW := Lib.hid ((HBK.out.2.trans (below_others hba)).trans (others_append (HE.out.alloc _) HGW.out))
     clear hba hki
     go_roundw
     case rel =>
      first
       | exact ⟨j + 1, some ad, m7 - n1, 0, B9, c8, rfl, rfl, by go_num, by omega, by have := HIW.out; rw [if_pos hck, hck, Nat.sub_self, HDP.out] at this; exact this, by rw [← HTK.out]; exact HO9.out, HZW.out, HYW.out, HBW.out, HKW.out⟩
       | exact ⟨j + 1, _, _, _, B9, c8, rfl, rfl, by go_num, by omega, by have := HIW.out; rw [if_neg hck, HDP.out] at this; exact this, by rw [← HTK.out]; exact HO9.out, HZW.out, HYW.out, HBW.out, HKW.out⟩
     case measure => simp [intOf]; omega
end Go.Proofs.YtjnklbfhelbjgaaGreat

/- companion: an entry of a block. -/
namespace Go.Proofs.YtjnklbfhelbjgaaGreat
open Go.RowKit Go.IntWalk
attribute [local go_sem ↓] Go.wp_at_zero Go.wp_at_succ
set_option maxRecDepth 100000 in
set_option maxHeartbeats 4000000 in
theorem bent_any {N b i k n bn bp : Nat} {A : Option Addr} {m c : Nat} {L : List Rat} {w : World} (h : OwQp w b A m c L) (hS : ∀ x ∈ L, Qs N x) (hN : N ≤ 1000000) (hm : m = n + 1) (hi : i < n) (hk : k < n) (hn : n ≤ 100) (hbn : bn < w.heap.size) (hbp : bp < w.heap.size) (hcn : w.cell? ⟨bn, 0, none⟩ = some (.int .i64 n)) (hcp : w.cell? ⟨bp, 0, none⟩ = some (.slice A m c)) :
  Calls Tryz.prog 145 #[.int .i64 i, .int .i64 k, .pointer (some ⟨bn, 0, none⟩), .pointer (some ⟨bp, 0, none⟩)] w (RetV4 (Mx.cmp L i k) w) := by
 obtain ⟨W1, HW1⟩ : ∃ W, W = w.alloc (.cells #[.bool false, .slice none 0 0, .bool false, .slice none 0 0] 47) := ⟨_, rfl⟩
 have hR : QC W1 w.heap.size false none 0 0 false none 0 0 := by rw [HW1]; exact QC.new w false none 0 0 false none 0 0
 have hB : Below w.heap.size w W1 := by rw [HW1]; exact (Below.refl _ _).alloc (Nat.le_refl _) _
 have n0 := (hB.cell (p := ⟨bn, 0, none⟩) hbn).trans hcn
 have p0 := (hB.cell (p := ⟨bp, 0, none⟩) hbp).trans hcp
 obtain ⟨ad, s1, A1, n1, c1, s2, A2, n2, c2, x, rfl, hbk, hx0, hx1, hx2, hx3, ho, hx⟩ := op_at (h.next hB) (show i < m by omega)
 have HS := Lib.hid (hS x (List.mem_of_getElem? hx.out))
 have HV := Lib.hid (show Pq.co L i = x from Pq.co_get hx.out)
 have HLE := Lib.hid (show L.length = n + 1 by rw [h.len, hm])
 have HO := Lib.hid ho
 have HR := Lib.hid hR
 have HB := Lib.hid hB
 rw [HW1] at hx0 hx1 hx2 hx3 n0 p0
 have HW1 := Lib.hid HW1
 subst hm
 clear hR hB h ho hcn hcp hx hS
 go_enter Tryz.func145, Tryz.ntmps145
 by_cases hkn : k + 1 = n
 ·have hke : ((k : Int) == (n : Int) - 1) = true := by simp; omega
  have hke2 : (k : Int) = (n : Int) - 1 := by omega
  have hii : (i : Int) < ((n + 1 : Nat) : Int) := by omega
  have HC := Lib.hid (show Mx.cmp L i k = -x by unfold Mx.cmp; rw [if_pos (by rw [HLE.out]; omega), HV.out])
  clear hkn
  go_wp2_with fail
  rw [← HW1.out]
  clear HW1 hx0 hx1 hx2 hx3 n0 p0
  clear HW1
  refine (qneg_any (N := N) HO.out.num.rd HO.out.den.rd ⟨by rw [HO.out.num.len]; exact HS.out.1, by rw [HO.out.den.len]; exact HS.out.2⟩ (by omega)).mono ?_
  rintro _ W3 ⟨s5, A5, n5, c5, y5, s6, A6, n6, c6, y6, kk, rfl, ho5, ho6, hy, hb3⟩
  obtain ⟨e1, e2, rfl⟩ : y5 = (-x).num ∧ y6 = ((-x).den : Int) ∧ kk = 0 := by
   rcases hy.out with ⟨_, f1, f2, f3⟩ | ⟨f0, _⟩
   ·rw [Rat.num_divInt_den] at f1 f2; exact ⟨f1, f2, f3⟩
   ·exact absurd (qden_ne x) f0
  subst e1 e2
  obtain ⟨W4, HW4⟩ : ∃ W, W = W3.alloc (.cells #[.bool s5, .slice A5 n5 c5, .bool s6, .slice A6 n6 c6] 47) := ⟨_, rfl⟩
  have hb4 : Below W3.heap.size W3 W4 := by rw [HW4]; exact (Below.refl _ _).alloc (Nat.le_refl _) _
  have hR4 := HR.out.next (hb3.trans (hb4.mono hb3.size))
  have HQ4 := Lib.hid (show OwQ W4 w.heap.size s5 A5 n5 c5 s6 A6 n6 c6 (-x) from ⟨(ho5.next hb4).base HB.out.size, (ho6.next hb4).base HB.out.size⟩)
  have r0 := hR4.c0
  have r1 := hR4.c1
  have r2 := hR4.c2
  have r3 := hR4.c3
  have f0 := hR4.fz 0
  have f1 := hR4.fz 1
  have f2 := hR4.fz 2
  have f3 := hR4.fz 3
  rw [HW4] at r0 r1 r2 r3 f0 f1 f2 f3
  have HR9 := Lib.hid (hR4.store s5 A5 n5 c5 s6 A6 n6 c6)
  have HO9 := Lib.hid (HQ4.out.keep (keep_putQ hR4 s5 A5 n5 c5 s6 A6 n6 c6))
  have HB9 := Lib.hid (below_putQ (HB.out.trans ((hb3.trans (hb4.mono hb3.size)).mono HB.out.size)) (Nat.le_refl w.heap.size) s5 A5 n5 c5 s6 A6 n6 c6)
  unfold putQ at HR9 HB9 HO9
  have HW4 := Lib.hid HW4
  clear ho5 ho6 hb3 hb4 hR4 hy
  go_wp2_with fail
  rw [← HW4.out]
  clear HW4 r0 r1 r2 r3 f0 f1 f2 f3
  clear HW4
  generalize (((W4.setCell ⟨w.heap.size, 0, none⟩ (.bool s5)).setCell ⟨w.heap.size, 1, none⟩ (.slice A5 n5 c5)).setCell ⟨w.heap.size, 2, none⟩ (.bool s6)).setCell ⟨w.heap.size, 3, none⟩ (.slice A6 n6 c6) = W9 at *
  have z0 := HR9.out.c0
  have z1 := HR9.out.c1
  have z2 := HR9.out.c2
  have z3 := HR9.out.c3
  exact bodyPost_ret (by simp [results, Tryz.results145, go_sem, z0, z1, z2, z3]) rfl ⟨_, _, _, _, _, _, _, _, _, rfl, HO9.out, Lib.hid HC.out.symm, HB9.out⟩
 ·have hke : ((k : Int) == (n : Int) - 1) = false := by simp; omega
  have hke2 : ¬(k : Int) = (n : Int) - 1 := by omega
  have HKN := Lib.hid hkn
  clear hkn hx0 hx1 hx2 hx3 p0
  by_cases hik : i = k + 1
  case pos =>
   have hie : ((i : Int) == (k : Int) + 1) = true := by simp; omega
   have hie2 : (i : Int) = (k : Int) + 1 := by omega
   have HC := Lib.hid (show Mx.cmp L i k = ((1 : Int) : Rat) by unfold Mx.cmp; rw [if_neg (by rw [HLE.out]; have := HKN.out; omega), if_pos hik]; rfl)
   clear hik
   go_wp2_with fail
   rw [← HW1.out]
   clear HW1 n0
   clear HW1
   refine (qof_any 1 (by decide) (by decide) W1).mono ?_
   rintro _ W3 ⟨s5, A5, n5, c5, s6, A6, n6, c6, y, rfl, ho5, hy, hb3⟩
   have hR4 := HR.out.next hb3
   have r0 := hR4.c0
   have r1 := hR4.c1
   have r2 := hR4.c2
   have r3 := hR4.c3
   have f0 := hR4.fz 0
   have f1 := hR4.fz 1
   have f2 := hR4.fz 2
   have f3 := hR4.fz 3
   have HR9 := Lib.hid (hR4.store s5 A5 n5 c5 s6 A6 n6 c6)
   have HO9 := Lib.hid ((ho5.base (b' := w.heap.size) HB.out.size).keep (keep_putQ hR4 s5 A5 n5 c5 s6 A6 n6 c6))
   have HB9 := Lib.hid (below_putQ (HB.out.trans (hb3.mono HB.out.size)) (Nat.le_refl w.heap.size) s5 A5 n5 c5 s6 A6 n6 c6)
   unfold putQ at HR9 HB9 HO9
   have HY := Lib.hid (show y = Mx.cmp L i k by rw [hy.out, HC.out])
   clear ho5 hb3 hR4 hy
   go_wp2_with fail
   generalize (((W3.setCell ⟨w.heap.size, 0, none⟩ (.bool s5)).setCell ⟨w.heap.size, 1, none⟩ (.slice A5 n5 c5)).setCell ⟨w.heap.size, 2, none⟩ (.bool s6)).setCell ⟨w.heap.size, 3, none⟩ (.slice A6 n6 c6) = W9 at *
   have z0 := HR9.out.c0
   have z1 := HR9.out.c1
   have z2 := HR9.out.c2
   have z3 := HR9.out.c3
   exact bodyPost_ret (by simp [results, Tryz.results145, go_sem, z0, z1, z2, z3]) rfl ⟨_, _, _, _, _, _, _, _, _, rfl, HO9.out, HY, HB9.out⟩
  case neg =>
   have hie : ((i : Int) == (k : Int) + 1) = false := by simp; omega
   have hie2 : ¬(i : Int) = (k : Int) + 1 := by omega
   have HC := Lib.hid (show Mx.cmp L i k = ((0 : Int) : Rat) by unfold Mx.cmp; rw [if_neg (by rw [HLE.out]; have := HKN.out; omega), if_neg hik]; rfl)
   clear hik
   go_wp2_with fail
   rw [← HW1.out]
   clear HW1 n0
   clear HW1
   refine (qof_any 0 (by decide) (by decide) W1).mono ?_
   rintro _ W3 ⟨s5, A5, n5, c5, s6, A6, n6, c6, y, rfl, ho5, hy, hb3⟩
   have hR4 := HR.out.next hb3
   have r0 := hR4.c0
   have r1 := hR4.c1
   have r2 := hR4.c2
   have r3 := hR4.c3
   have f0 := hR4.fz 0
   have f1 := hR4.fz 1
   have f2 := hR4.fz 2
   have f3 := hR4.fz 3
   have HR9 := Lib.hid (hR4.store s5 A5 n5 c5 s6 A6 n6 c6)
   have HO9 := Lib.hid ((ho5.base (b' := w.heap.size) HB.out.size).keep (keep_putQ hR4 s5 A5 n5 c5 s6 A6 n6 c6))
   have HB9 := Lib.hid (below_putQ (HB.out.trans (hb3.mono HB.out.size)) (Nat.le_refl w.heap.size) s5 A5 n5 c5 s6 A6 n6 c6)
   unfold putQ at HR9 HB9 HO9
   have HY := Lib.hid (show y = Mx.cmp L i k by rw [hy.out, HC.out])
   clear ho5 hb3 hR4 hy
   go_wp2_with fail
   generalize (((W3.setCell ⟨w.heap.size, 0, none⟩ (.bool s5)).setCell ⟨w.heap.size, 1, none⟩ (.slice A5 n5 c5)).setCell ⟨w.heap.size, 2, none⟩ (.bool s6)).setCell ⟨w.heap.size, 3, none⟩ (.slice A6 n6 c6) = W9 at *
   have z0 := HR9.out.c0
   have z1 := HR9.out.c1
   have z2 := HR9.out.c2
   have z3 := HR9.out.c3
   exact bodyPost_ret (by simp [results, Tryz.results145, go_sem, z0, z1, z2, z3]) rfl ⟨_, _, _, _, _, _, _, _, _, rfl, HO9.out, HY, HB9.out⟩
end Go.Proofs.YtjnklbfhelbjgaaGreat

/- companion: one block. -/
namespace Go.Proofs.YtjnklbfhelbjgaaGreat
open Go.RowKit Go.IntWalk
attribute [local go_sem ↓] Go.wp_at_zero Go.wp_at_succ
abbrev cmpT (L : List Rat) : List (List Rat) := Mx.tab (L.length - 1) (L.length - 1) (Mx.cmp L)
theorem cmp_sz {N : Nat} {L : List Rat} (h : ∀ x ∈ L, Qs N x) (h1 : 1 ≤ N) (i k : Nat) : Qs N (Mx.cmp L i k) := by
 unfold Mx.cmp
 split
 ·refine Qs.neg ?_
  rcases Nat.lt_or_ge i L.length with hi | hi
  ·exact h _ (List.mem_of_getElem? (Pq.get_co hi))
  ·rw [Pq.co_ge hi]; exact Qs.zero h1
 ·split
  ·exact Qs.one h1
  ·exact Qs.zero h1
theorem tab_take {r c : Nat} {f : Nat → Nat → Rat} {j : Nat} (h : j < r) : (Mx.tab r c f).take j ++ [(List.range c).map (f j)] = (Mx.tab r c f).take (j + 1) := by
 rw [List.take_add_one, Mx.tab_row h]
 rfl
theorem range_take {n : Nat} {f : Nat → Rat} {j : Nat} (h : j < n) : ((List.range n).map f).take j ++ [f j] = ((List.range n).map f).take (j + 1) := by
 rw [List.take_add_one, List.getElem?_map, List.getElem?_range h]
 rfl
theorem tab_sz {r c N : Nat} {f : Nat → Nat → Rat} (h : ∀ i k, Qs N (f i k)) : ∀ L ∈ Mx.tab r c f, ∀ x ∈ L, Qs N x := by
 intro L hL x hx
 obtain ⟨i, _, rfl⟩ := List.mem_map.1 hL
 obtain ⟨k, _, rfl⟩ := List.mem_map.1 hx
 exact h i k
set_option maxRecDepth 100000 in
set_option maxHeartbeats 8000000 in
theorem block_any {N b n : Nat} {A : Option Addr} {m c : Nat} {L : List Rat} {w : World} (h : OwQp w b A m c L) (hS : ∀ x ∈ L, Qs N x) (hN : N ≤ 1000000) (h1N : 1 ≤ N) (hm : m = n + 1) (hn1 : 0 < n) (hn : n ≤ 100) :
  Calls Tryz.prog 90 #[.slice A m c] w (RetMt (frD (cmpT L)) (frN (cmpT L)) w) := by
 obtain ⟨i0, hi, hz0, hz1, hz2⟩ := info_parts infoQ
 obtain ⟨i1, hjf, hy0, hy1, hy2⟩ := info_parts infoQr
 obtain ⟨W2, HW2⟩ : ∃ W, W = ((w.alloc (.cells #[.slice A m c] 73)).alloc (.cells #[.bool false, .slice none 0 0, .slice none 0 0] 28)).alloc (.cells #[.int .i64 (n : Int)] 3) := ⟨_, rfl⟩
 have hb2 : Below w.heap.size w W2 := by rw [HW2]; exact (((Below.refl _ _).alloc (Nat.le_refl _) _).alloc (by simp) _).alloc (by simp; omega) _
 have hsz : W2.heap.size = w.heap.size + 3 := by rw [HW2]; simp
 have hcp : W2.cell? ⟨w.heap.size, 0, none⟩ = some (.slice A m c) := by rw [HW2]; go_simp
 have hcn : W2.cell? ⟨w.heap.size + 1 + 1, 0, none⟩ = some (.int .i64 n) := by rw [HW2]; go_simp
 have hmc : MC W2 (w.heap.size + 1) false none 0 0 none 0 0 := by
  rw [HW2]
  have := MC.new (w.alloc (.cells #[.slice A m c] 73)) false none 0 0 none 0 0
  exact (by simpa using this : MC _ (w.heap.size + 1) _ _ _ _ _ _ _).alloc _
 have HLE := Lib.hid (show L.length = n + 1 by rw [h.len, hm])
 have HX := Lib.hid (show ∀ W, Below W2.heap.size W2 W → OwQp W b A m c L ∧ W.cell? ⟨w.heap.size, 0, none⟩ = some (.slice A m c) ∧ W.cell? ⟨w.heap.size + 1 + 1, 0, none⟩ = some (.int .i64 n) ∧ MC W (w.heap.size + 1) false none 0 0 none 0 0 from fun W hb => ⟨(h.next hb2).next hb, (hb.cell (p := ⟨w.heap.size, 0, none⟩) (by show w.heap.size < W2.heap.size; omega)).trans hcp, (hb.cell (p := ⟨w.heap.size + 1 + 1, 0, none⟩) (by show w.heap.size + 1 + 1 < W2.heap.size; omega)).trans hcn, hmc.next hb⟩)
 have HS := Lib.hid hS
 have HB2 := Lib.hid hb2
 have HM := Lib.hid hm
 have hcni := hcn
 rw [HW2] at hcni
 have hmi : (m : Int) - 1 = (n : Int) := by omega
 have HW2 := Lib.hid HW2
 clear h hS hb2 hcp hcn hmc
 go_enter Tryz.func90, Tryz.ntmps90
 subst hm
 go_wp2_with fail
 rw [← HW2.out]
 clear HW2 hcni
 clear HW2
 go_loopw [5, 16] (fun ov iv wr => ∃ (j c' : Nat) (A' : Option Addr), ov = .slice A' j c' ∧ iv = .int .i64 (j : Int) ∧ j ≤ n ∧ OwQss wr W2.heap.size A' j c' ((cmpT L).take j) ∧ Below W2.heap.size W2 wr) (fun _ iv _ => n - (intOf iv).toNat)
 case atStart => exact ⟨0, 0, none, rfl, rfl, Nat.zero_le _, OwQss.nil _ _, Below.refl _ _⟩
 case round =>
  obtain ⟨j, c', A', rfl, rfl, hj, ho, hB⟩ := hrel
  by_cases hjr : j = n
  ·have HO := Lib.hid (show OwQss wr W2.heap.size A' j c' (cmpT L) by rw [← List.take_of_length_le (l := cmpT L) (i := j) (by rw [Mx.tab_len, HLE.out]; omega)]; exact ho)
   have HBF := Lib.hid hB
   subst hjr
   clear ho hB
   go_wp2_with fail
   refine (mFrom_any (q := j) HO.out HBF.out.size (fun R hR => by rw [Mx.tab_mem R hR, HLE.out]; omega) (tab_sz (cmp_sz HS.out h1N)) hN h1N ⟨hn1, hn⟩ ⟨hn1, hn⟩).mono ?_
   rintro _ W8 ⟨s8, A8, n8, c8, G8, r8, k8, y8, MM, kk, rfl, ho8, hm8, hy8, hb8⟩
   obtain rfl : kk = 0 := hy8.out.2.2
   obtain ⟨W9, HW9⟩ : ∃ W, W = W8.alloc (.cells #[.bool s8, .slice A8 n8 c8, .slice G8 r8 k8] 28) := ⟨_, rfl⟩
   have hb9 : Below W8.heap.size W8 W9 := by rw [HW9]; exact (Below.refl _ _).alloc (Nat.le_refl _) _
   have hB9 := HBF.out.trans ((hb8.trans (hb9.mono hb8.size)).mono HBF.out.size)
   have hMz := (HX.out W9 hB9).2.2.2
   have r0 := hMz.c0
   have r1 := hMz.c1
   have r2 := hMz.c2
   have f0 := hMz.fz 0
   have f1 := hMz.fz 1
   have f2 := hMz.fz 2
   rw [HW9] at r0 r1 r2 f0 f1 f2
   have HSS := Lib.hid (hMz.store s8 A8 n8 c8 G8 r8 k8)
   have HU := Lib.hid (((ho8.next hb9).base (b' := w.heap.size) (Nat.le_trans HB2.out.size HBF.out.size)).keep (keepI_put hMz s8 A8 n8 c8 G8 r8 k8).1)
   have HQQ := Lib.hid (((hm8.next hb9).put hMz (show w.heap.size + 1 < wr.heap.size by have := HBF.out.size; omega) s8 A8 n8 c8 G8 r8 k8).base (b' := w.heap.size) (Nat.le_trans HB2.out.size HBF.out.size))
   have HF := Lib.hid (below_putM (HB2.out.trans (hB9.mono HB2.out.size)) (show w.heap.size ≤ w.heap.size + 1 by omega) s8 A8 n8 c8 G8 r8 k8)
   have HY := Lib.hid (And.intro hy8.out.1 hy8.out.2.1)
   unfold putM at HSS HU HQQ HF
   have HW9 := Lib.hid HW9
   clear hMz ho8 hm8 hy8 hb8 hb9 hB9
   go_wp2_with fail
   rw [← HW9.out]
   clear HW9 r0 r1 r2 f0 f1 f2
   clear HW9
   generalize ((W9.setCell ⟨w.heap.size + 1, 0, none⟩ (.bool s8)).setCell ⟨w.heap.size + 1, 1, none⟩ (.slice A8 n8 c8)).setCell ⟨w.heap.size + 1, 2, none⟩ (.slice G8 r8 k8) = V9 at *
   have z0 := HSS.out.c0
   have z1 := HSS.out.c1
   have z2 := HSS.out.c2
   exact bodyPost_ret (by simp [results, Tryz.results90, go_sem, z0, z1, z2]) rfl ⟨s8, A8, n8, c8, G8, r8, k8, _, _, rfl, HU.out, HQQ.out, HY, HF.out⟩
  ·have hjl : j < n := by omega
   have hjli : (j : Int) < (n : Int) := by omega
   clear hjr
   obtain ⟨wo, rfl⟩ : ∃ V, V = wr := ⟨_, rfl⟩
   have HOT := Lib.hid ho
   have HBO := Lib.hid hB
   have n0 := (HX.out wo hB).2.2.1
   clear ho hB
   go_wp2_with fail
   clear n0
   go_loopw [7, 20] (fun ov iv wx => ∃ (i c5 : Nat) (A5 : Option Addr), ov = .slice A5 i c5 ∧ iv = .int .i64 (i : Int) ∧ i ≤ n ∧ OwQs wx wo.heap.size A5 i c5 (((List.range n).map (Mx.cmp L j)).take i) ∧ Below wo.heap.size wo wx) (fun _ iv _ => n - (intOf iv).toNat)
   case atStart => exact ⟨0, 0, none, rfl, rfl, Nat.zero_le _, OwQs.nil _ _, Below.refl _ _⟩
   case round =>
    obtain ⟨i, c5, A5, rfl, rfl, hi5, ho5, hB5⟩ := hrel
    by_cases hin : i = n
    ·have HO5 := Lib.hid (show OwQp wr W2.heap.size A5 i c5 ((List.range n).map (Mx.cmp L j)) by rw [List.take_of_length_le (by simp; omega)] at ho5; exact ho5.p.base HBO.out.size)
     have HB5 := Lib.hid hB5
     obtain ⟨E, hE, hEl, hEn⟩ := HOT.out.next hB5
     have HE := Lib.hid hE
     have HEN := Lib.hid (And.intro hEl hEn)
     have HTK := Lib.hid (show (cmpT L).take j ++ [(List.range n).map (Mx.cmp L j)] = (cmpT L).take (j + 1) by
      have e : L.length - 1 = n := by rw [HLE.out]; omega
      unfold cmpT
      rw [e]
      exact tab_take hjl)
     subst hin
     clear ho5 hB5 hE hEl hEn
     go_wp2_with (at_builtin; refine wpList_append_own _ rfl _ _ 68 rfl W2.heap.size 72 i1 (.slice none 0 0) 1 24 Tryz.underlying68 hjf hy0 hy1 hy2 rfl (by decide) _ _ _ rfl (HE.out.alloc _) ⟨wr.heap.size, 0, none⟩ 1 1 [.slice A5 i c5] rfl rfl (scell_new wr (.slice A5 i c5) 72) (by simp [Value.oneCell']) (by unfold maxLen; omega) (by omega) (by have h1 := HB5.out.size; have h2 := HBO.out.size; simp; omega) ?_; intro v' w1 hown' hgrow _)
     obtain ⟨A9, c9, rfl, ho9⟩ := qss_more (e := (A5, i, c5)) (L := (List.range i).map (Mx.cmp L j)) HO5.out rfl (HE.out.alloc _) HEN.out.1 (HEN.out.2.next ((Below.refl _ _).alloc (Nat.le_refl _) (.cells #[.slice A5 i c5] 72))) hown' hgrow
     have hbx := HBO.out.trans (HB5.out.mono HBO.out.size)
     have HB9 := Lib.hid ((hbx.alloc hbx.size (.cells #[.slice A5 i c5] 72)).grown hgrow (by have := hbx.size; simp; omega) (own_block HE.out))
     have HO9 := Lib.hid (show OwQss w1 W2.heap.size A9 (j + 1) c9 ((cmpT L).take (j + 1)) by rw [← HTK.out]; exact ho9)
     clear hown' hgrow HE HEN ho9 hbx
     go_wp2
     go_roundw
     case rel => exact ⟨j + 1, c9, A9, rfl, by go_num, by omega, HO9.out, HB9.out⟩
     case measure => simp [intOf]; omega
    ·have hil : i < n := by omega
     have hili : (i : Int) < (n : Int) := by omega
     clear hin
     have HB5 := Lib.hid (HBO.out.trans (hB5.mono HBO.out.size))
     have HBX := Lib.hid hB5
     have HO5 := Lib.hid ho5
     clear ho5 hB5
     go_wp2_with fail
     refine (bent_any (N := N) (HX.out _ HB5.out).1 HS.out hN rfl hjl hil hn (by have := HB5.out.size; omega) (by have := HB5.out.size; omega) (HX.out _ HB5.out).2.2.1 (HX.out _ HB5.out).2.1).mono ?_
     rintro _ W7 ⟨s7, A7, n7, c7, s8, A8, n8, c8, y, rfl, ho7, hy, hb7⟩
     obtain ⟨E, hE, hEl, hEn⟩ := HO5.out.next hb7
     have HO8 := Lib.hid (ho7.base (b' := wo.heap.size) HBX.out.size)
     have HE := Lib.hid hE
     have HEN := Lib.hid (And.intro hEl hEn)
     have HY := Lib.hid (show ((List.range n).map (Mx.cmp L j)).take i ++ [y] = ((List.range n).map (Mx.cmp L j)).take (i + 1) by rw [hy.out]; exact range_take hil)
     have HB8 := Lib.hid (HBX.out.trans (hb7.mono HBX.out.size))
     clear hE hEl hEn hb7 ho7 hy
     go_wp2_with (at_builtin; refine wpList_append_own _ rfl _ _ 72 rfl wo.heap.size 47 i0 (.agg #[.bool false, .slice none 0 0, .bool false, .slice none 0 0]) 4 64 Tryz.underlying72 hi hz0 hz1 hz2 rfl (by decide) _ _ _ rfl (HE.out.alloc _) ⟨W7.heap.size, 0, none⟩ 1 1 [.bool s7, .slice A7 n7 c7, .bool s8, .slice A8 n8 c8] rfl rfl (qcell_new W7 (.bool s7) (.slice A7 n7 c7) (.bool s8) (.slice A8 n8 c8) 47) (by simp [Value.oneCell']) (by unfold maxLen; omega) (by omega) (by have := HB8.out.size; simp at this ⊢; omega) ?_; intro v' w1 hown' hgrow _)
     obtain ⟨A9, c9, rfl, ho9⟩ := qs_more (e := ((s7, A7, n7, c7), (s8, A8, n8, c8))) (x := y) HO8.out rfl (HE.out.alloc _) HEN.out.1 HEN.out.2 hown' hgrow
     have HB9 := Lib.hid ((HB8.out.alloc HB8.out.size (.cells #[.bool s7, .slice A7 n7 c7, .bool s8, .slice A8 n8 c8] 47)).grown hgrow (by have := HB8.out.size; simp at this ⊢; omega) (own_block HE.out))
     have HO9 := Lib.hid (show OwQs w1 wo.heap.size A9 (i + 1) c9 (((List.range n).map (Mx.cmp L j)).take (i + 1)) by rw [← HY.out]; exact ho9)
     clear hown' hgrow HE HEN HO8 ho9
     go_wp2
     go_roundw
     case rel => exact ⟨i + 1, c9, A9, rfl, by go_num, by omega, HO9.out, HB9.out⟩
     case measure => simp [intOf]; omega
end Go.Proofs.YtjnklbfhelbjgaaGreat

/- companion.monics: of polynomials that are monic. -/
namespace Go.Proofs.YtjnklbfhelbjgaaGreat
open Go.RowKit Go.IntWalk
attribute [local go_sem ↓] Go.wp_at_zero Go.wp_at_succ
structure Good (N : Nat) (LL : List (List Rat)) : Prop where
 len : ∀ p ∈ LL, 2 ≤ p.length
 top : ∀ p ∈ LL, Pq.co p (p.length - 1) = 1
 sz : ∀ p ∈ LL, ∀ x ∈ p, Qs N x
 sum : Mx.dsz LL ≤ 24
theorem dsz_mem {LL : List (List Rat)} {p : List Rat} (h : p ∈ LL) : p.length - 1 ≤ Mx.dsz LL := by
 obtain ⟨a, b, rfl⟩ := List.append_of_mem h
 rw [Mx.dsz_append, Mx.dsz_cons]
 omega
theorem Good.le {N : Nat} {LL : List (List Rat)} (h : Good N LL) : ∀ p ∈ LL, p.length ≤ 25 := fun p hp => by
 have := dsz_mem hp
 have := h.sum
 omega
theorem Good.count {N : Nat} {LL : List (List Rat)} (h : Good N LL) : LL.length ≤ 24 := by
 have key : ∀ MM : List (List Rat), (∀ p ∈ MM, 2 ≤ p.length) → MM.length ≤ Mx.dsz MM := fun MM => by
  induction MM with
  | nil => intro _; simp
  | cons p MM ih =>
    intro hh
    have h1 := ih (fun q hq => hh q (List.mem_cons_of_mem _ hq))
    have h2 := hh p (List.mem_cons_self ..)
    rw [Mx.dsz_cons, List.length_cons]
    omega
 exact Nat.le_trans (key LL h.len) h.sum
theorem Good.nz {N : Nat} {LL : List (List Rat)} (h : Good N LL) : ∀ p ∈ LL, Pq.Nz p := fun p hp hne => by
 have e1 := h.top p hp
 have e2 := h.len p hp
 rw [List.getLast_eq_getElem]
 have e3 := Pq.get_co (L := p) (i := p.length - 1) (by omega)
 rw [List.getElem?_eq_getElem (by omega)] at e3
 injection e3 with e3
 rw [e3, e1]
 decide
end Go.Proofs.YtjnklbfhelbjgaaGreat

/- companion.monics, walked. -/
namespace Go.Proofs.YtjnklbfhelbjgaaGreat
open Go.RowKit Go.IntWalk
attribute [local go_sem ↓] Go.wp_at_zero Go.wp_at_succ
def RetPsE (LL : List (List Rat)) (w : World) (e : Ending) (w' : World) : Prop :=
 ∃ (A : Option Addr) (n c : Nat), e = .returned (.tuple #[.slice A n c, .int .i64 0]) ∧ OwPs w' w.heap.size A n c LL ∧ Below w.heap.size w w'
set_option maxRecDepth 100000 in
set_option maxHeartbeats 8000000 in
theorem monics_any {N K : Nat} {A : Option Addr} {n c : Nat} {LL : List (List Rat)} {w : World} (h : RdPs w w.heap.size N K A n c (LL.map fun L => L.map pr)) (hg : Good N LL) (hN : N ≤ 1000000) (h1N : 1 ≤ N) :
  Calls Tryz.prog 89 #[.slice A n c] w (RetPsE LL w) := by
 obtain ⟨i0, hi, hz0, hz1, hz2⟩ := info_parts infoPoly
 have HL := Lib.hid (show LL.length = n by rw [← h.len, List.length_map])
 have HX := Lib.hid (show ∀ W, Below w.heap.size w W → RdPs W W.heap.size N K A n c (LL.map fun L => L.map pr) from fun W hb => h.next hb)
 have HG := Lib.hid hg
 have hn24 : n ≤ 24 := by rw [← HL.out]; exact hg.count
 clear h hg
 go_enter Tryz.func89, Tryz.ntmps89
 go_wp2_with fail
 go_loopw [4, 16] (fun ov iv wr => ∃ (j c' : Nat) (A' : Option Addr), ov = .slice A' j c' ∧ iv = .int .i64 (j : Int) ∧ j ≤ n ∧ OwPs wr w.heap.size A' j c' (LL.take j) ∧ Below w.heap.size w wr) (fun _ iv _ => n - (intOf iv).toNat)
 case atStart => exact ⟨0, 0, none, rfl, rfl, Nat.zero_le _, OwPs.nil _ _, Below.refl _ _⟩
 case round =>
  obtain ⟨j, c', A', rfl, rfl, hj, ho, hB⟩ := hrel
  by_cases hjn : j = n
  case neg =>
   have hjl : j < n := by omega
   have hjli : (j : Int) < (n : Int) := by omega
   clear hjn
   obtain ⟨ad, A1, n1, c1, L1, rfl, hbk, hx, hr1, hn1, hp⟩ := ps_at (HX.out wr hB) hjl
   obtain ⟨L, hL, rfl⟩ : ∃ L, LL[j]? = some L ∧ L.map pr = L1 := by
    have e := hp.out
    rw [List.getElem?_map] at e
    exact Option.map_eq_some_iff.1 e
   have HLM := Lib.hid (List.mem_of_getElem? hL)
   have HLG := Lib.hid (And.intro (HG.out.le L HLM.out) (HG.out.nz L HLM.out))
   have HTK := Lib.hid (show LL.take j ++ [L] = LL.take (j + 1) by rw [List.take_add_one, hL]; rfl)
   have HN1 := Lib.hid (show n1 ≤ 25 by rw [← hr1.len, List.length_map]; exact HLG.out.1)
   have HO := Lib.hid ho
   have HBB := Lib.hid hB
   have HR1 := Lib.hid hr1
   clear ho hB hr1 hL hp
   go_wp2_with fail
   refine (qpnorm_any HR1.out (by have := HN1.out; omega) (by omega) h1N).mono ?_
   intro e3 W3 hpost
   obtain ⟨A4, n4, c4, rfl, ho4, hb3⟩ : ∃ (A4 : Option Addr) (n4 c4 : Nat), e3 = .returned (.tuple #[.slice A4 n4 c4, .int .i64 0]) ∧ OwQp W3 wr.heap.size A4 n4 c4 L ∧ Below wr.heap.size wr W3 := by
    rcases hpost with ⟨_, A4, n4, c4, M, e1, e2, e3, e4⟩ | ⟨⟨p, hp, hp0⟩, _⟩
    ·refine ⟨A4, n4, c4, e1, ?_, e4⟩
     rw [e3.out, map_qval_pr, Pq.nrm_id HLG.out.2] at e2
     exact e2
    ·obtain ⟨x, _, rfl⟩ := List.mem_map.1 hp
     exact absurd hp0 (pr_ne x)
   have HB3 := Lib.hid (HBB.out.trans (hb3.mono HBB.out.size))
   have HO4 := Lib.hid (ho4.base (b' := w.heap.size) HBB.out.size)
   obtain ⟨E, hE, hEl, hEn⟩ := HO.out.next hb3
   have HE := Lib.hid hE
   have HEN := Lib.hid (And.intro hEl hEn)
   clear hpost ho4 hb3 hE hEl hEn
   go_wp2_with (at_builtin; refine wpList_append_own _ rfl _ _ 30 rfl w.heap.size 73 i0 (.slice none 0 0) 1 24 Tryz.underlying30 hi hz0 hz1 hz2 rfl (by decide) _ _ _ rfl (HE.out.alloc _) ⟨W3.heap.size, 0, none⟩ 1 1 [.slice A4 n4 c4] rfl rfl (scell_new W3 (.slice A4 n4 c4) 73) (by simp [Value.oneCell']) (by unfold maxLen; omega) (by omega) (by have := HB3.out.size; simp; omega) ?_; intro v' w1 hown' hgrow _)
   obtain ⟨A9, c9, rfl, ho9⟩ := ps_more (e := (A4, n4, c4)) (L := L) HO4.out rfl (HE.out.alloc _) HEN.out.1 (HEN.out.2.next ((Below.refl _ _).alloc (Nat.le_refl _) (.cells #[.slice A4 n4 c4] 73))) hown' hgrow
   have HB9 := Lib.hid ((HB3.out.alloc HB3.out.size (.cells #[.slice A4 n4 c4] 73)).grown hgrow (by have := HB3.out.size; simp; omega) (own_block HE.out))
   have HO9 := Lib.hid (show OwPs w1 w.heap.size A9 (j + 1) c9 (LL.take (j + 1)) by rw [← HTK.out]; exact ho9)
   clear hown' hgrow HE HEN ho9
   go_wp2
   go_roundw
   case rel => exact ⟨j + 1, c9, A9, rfl, by go_num, by omega, HO9.out, HB9.out⟩
   case measure => simp [intOf]; omega
  case pos =>
   obtain ⟨wo, rfl⟩ : ∃ V, V = wr := ⟨_, rfl⟩
   have HO := Lib.hid (show ∀ W, Below wo.heap.size wo W → OwPs W w.heap.size A' j c' LL from fun W hb => by rw [List.take_of_length_le (by rw [HL.out, hjn]; exact Nat.le_refl _)] at ho; exact ho.next hb)
   have HBO := Lib.hid hB
   subst hjn
   clear ho hB
   go_wp2_with fail
   go_loopw [35] (fun iv wr => ∃ (i : Nat), iv = .int .i64 (i : Int) ∧ i ≤ j ∧ Below wo.heap.size wo wr) (fun iv _ => j - (intOf iv).toNat)
   case atStart => exact ⟨0, rfl, Nat.zero_le _, Below.refl _ _⟩
   case round =>
    obtain ⟨i, rfl, hi5, hB5⟩ := hrel
    by_cases hin : i = j
    case neg =>
     have hil : i < j := by omega
     have hili : (i : Int) < (j : Int) := by omega
     clear hin
     obtain ⟨gp, A1, n1, c1, L, rfl, hbk, hx, ho1, hp⟩ := opl_at (HO.out wr hB5) hil
     have hLm := List.mem_of_getElem? hp.out
     have hlen := ho1.len
     have h2 := HG.out.len L hLm
     obtain ⟨m, rfl⟩ : ∃ m, n1 = m + 1 := ⟨n1 - 1, by omega⟩
     obtain ⟨ad, s1, B1, m1, k1, s2, B2, m2, k2, x, rfl, hbk2, hx0, hx1, hx2, hx3, hq, hqx⟩ := op_at ho1 (show m < m + 1 by omega)
     have hx1e : x = 1 := by
      have e1 := HG.out.top L hLm
      rw [hlen, Nat.add_sub_cancel, Pq.co_get hqx.out] at e1
      exact e1
     subst hx1e
     have HQ := Lib.hid (show ∀ W, Below wr.heap.size wr W → OwQ W w.heap.size s1 B1 m1 k1 s2 B2 m2 k2 1 from fun W hb => hq.next hb)
     have HCC := Lib.hid (show ∀ W, Below wr.heap.size wr W → W.cell? (ad.add (m * 4)) = some (.bool s1) ∧ W.cell? ⟨(ad.add (m * 4)).block, (ad.add (m * 4)).off + 1, none⟩ = some (.slice B1 m1 k1) ∧ W.cell? ⟨(ad.add (m * 4)).block, (ad.add (m * 4)).off + 2, none⟩ = some (.bool s2) ∧ W.cell? ⟨(ad.add (m * 4)).block, (ad.add (m * 4)).off + 3, none⟩ = some (.slice B2 m2 k2) from fun W hb => qs_cells hb hbk2 hx0 hx1 hx2 hx3)
     have hm1 : 1 ≤ m := by omega
     have hm24 : m ≤ 24 := by have := HG.out.le L hLm; omega
     have hwr : IntKind.i64.wrap (m : Int) = (m : Int) := IntWalk.i64_in _ (by omega)
     have hw0 : (0 : Int) ≤ (m : Int) := by omega
     have hw1 : (m : Int) < (m : Int) + 1 := by omega
     have hm2 : ¬(m : Int) + 1 < 2 := by omega
     have hm3 : decide ((m : Int) + 1 < 2) = false := by simp only [decide_eq_false_iff_not]; exact hm2
     have HLN := Lib.hid (show m1 ≤ 1 ∧ m2 ≤ 1 from ⟨by rw [hq.num.len]; exact Zz.zl_small (by decide), by rw [hq.den.len]; exact Zz.zl_small (by decide)⟩)
     have HB5 := Lib.hid hB5
     have HB8 := Lib.hid (Below.refl wr.heap.size wr).drew
     clear hB5 ho1 hp hlen h2 hq hqx hLm hx0 hx1 hx2 hx3
     obtain ⟨hx0, hx1, hx2, hx3⟩ := HCC.out wr (Below.refl _ _)
     go_upto_region 13 with fail
     go_region_held3 (fun w' => w'.cell? (ad.add (m * 4)) = some (.bool s1) ∧ w'.cell? ⟨(ad.add (m * 4)).block, (ad.add (m * 4)).off + 1, none⟩ = some (.slice B1 m1 k1) ∧ w'.cell? ⟨(ad.add (m * 4)).block, (ad.add (m * 4)).off + 2, none⟩ = some (.bool s2) ∧ w'.cell? ⟨(ad.add (m * 4)).block, (ad.add (m * 4)).off + 3, none⟩ = some (.slice B2 m2 k2))
      (first | exact HCC.out _ HB9.out | exact HCC.out _ HB8.out)
      ((go_at_call 144; refine (zcmp_any (HQ.out _ HB8.out).num.rd (HQ.out _ HB8.out).den.rd (by have := HLN.out; omega) (by have := HLN.out; omega)).mono ?_; rintro _ W9 ⟨z1, rfl, hz1, hb9⟩; have HB9 := Lib.hid (HB8.out.trans (hb9.mono HB8.out.size)); obtain rfl : z1 = 0 := hz1.out))
     all_goals
      have HF := Lib.hid (HB5.out.trans (HB9.out.mono HB5.out.size))
      clear hx0 hx1 hx2 hx3 hz1 hb9
      go_wp2
      go_roundw
      case rel => exact ⟨i + 1, by go_num, by omega, HF.out⟩
      case measure => simp [intOf]; omega
    case pos =>
     have HB5 := Lib.hid hB5
     subst hin
     clear hB5
     go_wp2_with fail
     go_loopw [11, 63] (fun nv iv wr => ∃ (t v : Nat), nv = .int .i64 (v : Int) ∧ iv = .int .i64 (t : Int) ∧ t ≤ i ∧ Hid (v = Mx.dsz (LL.take t)) ∧ Below wo.heap.size wo wr) (fun _ iv _ => i - (intOf iv).toNat)
     case atStart => exact ⟨0, 0, rfl, rfl, Nat.zero_le _, Lib.hid rfl, HB5.out⟩
     case round =>
      obtain ⟨t, v, rfl, rfl, ht, hv, hB⟩ := hrel
      by_cases hti : t = i
      ·have HOF := Lib.hid (HO.out wr hB)
       have HF := Lib.hid (HBO.out.trans (hB.mono HBO.out.size))
       subst hti
       clear hB hv
       go_wp2
       go_ret2
       exact ⟨_, _, _, rfl, HOF.out, HF.out⟩
      ·have htl : t < i := by omega
       have htli : (t : Int) < (i : Int) := by omega
       clear hti
       obtain ⟨gp, A1, n1, c1, L, rfl, hbk, hx, ho1, hp⟩ := opl_at (HO.out wr hB) htl
       have hLm := List.mem_of_getElem? hp.out
       have hlen := ho1.len
       have h2 := HG.out.len L hLm
       obtain ⟨m, rfl⟩ : ∃ m, n1 = m + 1 := ⟨n1 - 1, by omega⟩
       have hs1 := Mx.dsz_take hp.out
       have hs2 : Mx.dsz (LL.take (t + 1)) ≤ 24 := Nat.le_trans Mx.dsz_le HG.out.sum
       have HVV := Lib.hid (show v + m = Mx.dsz (LL.take (t + 1)) by rw [hs1, hv.out, hlen, Nat.add_sub_cancel])
       have hvm : v + m ≤ 24 := by rw [HVV.out]; exact hs2
       have hwr : IntKind.i64.wrap (m : Int) = (m : Int) := IntWalk.i64_in _ (by omega)
       have hwv : IntKind.i64.wrap ((v : Int) + (m : Int)) = (v : Int) + (m : Int) := IntWalk.i64_in _ (by omega)
       have hgt : decide ((24 : Int) < (v : Int) + (m : Int)) = false := by simp only [decide_eq_false_iff_not]; omega
       have hgt2 : ¬(24 : Int) < (v : Int) + (m : Int) := by omega
       have HB := Lib.hid hB
       clear hB ho1 hp hlen h2 hLm hs1 hs2 hv
       go_wp2
       go_roundw
       case rel => exact ⟨t + 1, v + m, by go_num, by go_num, by omega, HVV, HB.out⟩
       case measure => simp [intOf]; omega
end Go.Proofs.YtjnklbfhelbjgaaGreat
