/- qmat.Height. -/
import Derived.Test.YtjnklbfhelbjgaaGreatSn33
import Derived.Test.YtjnklbfhelbjgaaGreatSn32
import Derived.Test.YtjnklbfhelbjgaaGreatSn19
namespace Go.Proofs.YtjnklbfhelbjgaaGreat
open Go.RowKit Go.IntWalk Go.Shelf
attribute [local go_sem] Oper.semAt_some
theorem flatten_le {α : Type} {K : Nat} : ∀ LL : List (List α), (∀ L ∈ LL, L.length ≤ K) → LL.flatten.length ≤ LL.length * K
 | [], _ => by simp
 | L :: LL, h => by
   have ih := flatten_le LL fun M hM => h M (List.mem_cons_of_mem _ hM)
   have h1 := h L (List.mem_cons_self ..)
   rw [List.flatten_cons, List.length_append, List.length_cons, Nat.succ_mul]
   omega
theorem map_of_get {α β : Type} {f : α → β} {l : List α} {m : List β} (hl : l.length = m.length) (h : ∀ (j : Nat) (x : α), l[j]? = some x → m[j]? = some (f x)) : l.map f = m := by
 refine List.ext_getElem? fun j => ?_
 rw [List.getElem?_map]
 rcases Nat.lt_or_ge j l.length with hj | hj
 ·rw [List.getElem?_eq_getElem hj]
  exact (h j _ (List.getElem?_eq_getElem hj)).symm
 ·rw [List.getElem?_eq_none hj, List.getElem?_eq_none (by omega)]
  rfl
theorem OwQss.grid {w : World} {b : Nat} {A : Option Addr} {n c : Nat} {LL : List (List Rat)} (h : OwQss w b A n c LL) : ∃ XX : List (List (GQ w b)), GridQ w w.heap.size A n XX ∧ XX.map (fun r => r.map (fun x => x.1.2)) = LL := by
 obtain ⟨XX, h1, h2⟩ := exists_list (P := fun (i : Nat) (row : List (GQ w b)) => (∃ (ad : Addr) (A1 : Option Addr) (n1 c1 : Nat), A = some ad ∧ ad.block < w.heap.size ∧ w.cell? (ad.add i) = some (.slice A1 n1 c1) ∧ row.length = n1 ∧ n1 ≤ maxLen ∧
   ∀ (j : Nat) (x : GQ w b), row[j]? = some x → ∃ ad1 : Addr, A1 = some ad1 ∧ ad1.block < w.heap.size ∧ w.cell? (ad1.add (j * 4)) = some (.bool x.1.1.1.1) ∧ w.cell? ⟨(ad1.add (j * 4)).block, (ad1.add (j * 4)).off + 1, none⟩ = some (.slice x.1.1.1.2.1 x.1.1.1.2.2.1 x.1.1.1.2.2.2) ∧ w.cell? ⟨(ad1.add (j * 4)).block, (ad1.add (j * 4)).off + 2, none⟩ = some (.bool x.1.1.2.1) ∧ w.cell? ⟨(ad1.add (j * 4)).block, (ad1.add (j * 4)).off + 3, none⟩ = some (.slice x.1.1.2.2.1 x.1.1.2.2.2.1 x.1.1.2.2.2.2)) ∧ LL[i]? = some (row.map (fun x => x.1.2))) n (fun i hi => by
  obtain ⟨g, A1, n1, c1, L, rfl, e2, e3, e4, e5⟩ := oql_at h hi
  obtain ⟨row, r1, r2⟩ := exists_list (P := fun (j : Nat) (x : GQ w b) => (∃ ad1 : Addr, A1 = some ad1 ∧ ad1.block < w.heap.size ∧ w.cell? (ad1.add (j * 4)) = some (.bool x.1.1.1.1) ∧ w.cell? ⟨(ad1.add (j * 4)).block, (ad1.add (j * 4)).off + 1, none⟩ = some (.slice x.1.1.1.2.1 x.1.1.1.2.2.1 x.1.1.1.2.2.2) ∧ w.cell? ⟨(ad1.add (j * 4)).block, (ad1.add (j * 4)).off + 2, none⟩ = some (.bool x.1.1.2.1) ∧ w.cell? ⟨(ad1.add (j * 4)).block, (ad1.add (j * 4)).off + 3, none⟩ = some (.slice x.1.1.2.2.1 x.1.1.2.2.2.1 x.1.1.2.2.2.2)) ∧ L[j]? = some x.1.2) n1 (fun j hj => by
   obtain ⟨ad1, s, B1, m1, k1, s', B1', m1', k1', x, q1, q2, q3, q4, q5, q6, q7, q8⟩ := op_at e4 hj
   exact ⟨⟨(((s, B1, m1, k1), (s', B1', m1', k1')), x), q7⟩, ⟨ad1, q1, q2, q3, q4, q5, q6⟩, q8.out⟩)
  refine ⟨row, ⟨⟨g, 0, none⟩, A1, n1, c1, rfl, e2, by rw [add_base]; exact e3, r1, Nat.le_trans e4.le.1 e4.le.2, fun j x hx => (r2 j x hx).1⟩, ?_⟩
  rw [e5.out]
  congr 1
  exact (map_of_get (by rw [r1, e4.len]) fun j x hx => (r2 j x hx).2).symm)
 exact ⟨XX, ⟨h1, fun i row hi => (h2 i row hi).1⟩, map_of_get (by rw [h1, h.len]) fun i row hi => (h2 i row hi).2⟩
structure AllI {W0 : World} {b : Nat} (m Ba Bs : Nat) (gv : Value) (pre : List (GQ W0 b)) (W : World) : Prop where
 box : ∃ (A' : Option Addr) (c' : Nat) (E : List (Ent × Ent)), Boxed W Ba 72 (.slice A' pre.length c') ∧ W.ownsRow W0.heap.size 47 4 (.slice A' pre.length c') pre.length (qcs E) ∧ E.length = pre.length ∧ EntQ W b E (pre.map (fun x => x.1.2))
 bs : Boxed W Bs 148 gv
 lo : Below W0.heap.size W0 W
 s : m ≤ W.heap.size
section
variable {W0 : World} {b m Ba Bs : Nat} {gv : Value} {pre : List (GQ W0 b)} {W : World}
theorem AllI.own (hm : W0.heap.size ≤ m) : OwnFrom m (AllI (W0 := W0) (b := b) m Ba Bs gv) := fun pre W W' row hs hg hr => by
 obtain ⟨⟨A', c', E, h1, h2, h3, h4⟩, h5, h6, h7⟩ := hs
 have hk := keepC_own hg (fun r e => (hr r e).2)
 exact ⟨⟨A', c', E, hk _ _ _ _ h1, hk.row h2, h3, h4.keep hk.q.1⟩, hk _ _ _ _ h5, h6.grown hg h6.size (fun r e => Nat.le_trans hm (hr r e).1), Nat.le_trans h7 hg.size⟩
theorem AllI.step {x : GQ W0 b} {w1 : World} {v' : Value} {A' : Option Addr} {c' : Nat} {E : List (Ent × Ent)} {t : TypeId} (hBa : W0.heap.size ≤ Ba) (hBs : Bs ≠ Ba) (h1 : Boxed W Ba 72 (.slice A' pre.length c')) (h2 : W.ownsRow W0.heap.size 47 4 (.slice A' pre.length c') pre.length (qcs E)) (h3 : E.length = pre.length) (h4 : EntQ W b E (pre.map (fun x => x.1.2))) (h5 : Boxed W Bs 148 gv) (h6 : Below W0.heap.size W0 W) (h7 : m ≤ W.heap.size)
  (hown' : w1.ownsRow W0.heap.size 47 4 v' (pre.length + 1) (qcs E ++ [.bool x.1.1.1.1, .slice x.1.1.1.2.1 x.1.1.1.2.2.1 x.1.1.1.2.2.2, .bool x.1.1.2.1, .slice x.1.1.2.2.1 x.1.1.2.2.2.1 x.1.1.2.2.2.2]))
  (hg : (W.alloc (.cells #[.bool x.1.1.1.1, .slice x.1.1.1.2.1 x.1.1.1.2.2.1 x.1.1.1.2.2.2, .bool x.1.1.2.1, .slice x.1.1.2.2.1 x.1.1.2.2.2.1 x.1.1.2.2.2.2] t)).grownBy w1 (Value.slice A' pre.length c').ownBlock) :
  ∃ (A9 : Option Addr) (c9 : Nat), v' = .slice A9 (pre.length + 1) c9 ∧ Boxed w1 Ba 72 (.slice A' pre.length c') ∧ AllI m Ba Bs gv (pre ++ [x]) (w1.setCell ⟨Ba, 0, none⟩ v') ∧ KeepsOthers W (w1.setCell ⟨Ba, 0, none⟩ v') ∧ KpO W0.heap.size Bs W (w1.setCell ⟨Ba, 0, none⟩ v') := by
 obtain ⟨k1, k2, k3, k4, k5⟩ := h1.appended (by decide) h2 h6.size hBa hown' hg
 obtain ⟨A9, c9, rfl⟩ := row_sl hown'
 have hba : Below W.heap.size W (W.alloc (.cells #[.bool x.1.1.1.1, .slice x.1.1.1.2.1 x.1.1.1.2.2.1 x.1.1.1.2.2.2, .bool x.1.1.2.1, .slice x.1.1.2.2.1 x.1.1.2.2.2.1 x.1.1.2.2.2.2] t)) := (Below.refl _ _).alloc (Nat.le_refl _) _
 have hkt : KeepT W (w1.setCell ⟨Ba, 0, none⟩ (.slice A9 (pre.length + 1) c9)) := ((KeepT.below hba).trans (KeepT.grown (h2.alloc _) (by decide) hg)).trans (KeepT.set (p := ⟨Ba, 0, none⟩) k1 (by decide) _)
 have hs5 : Boxed w1 Bs 148 gv := (h5.alloc _).kept hg (h5.not_row (by decide) h2)
 have hs6 : Boxed (w1.setCell ⟨Ba, 0, none⟩ (.slice A9 (pre.length + 1) c9)) Bs 148 gv := (Below.heap_setCell w1 ⟨Ba, 0, none⟩ _ Bs hBs).trans hs5
 refine ⟨A9, c9, rfl, k1, ⟨⟨A9, c9, E ++ [x.1.1], ?_, ?_, ?_, ?_⟩, hs6, h6.trans k5, ?_⟩, k4, ⟨k5, hs6.trans h5.symm⟩⟩
 ·rw [List.length_append]; exact k2
 ·rw [List.length_append, qcs_append, qcs_one]; exact k3
 ·rw [List.length_append, List.length_append, h3]; rfl
 ·rw [List.map_append]
  exact (h4.keep hkt).snoc (((x.2.next h6)).keep hkt)
 ·exact Nat.le_trans h7 k4.size
end
set_option maxRecDepth 100000 in
set_option maxHeartbeats 8000000 in
theorem mHeight_any {N K : Nat} {s : Bool} {A G : Option Addr} {n c r k : Nat} {d : Int} {RR : List RawRow} {w : World} (h : RdZ w w.heap.size s A n c d) (h' : RdRss w w.heap.size N K G r k RR) (hn : n ≤ N) (hN : N ≤ 1000000000000) (h1N : 1 ≤ N) (hr : r ≤ 1048576) (hK : K ≤ 1048576) (hrk : r * K ≤ 1048576) :
  Calls Tryz.prog 81 #[.agg #[.bool s, .slice A n c, .slice G r k]] w (RetKE (fun v kk => (chk d RR = 0 ∧ v = (ht (ent d RR).flatten : Int) ∧ kk = 0) ∨ (chk d RR ≠ 0 ∧ v = 0 ∧ kk = chk d RR)) w) := by
 obtain ⟨W1, HW1⟩ : ∃ W, W = w.alloc (.cells #[.bool s, .slice A n c, .slice G r k] 28) := ⟨_, rfl⟩
 have hM : MC W1 w.heap.size s A n c G r k := by rw [HW1]; exact MC.new w s A n c G r k
 have hB : Below w.heap.size w W1 := by rw [HW1]; exact (Below.refl _ _).alloc (Nat.le_refl _) _
 obtain ⟨i0, hi, hz0, hz1, hz2⟩ := info_parts infoQ
 have HB := Lib.hid hB
 have HX := Lib.hid (And.intro (h.next hB) (h'.next hB))
 have HE := Lib.hid (fun hd : d ≠ 0 => ent_sz h' hd (Nat.le_trans h.len hn))
 have HL := Lib.hid h'.len
 have HW1 := Lib.hid HW1
 clear h h' hM hB
 refine (callsIn_wide (n := 4)).1 ?_
 refine callsIn_of_wp_marks Tryz.func81 rfl trivial ?_ rfl
 simp only [Tryz.ntmps81, List.size_toArray, List.length_cons, List.length_nil, Nat.reduceAdd, Nat.reduceSub, Array.replicate_succ, Array.replicate_zero, List.push_toArray, List.append_toArray, List.nil_append, List.cons_append]
 gi_wp2_with fail
 refine ⟨trivial, ?_⟩
 rw [← HW1.out]
 clear HW1
 clear HW1
 refine (callsIn_wide.2 (mRows_any HX.out.1 HX.out.2 (by omega) hN hr hK)).mono ?_
 rintro _ W2 ⟨A2, n2, c2, LL, kk, rfl, ho, hv, hb2⟩
 have HB2 := Lib.hid (HB.out.trans (hb2.mono HB.out.size))
 by_cases h0 : kk = 0
 case neg =>
  have hkb : (kk == 0) = false := by simp [h0]
  have HV := Lib.hid (show chk d RR ≠ 0 ∧ kk = chk d RR from hv.out.elim (fun e => absurd e.2.2 h0) (fun e => ⟨e.1, e.2.2⟩))
  clear ho hb2 hv
  gi_wp2
  refine ⟨.tuple #[.int .i64 0, .int .i64 kk], ?_, ⟨0, kk, rfl, Lib.hid (.inr ⟨HV.out.1, rfl, HV.out.2⟩), HB2.out⟩⟩
  simp [results, Tryz.f81, go_sem]
 have HC := Lib.hid (show chk d RR = 0 ∧ LL = ent d RR from hv.out.elim (fun e => ⟨e.1, e.2.1⟩) (fun e => absurd (e.2.2.symm.trans h0) e.1))
 subst h0
 obtain ⟨XX, hG, hXX⟩ := ho.grid
 have hnm : n2 ≤ maxLen := by
  rcases ho.form with ⟨_, rfl, _⟩ | ⟨_, _, _, _, h3, h4⟩
  ·exact Nat.zero_le _
  ·exact Nat.le_trans h3 h4
 clear hv ho
 gi_wp2_with (refine ⟨trivial, ?_⟩; gi_at_call 117; refine (callsIn_wide.2 (eachQ_any _)).mono ?_; rintro e w' ⟨rfl, rfl⟩)
 obtain ⟨W3, HW3⟩ : ∃ W, W = (W2.alloc (.cells #[.slice none 0 0] 72)).alloc (.cells #[.slice A2 n2 c2] 148) := ⟨_, rfl⟩
 have hb3 : Below W2.heap.size W2 W3 := by rw [HW3]; exact ((Below.refl _ _).alloc (Nat.le_refl _) _).alloc (by simp) _
 have hsz : W3.heap.size = W2.heap.size + 2 := by rw [HW3]; simp
 have hbx : Boxed W3 W2.heap.size 72 (.slice none 0 0) := by rw [HW3]; exact (Boxed.new W2 _ _).alloc _
 have hbs : Boxed W3 (W2.heap.size + 1) 148 (.slice A2 n2 c2) := by
  rw [HW3]
  have := Boxed.new (W2.alloc (.cells #[.slice none 0 0] 72)) 148 (.slice A2 n2 c2)
  simpa using this
 have HI0 := Lib.hid (show AllI (W0 := W2) (b := W1.heap.size) W3.heap.size W2.heap.size (W2.heap.size + 1) (.slice A2 n2 c2) [] W3 from
  ⟨⟨none, 0, [], hbx, World.ownsRow_nil _ _ _ _, rfl, ⟨rfl, fun j e z he _ => by simp at he⟩⟩, hbs, hb3, Nat.le_refl _⟩)
 have HSQ := Lib.hid (eachQ_stops 3 (by omega) (W2.heap.size + 1) W2.heap.size hnm W3 (by omega) (by omega) (hG.below hb3) hbs.cell)
 have HXX := Lib.hid hXX
 have HTOT := Lib.hid (show XX.flatten.length ≤ 1048576 by
  have e : XX.flatten.length = (XX.flatten.map (fun x => x.1.2)).length := (List.length_map ..).symm
  rw [e, List.map_flatten, hXX, HC.out.2]
  have h1 := flatten_le (K := K) (ent d RR) (fun L hL => (HE.out (chk_zero HC.out.1).1 L hL).1)
  rw [ent_len, HL.out] at h1
  omega)
 have HBW := Lib.hid hb2.size
 rw [← HW3]
 clear HW3 hbx hbs hb3 hG hXX hb2 HX
 apply rangeFunc_box (n := 4) (P := Tryz.prog) (by omega) (gf := 168) (lb := #[.pointer (some ⟨W2.heap.size + 1, 0, none⟩)]) rfl (enters_of Tryz.func168 (by kernel_rfl) rfl)
  HSQ.out (by omega) (by omega) rfl (AllI W3.heap.size W2.heap.size (W2.heap.size + 1) (.slice A2 n2 c2)) (AllI.own (by omega)) (fun _ _ hh => hh.s) HI0.out 47 (fun x => #[.bool x.1.1.1.1, .slice x.1.1.1.2.1 x.1.1.1.2.2.1 x.1.1.1.2.2.2, .bool x.1.1.2.1, .slice x.1.1.2.2.1 x.1.1.2.2.2.1 x.1.1.2.2.2.2])
 case hassign =>
  intro l x W K B hB hK
  unfold gQ
  gi_wp2
  rw [← hB]
  exact hK
 case hbody =>
  rintro l pre x B W ⟨⟨A', c', E, h1, h2, h3, h4⟩, h5, h6, h7⟩ hB hx hlen
  have hq : QC W B x.1.1.1.1 x.1.1.1.2.1 x.1.1.1.2.2.1 x.1.1.1.2.2.2 x.1.1.2.1 x.1.1.2.2.1 x.1.1.2.2.2.1 x.1.1.2.2.2.2 := hx
  have k0 := h1.cell
  have q0 := hq.c0
  have q1 := hq.c1
  have q2 := hq.c2
  have q3 := hq.c3
  have hlen2 : pre.length < 1048576 := Nat.lt_of_lt_of_le hlen HTOT.out
  have HST := Lib.hid (show ∀ (w1 : World) (v' : Value), w1.ownsRow W2.heap.size 47 4 v' (pre.length + 1) (qcs E ++ [.bool x.1.1.1.1, .slice x.1.1.1.2.1 x.1.1.1.2.2.1 x.1.1.1.2.2.2, .bool x.1.1.2.1, .slice x.1.1.2.2.1 x.1.1.2.2.2.1 x.1.1.2.2.2.2]) → (W.alloc (.cells #[.bool x.1.1.1.1, .slice x.1.1.1.2.1 x.1.1.1.2.2.1 x.1.1.1.2.2.2, .bool x.1.1.2.1, .slice x.1.1.2.2.1 x.1.1.2.2.2.1 x.1.1.2.2.2.2] 47)).grownBy w1 (Value.slice A' pre.length c').ownBlock → _ from fun w1 v' => AllI.step (m := W3.heap.size) (Ba := W2.heap.size) (Bs := W2.heap.size + 1) (gv := .slice A2 n2 c2) (x := x) (w1 := w1) (v' := v') (t := 47) (Nat.le_refl _) (by omega) h1 h2 h3 h4 h5 h6 h7)
  have H2 := Lib.hid (h2.alloc (.cells #[.bool x.1.1.1.1, .slice x.1.1.1.2.1 x.1.1.1.2.2.1 x.1.1.1.2.2.2, .bool x.1.1.2.1, .slice x.1.1.2.2.1 x.1.1.2.2.2.1 x.1.1.2.2.2.2] 47))
  have hsW : W2.heap.size ≤ W.heap.size := h6.size
  clear h1 h2 h3 h4 h5 h6 h7 hq hx
  gi_wp2_with (gi_at_builtin; refine wpListIn_append_own _ rfl _ _ 72 rfl W2.heap.size 47 i0 (.agg #[.bool false, .slice none 0 0, .bool false, .slice none 0 0]) 4 64 Tryz.underlying72 hi hz0 hz1 hz2 rfl (by decide) _ _ _ rfl H2.out ⟨W.heap.size, 0, none⟩ 1 1 [.bool x.1.1.1.1, .slice x.1.1.1.2.1 x.1.1.1.2.2.1 x.1.1.1.2.2.2, .bool x.1.1.2.1, .slice x.1.1.2.2.1 x.1.1.2.2.2.1 x.1.1.2.2.2.2] rfl rfl (qcell_new W _ _ _ _ _) (by simp [Value.oneCell']) (by unfold maxLen; omega) (by omega) (by simp; omega) ?_; intro v' w1 hown' hgrow _; obtain ⟨A9, c9, rfl, k1, k2, k3, k4⟩ := HST.out _ _ hown' hgrow; have kc := k1.cell; have kf := k1.frozen; have HK := Lib.hid (And.intro k2 (And.intro k3 k4)); clear hown' hgrow k0 q0 q1 q2 q3 k1 k2 k3 k4)
  exact ⟨HK.out.2.1.from _, HK.out.2.2, HK.out.1⟩
 case hdone =>
  rintro D ys W hD rfl ⟨⟨A', c', E, h1, h2, h3, h4⟩, h5, h6, h7⟩ hK
  obtain ⟨q, hqq⟩ : ∃ q, XX.flatten.length = q := ⟨_, rfl⟩
  rw [hqq] at h1 h2 h3
  have HQ := Lib.hid (show q ≤ 1048576 by rw [← hqq]; exact HTOT.out)
  clear hqq
  have k0 := h1.cell
  have hlD : D < W.heap.size := (Array.getElem?_eq_some_iff.1 hK).1
  have hflat : XX.flatten.map (fun x => x.1.2) = (ent d RR).flatten := by rw [List.map_flatten, HXX.out, HC.out.2]
  have HO := Lib.hid (show OwQs W W1.heap.size A' q c' (ent d RR).flatten from ⟨E, row_base h2 HBW.out, h3, by rw [← hflat]; exact h4⟩)
  have HR := Lib.hid (HO.out.p.rd (N := N) (fun x hx => by
   obtain ⟨L, hL, hx⟩ := List.mem_flatten.1 hx
   exact (HE.out (chk_zero HC.out.1).1 L hL).2 x hx))
  have HKD := Lib.hid hK
  have H6 := Lib.hid (And.intro h6 h7)
  clear h1 h2 h3 h4 h5 h6 h7 hflat hK
  gi_wp2_with fail
  refine ⟨trivial, ?_⟩
  refine (callsIn_wide.2 (qheight_any HR.out (fun p hp => by
   obtain ⟨x, _, rfl⟩ := List.mem_map.1 hp
   exact pr_ne x) HQ.out hN h1N)).mono ?_
  rintro _ W9 ⟨v, kk, rfl, hv, hb9⟩
  have HV := Lib.hid (show v = (ht (ent d RR).flatten : Int) ∧ kk = 0 by rw [map_qval_pr] at hv; exact hv.out)
  have HK9 := Lib.hid ((hb9.block D hlD).trans HKD.out)
  have HB9 := Lib.hid (HB2.out.trans ((H6.out.1.trans (hb9.mono H6.out.1.size)).mono HB2.out.size))
  clear hv hb9 k0
  gi_wp2
  refine ⟨by simp, .inl ⟨_, _, rfl, run_takeDeferred HK9.out, ?_⟩⟩
  refine ⟨.tuple #[.int .i64 v, .int .i64 kk], ?_, ⟨v, kk, rfl, Lib.hid (.inl ⟨HC.out.1, HV.out.1, HV.out.2⟩), ?_⟩⟩
  ·simp [results, Tryz.f81, go_sem]
  ·exact HB9.out.trans (belowK_b (w := w) (Nat.le_refl _) _ D _ _ (by have h1 := HB2.out.size; omega) HK9.out rfl rfl)
end Go.Proofs.YtjnklbfhelbjgaaGreat

/- A matrix over one denominator, and in normal form (plain). -/
namespace Go.Proofs.YtjnklbfhelbjgaaGreat
def mg (LL : List (List Int)) : Int := LL.flatten.foldl (fun (g x : Int) => (Int.gcd g x : Int)) 0
def mG (d : Int) (LL : List (List Int)) : Int := if d < 0 then -(if mg LL = 0 then (d.natAbs : Int) else (Int.gcd (mg LL) d : Int)) else (if mg LL = 0 then (d.natAbs : Int) else (Int.gcd (mg LL) d : Int))
theorem gfold_dvd (L : List Int) : ∀ g : Int, (L.foldl (fun (g x : Int) => (Int.gcd g x : Int)) g ∣ g) ∧ ∀ x ∈ L, L.foldl (fun (g x : Int) => (Int.gcd g x : Int)) g ∣ x := by
 induction L with
 | nil => intro g; exact ⟨Int.dvd_refl _, fun x h => by cases h⟩
 | cons y L ih =>
   intro g
   rw [List.foldl_cons]
   have h := ih (Int.gcd g y : Int)
   refine ⟨Int.dvd_trans h.1 (Int.gcd_dvd_left ..), fun x hx => ?_⟩
   rcases List.mem_cons.1 hx with rfl | hx
   ·exact Int.dvd_trans h.1 (Int.gcd_dvd_right ..)
   ·exact h.2 x hx
theorem mg_dvd {LL : List (List Int)} {L : List Int} {x : Int} (h : L ∈ LL) (hx : x ∈ L) : mg LL ∣ x := (gfold_dvd LL.flatten 0).2 x (List.mem_flatten.2 ⟨L, h, hx⟩)
theorem mG_ne {d : Int} {LL : List (List Int)} (hd : d ≠ 0) : mG d LL ≠ 0 := by
 have h1 : (if mg LL = 0 then (d.natAbs : Int) else (Int.gcd (mg LL) d : Int)) ≠ 0 := by
  split
  ·omega
  ·have := Int.gcd_pos_of_ne_zero_right (mg LL) hd
   omega
 unfold mG
 split
 ·omega
 ·exact h1
theorem mG_of {d : Int} {LL : List (List Int)} {z : Int} (h : (if mg LL = 0 then (d.natAbs : Int) else (Int.gcd (mg LL) d : Int)) ∣ z) : mG d LL ∣ z := by
 unfold mG
 split
 ·exact Int.neg_dvd.2 h
 ·exact h
theorem mG_den (d : Int) (LL : List (List Int)) : mG d LL ∣ d := mG_of (by
 split
 ·exact Int.natAbs_dvd.2 (Int.dvd_refl _)
 ·exact Int.gcd_dvd_right ..)
theorem mG_num {d : Int} {LL : List (List Int)} {L : List Int} {x : Int} (h : L ∈ LL) (hx : x ∈ L) : mG d LL ∣ x := mG_of (by
 have h1 := mg_dvd h hx
 split
 ·rename_i h0
  rw [h0] at h1
  rw [Int.zero_dvd.1 h1]
  exact Int.dvd_zero _
 ·exact Int.dvd_trans (Int.gcd_dvd_left ..) h1)
def mN (d : Int) (LL : List (List Int)) : List (List Int) := LL.map fun L => L.map fun x => x.tdiv (mG d LL)
end Go.Proofs.YtjnklbfhelbjgaaGreat

/- What the rounds of qmat.made hold. -/
namespace Go.Proofs.YtjnklbfhelbjgaaGreat
open Go.RowKit Go.IntWalk Go.Shelf
theorem below_others {W W' : World} (hb : Below W.heap.size W W') : KeepsOthers W W' := ⟨hb.size, fun k _ hk _ => (hb.block k (Array.getElem?_eq_some_iff.1 hk).1).trans hk⟩
theorem RdRss.grid {w : World} {B N K : Nat} {A : Option Addr} {n c : Nat} {RR : List RawRow} (h : RdRss w B N K A n c RR) (hN : N ≤ 400000000000) : ∃ XX : List (List (GZ w B)), GridZ w B A n XX ∧ XX.map (fun r => r.map (fun x => x.1.2)) = RR := by
 obtain ⟨XX, h1, h2⟩ := exists_list (P := fun (i : Nat) (row : List (GZ w B)) => (∃ (ad : Addr) (A1 : Option Addr) (n1 c1 : Nat), A = some ad ∧ ad.block < B ∧ w.cell? (ad.add i) = some (.slice A1 n1 c1) ∧ row.length = n1 ∧ n1 ≤ maxLen ∧
   ∀ (j : Nat) (x : GZ w B), row[j]? = some x → ∃ ad1 : Addr, A1 = some ad1 ∧ ad1.block < B ∧ w.cell? (ad1.add (j * 2)) = some (.bool x.1.1.1) ∧ w.cell? ⟨(ad1.add (j * 2)).block, (ad1.add (j * 2)).off + 1, none⟩ = some (.slice x.1.1.2.1 x.1.1.2.2.1 x.1.1.2.2.2)) ∧ RR[i]? = some (row.map (fun x => x.1.2))) n (fun i hi => by
  obtain ⟨ad, A1, n1, c1, R, rfl, e2, e3, e4, _, e5⟩ := rss_at h hi
  obtain ⟨row, r1, r2⟩ := exists_list (P := fun (j : Nat) (x : GZ w B) => (∃ ad1 : Addr, A1 = some ad1 ∧ ad1.block < B ∧ w.cell? (ad1.add (j * 2)) = some (.bool x.1.1.1) ∧ w.cell? ⟨(ad1.add (j * 2)).block, (ad1.add (j * 2)).off + 1, none⟩ = some (.slice x.1.1.2.1 x.1.1.2.2.1 x.1.1.2.2.2)) ∧ R[j]? = some x.1.2) n1 (fun j hj => by
   obtain ⟨ad1, s, M, A', n', c', q1, q2, q3, q4, q5, q6, q7⟩ := rs_at e4 hj
   exact ⟨⟨((s, A', n', c'), (s, M)), rfl, q5, Nat.le_trans q6 hN⟩, ⟨ad1, q1, q2, q3, q4⟩, q7.out⟩)
  refine ⟨row, ⟨ad, A1, n1, c1, rfl, e2, e3, r1, Nat.le_trans e4.le e4.mx, fun j x hx => (r2 j x hx).1⟩, ?_⟩
  rw [e5.out]
  congr 1
  exact (map_of_get (by rw [r1, e4.len]) fun j x hx => (r2 j x hx).2).symm)
 exact ⟨XX, ⟨h1, fun i row hi => (h2 i row hi).1⟩, map_of_get (by rw [h1, h.len]) fun i row hi => (h2 i row hi).2⟩
def gz {W0 : World} {b : Nat} (pre : List (GZ W0 b)) : Int := (pre.map fun x => toZ x.1.2).foldl (fun (g x : Int) => (Int.gcd g x : Int)) 0
theorem gz_snoc {W0 : World} {b : Nat} (pre : List (GZ W0 b)) (x : GZ W0 b) : gz (pre ++ [x]) = (Int.gcd (gz pre) (toZ x.1.2) : Int) := by
 unfold gz
 rw [List.map_append, List.foldl_append]
 rfl
def zss (RR : List RawRow) : List (List Int) := RR.map fun R => R.map toZ
theorem gz_all {W0 : World} {b : Nat} {XX : List (List (GZ W0 b))} {RR : List RawRow} (h : XX.map (fun r => r.map (fun x => x.1.2)) = RR) : gz XX.flatten = mg (zss RR) := by
 unfold gz mg zss
 rw [← h]
 congr 1
 rw [List.map_flatten, List.map_map]
 congr 1
 refine List.map_congr_left fun r _ => ?_
 show r.map _ = (r.map _).map toZ
 rw [List.map_map]
 rfl
structure MgW (w : World) (sd : Bool) (Ad : Option Addr) (nd cd : Nat) (gv : Value) (y : Int) (W : World) : Prop where
 g : ∃ (s : Bool) (A : Option Addr) (n c : Nat), ZC W (w.heap.size + 1 + 1) s A n c ∧ OwZ W w.heap.size s A n c y
 d : ZC W w.heap.size sd Ad nd cd
 r : MC W (w.heap.size + 1) false none 0 0 none 0 0
 bs : Boxed W (w.heap.size + 1 + 1 + 1) 165 gv
 lo : Below w.heap.size w W
 s : w.heap.size + 4 ≤ W.heap.size
section
variable {w : World} {sd : Bool} {Ad : Option Addr} {nd cd : Nat} {gv : Value} {y : Int} {W W' : World}
theorem MgW.own : OwnFrom (w.heap.size + 4) (fun (y : Int) W => MgW w sd Ad nd cd gv y W) := fun y W W' row hs hg hr => by
 obtain ⟨⟨s, A, n, c, h1, h2⟩, h3, h4, h5, h6, h7⟩ := hs
 have hk := keepC_own hg (fun r e => (hr r e).2)
 exact ⟨⟨s, A, n, c, hk _ _ _ _ h1, h2.keep hk.q.1⟩, hk _ _ _ _ h3, hk _ _ _ _ h4, hk _ _ _ _ h5, h6.grown hg h6.size (fun r e => Nat.le_trans (by omega) (hr r e).1), Nat.le_trans h7 hg.size⟩
theorem MgW.next (h : MgW w sd Ad nd cd gv y W) (hb : Below W.heap.size W W') : MgW w sd Ad nd cd gv y W' := by
 obtain ⟨⟨s, A, n, c, h1, h2⟩, h3, h4, h5, h6, h7⟩ := h
 exact ⟨⟨s, A, n, c, h1.next hb, h2.next hb⟩, h3.next hb, h4.next hb, (hb.block _ h5.lt).trans h5, h6.trans (hb.mono h6.size), Nat.le_trans h7 hb.size⟩
theorem MgW.put (h : MgW w sd Ad nd cd gv y W) {s' : Bool} {A' : Option Addr} {n' c' : Nat} {y' : Int} (ho : OwZ W w.heap.size s' A' n' c' y') : MgW w sd Ad nd cd gv y' ((W.setCell ⟨w.heap.size + 1 + 1, 0, none⟩ (.bool s')).setCell ⟨w.heap.size + 1 + 1, 1, none⟩ (.slice A' n' c')) := by
 obtain ⟨⟨s, A, n, c, h1, h2⟩, h3, h4, h5, h6, h7⟩ := h
 refine ⟨⟨s', A', n', c', h1.store s' A' n' c', ho.keep (keep_set2 h1 _ _)⟩, (h3.far (p := ⟨w.heap.size + 1 + 1, 0, none⟩) (by simp; omega) _).far (p := ⟨w.heap.size + 1 + 1, 1, none⟩) (by simp; omega) _, (h4.far (p := ⟨w.heap.size + 1 + 1, 0, none⟩) (by simp) _).far (p := ⟨w.heap.size + 1 + 1, 1, none⟩) (by simp) _, ?_, below_put2 h6 (by omega) _ _, by simpa [World.setCell] using h7⟩
 unfold Boxed
 rw [Below.heap_setCell _ (⟨w.heap.size + 1 + 1, 1, none⟩ : Addr) _ _ (by simp), Below.heap_setCell _ (⟨w.heap.size + 1 + 1, 0, none⟩ : Addr) _ _ (by simp)]
 exact h5
theorem MgW.kept (h : MgW w sd Ad nd cd gv y W) (hb : Below W.heap.size W W') (x z : Value) : KeepsOthers W ((W'.setCell ⟨w.heap.size + 1 + 1, 0, none⟩ x).setCell ⟨w.heap.size + 1 + 1, 1, none⟩ z) ∧ KpO w.heap.size (w.heap.size + 1 + 1 + 1) W ((W'.setCell ⟨w.heap.size + 1 + 1, 0, none⟩ x).setCell ⟨w.heap.size + 1 + 1, 1, none⟩ z) := by
 refine ⟨((below_others hb).trans (KeepsOthers.setCell _ _ _)).trans (KeepsOthers.setCell _ _ _), below_put2 (hb.mono h.lo.size) (by omega) _ _, ?_⟩
 rw [Below.heap_setCell _ (⟨w.heap.size + 1 + 1, 1, none⟩ : Addr) _ _ (by simp), Below.heap_setCell _ (⟨w.heap.size + 1 + 1, 0, none⟩ : Addr) _ _ (by simp)]
 exact hb.block _ h.bs.lt
end
theorem make_iroom (k : Nat) (hk : k ≤ 1099511627776) (w : World) :
  (Instr.makeSlice 65 (.int .i64 0) (.int .i64 (k : Int))).run Tryz.prog w = .ok (.slice (some ⟨w.heap.size, 0, none⟩) 0 k) (w.alloc (.cells (madeCells #[.bool false, .slice none 0 0] (k * 2)) 25)) := by
 obtain ⟨i, hi, hz, hs, hb⟩ := info_parts infoZ
 have hr := run_make (P := Tryz.prog) w 65 25 i _ Tryz.underlying65 hi hz .i64 .i64 0 k (by omega) (by omega) (by rw [hb]; omega) (by omega)
 rw [hs] at hr
 exact hr
theorem OwZs.room (w : World) (k : Nat) (hk : k ≤ maxLen) : OwZs (w.alloc (.cells (madeCells #[.bool false, .slice none 0 0] (k * 2)) 25)) w.heap.size (some ⟨w.heap.size, 0, none⟩) 0 k [] :=
 ⟨[], ⟨rfl, .inr ⟨w.heap.size, k, _, rfl, Nat.le_refl _, heap_alloc_new w _, Nat.zero_le _, hk, by simp [madeCells], rfl⟩⟩, rfl, rfl, fun j e z he _ => by simp at he⟩
def RetMt (d : Int) (LL : List (List Int)) (w : World) (e : Ending) (w' : World) : Prop :=
 ∃ (s : Bool) (A : Option Addr) (n c : Nat) (G : Option Addr) (r k : Nat) (y : Int) (MM : List (List Int)), e = .returned (.agg #[.bool s, .slice A n c, .slice G r k]) ∧ OwZ w' w.heap.size s A n c y ∧ OwMs w' w.heap.size G r k MM ∧ Hid (y = d ∧ MM = LL) ∧ Below w.heap.size w w'
theorem OwMs.keepC {W W' : World} {b r k : Nat} {G : Option Addr} {LL : List (List Int)} (h : OwMs W b G r k LL) (hk : KeepC W W') : OwMs W' b G r k LL := by
 obtain ⟨E, h1, h2, h3⟩ := h
 exact ⟨E, hk.row h1, h2, h3.keep hk.i⟩
end Go.Proofs.YtjnklbfhelbjgaaGreat
