/- qpoly.div along told divisions of integer polynomials. -/
import Derived.Test.YtjnklbfhelbjgaaGreatSn20
import Derived.Test.YtjnklbfhelbjgaaGreatSn21
import Derived.Test.YtjnklbfhelbjgaaGreatSn16
import Derived.Test.YtjnklbfhelbjgaaGreatSn08
import Derived.Test.YtjnklbfhelbjgaaGreatSn17
/- qpoly.Squarefree at the document's example. -/
namespace Go.Proofs.YtjnklbfhelbjgaaGreat
open Go.RowKit Go.IntWalk
attribute [local go_sem ↓] Go.wp_at_zero Go.wp_at_succ
section
variable {w w' : World} {g b : Nat} {s s' : Bool} {A A' Al : Option Addr} {n c n' c' nl cl : Nat}
theorem heap_grown {w1 : World} {e t : TypeId} {k i : Nat} {v : Value} {xs : List Value} {cs : Array Value} {f : Nat × Nat} (hE : w.ownsRow b e k v n xs) (hg : w.grownBy w1 v.ownBlock) (hi : w.heap[i]? = some (.cells cs t f)) (ht : t ≠ e) : w1.heap[i]? = some (.cells cs t f) := by
 rw [← hi]
 refine hg.block i (Array.getElem?_eq_some_iff.1 hi).1 ?_
 rcases hE.2 with ⟨h1, _⟩ | ⟨g, cap, cur, h1, h2, h3, _⟩
 ·rw [h1]
  intro e0
  cases e0
 ·rw [h1]
  intro e0
  cases e0
  rw [hi] at h3
  injection h3 with h3
  injection h3 with _ h3
  exact ht h3
end
end Go.Proofs.YtjnklbfhelbjgaaGreat

/- qpoly.norms at three polynomials. -/
namespace Go.Proofs.YtjnklbfhelbjgaaGreat
open Go.RowKit Go.IntWalk
attribute [local go_sem ↓] Go.wp_at_zero Go.wp_at_succ
def PC (w : World) (g : Nat) (A : Option Addr) (n c : Nat) (A' : Option Addr) (n' c' : Nat) (A'' : Option Addr) (n'' c'' : Nat) : Prop := w.heap[g]? = some (.cells #[.slice A n c, .slice A' n' c', .slice A'' n'' c''] 262 (0, 0))
structure Ow3 (w : World) (b : Nat) (A : Option Addr) (n c : Nat) (A' : Option Addr) (n' c' : Nat) (A'' : Option Addr) (n'' c'' : Nat) (P Q R : List Rat) : Prop where
 p : OwQp w b A n c P
 q : OwQp w b A' n' c' Q
 r : OwQp w b A'' n'' c'' R
section
variable {w w' : World} {g b b' B : Nat} {A A' A'' : Option Addr} {n c n' c' n'' c'' : Nat} {P Q R : List Rat}
theorem PC.lt (h : PC w g A n c A' n' c' A'' n'' c'') : g < w.heap.size := (Array.getElem?_eq_some_iff.1 h).1
theorem PC.c0 (h : PC w g A n c A' n' c' A'' n'' c'') : w.cell? ⟨g, 0, none⟩ = some (.slice A n c) := by rw [cell_of_row w g 0 _ _ _ h]; rfl
theorem PC.c1 (h : PC w g A n c A' n' c' A'' n'' c'') : w.cell? ⟨g, 1, none⟩ = some (.slice A' n' c') := by rw [cell_of_row w g 1 _ _ _ h]; rfl
theorem PC.c2 (h : PC w g A n c A' n' c' A'' n'' c'') : w.cell? ⟨g, 2, none⟩ = some (.slice A'' n'' c'') := by rw [cell_of_row w g 2 _ _ _ h]; rfl
theorem PC.fz (h : PC w g A n c A' n' c' A'' n'' c'') (j : Nat) : w.frozen? ⟨g, j, none⟩ = false := frozen_of_row w g j _ _ h
theorem PC.next (h : PC w g A n c A' n' c' A'' n'' c'') (hb : Below w.heap.size w w') : PC w' g A n c A' n' c' A'' n'' c'' := (hb.block g h.lt).trans h
theorem PC.new (w : World) (A : Option Addr) (n c : Nat) (A' : Option Addr) (n' c' : Nat) (A'' : Option Addr) (n'' c'' : Nat) : PC (w.alloc (.cells #[.slice A n c, .slice A' n' c', .slice A'' n'' c''] 262)) w.heap.size A n c A' n' c' A'' n'' c'' := heap_alloc_new w _
theorem PC.grown {w1 : World} {m : Nat} {xs : List Value} {v : Value} {k : Nat} (h : PC w g A n c A' n' c' A'' n'' c'') (hE : w.ownsRow b 73 k v m xs) (hg : w.grownBy w1 v.ownBlock) : PC w1 g A n c A' n' c' A'' n'' c'' := heap_grown hE hg h (by decide)
def putP (w : World) (g : Nat) (A : Option Addr) (n c : Nat) (A' : Option Addr) (n' c' : Nat) (A'' : Option Addr) (n'' c'' : Nat) : World := ((w.setCell ⟨g, 0, none⟩ (.slice A n c)).setCell ⟨g, 1, none⟩ (.slice A' n' c')).setCell ⟨g, 2, none⟩ (.slice A'' n'' c'')
theorem PC.store (h : PC w g A n c A' n' c' A'' n'' c'') (D : Option Addr) (k m : Nat) (D' : Option Addr) (k' m' : Nat) (D'' : Option Addr) (k'' m'' : Nat) : PC (putP w g D k m D' k' m' D'' k'' m'') g D k m D' k' m' D'' k'' m'' := by
 unfold PC putP at *
 simp [World.setCell, Array.getElem?_modify, h]
theorem keep_putP (h : PC w g A n c A' n' c' A'' n'' c'') (D : Option Addr) (k m : Nat) (D' : Option Addr) (k' m' : Nat) (D'' : Option Addr) (k'' m'' : Nat) : KeepQ w (putP w g D k m D' k' m' D'' k'' m'') := by
 have key : ∀ (i : Nat) (cs : Array Value) (t : TypeId) (f : Nat × Nat), t ≠ 262 → w.heap[i]? = some (.cells cs t f) → (putP w g D k m D' k' m' D'' k'' m'').heap[i]? = some (.cells cs t f) := fun i cs t f ht e => by
  have hne : i ≠ g := by
   rintro rfl
   unfold PC at h
   rw [h] at e
   injection e with e
   injection e with _ e
   exact ht e.symm
  unfold putP
  rw [Below.heap_setCell _ (⟨g, 2, none⟩ : Addr) _ i hne, Below.heap_setCell _ (⟨g, 1, none⟩ : Addr) _ i hne, Below.heap_setCell _ (⟨g, 0, none⟩ : Addr) _ i hne]
  exact e
 exact ⟨fun i cs f => key i cs _ f (by decide), fun i cs f => key i cs _ f (by decide)⟩
theorem below_putP (hb : Below B w w') (hg : B ≤ g) (D : Option Addr) (k m : Nat) (D' : Option Addr) (k' m' : Nat) (D'' : Option Addr) (k'' m'' : Nat) : Below B w (putP w' g D k m D' k' m' D'' k'' m'') :=
 ((hb.setCell (p := ⟨g, 0, none⟩) hg _).setCell (p := ⟨g, 1, none⟩) hg _).setCell (p := ⟨g, 2, none⟩) hg _
theorem Ow3.keep (h : Ow3 w b A n c A' n' c' A'' n'' c'' P Q R) (hk : KeepQ w w') : Ow3 w' b A n c A' n' c' A'' n'' c'' P Q R := ⟨h.p.keep hk, h.q.keep hk, h.r.keep hk⟩
end
def RetP3 (b : Nat) (Φ : List Rat → List Rat → List Rat → Int → Prop) (w : World) (e : Ending) (w' : World) : Prop :=
 ∃ (A : Option Addr) (n c : Nat) (P : List Rat) (A' : Option Addr) (n' c' : Nat) (Q : List Rat) (A'' : Option Addr) (n'' c'' : Nat) (R : List Rat) (kk : Int), e = .returned (.tuple #[.agg #[.slice A n c, .slice A' n' c', .slice A'' n'' c''], .int .i64 kk]) ∧ Ow3 w' b A n c A' n' c' A'' n'' c'' P Q R ∧ Hid (Φ P Q R kk) ∧ Below w.heap.size w w'
set_option maxRecDepth 100000 in
set_option maxHeartbeats 8000000 in
theorem norms_pair {f N K : Nat} {A : Option Addr} {n c : Nat} {LL : List (List (Int × Int))} {w : World} {Φ : List Rat → List Rat → List Rat → Int → Prop} (h : RdPs w w.heap.size N K A n c LL) (hn : n ≤ 1048576) (hK : K ≤ 1048576) (hN : N ≤ 1000000000000) (h1N : 1 ≤ N) (heg : ∀ args w, (callFunc f args).run Tryz.prog w = .ok (.enter f args) w)
  (hdo : (∀ L ∈ LL, ∀ p ∈ L, p.2 ≠ 0) → ∀ (W : World) (A' : Option Addr) (c' : Nat), Below w.heap.size w W → OwPs W w.heap.size A' n c' (LL.map nq) → Calls Tryz.prog f #[.slice A' n c'] W (RetP3 w.heap.size Φ W)) :
  Calls Tryz.prog 255 #[.slice A n c, .func (.func f) #[] #[]] w (fun e w' => ((∀ L ∈ LL, ∀ p ∈ L, p.2 ≠ 0) ∧ RetP3 w.heap.size Φ w e w') ∨ ((∃ L ∈ LL, ∃ p ∈ L, p.2 = 0) ∧ e = .returned (.tuple #[.agg #[.slice none 0 0, .slice none 0 0, .slice none 0 0], .int .i64 6]) ∧ Below w.heap.size w w')) := by
 have HD := Lib.hid hdo
 have HLEN := Lib.hid h.len
 obtain ⟨i0, hi, hz0, hz1, hz2⟩ := info_parts infoPoly
 have hb1 : Below w.heap.size w ((w.alloc (.cells #[.slice none 0 0, .slice none 0 0, .slice none 0 0] 262)).alloc (.cells #[.slice none 0 0, .slice none 0 0, .slice none 0 0] 262)) := ((Below.refl _ _).alloc (Nat.le_refl _) _).alloc (by simp) _
 have hR0 : PC ((w.alloc (.cells #[.slice none 0 0, .slice none 0 0, .slice none 0 0] 262)).alloc (.cells #[.slice none 0 0, .slice none 0 0, .slice none 0 0] 262)) w.heap.size none 0 0 none 0 0 none 0 0 := (PC.new w none 0 0 none 0 0 none 0 0).next ((Below.refl _ _).alloc (Nat.le_refl _) _)
 have hZ0 : PC ((w.alloc (.cells #[.slice none 0 0, .slice none 0 0, .slice none 0 0] 262)).alloc (.cells #[.slice none 0 0, .slice none 0 0, .slice none 0 0] 262)) (w.heap.size + 1) none 0 0 none 0 0 none 0 0 := by have := PC.new (w.alloc (.cells #[.slice none 0 0, .slice none 0 0, .slice none 0 0] 262)) none 0 0 none 0 0 none 0 0; simpa using this
 have HR0 := Lib.hid (And.intro hb1 (And.intro hR0 hZ0))
 clear hdo hb1 hR0 hZ0
 go_enter Tryz.func255, Tryz.ntmps255
 go_wp2_with fail
 generalize (w.alloc (.cells #[.slice none 0 0, .slice none 0 0, .slice none 0 0] 262)).alloc (.cells #[.slice none 0 0, .slice none 0 0, .slice none 0 0] 262) = W1 at *
 obtain ⟨gz, hgz⟩ : ∃ g, g = w.heap.size + 1 := ⟨_, rfl⟩
 rw [← hgz] at HR0 ⊢
 have HGZ := Lib.hid hgz
 clear hgz
 go_loopw [7, 14] (fun ov iv wr => ∃ (j c' : Nat) (A' : Option Addr) (M : List (List Rat)), ov = .slice A' j c' ∧ iv = .int .i64 j ∧ j ≤ n ∧ OwPs wr w.heap.size A' j c' M ∧ Hid (M = (LL.take j).map nq) ∧ Hid (∀ (i : Nat) (L : List (Int × Int)), i < j → LL[i]? = some L → ∀ p ∈ L, p.2 ≠ 0) ∧ Hid (PC wr w.heap.size none 0 0 none 0 0 none 0 0 ∧ PC wr gz none 0 0 none 0 0 none 0 0) ∧ Below w.heap.size w wr) (fun _ iv _ => n - (intOf iv).toNat)
 case atStart => exact ⟨0, 0, none, [], rfl, rfl, Nat.zero_le _, OwPs.nil _ _, Lib.hid rfl, Lib.hid fun i p hi => absurd hi (Nat.not_lt_zero _), Lib.hid HR0.out.2, HR0.out.1⟩
 case round =>
  obtain ⟨j, c', A', M, rfl, rfl, hj, ho, hM, hne, HX, hB⟩ := hrel
  by_cases hjn : j = n
  ·subst hjn
   have HALL := Lib.hid (show ∀ L ∈ LL, ∀ p ∈ L, p.2 ≠ 0 from fun L hp => by
    obtain ⟨i, hi, e⟩ := List.mem_iff_getElem.1 hp
    exact hne.out i L (by rw [← HLEN.out]; exact hi) (by rw [List.getElem?_eq_getElem hi, e]))
   have HO := Lib.hid (show OwPs wr w.heap.size A' j c' (LL.map nq) by rw [← List.take_of_length_le (l := LL) (by rw [HLEN.out]; exact Nat.le_refl _), ← hM.out]; exact ho)
   have HB := Lib.hid hB
   clear ho hB hM hne
   go_wp2_with fail
   refine (HD.out HALL.out wr A' c' HB.out HO.out).mono ?_
   rintro _ W5 ⟨A5, n5, c5, P5, A6, n6, c6, P6, A7, n7, c7, P7, kk, rfl, ho5, hy, hb5⟩
   have hR := HX.out.1.next hb5
   have r0 := hR.c0
   have r1 := hR.c1
   have r2 := hR.c2
   have f0 := hR.fz 0
   have f1 := hR.fz 1
   have f2 := hR.fz 2
   have HS := Lib.hid (hR.store A5 n5 c5 A6 n6 c6 A7 n7 c7)
   have HK := Lib.hid (ho5.keep (keep_putP hR A5 n5 c5 A6 n6 c6 A7 n7 c7))
   have HBF := Lib.hid (below_putP (HB.out.trans (hb5.mono HB.out.size)) (Nat.le_refl _) A5 n5 c5 A6 n6 c6 A7 n7 c7)
   have z0 := HS.out.c0
   have z1 := HS.out.c1
   have z2 := HS.out.c2
   unfold putP at HS HK HBF z0 z1 z2
   clear hR ho5 hb5
   go_wp2_with fail
   exact bodyPost_ret (by simp [results, Tryz.results255, go_sem, z0, z1, z2]) rfl (.inl ⟨HALL.out, A5, n5, c5, P5, A6, n6, c6, P6, A7, n7, c7, P7, kk, rfl, HK.out, hy, HBF.out⟩)
  ·have hjl : j < n := by omega
   clear hjn
   have hjli : (j : Int) < (n : Int) := by omega
   obtain ⟨ad, A1, n1, c1, L, rfl, hbk, hx, hr, hn1, hp⟩ := ps_at h hjl
   have hy := (hB.cell (p := ad.add j) (by rw [add_blk]; exact hbk)).trans hx
   have HR := Lib.hid (hr.next hB)
   have HO := Lib.hid ho
   clear hx hr ho
   go_wp2_with fail
   clear hy
   refine (qpnorm_any HR.out (by omega) hN h1N).mono ?_
   rintro _ W3 (⟨hall', A4, n4, c4, M4, rfl, ho4, hM4, hb3⟩ | ⟨hex, rfl, hb3⟩)
   ·have HALL := Lib.hid hall'
    have hB3 := hB.trans (hb3.mono hB.size)
    obtain ⟨E, hE, hEl, hEn⟩ := HO.out.next hb3
    have HX3 := Lib.hid (show ∀ o, (PC (W3.alloc o) w.heap.size none 0 0 none 0 0 none 0 0) ∧ PC (W3.alloc o) gz none 0 0 none 0 0 none 0 0 from fun o => ⟨(HX.out.1.next hb3).next ((Below.refl _ _).alloc (Nat.le_refl _) _), (HX.out.2.next hb3).next ((Below.refl _ _).alloc (Nat.le_refl _) _)⟩)
    have HO4 := Lib.hid (ho4.base hB.size)
    have HE := Lib.hid hE
    have HEN := Lib.hid (And.intro hEl (hEn.next ((Below.refl _ _).alloc (Nat.le_refl _) (.cells #[.slice A4 n4 c4] 73))))
    have HM2 := Lib.hid (show M ++ [M4] = (LL.take (j + 1)).map nq by rw [hM.out, hM4.out]; exact mapn_snoc hp.out)
    have HNE2 := Lib.hid (show ∀ (i : Nat) (L : List (Int × Int)), i < j + 1 → LL[i]? = some L → ∀ p ∈ L, p.2 ≠ 0 from fun i L' hi hq => by
     rcases Nat.lt_or_ge i j with h1 | h1
     ·exact hne.out i L' h1 hq
     ·rw [show i = j by omega, hp.out] at hq
      injection hq with hq
      rw [← hq]
      exact HALL.out)
    have HB3 := Lib.hid hB3
    clear hE hEl hEn hb3 ho4 hB3 hB hM4 HO hne hM hall'
    go_wp2_with (at_builtin; refine wpList_append_own _ rfl _ _ 30 rfl w.heap.size 73 i0 (.slice none 0 0) 1 24 Tryz.underlying30 hi hz0 hz1 hz2 rfl (by decide) _ _ _ rfl (HE.out.alloc _) ⟨W3.heap.size, 0, none⟩ 1 1 [.slice A4 n4 c4] rfl rfl (pcell_new _ _ _) (by simp [Value.oneCell']) (by unfold maxLen; omega) (by omega) (by have := HB3.out.size; simp; omega) ?_; intro v' w1 hown' hgrow _)
    have hmore := ps_more (e := (A4, n4, c4)) (L := M4) HO4.out rfl (HE.out.alloc _) HEN.out.1 HEN.out.2 hown' hgrow
    have HB5 := Lib.hid ((HB3.out.alloc HB3.out.size (.cells #[.slice A4 n4 c4] 73)).grown hgrow (by have := HB3.out.size; simp; omega) (own_block HE.out))
    have HX5 := Lib.hid (And.intro (PC.grown (HX3.out _).1 (HE.out.alloc _) hgrow) (PC.grown (HX3.out _).2 (HE.out.alloc _) hgrow))
    obtain ⟨A5, c5, rfl, ho5⟩ := hmore
    clear hown' hgrow HE HEN HO4
    go_wp2
    go_roundw
    case rel => exact ⟨j + 1, c5, A5, M ++ [M4], rfl, by go_num, by omega, ho5, HM2, HNE2, HX5, HB5.out⟩
    case measure => simp [intOf]; omega
   ·have HEX := Lib.hid (show ∃ L ∈ LL, ∃ p ∈ L, p.2 = 0 from ⟨L, List.mem_of_getElem? hp.out, hex⟩)
    have hR := HX.out.1.next hb3
    have hZ := HX.out.2.next hb3
    have hB3 := hB.trans (hb3.mono hB.size)
    have r0 := hR.c0
    have r1 := hR.c1
    have r2 := hR.c2
    have f0 := hR.fz 0
    have f1 := hR.fz 1
    have f2 := hR.fz 2
    have q0 := hZ.c0
    have q1 := hZ.c1
    have q2 := hZ.c2
    have HS := Lib.hid (hR.store none 0 0 none 0 0 none 0 0)
    have HBF := Lib.hid (below_putP hB3 (Nat.le_refl _) none 0 0 none 0 0 none 0 0)
    have z0 := HS.out.c0
    have z1 := HS.out.c1
    have z2 := HS.out.c2
    unfold putP at HS HBF z0 z1 z2
    clear hR hZ hB3 hB hb3
    go_wp2_with fail
    exact bodyPost_ret (by simp [results, Tryz.results255, go_sem, z0, z1, z2]) rfl (.inr ⟨HEX.out, rfl, HBF.out⟩)
end Go.Proofs.YtjnklbfhelbjgaaGreat

/- qpoly.div of what is shorter; of any two. -/
namespace Go.Proofs.YtjnklbfhelbjgaaGreat
open Go.RowKit Go.IntWalk
attribute [local go_sem ↓] Go.wp_at_zero Go.wp_at_succ
theorem wpList_append_sl {P : Program} {w : World} {ops : Array Oper} {rest : List Oper} {o : Oper} {a : Act} {Q : Exit → Act → World → Prop} (hgd : o.guard = none) (s x : Operand) (t : TypeId)
  (ho : o.op = .call { callee := .builtin .append, args := #[s, x], argTypes := #[t, t] })
  (base : Nat) (e : TypeId) (i : TypeInfo) (z : Value) (size bytes : Nat) (ht : P.underlying t = some (.slice e)) (hi : P.info? e = some i) (hz : i.zero = some z)
  (hsize : i.size = size) (hby : i.bytes = bytes) (hzs : z.cells.size = size) (hsz : 0 < size)
  (v : Value) (n : Nat) (xs : List Value) (hs : a.eval s = v) (hown : w.ownsRow base e size v n xs)
  (X : Option Addr) (m c : Nat) (news : List Value) (hx : a.eval x = .slice X m c) (hl : news.length = m * size) (hnil : X = none → m = 0) (hnews : ∀ ad, X = some ad → ∀ j u, news[j]? = some u → w.cell? (ad.add j) = some u) (h1 : ∀ u ∈ news, u.oneCell' = true)
  (h63 : n + m ≤ maxLen) (hbytes : (n + m) * bytes ≤ 140737488355328) (hbase : base ≤ w.heap.size)
  (h : ∀ A' c' w', w'.ownsRow base e size (.slice A' (n + m) c') (n + m) (xs ++ news) → w.grownBy w' v.ownBlock → wpList P ops Q rest (a.put o.dst (.slice A' (n + m) c')) w') : wpList P ops Q (o :: rest) a w :=
 wpList_plain hgd fun _ hK => wp_append_sl s x t ho base e i z size bytes ht hi hz hsize hby hzs hsz v n xs hs hown X m c news hx hl hnil hnews h1 h63 hbytes hbase fun A' c' w' h2 h3 => hK _ _ (h A' c' w' h2 h3)
theorem OwQp.news {w : World} {b : Nat} {A : Option Addr} {n c : Nat} {L : List Rat} (h : OwQp w b A n c L) : ∃ E : List (Ent × Ent), E.length = n ∧ EntQ w b E L ∧ (qcs E).length = n * 4 ∧ (A = none → n = 0) ∧ ∀ ad, A = some ad → ∀ j u, (qcs E)[j]? = some u → w.cell? (ad.add j) = some u := by
 obtain ⟨E, h1, h2, h3, h4, h5⟩ := h
 refine ⟨E, h1, h2, by rw [qcs_len, h1], ?_, ?_⟩
 ·intro e
  rcases h5 with h5 | ⟨g, cs, e2, _⟩
  ·exact h5
  ·rw [e] at e2; cases e2
 ·intro ad e j u hu
  rcases h5 with h5 | ⟨g, cs, e2, k2, k3, k4⟩
  ·rw [List.eq_nil_of_length_eq_zero (h1.trans h5)] at hu
   simp [qcs] at hu
  ·rw [e] at e2
   injection e2 with e2
   subst e2
   rw [add_base, cell_of_row w g j _ _ _ k3]
   exact k4 j u hu
set_option maxRecDepth 100000 in
set_option maxHeartbeats 4000000 in
theorem qdiv_lt {b N : Nat} {A A' : Option Addr} {n c n' c' : Nat} {La Lb : List Rat} {w : World} (h : OwQp w b A n c La) (h' : RdQs w w.heap.size N A' n' c' (Lb.map pr)) (hza : Pq.Nz La) (hlt : La.length < Lb.length) (hb : b ≤ w.heap.size) (hS : ∀ x ∈ La, Qs N x) (hn : n ≤ 1048576) (hN : N ≤ 60000000000) :
  Calls Tryz.prog 196 #[.slice A n c, .slice A' n' c'] w (RetDv b La Lb w) := by
 have hla : La.length = n := h.len
 have hlb : Lb.length = n' := h'.lenp
 have hnn : (n : Int) < (n' : Int) := by omega
 obtain ⟨E, hE, hEn, hEl, hnil, hcell⟩ := h.news
 have HEN := Lib.hid (And.intro hEn (And.intro hEl (And.intro hnil hcell)))
 have HE := Lib.hid hE
 have HS := Lib.hid hS
 have HLT := Lib.hid (And.intro hza (And.intro hlt hb))
 obtain ⟨i0, hi0, hz0, hz1, hz2⟩ := info_parts infoQ
 clear h h' hEn hE hEl hnil hcell hS hza hlt hb
 go_enter Tryz.func196, Tryz.ntmps196
 go_wp2_with (at_builtin; refine wpList_append_sl rfl _ _ 73 rfl w.heap.size 47 i0 (.agg #[.bool false, .slice none 0 0, .bool false, .slice none 0 0]) 4 64 Tryz.underlying73 hi0 hz0 hz1 hz2 rfl (by decide) (.slice none 0 0) 0 [] rfl (World.ownsRow_nil _ _ _ _) A n c (qcs E) rfl HEN.out.2.1 HEN.out.2.2.1 HEN.out.2.2.2 (qcs_one' E) (by unfold maxLen; omega) (by omega) (Nat.le_refl _) ?_; intro A1 c1 w1 hown1 hgrow)
 have hb1 : Below w.heap.size w w1 := (Below.refl _ _).grown hgrow (Nat.le_refl _) (fun k hk => by cases hk)
 have hO1 : OwQs w1 b A1 n c1 La := ⟨E, by have h1 := row_base hown1 HLT.out.2.2; rw [Nat.zero_add, List.nil_append] at h1; exact h1, HE.out, HEN.out.1.next hb1⟩
 have HO := Lib.hid hO1.p
 have HB1 := Lib.hid hb1
 clear hown1 hgrow hO1 hb1
 go_loopw [0] (fun av wr => av = .slice A1 n c1 ∧ wr = w1) (fun av _ => lenOf av)
 case atStart => exact ⟨rfl, rfl⟩
 case round =>
  obtain ⟨rfl, rfl⟩ := hrel
  go_wp2_with fail
  refine (qtrim_any (b := b) (N := N) (OwQp.nil _ _ none) (fun x hx => by cases hx) (by decide) (by omega)).mono ?_
  rintro _ W2 ⟨A2, n2, c2, M2, rfl, ho2, hM2, hb2⟩
  have HO2 := Lib.hid (HO.out.next hb2)
  go_wp2_with fail
  refine (qtrim_any (b := b) (N := N) HO2.out HS.out (by omega) (by omega)).mono ?_
  rintro _ W3 ⟨A3, n3, c3, M3, rfl, ho3, hM3, hb3⟩
  have ho2 := ho2.next hb3
  have HB3 := Lib.hid (HB1.out.trans ((hb2.trans (hb3.mono hb2.size)).mono HB1.out.size))
  have HM := Lib.hid (show Pq.IsD La Lb M2 M3 from by
   have e2 : M2 = [] := hM2.out.unique (Pq.IsP.self Pq.nz_nil)
   have e3 : M3 = La := hM3.out.unique (Pq.IsP.self HLT.out.1)
   rw [e2, e3]
   exact ⟨Pq.nz_nil, HLT.out.1, HLT.out.2.1, fun i => by rw [show Pq.co [] = fun _ => 0 from funext Pq.co_nil, Pq.cv_zero_left, Rat.zero_add]⟩)
  clear hb2 hb3
  go_wp2
  go_ret2
  exact ⟨_, _, _, M2, _, _, _, M3, rfl, ho2, ho3, HM, HB3.out⟩
theorem qdiv_all {b N : Nat} {A A' : Option Addr} {n c n' c' : Nat} {La Lb : List Rat} {w : World} (h : OwQp w b A n c La) (h' : RdQs w w.heap.size N A' n' c' (Lb.map pr)) (hza : Pq.Nz La) (hzb : Pq.Nz Lb) (h0 : 0 < Lb.length) (hb : b ≤ w.heap.size) (hS : ∀ j, SzQ N (Pq.drest Lb j La)) (hn : n ≤ 1048576) (hN : N ≤ 60000000000) (h1N : 1 ≤ N) :
  Calls Tryz.prog 196 #[.slice A n c, .slice A' n' c'] w (RetDv b La Lb w) := by
 rcases Nat.lt_or_ge La.length Lb.length with hlt | hge
 ·exact qdiv_lt h h' hza hlt hb (hS 0).mem hn hN
 ·exact qdiv_run h h' hza hzb h0 hge hb hS hn hN h1N
end Go.Proofs.YtjnklbfhelbjgaaGreat

/- qpoly.Div, from within and as exported. -/
namespace Go.Proofs.YtjnklbfhelbjgaaGreat
open Go.RowKit Go.IntWalk
attribute [local go_sem ↓] Go.wp_at_zero Go.wp_at_succ
set_option maxRecDepth 100000 in
set_option maxHeartbeats 4000000 in
theorem qDivIn_any {b N c : Nat} {A : Option Addr} {P Q : List Rat} {w : World} (h : OwPs w b A 2 c [P, Q]) (hQ : ∀ x ∈ Q, Qs N x) (hzp : Pq.Nz P) (hzq : Pq.Nz Q) (hw : b ≤ w.heap.size) (hS : 0 < Q.length → ∀ j, SzQ N (Pq.drest Q j P)) (hp : P.length ≤ 1048576) (hN : N ≤ 60000000000) (h1N : 1 ≤ N) :
  Calls Tryz.prog 256 #[.slice A 2 c] w (RetP3 b (fun X Y _ kk => (Q = [] ∧ X = [] ∧ Y = [] ∧ kk = 5) ∨ (Q ≠ [] ∧ Pq.IsD P Q X Y ∧ kk = 0)) w) := by
 obtain ⟨g, A1, n1, c1, L1, rfl, hbk, hx, ho1, hL1⟩ := opl_at h (show 0 < 2 by decide)
 obtain ⟨g', A2, n2, c2, L2, e, _, hy, ho2, hL2⟩ := opl_at h (show 1 < 2 by decide)
 injection e with e
 injection e with e
 subst e
 obtain rfl : P = L1 := by simpa using hL1.out
 obtain rfl : Q = L2 := by simpa using hL2.out
 have hn1 : n1 ≤ 1048576 := by rw [← ho1.len]; exact hp
 have HLQ := Lib.hid ho2.len
 obtain ⟨W1, HW1⟩ : ∃ W, W = w.alloc (.cells #[.slice none 0 0, .slice none 0 0, .slice none 0 0] 262) := ⟨_, rfl⟩
 have hR : PC W1 w.heap.size none 0 0 none 0 0 none 0 0 := by rw [HW1]; exact PC.new w none 0 0 none 0 0 none 0 0
 have hB : Below w.heap.size w W1 := by rw [HW1]; exact (Below.refl _ _).alloc (Nat.le_refl _) _
 have HX := Lib.hid (show ∀ W, Below W1.heap.size W1 W → (W.cell? ⟨g, 0, none⟩ = some (.slice A1 n1 c1) ∧ W.cell? ⟨g, 1, none⟩ = some (.slice A2 n2 c2)) ∧ OwQp W b A1 n1 c1 P ∧ RdQs W W.heap.size N A2 n2 c2 (Q.map pr) ∧ b ≤ W.heap.size from fun W hb => by
  have hb' := hB.trans (hb.mono hB.size)
  exact ⟨⟨(hb'.cell (p := ⟨g, 0, none⟩) hbk).trans hx, (hb'.cell (p := ⟨g, 1, none⟩) hbk).trans hy⟩, ho1.next hb', (ho2.next hb').rd hQ, Nat.le_trans hw hb'.size⟩)
 have HCX := Lib.hid (show ∀ W, Below W1.heap.size W1 W → _ from fun W hb => (HX.out W hb).1)
 have HR := Lib.hid (And.intro hR hB)
 obtain ⟨la0, la1⟩ := HCX.out W1 (Below.refl _ _)
 rw [HW1] at la0 la1
 have HW1 := Lib.hid HW1
 clear h hL1 hL2 ho1 ho2 hQ hR hB hx hy
 go_enter Tryz.func256, Tryz.ntmps256
 by_cases h0 : n2 = 0
 ·have HQ := Lib.hid (show Q = [] from List.eq_nil_of_length_eq_zero (by rw [HLQ.out]; exact h0))
  subst h0
  go_wp2_with fail
  rw [← HW1.out]
  clear HW1 la0 la1
  clear HW1
  have z0 := HR.out.1.c0
  have z1 := HR.out.1.c1
  have z2 := HR.out.1.c2
  exact bodyPost_ret (by simp [results, Tryz.results256, go_sem, z0, z1, z2]) rfl ⟨none, 0, 0, [], none, 0, 0, [], none, 0, 0, [], 5, rfl, ⟨OwQp.nil _ _ _, OwQp.nil _ _ _, OwQp.nil _ _ _⟩, Lib.hid (.inl ⟨HQ.out, rfl, rfl, rfl⟩), HR.out.2⟩
 ·have hbb : ((n2 : Int) == 0) = false := by simp; omega
  have HQ := Lib.hid (show Q ≠ [] from fun e => h0 (by rw [← HLQ.out, e]; rfl))
  have h0l : 0 < Q.length := by rw [HLQ.out]; omega
  clear h0
  go_upto_region 3 with fail
  rw [← HW1.out]
  clear HW1 la0 la1
  clear HW1
  obtain ⟨la0, la1⟩ := HCX.out W1 (Below.refl _ _)
  have HBD := Lib.hid (Below.refl W1.heap.size W1).drew
  go_region_held3 (fun w' => w'.cell? ⟨g, 0, none⟩ = some (.slice A1 n1 c1) ∧ w'.cell? ⟨g, 1, none⟩ = some (.slice A2 n2 c2))
   (first | exact HCX.out _ HB3.out | exact HCX.out _ HBD.out)
   (first
    | (go_at_call 196; refine (qdiv_all (HX.out _ HBD.out).2.1 (HX.out _ HBD.out).2.2.1 hzp hzq h0l (HX.out _ HBD.out).2.2.2 (hS h0l) hn1 hN h1N).mono ?_; rintro _ W3 ⟨A3, n3, c3, X, A4, n4, c4, Y, rfl, ho3, ho4, hD, hb3⟩; have HB3 := Lib.hid (HBD.out.trans (hb3.mono HBD.out.size))))
  all_goals
   have hR3 := HR.out.1.next HB3.out
   have HB9 := Lib.hid (below_putP (HR.out.2.trans (HB3.out.mono HR.out.2.size)) (Nat.le_refl w.heap.size) A3 n3 c3 A4 n4 c4 none 0 0)
   have HS := Lib.hid (hR3.store A3 n3 c3 A4 n4 c4 none 0 0)
   have HK := Lib.hid ((⟨ho3, ho4, OwQp.nil _ _ none⟩ : Ow3 W3 b A3 n3 c3 A4 n4 c4 none 0 0 X Y []).keep (keep_putP hR3 A3 n3 c3 A4 n4 c4 none 0 0))
   have r0 := hR3.c0
   have r1 := hR3.c1
   have r2 := hR3.c2
   have f0 := hR3.fz 0
   have f1 := hR3.fz 1
   have f2 := hR3.fz 2
   unfold putP at HS HB9 HK
   clear hR3 ho3 ho4 hb3 la0 la1
   go_wp2_with fail
   generalize ((W3.setCell ⟨w.heap.size, 0, none⟩ (.slice A3 n3 c3)).setCell ⟨w.heap.size, 1, none⟩ (.slice A4 n4 c4)).setCell ⟨w.heap.size, 2, none⟩ (.slice none 0 0) = W9 at *
   have z0 := HS.out.c0
   have z1 := HS.out.c1
   have z2 := HS.out.c2
   exact bodyPost_ret (by simp [results, Tryz.results256, go_sem, z0, z1, z2]) rfl ⟨_, _, _, X, _, _, _, Y, _, _, _, [], 0, rfl, HK.out, Lib.hid (.inr ⟨HQ.out, hD.out, rfl⟩), HB9.out⟩
def RetD3 (ok : Prop) (La Lb : List Rat) (w : World) (e : Ending) (w' : World) : Prop :=
 ∃ (A : Option Addr) (n c : Nat) (X : List Rat) (A' : Option Addr) (n' c' : Nat) (Y : List Rat) (kk : Int), e = .returned (.tuple #[.slice A n c, .slice A' n' c', .int .i64 kk]) ∧ OwQp w' w.heap.size A n c X ∧ OwQp w' w.heap.size A' n' c' Y ∧ Hid ((ok ∧ ((Lb = [] ∧ X = [] ∧ Y = [] ∧ kk = 5) ∨ (Lb ≠ [] ∧ Pq.IsD La Lb X Y ∧ kk = 0))) ∨ (¬ok ∧ X = [] ∧ Y = [] ∧ kk = 6)) ∧ Below w.heap.size w w'
set_option maxRecDepth 100000 in
set_option maxHeartbeats 4000000 in
theorem qDiv_any {N N' : Nat} {A A' : Option Addr} {n c n' c' : Nat} {L L' : List (Int × Int)} {w : World} (h : RdQs w w.heap.size N A n c L) (h' : RdQs w w.heap.size N A' n' c' L') (hn : n ≤ 1048576) (hn' : n' ≤ 1048576) (hN : N ≤ N') (hN' : N' ≤ 60000000000) (h1N : 1 ≤ N) (hS : okD L → okD L' → 0 < (nq L').length → ∀ j, SzQ N' (Pq.drest (nq L') j (nq L))) :
  Calls Tryz.prog 247 #[.slice A n c, .slice A' n' c'] w (RetD3 (okD L ∧ okD L') (nq L) (nq L') w) := by
 have HEG := Lib.hid (enters_of Tryz.func256 (by kernel_rfl) rfl)
 have HH := Lib.hid (And.intro h h')
 have HSS := Lib.hid hS
 obtain ⟨W2, HW2⟩ : ∃ W, W = w.alloc (.cells #[.slice A n c, .slice A' n' c'] 73) := ⟨_, rfl⟩
 have hps := Lib.hid (ps_two (K := 1048576) h h' hn hn' HW2)
 have HB2 := Lib.hid (show Below w.heap.size w W2 by rw [HW2]; exact (Below.refl _ _).alloc (Nat.le_refl _) _)
 have HW2 := Lib.hid HW2
 clear h h' hS
 go_enter Tryz.func247, Tryz.ntmps247
 go_wp2_with fail
 rw [← HW2.out]
 clear HW2
 clear HW2
 refine (norms_pair (f := 256) (Φ := fun X Y _ kk => (nq L' = [] ∧ X = [] ∧ Y = [] ∧ kk = 5) ∨ (nq L' ≠ [] ∧ Pq.IsD (nq L) (nq L') X Y ∧ kk = 0)) hps.out (by decide) (by decide) (by omega) h1N HEG.out (fun hall W A' c' hb ho => qDivIn_any (N := N') (P := nq L) (Q := nq L') ho (fun x hx => (nq_qs HH.out.2 (hall L' (by simp)) h1N x hx).mono hN) (Pq.nz_nrm _) (Pq.nz_nrm _) hb.size (HSS.out (hall L (by simp)) (hall L' (by simp))) (Nat.le_trans (nq_len L) (by rw [HH.out.1.len]; exact hn)) hN' (Nat.le_trans h1N hN))).mono ?_
 intro e W3 hpost
 have hq : ∃ (A : Option Addr) (n c : Nat) (X : List Rat) (A' : Option Addr) (n' c' : Nat) (Y : List Rat) (A'' : Option Addr) (n'' c'' : Nat) (kk : Int), e = .returned (.tuple #[.agg #[.slice A n c, .slice A' n' c', .slice A'' n'' c''], .int .i64 kk]) ∧ OwQp W3 w.heap.size A n c X ∧ OwQp W3 w.heap.size A' n' c' Y ∧ Hid (((okD L ∧ okD L') ∧ ((nq L' = [] ∧ X = [] ∧ Y = [] ∧ kk = 5) ∨ (nq L' ≠ [] ∧ Pq.IsD (nq L) (nq L') X Y ∧ kk = 0))) ∨ (¬(okD L ∧ okD L') ∧ X = [] ∧ Y = [] ∧ kk = 6)) ∧ Below w.heap.size w W3 := by
  rcases hpost with ⟨hall, A1, n1, c1, X, A2, n2, c2, Y, A3, n3, c3, Z, kk, h1, h2, h3, h4⟩ | ⟨⟨L0, hL0, p, hp, hp0⟩, h1, h2⟩
  ·exact ⟨A1, n1, c1, X, A2, n2, c2, Y, A3, n3, c3, kk, h1, h2.p.base HB2.out.size, h2.q.base HB2.out.size, Lib.hid (.inl ⟨⟨hall L (by simp), hall L' (by simp)⟩, h3.out⟩), HB2.out.trans (h4.mono HB2.out.size)⟩
  ·refine ⟨none, 0, 0, [], none, 0, 0, [], none, 0, 0, 6, h1, OwQp.nil _ _ _, OwQp.nil _ _ _, Lib.hid (.inr ⟨fun ⟨e1, e2⟩ => ?_, rfl, rfl, rfl⟩), HB2.out.trans (h2.mono HB2.out.size)⟩
   rcases List.mem_cons.1 hL0 with rfl | h3
   ·exact e1 p hp hp0
   ·obtain rfl := List.mem_singleton.1 h3
    exact e2 p hp hp0
 obtain ⟨A1, n1, c1, X, A2, n2, c2, Y, A3, n3, c3, kk, rfl, ho1, ho2, hv, hb3⟩ := hq
 obtain ⟨W4, HW4⟩ : ∃ W, W = W3.alloc (.cells #[.slice A1 n1 c1, .slice A2 n2 c2, .slice A3 n3 c3] 262) := ⟨_, rfl⟩
 have hP : PC W4 W3.heap.size A1 n1 c1 A2 n2 c2 A3 n3 c3 := by rw [HW4]; exact PC.new W3 A1 n1 c1 A2 n2 c2 A3 n3 c3
 have hb4 : Below W3.heap.size W3 W4 := by rw [HW4]; exact (Below.refl _ _).alloc (Nat.le_refl _) _
 have HB4 := Lib.hid (hb3.trans (hb4.mono hb3.size)).drew
 have HO := Lib.hid (And.intro ((ho1.next hb4).next (Below.refl _ _).drew) ((ho2.next hb4).next (Below.refl _ _).drew))
 have k0 := hP.c0
 have k1 := hP.c1
 have HW4 := Lib.hid HW4
 clear hP hb3 hb4 ho1 ho2 hpost
 go_upto_region 2 with fail
 rw [← HW4.out]
 clear HW4
 clear HW4
 go_region_law (fail)
 all_goals
  go_wp2
  go_ret3
  exact ⟨_, _, _, X, _, _, _, Y, kk, rfl, HO.out.1, HO.out.2, hv, HB4.out⟩
end Go.Proofs.YtjnklbfhelbjgaaGreat

/- qpoly.norms at int. -/
namespace Go.Proofs.YtjnklbfhelbjgaaGreat
open Go.RowKit Go.IntWalk
attribute [local go_sem ↓] Go.wp_at_zero Go.wp_at_succ
def RetKE (Φ : Int → Int → Prop) (w : World) (e : Ending) (w' : World) : Prop :=
 ∃ (v : Int) (kk : Int), e = .returned (.tuple #[.int .i64 v, .int .i64 kk]) ∧ Hid (Φ v kk) ∧ Below w.heap.size w w'
end Go.Proofs.YtjnklbfhelbjgaaGreat
