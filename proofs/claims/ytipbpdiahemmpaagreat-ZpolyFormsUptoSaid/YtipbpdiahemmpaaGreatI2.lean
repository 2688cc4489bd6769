/- zint: a sign and a size make an integer; the sign. -/
import Derived.Test.YtipbpdiahemmpaaGreatI1
import Derived.Test.YtipbpdiahemmpaaGreatN2
import Derived.Deep.RegionHeld3
import Derived.Deep.DrawnRows
namespace Go.Proofs.YtipbpdiahemmpaaGreat
open Go.RowKit Go.IntWalk
attribute [local go_sem ↓] Go.wp_at_zero Go.wp_at_succ

/-- The block g holds an integer's two cells. -/
def ZC (w : World) (g : Nat) (s : Bool) (A : Option Addr) (n c : Nat) : Prop := w.heap[g]? = some (.cells #[.bool s, .slice A n c] 28 (0, 0))
section
variable {w w' : World} {g B : Nat} {s : Bool} {A : Option Addr} {n c : Nat}
theorem ZC.lt (h : ZC w g s A n c) : g < w.heap.size := (Array.getElem?_eq_some_iff.1 h).1
theorem ZC.c0 (h : ZC w g s A n c) : w.cell? ⟨g, 0, none⟩ = some (.bool s) := by
  rw [cell_of_row w g 0 _ _ _ h]; rfl
theorem ZC.c1 (h : ZC w g s A n c) : w.cell? ⟨g, 1, none⟩ = some (.slice A n c) := by
  rw [cell_of_row w g 1 _ _ _ h]; rfl
theorem ZC.fz (h : ZC w g s A n c) (j : Nat) : w.frozen? ⟨g, j, none⟩ = false := frozen_of_row w g j _ _ h
theorem ZC.below (h : ZC w g s A n c) (hb : Below B w w') (hg : g < B) : ZC w' g s A n c := (hb.block g hg).trans h
theorem ZC.next (h : ZC w g s A n c) (hb : Below w.heap.size w w') : ZC w' g s A n c := h.below hb h.lt
theorem ZC.alloc (h : ZC w g s A n c) (o : Obj) : ZC (w.alloc o) g s A n c := (Below.heap_alloc w o g h.lt).trans h
theorem ZC.new (w : World) (s : Bool) (A : Option Addr) (n c : Nat) : ZC (w.alloc (.cells #[.bool s, .slice A n c] 28)) w.heap.size s A n c := heap_alloc_new w _
theorem ZC.drewN (h : ZC w g s A n c) (k : Nat) : ZC (w.drewN k) g s A n c := h
theorem ZC.store (h : ZC w g s A n c) (s' : Bool) (A' : Option Addr) (n' c' : Nat) : ZC ((w.setCell ⟨g, 0, none⟩ (.bool s')).setCell ⟨g, 1, none⟩ (.slice A' n' c')) g s' A' n' c' := by
  unfold ZC at h ⊢
  simp [World.setCell, Array.getElem?_modify, h]
theorem own_far {b k m : Nat} {L : List Nat} {A : Option Addr} (h : OwU w b A k m L) {p : Addr} (hp : p.block < b) (u : Value) : OwU (w.setCell p u) b A k m L := by
  refine ⟨⟨h.own.1, ?_⟩, h.wd⟩
  rcases h.own.2 with h0 | ⟨g, cap, cur, h1, h2, h3, h4⟩
  · exact .inl h0
  · exact .inr ⟨g, cap, cur, h1, h2, (Below.heap_setCell w p u g (by omega)).trans h3, h4⟩
theorem OwZ.far {b k m : Nat} {t : Bool} {A : Option Addr} {z : Int} (h : OwZ w b t A k m z) {p : Addr} (hp : p.block < b) (u : Value) : OwZ (w.setCell p u) b t A k m z := ⟨own_far h.own hp u, h.sgn⟩
/-- An integer of the call's own is put into the block g. -/
theorem put_int {v : World} {b : Nat} {t : Bool} {A' : Option Addr} {k m : Nat} {z : Int} (h : ZC w g s A n c) (hB : Below v.heap.size v w) (hg : v.heap.size ≤ g) (ho : OwZ w b t A' k m z) (hb : g < b) :
    ZC ((w.setCell ⟨g, 0, none⟩ (.bool t)).setCell ⟨g, 1, none⟩ (.slice A' k m)) g t A' k m ∧
    OwZ ((w.setCell ⟨g, 0, none⟩ (.bool t)).setCell ⟨g, 1, none⟩ (.slice A' k m)) b t A' k m z ∧
    Below v.heap.size v ((w.setCell ⟨g, 0, none⟩ (.bool t)).setCell ⟨g, 1, none⟩ (.slice A' k m)) :=
  ⟨h.store t A' k m, (ho.far (p := ⟨g, 0, none⟩) hb _).far (p := ⟨g, 1, none⟩) hb _, (hB.setCell (p := ⟨g, 0, none⟩) hg _).setCell (p := ⟨g, 1, none⟩) hg _⟩
theorem ZC.far (h : ZC w g s A n c) {p : Addr} (hp : g ≠ p.block) (u : Value) : ZC (w.setCell p u) g s A n c := (Below.heap_setCell w p u g hp).trans h
end

set_option maxHeartbeats 1000000 in
theorem make1_any (t : Bool) {x b : Nat} {A : Option Addr} {n c : Nat} {w : World} (h : OwU w b A n c (Dg.dg x)) :
    Calls Tryz.prog 185 #[.bool t, .slice A n c] w fun e w' => ∃ s : Bool, e = .returned (.agg #[.bool s, .slice A n c]) ∧ OwZ w' b s A n c (Zz.sg t x) ∧ Below w.heap.size w w' := by
  have HR := Lib.hid (show ∀ s : Bool, s = (t && decide (0 < n)) → ∃ s' : Bool, Ending.returned (.agg #[.bool s, .slice A n c]) = .returned (.agg #[.bool s', .slice A n c]) ∧ OwZ (w.alloc (.cells #[.bool s, .slice A n c] 28)) b s' A n c (Zz.sg t x) ∧ Below w.heap.size w (w.alloc (.cells #[.bool s, .slice A n c] 28)) from fun s hs => by
    have hB := (Below.refl w.heap.size w).alloc (Nat.le_refl _) (.cells #[.bool s, .slice A n c] 28)
    exact ⟨s, rfl, by rw [hs] at hB ⊢; exact (OwZ.mk' h).next hB, hB⟩)
  clear h
  go_enter Tryz.func185, Tryz.ntmps185
  cases t
  · go_wp2
    exact bodyPost_ret (by simp [results, Tryz.results185, go_sem]) rfl (HR.out _ rfl)
  · go_wp2
    exact bodyPost_ret (by simp [results, Tryz.results185, go_sem]) rfl (HR.out _ rfl)

/-- A sign comes back. -/
def RetK (k : Int) (w : World) (e : Ending) (w' : World) : Prop := ∃ y : Int, e = .returned (.int .i64 y) ∧ Hid (y = k) ∧ Below w.heap.size w w'
theorem sign_sg (s : Bool) (x : Nat) : (Zz.sg s x).sign = if x = 0 then 0 else if s then -1 else 1 := by
  by_cases h : x = 0
  · subst h; rw [Zz.sg_zero]; rfl
  · rw [if_neg h]
    cases s
    · rw [Zz.sg_false, Int.sign_eq_one_of_pos (by omega)]; rfl
    · rw [Zz.sg_true, Int.sign_eq_neg_one_of_neg (by omega)]; rfl

set_option maxHeartbeats 1000000 in
theorem sign_any {s : Bool} {A : Option Addr} {n c : Nat} {z : Int} {w : World} (h : RdZ w w.heap.size s A n c z) (hn : n ≤ 17592186044416) :
    Calls Tryz.prog 81 #[.agg #[.bool s, .slice A n c]] w (RetK z.sign w) := by
  obtain ⟨M, h, hz⟩ := h.raw
  have hB := (Below.refl w.heap.size w).alloc (Nat.le_refl _) (.cells #[.bool s, .slice A n c] 28)
  have hZ := ZC.new w s A n c
  have h1 := h.next hB
  go_enter Tryz.func81, Tryz.ntmps81
  go_wp2_with fail
  refine (len_any h1 hn).mono ?_
  rintro _ _ ⟨k, rfl, hk, rfl⟩
  have HS := Lib.hid (show z.sign = if k = 0 then 0 else if s then -1 else 1 by
    rw [hz.out, sign_sg]
    by_cases e : k = 0
    · rw [if_pos e, if_pos (hk.out.1 e)]
    · rw [if_neg e, if_neg fun e2 => e (hk.out.2 e2)])
  clear hk hz h1 h
  generalize w.alloc (.cells #[.bool s, .slice A n c] 28) = W1 at *
  have hc0 := hZ.c0
  have hc1 := hZ.c1
  rcases Nat.eq_zero_or_pos k with e | e
  · subst e
    go_wp2
    go_ret
    exact ⟨_, rfl, Lib.hid (by rw [HS.out]; rfl), hB⟩
  · have ek : ((k : Int) == 0) = false := by simp; omega
    have HK := Lib.hid e
    clear e
    cases s
    · go_wp2
      go_ret
      exact ⟨_, rfl, Lib.hid (by rw [HS.out, if_neg (by have := HK.out; omega)]; rfl), hB⟩
    · go_wp2
      go_ret
      exact ⟨_, rfl, Lib.hid (by rw [HS.out, if_neg (by have := HK.out; omega)]; rfl), hB⟩

set_option maxHeartbeats 1000000 in
theorem of_any (z : Int) (h1 : -9223372036854775808 ≤ z) (h2 : z < 9223372036854775808) (w : World) :
    Calls Tryz.prog 127 #[.int .i64 z] w (RetI z w) := by
  have hB := (Below.refl w.heap.size w).alloc (Nat.le_refl _) (.cells #[.bool false, .slice none 0 0] 28)
  have hZ := ZC.new w false none 0 0
  go_enter Tryz.func127, Tryz.ntmps127
  by_cases hz : z < 0
  · go_wp2_with fail
    generalize w.alloc (.cells #[.bool false, .slice none 0 0] 28) = W1 at *
    refine (nOf_any z.natAbs (by omega) (by omega) W1).mono ?_
    rintro _ W2 ⟨A2, m2, c2, x2, rfl, ho2, hx2, hb2⟩
    go_wp2_with fail
    refine (make1_any true ho2).mono ?_
    rintro _ W3 ⟨s3, rfl, ho3, hb3⟩
    have hZ3 := (hZ.next hb2).next hb3
    have hB3 := hB.trans ((hb2.trans (hb3.mono hb2.size)).mono hB.size)
    have hc0 := hZ3.c0
    have hc1 := hZ3.c1
    have hf0 := hZ3.fz 0
    have hf1 := hZ3.fz 1
    have HB := Lib.hid (show w.heap.size < W1.heap.size from hZ.lt)
    clear hb2 hb3 ho2
    go_wp2
    have hp := put_int hZ3 hB3 (Nat.le_refl _) ho3 HB.out
    generalize (W3.setCell ⟨w.heap.size, 0, none⟩ (.bool s3)).setCell ⟨w.heap.size, 1, none⟩ (.slice A2 m2 c2) = W4 at hp ⊢
    obtain ⟨hZ4, ho4, hB4⟩ := hp
    exact bodyPost_ret (by simp [results, Tryz.results127, go_sem, hZ4.c0, hZ4.c1]) rfl ⟨_, _, _, _, _, rfl, ho4.base (Nat.le_of_lt HB.out), Lib.hid (by rw [hx2.out, Zz.sg_true]; omega), hB4⟩
  · have hz0 : 0 ≤ z := by omega
    clear hz
    go_wp2_with fail
    generalize w.alloc (.cells #[.bool false, .slice none 0 0] 28) = W1 at *
    refine (nOf_any z.natAbs (by omega) (by omega) W1).mono ?_
    rintro _ W2 ⟨A2, m2, c2, x2, rfl, ho2, hx2, hb2⟩
    go_wp2_with fail
    refine (make1_any false ho2).mono ?_
    rintro _ W3 ⟨s3, rfl, ho3, hb3⟩
    have hZ3 := (hZ.next hb2).next hb3
    have hB3 := hB.trans ((hb2.trans (hb3.mono hb2.size)).mono hB.size)
    have hc0 := hZ3.c0
    have hc1 := hZ3.c1
    have hf0 := hZ3.fz 0
    have hf1 := hZ3.fz 1
    have HB := Lib.hid (show w.heap.size < W1.heap.size from hZ.lt)
    clear hb2 hb3 ho2
    go_wp2
    have hp := put_int hZ3 hB3 (Nat.le_refl _) ho3 HB.out
    generalize (W3.setCell ⟨w.heap.size, 0, none⟩ (.bool s3)).setCell ⟨w.heap.size, 1, none⟩ (.slice A2 m2 c2) = W4 at hp ⊢
    obtain ⟨hZ4, ho4, hB4⟩ := hp
    exact bodyPost_ret (by simp [results, Tryz.results127, go_sem, hZ4.c0, hZ4.c1]) rfl ⟨_, _, _, _, _, rfl, ho4.base (Nat.le_of_lt HB.out), Lib.hid (by rw [hx2.out, Zz.sg_false]; omega), hB4⟩

/-- The call's parameter is put into a cell, the result gets its own. -/
theorem boxed1 (w : World) (s : Bool) (A : Option Addr) (n c : Nat) :
    ZC ((w.alloc (.cells #[.bool s, .slice A n c] 28)).alloc (.cells #[.bool false, .slice none 0 0] 28)) w.heap.size s A n c ∧
    ZC ((w.alloc (.cells #[.bool s, .slice A n c] 28)).alloc (.cells #[.bool false, .slice none 0 0] 28)) (w.heap.size + 1) false none 0 0 ∧
    Below w.heap.size w ((w.alloc (.cells #[.bool s, .slice A n c] 28)).alloc (.cells #[.bool false, .slice none 0 0] 28)) :=
  ⟨(ZC.new w s A n c).alloc _, by simpa using ZC.new (w.alloc (.cells #[.bool s, .slice A n c] 28)) false none 0 0, ((Below.refl w.heap.size w).alloc (Nat.le_refl _) (.cells #[.bool s, .slice A n c] 28)).alloc (by simp) (.cells #[.bool false, .slice none 0 0] 28)⟩
/-- Two parameters and the result. -/
theorem boxed2 (w : World) (s : Bool) (A : Option Addr) (n c : Nat) (s' : Bool) (A' : Option Addr) (n' c' : Nat) :
    ZC (((w.alloc (.cells #[.bool s, .slice A n c] 28)).alloc (.cells #[.bool s', .slice A' n' c'] 28)).alloc (.cells #[.bool false, .slice none 0 0] 28)) w.heap.size s A n c ∧
    ZC (((w.alloc (.cells #[.bool s, .slice A n c] 28)).alloc (.cells #[.bool s', .slice A' n' c'] 28)).alloc (.cells #[.bool false, .slice none 0 0] 28)) (w.heap.size + 1) s' A' n' c' ∧
    ZC (((w.alloc (.cells #[.bool s, .slice A n c] 28)).alloc (.cells #[.bool s', .slice A' n' c'] 28)).alloc (.cells #[.bool false, .slice none 0 0] 28)) (w.heap.size + 1 + 1) false none 0 0 ∧
    Below w.heap.size w (((w.alloc (.cells #[.bool s, .slice A n c] 28)).alloc (.cells #[.bool s', .slice A' n' c'] 28)).alloc (.cells #[.bool false, .slice none 0 0] 28)) :=
  ⟨((ZC.new w s A n c).alloc _).alloc _, by simpa using (ZC.new (w.alloc (.cells #[.bool s, .slice A n c] 28)) s' A' n' c').alloc (.cells #[.bool false, .slice none 0 0] 28), by simpa using ZC.new ((w.alloc (.cells #[.bool s, .slice A n c] 28)).alloc (.cells #[.bool s', .slice A' n' c'] 28)) false none 0 0,
    (((Below.refl w.heap.size w).alloc (Nat.le_refl _) (.cells #[.bool s, .slice A n c] 28)).alloc (by simp) (.cells #[.bool s', .slice A' n' c'] 28)).alloc (by simp; omega) (.cells #[.bool false, .slice none 0 0] 28)⟩

set_option maxHeartbeats 1000000 in
theorem abs_any {s : Bool} {A : Option Addr} {n c : Nat} {z : Int} {w : World} (h : RdZ w w.heap.size s A n c z) (hn : n ≤ 17592186044416) :
    Calls Tryz.prog 93 #[.agg #[.bool s, .slice A n c]] w (RetI z.natAbs w) := by
  obtain ⟨M, h, hz⟩ := h.raw
  obtain ⟨hZ, hR, hB⟩ := boxed1 w s A n c
  have h1 := h.next hB
  have HSZ := Lib.hid (Nat.lt_trans (Nat.lt_succ_self _) hR.lt)
  go_enter Tryz.func93, Tryz.ntmps93
  go_wp2_with fail
  generalize (w.alloc (.cells #[.bool s, .slice A n c] 28)).alloc (.cells #[.bool false, .slice none 0 0] 28) = W1 at *
  refine (norm_any h1 (by omega)).mono ?_
  rintro _ W2 ⟨A2, m2, c2, x2, rfl, ho2, hx2, hb2⟩
  go_wp2_with fail
  refine (make1_any false ho2).mono ?_
  rintro _ W3 ⟨s3, rfl, ho3, hb3⟩
  have hR3 := (hR.next hb2).next hb3
  have hB3 := hB.trans ((hb2.trans (hb3.mono hb2.size)).mono hB.size)
  have hc0 := hR3.c0
  have hc1 := hR3.c1
  have hf0 := hR3.fz 0
  have hf1 := hR3.fz 1
  have HB := Lib.hid hR.lt
  clear hb2 hb3 ho2 hZ hR h1
  go_wp2
  have hp := put_int hR3 hB3 (Nat.le_succ _) ho3 HB.out
  generalize (W3.setCell ⟨w.heap.size + 1, 0, none⟩ (.bool s3)).setCell ⟨w.heap.size + 1, 1, none⟩ (.slice A2 m2 c2) = W4 at hp ⊢
  obtain ⟨hZ4, ho4, hB4⟩ := hp
  exact bodyPost_ret (by simp [results, Tryz.results93, go_sem, hZ4.c0, hZ4.c1]) rfl ⟨_, _, _, _, _, rfl, ho4.base (Nat.le_of_lt HSZ.out), Lib.hid (by rw [hx2.out, Zz.sg_false, hz.out, Zz.abs_sg]), hB4⟩
end Go.Proofs.YtipbpdiahemmpaaGreat
