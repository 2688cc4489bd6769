/- qpoly.Eval as exported. -/
import Derived.Test.YtipbpdiahemmpaaGreatQSb
import Derived.Test.YtipbpdiahemmpaaGreatQ42
import Derived.Test.YtipbpdiahemmpaaGreatQ40
namespace Go.Proofs.YtipbpdiahemmpaaGreat
open Go.RowKit Go.IntWalk
attribute [local go_sem ↓] Go.wp_at_zero Go.wp_at_succ

/-- A value's answer: the fraction, or error 6. -/
def RetOv (ok : Prop) (x : Rat) (w : World) (e : Ending) (w' : World) : Prop :=
  (ok ∧ RetQcE w.heap.size (fun y kk => y = x ∧ kk = 0) w e w') ∨ (¬ok ∧ e = .returned (.tuple #[.agg #[.bool false, .slice none 0 0, .bool false, .slice none 0 0], .int .i64 6]) ∧ Below w.heap.size w w')
theorem psum_nq {L : List (Int × Int)} {n : Nat} (hn : L.length = n) (x : Rat) : Pq.psum (Pq.co (nq L)) x (nq L).length = Pq.psum (Pq.co (L.map qval)) x n := by
  have h1 := nq_len L
  obtain ⟨k, hk⟩ : ∃ k, n = (nq L).length + k := ⟨n - (nq L).length, by omega⟩
  rw [← Pq.psum_congr (fun i => co_nq L i) n, hk, Pq.psum_up (fun i hi => Pq.co_ge hi)]
set_option maxRecDepth 100000 in
set_option maxHeartbeats 4000000 in
theorem qEval_any {N N' : Nat} {A A' A'' : Option Addr} {n c n' c' n'' c'' : Nat} {s s' : Bool} {L : List (Int × Int)} {z d : Int} {w : World} (h : RdQs w w.heap.size N A n c L) (h' : RdZ w w.heap.size s A' n' c' z) (h'' : RdZ w w.heap.size s' A'' n'' c'' d) (hn : n ≤ 1048576) (hn' : n' ≤ N') (hn'' : n'' ≤ N') (hsz : 2 + (n + 1) * (N' + N + 1) ≤ 200000000000) (h1N : 1 ≤ N) (h1N' : 1 ≤ N') :
    Calls Tryz.prog 49 #[.slice A n c, .agg #[.bool s, .slice A' n' c', .bool s', .slice A'' n'' c'']] w (RetOv (okD L ∧ d ≠ 0) (Pq.psum (Pq.co (L.map qval)) (Rat.divInt z d) n) w) := by
  have HEG := Lib.hid (enters_of Tryz.func140 (by kernel_rfl) rfl)
  obtain ⟨W1, HW1⟩ : ∃ W, W = w.alloc (.cells #[.bool s, .slice A' n' c', .bool s', .slice A'' n'' c''] 56) := ⟨_, rfl⟩
  have hb1 : Below w.heap.size w W1 := by rw [HW1]; exact (Below.refl _ _).alloc (Nat.le_refl _) _
  have hR : QC W1 w.heap.size s A' n' c' s' A'' n'' c'' := by rw [HW1]; exact QC.new w s A' n' c' s' A'' n'' c''
  obtain ⟨W2, HW2⟩ : ∃ W, W = W1.alloc (.cells #[.bool false, .slice none 0 0, .bool false, .slice none 0 0] 56) := ⟨_, rfl⟩
  have hb2 : Below W1.heap.size W1 W2 := by rw [HW2]; exact (Below.refl _ _).alloc (Nat.le_refl _) _
  have hT : QC W2 W1.heap.size false none 0 0 false none 0 0 := by rw [HW2]; exact QC.new W1 false none 0 0 false none 0 0
  have hR2 := hR.next hb2
  obtain ⟨W3, HW3⟩ : ∃ W, W = W2.alloc (.cells #[.bool s, .slice A' n' c', .bool s', .slice A'' n'' c''] 56) := ⟨_, rfl⟩
  have hb3 : Below W2.heap.size W2 W3 := by rw [HW3]; exact (Below.refl _ _).alloc (Nat.le_refl _) _
  obtain ⟨W4, HW4⟩ : ∃ W, W = W3.alloc (.cells #[.slice A n c, .slice (some ⟨W2.heap.size, 0, none⟩) 1 1] 38) := ⟨_, rfl⟩
  have hb4 : Below W3.heap.size W3 W4 := by rw [HW4]; exact (Below.refl _ _).alloc (Nat.le_refl _) _
  have hb12 := hb1.trans (hb2.mono hb1.size)
  have hr := (h.next hb12).next hb3
  have hq := qs_one (N := N') (h'.next hb12) (h''.next hb12) hn' hn'' HW3
  have HRQ := Lib.hid (And.intro hr hq)
  have hps := Lib.hid (ps_two (K := 1048576) (hr.wide (Nat.le_max_left N N')) (hq.wide (Nat.le_max_right N N')) hn (by decide) HW4)
  have HB4 := Lib.hid ((hb12.trans (hb3.mono hb12.size)).trans (hb4.mono (Nat.le_trans hb12.size hb3.size)))
  have HT := Lib.hid ((hT.next hb3).next hb4)
  have a0 := hR2.c0
  have a1 := hR2.c1
  have a2 := hR2.c2
  have a3 := hR2.c3
  have HW := Lib.hid (And.intro HW1 (And.intro HW2 (And.intro HW3 HW4)))
  have e1 : W1.heap.size = w.heap.size + 1 := by rw [HW1]; simp
  have e2 : W2.heap.size = w.heap.size + 1 + 1 := by rw [HW2]; simp [e1]
  have e3 : W3.heap.size = w.heap.size + 1 + 1 + 1 := by rw [HW3]; simp [e2]
  have HE := Lib.hid (And.intro e1 (And.intro e2 e3))
  have HMX := Lib.hid (show Nat.max N N' ≤ 1000000000000 ∧ 1 ≤ Nat.max N N' from by
    have e1 : 1 * (N' + N + 1) ≤ (n + 1) * (N' + N + 1) := Nat.mul_le_mul_right _ (by omega)
    have e2 : Nat.max N N' ≤ N + N' := by rw [show Nat.max N N' = max N N' from rfl]; omega
    have e3 : N ≤ Nat.max N N' := Nat.le_max_left N N'
    omega)
  rw [HW2, HW1] at a0 a1 a2 a3
  clear h h' h'' hr hq hb1 hb2 hb3 hb4 hb12 hR hR2 hT HW1 HW2 HW3 HW4 e1 e2 e3
  go_enter Tryz.func49, Tryz.ntmps49
  go_wp2_with fail
  rw [← HE.out.2.2, ← HE.out.2.1, ← HE.out.1, ← HW.out.1, ← HW.out.2.1, ← HW.out.2.2.1, ← HW.out.2.2.2]
  clear a0 a1 a2 a3 HW
  refine (norms_rat (f := 140) (Φ := fun y kk => y = Pq.psum (Pq.co (L.map qval)) (Rat.divInt z d) n ∧ kk = 0) hps.out (by decide) (by decide) HMX.out.1 HMX.out.2 HEG.out (fun hall W A' c' hb ho => (qEvalIn_any (N := N) (N' := N') (P := nq L) (Q := nq [(z, d)]) ho (nq_qs HRQ.out.1 (hall L (by simp)) h1N) (nq_qs HRQ.out.2 (hall [(z, d)] (by simp)) h1N') (by
      have e1 := nq_len L
      rw [HRQ.out.1.len] at e1
      have e2 : ((nq L).length + 1) * (N' + N + 1) ≤ (n + 1) * (N' + N + 1) := Nat.mul_le_mul_right _ (by omega)
      omega) h1N h1N').mono fun e w' ⟨s1, A1, n1, c1, s2, A2, n2, c2, y, kk, h1, h2, h3, h4⟩ => ⟨s1, A1, n1, c1, s2, A2, n2, c2, y, kk, h1, h2.base hb.size, Lib.hid ⟨by
        rw [h3.out.1, psum_nq HRQ.out.1.len, co_nq]; rfl, h3.out.2⟩, h4⟩)).mono ?_
  intro e W5 hpost
  rcases hpost with ⟨hall, s1, A1, n1, c1, s2, A2, n2, c2, y, kk, rfl, ho2, hM2, hb2⟩ | ⟨hex, rfl, hb2⟩
  · have HOK := Lib.hid (show okD L ∧ d ≠ 0 from ⟨hall L (by simp), hall [(z, d)] (by simp) (z, d) (by simp)⟩)
    have hT5 := HT.out.next hb2
    have HO := Lib.hid ((ho2.base (b' := w.heap.size) HB4.out.size).keep (keep_putQ hT5 s1 A1 n1 c1 s2 A2 n2 c2))
    have HB5 := Lib.hid (below_putQ (HB4.out.trans (hb2.mono HB4.out.size)) (show w.heap.size ≤ W1.heap.size by rw [HE.out.1]; omega) s1 A1 n1 c1 s2 A2 n2 c2)
    have HS := Lib.hid (hT5.store s1 A1 n1 c1 s2 A2 n2 c2)
    have r0 := hT5.c0
    have r1 := hT5.c1
    have r2 := hT5.c2
    have r3 := hT5.c3
    have f0 := hT5.fz 0
    have f1 := hT5.fz 1
    have f2 := hT5.fz 2
    have f3 := hT5.fz 3
    unfold putQ at HO HB5 HS
    clear hall ho2 hb2 hT5
    go_wp2_with fail
    generalize (((W5.setCell ⟨W1.heap.size, 0, none⟩ (.bool s1)).setCell ⟨W1.heap.size, 1, none⟩ (.slice A1 n1 c1)).setCell ⟨W1.heap.size, 2, none⟩ (.bool s2)).setCell ⟨W1.heap.size, 3, none⟩ (.slice A2 n2 c2) = W9 at *
    have z0 := HS.out.c0
    have z1 := HS.out.c1
    have z2 := HS.out.c2
    have z3 := HS.out.c3
    exact bodyPost_ret (by simp [results, Tryz.results49, go_sem, z0, z1, z2, z3]) rfl (.inl ⟨HOK.out, s1, A1, n1, c1, s2, A2, n2, c2, y, kk, rfl, HO.out, hM2, HB5.out⟩)
  · have HOK := Lib.hid (show ¬(okD L ∧ d ≠ 0) from fun ⟨h1, h2⟩ => by
      obtain ⟨L0, hL0, p, hp, hp0⟩ := hex
      rcases List.mem_cons.1 hL0 with rfl | h3
      · exact h1 p hp hp0
      · obtain rfl := List.mem_singleton.1 h3
        obtain rfl := List.mem_singleton.1 hp
        exact h2 hp0)
    have hT5 := HT.out.next hb2
    have HB5 := Lib.hid (below_putQ (HB4.out.trans (hb2.mono HB4.out.size)) (show w.heap.size ≤ W1.heap.size by rw [HE.out.1]; omega) false none 0 0 false none 0 0)
    have HS := Lib.hid (hT5.store false none 0 0 false none 0 0)
    have r0 := hT5.c0
    have r1 := hT5.c1
    have r2 := hT5.c2
    have r3 := hT5.c3
    have f0 := hT5.fz 0
    have f1 := hT5.fz 1
    have f2 := hT5.fz 2
    have f3 := hT5.fz 3
    unfold putQ at HB5 HS
    clear hex hb2 hT5
    go_wp2_with fail
    generalize (((W5.setCell ⟨W1.heap.size, 0, none⟩ (.bool false)).setCell ⟨W1.heap.size, 1, none⟩ (.slice none 0 0)).setCell ⟨W1.heap.size, 2, none⟩ (.bool false)).setCell ⟨W1.heap.size, 3, none⟩ (.slice none 0 0) = W9 at *
    have z0 := HS.out.c0
    have z1 := HS.out.c1
    have z2 := HS.out.c2
    have z3 := HS.out.c3
    exact bodyPost_ret (by simp [results, Tryz.results49, go_sem, z0, z1, z2, z3]) rfl (.inr ⟨HOK.out, rfl, HB5.out⟩)
end Go.Proofs.YtipbpdiahemmpaaGreat

/- The answers of qpoly's exported functions, of both kinds at once; none. -/
namespace Go.Proofs.YtipbpdiahemmpaaGreat
open Go.RowKit Go.IntWalk
attribute [local go_sem ↓] Go.wp_at_zero Go.wp_at_succ

/-- A polynomial's answer, of both kinds. -/
def RetAll (ok : Prop) (f : Nat → Rat) (w : World) (e : Ending) (w' : World) : Prop :=
  ∃ (A : Option Addr) (n c : Nat) (M : List Rat) (kk : Int), e = .returned (.tuple #[.slice A n c, .int .i64 kk]) ∧ OwQp w' w.heap.size A n c M ∧ Hid ((ok ∧ Pq.IsP f M ∧ kk = 0) ∨ (¬ok ∧ M = [] ∧ kk = 6)) ∧ Below w.heap.size w w'
theorem RetOp.all {ok : Prop} {f : Nat → Rat} {w w' : World} {e : Ending} (h : RetOp ok f w e w') : RetAll ok f w e w' := by
  rcases h with ⟨h1, A, n, c, M, kk, h2, h3, h4, h5⟩ | ⟨h1, h2, h3⟩
  · exact ⟨A, n, c, M, kk, h2, h3, Lib.hid (.inl ⟨h1, h4.out.1, h4.out.2⟩), h5⟩
  · exact ⟨none, 0, 0, [], 6, h2, OwQp.nil _ _ _, Lib.hid (.inr ⟨h1, rfl, rfl⟩), h3⟩
/-- A value's answer, of both kinds, word by word. -/
def RetRaw (ok : Prop) (x : Rat) (w : World) (e : Ending) (w' : World) : Prop :=
  ∃ (s : Bool) (A : Option Addr) (n c : Nat) (M : List Nat) (s' : Bool) (A' : Option Addr) (n' c' : Nat) (M' : List Nat) (kk : Int), e = .returned (.tuple #[.agg #[.bool s, .slice A n c, .bool s', .slice A' n' c'], .int .i64 kk]) ∧ RdU w' w'.heap.size A n c M ∧ RdU w' w'.heap.size A' n' c' M' ∧ Hid ((ok ∧ ((s, M), (s', M')) = ofQ x ∧ kk = 0) ∨ (¬ok ∧ ((s, M), (s', M')) = ((false, []), (false, [])) ∧ kk = 6)) ∧ Below w.heap.size w w'
theorem OwQ.raw {w : World} {b : Nat} {s s' : Bool} {A A' : Option Addr} {n c n' c' : Nat} {x : Rat} (h : OwQ w b s A n c s' A' n' c' x) : RdU w w.heap.size A n c (ofQ x).1.2 ∧ RdU w w.heap.size A' n' c' (ofQ x).2.2 ∧ ((s, (ofQ x).1.2), (s', (ofQ x).2.2)) = ofQ x := by
  refine ⟨h.num.own.rd, h.den.own.rd, ?_⟩
  have e1 : s = (ofQ x).1.1 := h.num.sgn
  have e2 : s' = (ofQ x).2.1 := h.den.sgn
  rw [e1, e2]
theorem RetOv.raw {ok : Prop} {x : Rat} {w w' : World} {e : Ending} (h : RetOv ok x w e w') : RetRaw ok x w e w' := by
  rcases h with ⟨h1, s, A, n, c, s', A', n', c', y, kk, h2, h3, h4, h5⟩ | ⟨h1, h2, h3⟩
  · obtain ⟨e1, e2, e3⟩ := h3.raw
    exact ⟨s, A, n, c, _, s', A', n', c', _, kk, h2, e1, e2, Lib.hid (.inl ⟨h1, by rw [e3, h4.out.1], h4.out.2⟩), h5⟩
  · exact ⟨false, none, 0, 0, [], false, none, 0, 0, [], 6, h2, RdU.nil _ _ 0 none (Nat.zero_le _), RdU.nil _ _ 0 none (Nat.zero_le _), Lib.hid (.inr ⟨h1, rfl, rfl⟩), h3⟩

set_option maxHeartbeats 400000 in
theorem lnone_any {A : Option Addr} {n c : Nat} {w : World} : Calls Tryz.prog 31 #[.slice A n c] w (RetBo (n = 0) w) := by
  go_enter Tryz.func31, Tryz.ntmps31
  by_cases h0 : n = 0
  · subst h0
    go_wp2
    go_ret
    exact ⟨true, rfl, Lib.hid (by simp), Below.refl _ _⟩
  · have hb : ((n : Int) == 0) = false := by simp; omega
    have HN := Lib.hid h0
    clear h0
    go_wp2
    go_ret
    exact ⟨false, rfl, Lib.hid ⟨fun e => by simp at e, fun e => absurd e HN.out⟩, Below.refl _ _⟩
end Go.Proofs.YtipbpdiahemmpaaGreat
