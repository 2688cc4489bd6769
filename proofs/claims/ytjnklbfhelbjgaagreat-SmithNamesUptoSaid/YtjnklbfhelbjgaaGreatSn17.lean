/- qpoly: Add, Sub, Derive, Monic as exported. -/
import Derived.Test.YtjnklbfhelbjgaaGreatSn16
import Derived.Test.YtjnklbfhelbjgaaGreatSn13
import Derived.Test.YtjnklbfhelbjgaaGreatSn08
import Derived.Test.YtjnklbfhelbjgaaGreatSn15
import Derived.Test.YtjnklbfhelbjgaaGreatSn11
namespace Go.Proofs.YtjnklbfhelbjgaaGreat
open Go.RowKit Go.IntWalk
attribute [local go_sem ↓] Go.wp_at_zero Go.wp_at_succ
abbrev okD (L : List (Int × Int)) : Prop := ∀ p ∈ L, p.2 ≠ 0
def RetOp (ok : Prop) (f : Nat → Rat) (w : World) (e : Ending) (w' : World) : Prop :=
 (ok ∧ RetPqE w.heap.size (fun M kk => Pq.IsP f M ∧ kk = 0) w e w') ∨ (¬ok ∧ e = .returned (.tuple #[.slice none 0 0, .int .i64 6]) ∧ Below w.heap.size w w')
theorem co_nq (L : List (Int × Int)) (i : Nat) : Pq.co (nq L) i = Pq.co (L.map qval) i := Pq.co_nrm _ i
theorem nq_len (L : List (Int × Int)) : (nq L).length ≤ L.length := Nat.le_trans (Pq.nrm_len _) (Nat.le_of_eq (List.length_map ..))
theorem nq_qs {w : World} {B N : Nat} {A : Option Addr} {n c : Nat} {L : List (Int × Int)} (h : RdQs w B N A n c L) (hd : okD L) (hN : 1 ≤ N) : ∀ x ∈ nq L, Qs N x := fun x hx => by
 obtain ⟨i, _, rfl⟩ := Pq.mem_co hx
 rw [co_nq]
 exact h.sz hd hN i
set_option maxRecDepth 100000 in
set_option maxHeartbeats 4000000 in
theorem qAddIn_any {b N c : Nat} {A : Option Addr} {P Q : List Rat} {w : World} (h : OwPs w b A 2 c [P, Q]) (hP : ∀ x ∈ P, Qs N x) (hQ : ∀ x ∈ Q, Qs N x) (hp : P.length ≤ 1048576) (hq : Q.length ≤ 1048576) (hN : N ≤ 200000000000) (h1N : 1 ≤ N) :
  Calls Tryz.prog 184 #[.slice A 2 c] w (RetPqE w.heap.size (fun M kk => Pq.IsP (fun i => Pq.co P i + Pq.co Q i) M ∧ kk = 0) w) := by
 obtain ⟨g, A1, n1, c1, L1, rfl, hbk, hx, ho1, hL1⟩ := opl_at h (show 0 < 2 by decide)
 obtain ⟨g', A2, n2, c2, L2, e, _, hy, ho2, hL2⟩ := opl_at h (show 1 < 2 by decide)
 injection e with e
 injection e with e
 subst e
 obtain rfl : P = L1 := by simpa using hL1.out
 obtain rfl : Q = L2 := by simpa using hL2.out
 have hn1 : n1 ≤ 1048576 := by rw [← ho1.len]; exact hp
 have hn2 : n2 ≤ 1048576 := by rw [← ho2.len]; exact hq
 have HX := Lib.hid (show ∀ W, Below w.heap.size w W → (W.cell? ⟨g, 0, none⟩ = some (.slice A1 n1 c1) ∧ W.cell? ⟨g, 1, none⟩ = some (.slice A2 n2 c2)) ∧ RdQs W W.heap.size N A1 n1 c1 (P.map pr) ∧ RdQs W W.heap.size N A2 n2 c2 (Q.map pr) from fun W hb => ⟨⟨(hb.cell (p := ⟨g, 0, none⟩) hbk).trans hx, (hb.cell (p := ⟨g, 1, none⟩) hbk).trans hy⟩, (ho1.next hb).rd hP, (ho2.next hb).rd hQ⟩)
 have HBD := Lib.hid (Below.refl w.heap.size w).drew
 have HCX := Lib.hid (show ∀ W, Below w.heap.size w W → _ from fun W hb => (HX.out W hb).1)
 clear h hL1 hL2 ho1 ho2 hP hQ
 go_enter Tryz.func184, Tryz.ntmps184
 go_wp2_with fail
 go_region_held3 (fun w' => w'.cell? ⟨g, 0, none⟩ = some (.slice A1 n1 c1) ∧ w'.cell? ⟨g, 1, none⟩ = some (.slice A2 n2 c2))
  (first | exact HCX.out _ HB3.out | exact HCX.out _ HBD.out)
  (first
   | (go_at_call 185; refine (qadd_poly (HX.out _ HBD.out).2.1 (HX.out _ HBD.out).2.2 hn1 hn2 hN h1N).mono ?_; rintro _ W3 ⟨A3, n3, c3, M3, rfl, ho3, hM3, hb3⟩; have HB3 := Lib.hid (HBD.out.trans (hb3.mono HBD.out.size))))
 all_goals
  have HO := Lib.hid (ho3.base (b' := w.heap.size) HBD.out.size)
  go_wp2
  go_ret2
  exact ⟨_, _, _, M3, 0, rfl, HO.out, Lib.hid ⟨hM3.out, rfl⟩, HB3.out⟩
set_option maxRecDepth 100000 in
set_option maxHeartbeats 4000000 in
theorem qAdd_any {N : Nat} {A A' : Option Addr} {n c n' c' : Nat} {L L' : List (Int × Int)} {w : World} (h : RdQs w w.heap.size N A n c L) (h' : RdQs w w.heap.size N A' n' c' L') (hn : n ≤ 1048576) (hn' : n' ≤ 1048576) (hN : N ≤ 200000000000) (h1N : 1 ≤ N) :
  Calls Tryz.prog 128 #[.slice A n c, .slice A' n' c'] w (RetOp (okD L ∧ okD L') (fun i => Pq.co (L.map qval) i + Pq.co (L'.map qval) i) w) := by
 have HEG := Lib.hid (enters_of Tryz.func184 (by kernel_rfl) rfl)
 have HH := Lib.hid (And.intro h h')
 obtain ⟨W2, HW2⟩ : ∃ W, W = w.alloc (.cells #[.slice A n c, .slice A' n' c'] 73) := ⟨_, rfl⟩
 have hps := Lib.hid (ps_two (K := 1048576) h h' hn hn' HW2)
 have HB2 := Lib.hid (show Below w.heap.size w W2 by rw [HW2]; exact (Below.refl _ _).alloc (Nat.le_refl _) _)
 have HW2 := Lib.hid HW2
 clear h h'
 go_enter Tryz.func128, Tryz.ntmps128
 go_wp2_with fail
 rw [← HW2.out]
 clear HW2
 clear HW2
 refine (norms_poly (f := 184) (Φ := fun M kk => Pq.IsP (fun i => Pq.co (L.map qval) i + Pq.co (L'.map qval) i) M ∧ kk = 0) hps.out (by decide) (by decide) (by omega) h1N HEG.out (fun hall W A' c' hb ho => (qAddIn_any (N := N) (P := nq L) (Q := nq L') ho (nq_qs HH.out.1 (hall L (by simp)) h1N) (nq_qs HH.out.2 (hall L' (by simp)) h1N) (Nat.le_trans (nq_len L) (by rw [HH.out.1.len]; exact hn)) (Nat.le_trans (nq_len L') (by rw [HH.out.2.len]; exact hn')) hN h1N).mono fun e w' ⟨A2, n2, c2, M2, kk, h1, h2, h3, h4⟩ => ⟨A2, n2, c2, M2, kk, h1, h2.base hb.size, Lib.hid ⟨h3.out.1.congr fun i => by simp only [co_nq], h3.out.2⟩, h4⟩)).mono ?_
 intro e W3 hpost
 rcases hpost with ⟨hall, A2, n2, c2, M2, kk, rfl, ho2, hM2, hb2⟩ | ⟨hex, rfl, hb2⟩
 ·have HOK := Lib.hid (show okD L ∧ okD L' from ⟨hall L (by simp), hall L' (by simp)⟩)
  have HO := Lib.hid (ho2.base (b' := w.heap.size) HB2.out.size)
  have HB3 := Lib.hid (HB2.out.trans (hb2.mono HB2.out.size))
  clear hall ho2 hb2
  go_wp2
  go_ret2
  exact .inl ⟨HOK.out, _, _, _, M2, kk, rfl, HO.out, hM2, HB3.out⟩
 ·have HOK := Lib.hid (show ¬(okD L ∧ okD L') from fun ⟨h1, h2⟩ => by
   obtain ⟨L0, hL0, p, hp, hp0⟩ := hex
   rcases List.mem_cons.1 hL0 with rfl | h3
   ·exact h1 p hp hp0
   ·obtain rfl := List.mem_singleton.1 h3
    exact h2 p hp hp0)
  have HB3 := Lib.hid (HB2.out.trans (hb2.mono HB2.out.size))
  clear hex hb2
  go_wp2
  go_ret2
  exact .inr ⟨HOK.out, rfl, HB3.out⟩
end Go.Proofs.YtjnklbfhelbjgaaGreat

/- qpoly.Scale as exported; a coefficient of a list of the call's own. -/
namespace Go.Proofs.YtjnklbfhelbjgaaGreat
open Go.RowKit Go.IntWalk
attribute [local go_sem ↓] Go.wp_at_zero Go.wp_at_succ
theorem qs_one {w : World} {N : Nat} {s s' : Bool} {A A' : Option Addr} {n c n' c' : Nat} {z d : Int} (h : RdZ w w.heap.size s A n c z) (h' : RdZ w w.heap.size s' A' n' c' d) (hn : n ≤ N) (hn' : n' ≤ N) {w1 : World} (hw : w1 = w.alloc (.cells #[.bool s, .slice A n c, .bool s', .slice A' n' c'] 47)) :
  RdQs w1 w1.heap.size N (some ⟨w.heap.size, 0, none⟩) 1 1 [(z, d)] := by
 have hb : Below w.heap.size w w1 := by rw [hw]; exact (Below.refl _ _).alloc (Nat.le_refl _) _
 have hq : QC w1 w.heap.size s A n c s' A' n' c' := by rw [hw]; exact QC.new w s A n c s' A' n' c'
 refine ⟨rfl, Nat.le_refl _, by unfold maxLen; omega, fun j p hp => ?_⟩
 match j, hp with
 | 0, hp =>
   simp at hp
   subst hp
   exact ⟨_, s, A, n, c, s', A', n', c', rfl, hq.lt, hq.c0, hq.c1, hq.c2, hq.c3, h.next hb, h'.next hb, hn, hn'⟩
 | j + 1, hp => simp at hp
set_option maxRecDepth 100000 in
set_option maxHeartbeats 4000000 in
theorem qScaleIn_any {b N c : Nat} {A : Option Addr} {P Q : List Rat} {w : World} (h : OwPs w b A 2 c [P, Q]) (hP : ∀ x ∈ P, Qs N x) (hQ : ∀ x ∈ Q, Qs N x) (hp : P.length ≤ 1048576) (hN : N ≤ 200000000000) (h1N : 1 ≤ N) :
  Calls Tryz.prog 257 #[.slice A 2 c] w (RetPqE w.heap.size (fun M kk => Pq.IsP (fun i => Pq.co P i * Pq.co Q 0) M ∧ kk = 0) w) := by
 obtain ⟨g, A1, n1, c1, L1, rfl, hbk, hx, ho1, hL1⟩ := opl_at h (show 0 < 2 by decide)
 obtain ⟨g', A2, n2, c2, L2, e, _, hy, ho2, hL2⟩ := opl_at h (show 1 < 2 by decide)
 injection e with e
 injection e with e
 subst e
 obtain rfl : P = L1 := by simpa using hL1.out
 obtain rfl : Q = L2 := by simpa using hL2.out
 have hn1 : n1 ≤ 1048576 := by rw [← ho1.len]; exact hp
 have HX := Lib.hid (show ∀ W, Below w.heap.size w W → (W.cell? ⟨g, 0, none⟩ = some (.slice A1 n1 c1) ∧ W.cell? ⟨g, 1, none⟩ = some (.slice A2 n2 c2)) ∧ RdQs W W.heap.size N A1 n1 c1 (P.map pr) ∧ RdQs W W.heap.size N A2 n2 c2 (Q.map pr) from fun W hb => ⟨⟨(hb.cell (p := ⟨g, 0, none⟩) hbk).trans hx, (hb.cell (p := ⟨g, 1, none⟩) hbk).trans hy⟩, (ho1.next hb).rd hP, (ho2.next hb).rd hQ⟩)
 have HBD := Lib.hid (Below.refl w.heap.size w).drew
 have HCX := Lib.hid (show ∀ W, Below w.heap.size w W → _ from fun W hb => (HX.out W hb).1)
 clear h hL1 hL2 ho1 ho2 hP hQ
 go_enter Tryz.func257, Tryz.ntmps257
 go_wp2_with fail
 go_region_held3 (fun w' => w'.cell? ⟨g, 0, none⟩ = some (.slice A1 n1 c1) ∧ w'.cell? ⟨g, 1, none⟩ = some (.slice A2 n2 c2))
  (first | exact HCX.out _ HB3.out | exact HCX.out _ HB2.out | exact HCX.out _ HBD.out)
  (first
   | (go_at_call 114; refine (qat_any 0 (HX.out _ HBD.out).2.2 h1N).mono ?_; rintro _ W2 ⟨s5, A5, n5, c5, s6, A6, n6, c6, rfl, h5, h6, hn5, hn6, hb2⟩; have HB2 := Lib.hid (HBD.out.trans (hb2.mono HBD.out.size)))
   | (go_at_call 258; refine (qscale_any (HX.out _ HB2.out).2.1 h5 h6 hn5 hn6 hn1 hN h1N).mono ?_; rintro _ W3 ⟨A3, n3, c3, M3, rfl, ho3, hM3, hb3⟩; have HB3 := Lib.hid (HB2.out.trans (hb3.mono HB2.out.size))))
 all_goals
  have HO := Lib.hid (ho3.base (b' := w.heap.size) HB2.out.size)
  go_wp2
  go_ret2
  exact ⟨_, _, _, M3, 0, rfl, HO.out, Lib.hid ⟨hM3.out, rfl⟩, HB3.out⟩
set_option maxRecDepth 100000 in
set_option maxHeartbeats 4000000 in
theorem qScale_any {N : Nat} {A A' A'' : Option Addr} {n c n' c' n'' c'' : Nat} {s s' : Bool} {L : List (Int × Int)} {z d : Int} {w : World} (h : RdQs w w.heap.size N A n c L) (h' : RdZ w w.heap.size s A' n' c' z) (h'' : RdZ w w.heap.size s' A'' n'' c'' d) (hn : n ≤ 1048576) (hn' : n' ≤ N) (hn'' : n'' ≤ N) (hN : N ≤ 200000000000) (h1N : 1 ≤ N) :
  Calls Tryz.prog 248 #[.slice A n c, .agg #[.bool s, .slice A' n' c', .bool s', .slice A'' n'' c'']] w (RetOp (okD L ∧ d ≠ 0) (fun i => Pq.co (L.map qval) i * Rat.divInt z d) w) := by
 have HEG := Lib.hid (enters_of Tryz.func257 (by kernel_rfl) rfl)
 obtain ⟨W1, HW1⟩ : ∃ W, W = w.alloc (.cells #[.bool s, .slice A' n' c', .bool s', .slice A'' n'' c''] 47) := ⟨_, rfl⟩
 have hb1 : Below w.heap.size w W1 := by rw [HW1]; exact (Below.refl _ _).alloc (Nat.le_refl _) _
 have hR : QC W1 w.heap.size s A' n' c' s' A'' n'' c'' := by rw [HW1]; exact QC.new w s A' n' c' s' A'' n'' c''
 obtain ⟨W2, HW2⟩ : ∃ W, W = W1.alloc (.cells #[.bool s, .slice A' n' c', .bool s', .slice A'' n'' c''] 47) := ⟨_, rfl⟩
 have hb2 : Below W1.heap.size W1 W2 := by rw [HW2]; exact (Below.refl _ _).alloc (Nat.le_refl _) _
 obtain ⟨W3, HW3⟩ : ∃ W, W = W2.alloc (.cells #[.slice A n c, .slice (some ⟨W1.heap.size, 0, none⟩) 1 1] 73) := ⟨_, rfl⟩
 have hb3 : Below W2.heap.size W2 W3 := by rw [HW3]; exact (Below.refl _ _).alloc (Nat.le_refl _) _
 have hr := (h.next hb1).next hb2
 have hq := qs_one (h'.next hb1) (h''.next hb1) hn' hn'' HW2
 have HRQ := Lib.hid (And.intro hr hq)
 have hps := Lib.hid (ps_two (K := 1048576) hr hq hn (by decide) HW3)
 have HB3 := Lib.hid ((hb1.trans (hb2.mono hb1.size)).trans (hb3.mono (Nat.le_trans hb1.size hb2.size)))
 have a0 := hR.c0
 have a1 := hR.c1
 have a2 := hR.c2
 have a3 := hR.c3
 have HW := Lib.hid (And.intro HW1 (And.intro HW2 HW3))
 have e1 : W1.heap.size = w.heap.size + 1 := by rw [HW1]; simp
 have e2 : W2.heap.size = w.heap.size + 1 + 1 := by rw [HW2]; simp [e1]
 have HE := Lib.hid (And.intro e1 e2)
 rw [HW1] at a0 a1 a2 a3
 clear h h' h'' hr hq hb1 hb2 hb3 hR HW1 HW2 HW3 e1 e2
 go_enter Tryz.func248, Tryz.ntmps248
 go_wp2_with fail
 rw [← HE.out.2, ← HE.out.1, ← HW.out.1, ← HW.out.2.1, ← HW.out.2.2]
 clear a0 a1 a2 a3 HW
 refine (norms_poly (f := 257) (Φ := fun M kk => Pq.IsP (fun i => Pq.co (L.map qval) i * Rat.divInt z d) M ∧ kk = 0) hps.out (by decide) (by decide) (by omega) h1N HEG.out (fun hall W A' c' hb ho => (qScaleIn_any (N := N) (P := nq L) (Q := nq [(z, d)]) ho (nq_qs HRQ.out.1 (hall L (by simp)) h1N) (nq_qs HRQ.out.2 (hall [(z, d)] (by simp)) h1N) (Nat.le_trans (nq_len L) (by rw [HRQ.out.1.len]; exact hn)) hN h1N).mono fun e w' ⟨A2, n2, c2, M2, kk, h1, h2, h3, h4⟩ => ⟨A2, n2, c2, M2, kk, h1, h2.base hb.size, Lib.hid ⟨h3.out.1.congr fun i => by simp only [co_nq]; rfl, h3.out.2⟩, h4⟩)).mono ?_
 intro e W4 hpost
 rcases hpost with ⟨hall, A2, n2, c2, M2, kk, rfl, ho2, hM2, hb2⟩ | ⟨hex, rfl, hb2⟩
 ·have HOK := Lib.hid (show okD L ∧ d ≠ 0 from ⟨hall L (by simp), hall [(z, d)] (by simp) (z, d) (by simp)⟩)
  have HO := Lib.hid (ho2.base (b' := w.heap.size) HB3.out.size)
  have HB4 := Lib.hid (HB3.out.trans (hb2.mono HB3.out.size))
  clear hall ho2 hb2
  go_wp2
  go_ret2
  exact .inl ⟨HOK.out, _, _, _, M2, kk, rfl, HO.out, hM2, HB4.out⟩
 ·have HOK := Lib.hid (show ¬(okD L ∧ d ≠ 0) from fun ⟨h1, h2⟩ => by
   obtain ⟨L0, hL0, p, hp, hp0⟩ := hex
   rcases List.mem_cons.1 hL0 with rfl | h3
   ·exact h1 p hp hp0
   ·obtain rfl := List.mem_singleton.1 h3
    obtain rfl := List.mem_singleton.1 hp
    exact h2 hp0)
  have HB4 := Lib.hid (HB3.out.trans (hb2.mono HB3.out.size))
  clear hex hb2
  go_wp2
  go_ret2
  exact .inr ⟨HOK.out, rfl, HB4.out⟩
end Go.Proofs.YtjnklbfhelbjgaaGreat

/- A list of fractions that came in, word by word. -/
namespace Go.Proofs.YtjnklbfhelbjgaaGreat
open Go.RowKit Go.IntWalk
abbrev RawQ := (Bool × List Nat) × (Bool × List Nat)
structure RdRQ (w : World) (B : Nat) (A : Option Addr) (n c : Nat) (R : List RawQ) : Prop where
 len : R.length = n
 le : n ≤ c
 mx : c ≤ maxLen
 at_ : ∀ (j : Nat) (r : RawQ), R[j]? = some r → ∃ (ad : Addr) (A1 : Option Addr) (n1 c1 : Nat) (A1' : Option Addr) (n1' c1' : Nat), A = some ad ∧ ad.block < B ∧ w.cell? (ad.add (j * 4)) = some (.bool r.1.1) ∧ w.cell? ⟨(ad.add (j * 4)).block, (ad.add (j * 4)).off + 1, none⟩ = some (.slice A1 n1 c1) ∧ w.cell? ⟨(ad.add (j * 4)).block, (ad.add (j * 4)).off + 2, none⟩ = some (.bool r.2.1) ∧ w.cell? ⟨(ad.add (j * 4)).block, (ad.add (j * 4)).off + 3, none⟩ = some (.slice A1' n1' c1') ∧ RdU w B A1 n1 c1 r.1.2 ∧ RdU w B A1' n1' c1' r.2.2
section
variable {w w' : World} {B B' : Nat} {A : Option Addr} {n c : Nat} {R : List RawQ}
end
end Go.Proofs.YtjnklbfhelbjgaaGreat

/- Sizes along a division over the fractions. -/
namespace Go.Proofs.YtjnklbfhelbjgaaGreat
open Go.RowKit Go.IntWalk
structure Com (S : Nat) (f : Nat → Rat) (Z : Nat → Int) (D : Int) : Prop where
 ne : D ≠ 0
 at_ : ∀ i, f i = Rat.divInt (Z i) D
 sz : ∀ i, Zz.zl (Z i) ≤ S
 dz : Zz.zl D ≤ S
def qsz (L : List (Int × Int)) : Nat := (L.map fun p => Zz.zl p.1 + Zz.zl p.2).sum
theorem qsz_cons (p : Int × Int) (L : List (Int × Int)) : qsz (p :: L) = Zz.zl p.1 + Zz.zl p.2 + qsz L := by simp [qsz]
theorem Com.qs {S : Nat} {f : Nat → Rat} {Z : Nat → Int} {D : Int} (h : Com S f Z D) (i : Nat) : Qs S (f i) := by
 rw [h.at_]
 exact Qs.divInt h.ne (h.sz i) h.dz
theorem Com.mono {S S' : Nat} {f : Nat → Rat} {Z : Nat → Int} {D : Int} (h : Com S f Z D) (hS : S ≤ S') : Com S' f Z D := ⟨h.ne, h.at_, fun i => Nat.le_trans (h.sz i) hS, Nat.le_trans h.dz hS⟩
theorem com_list : ∀ L : List (Int × Int), (∀ p ∈ L, p.2 ≠ 0) → ∃ Z D, Com (1 + qsz L) (Pq.co (L.map qval)) Z D
 | [], _ => ⟨fun _ => 0, 1, by decide, fun i => by rw [List.map_nil, Pq.co_nil]; rfl, fun i => by rw [Zz.zl_zero]; omega, Nat.le_trans (Zz.zl_small (by decide)) (by omega)⟩
 | p :: L, h => by
   obtain ⟨Z, D, hD⟩ := com_list L fun q hq => h q (List.mem_cons_of_mem _ hq)
   have hp := h p (List.mem_cons_self ..)
   have e0 := Zz.zl_mul p.2 D
   have e1 := Zz.zl_mul p.1 D
   have e2 := hD.dz
   refine ⟨fun i => if i = 0 then p.1 * D else Z (i - 1) * p.2, p.2 * D, Int.mul_ne_zero hp hD.ne, fun i => ?_, fun i => ?_, ?_⟩
   ·cases i with
    | zero =>
      rw [List.map_cons, Pq.co_cons_zero, if_pos rfl]
      show Rat.divInt p.1 p.2 = _
      rw [Rat.divInt_eq_divInt_iff hp (Int.mul_ne_zero hp hD.ne)]
      grind
    | succ i =>
      rw [List.map_cons, Pq.co_cons_succ, if_neg (by omega), hD.at_, Nat.add_sub_cancel, Rat.divInt_eq_divInt_iff hD.ne (Int.mul_ne_zero hp hD.ne)]
      grind
   ·rw [qsz_cons]
    by_cases hi : i = 0
    ·rw [if_pos hi]; omega
    ·rw [if_neg hi]
     have e3 := Zz.zl_mul (Z (i - 1)) p.2
     have e4 := hD.sz (i - 1)
     omega
   ·rw [qsz_cons]; omega
theorem divInt_div (z d : Int) : Rat.divInt z d = (z : Rat) / (d : Rat) := Rat.divInt_eq_div z d
theorem int_ne {d : Int} (h : d ≠ 0) : (d : Rat) ≠ 0 := fun e => h (by exact_mod_cast e)
theorem com_quo {S T : Nat} {f g : Nat → Rat} {Z Y : Nat → Int} {D E : Int} (h : Com S f Z D) (h' : Com T g Y E) {m n : Nat} (hn : g n ≠ 0) : Qs (S + T) (f m / g n) ∧ ∀ t, Qs (S + T) (f m / g n * g t) := by
 have hE := int_ne h'.ne
 have hD := int_ne h.ne
 have hY : Y n ≠ 0 := by
  intro e
  apply hn
  rw [h'.at_, e, Rat.zero_divInt]
 have hYq := int_ne hY
 have e0 := Zz.zl_mul D (Y n)
 have e1 := h.dz
 have e2 := h'.sz n
 constructor
 ·have e : f m / g n = Rat.divInt (Z m * E) (D * Y n) := by
   rw [h.at_, h'.at_, divInt_div, divInt_div, divInt_div, Rat.intCast_mul, Rat.intCast_mul]
   grind
  rw [e]
  refine Qs.divInt (Int.mul_ne_zero h.ne hY) ?_ (by omega)
  have e3 := Zz.zl_mul (Z m) E
  have e4 := h.sz m
  have e5 := h'.dz
  omega
 ·intro t
  have e : f m / g n * g t = Rat.divInt (Z m * Y t) (D * Y n) := by
   rw [h.at_, h'.at_, h'.at_, divInt_div, divInt_div, divInt_div, divInt_div, Rat.intCast_mul, Rat.intCast_mul]
   grind
  rw [e]
  refine Qs.divInt (Int.mul_ne_zero h.ne hY) ?_ (by omega)
  have e3 := Zz.zl_mul (Z m) (Y t)
  have e4 := h.sz m
  have e5 := h'.sz t
  omega
theorem com_step {S T : Nat} {a b : List Rat} {Z Y : Nat → Int} {D E : Int} (h : Com S (Pq.co a) Z D) (h' : Com T (Pq.co b) Y E) (hb : Pq.Nz b) (h0 : 0 < b.length) (hl : b.length ≤ a.length) : ∃ Z' D', Com (S + T + 1) (Pq.co (Pq.dstep b a)) Z' D' := by
 have hn := Pq.nz_top hb h0
 have hE := int_ne h'.ne
 have hD := int_ne h.ne
 have hY : Y (b.length - 1) ≠ 0 := by
  intro e
  apply hn
  rw [h'.at_, e, Rat.zero_divInt]
 have hYq := int_ne hY
 refine ⟨fun i => Y (b.length - 1) * Z i - (if i < a.length - b.length then 0 else Z (a.length - 1) * Y (i - (a.length - b.length))), D * Y (b.length - 1), Int.mul_ne_zero h.ne hY, fun i => ?_, fun i => ?_, ?_⟩
 ·rw [Pq.co_dstep hl]
  by_cases h1 : i < a.length - b.length
  ·rw [if_pos h1, if_pos h1, h.at_, divInt_div, divInt_div, Int.sub_zero, Rat.intCast_mul, Rat.intCast_mul]
   grind
  ·rw [if_neg h1, if_neg h1, h.at_, h.at_, h'.at_, h'.at_, divInt_div, divInt_div, divInt_div, divInt_div, divInt_div, Rat.intCast_sub, Rat.intCast_mul, Rat.intCast_mul, Rat.intCast_mul]
   grind
 ·have e1 := Zz.zl_mul (Y (b.length - 1)) (Z i)
  have e2 := h'.sz (b.length - 1)
  have e3 := h.sz i
  by_cases h1 : i < a.length - b.length
  ·rw [if_pos h1, Int.sub_zero]; omega
  ·rw [if_neg h1]
   have e4 := Zz.zl_sub (Y (b.length - 1) * Z i) (Z (a.length - 1) * Y (i - (a.length - b.length)))
   have e5 := Zz.zl_mul (Z (a.length - 1)) (Y (i - (a.length - b.length)))
   have e6 := h.sz (a.length - 1)
   have e7 := h'.sz (i - (a.length - b.length))
   omega
 ·have e1 := Zz.zl_mul D (Y (b.length - 1))
  have e2 := h'.sz (b.length - 1)
  have e3 := h.dz
  omega
theorem com_rest {T : Nat} {b : List Rat} {Y : Nat → Int} {E : Int} (h' : Com T (Pq.co b) Y E) (hb : Pq.Nz b) (h0 : 0 < b.length) : ∀ (j S : Nat) (a : List Rat) (Z : Nat → Int) (D : Int), Com S (Pq.co a) Z D → ∃ S' Z' D', Com S' (Pq.co (Pq.drest b j a)) Z' D' ∧ S' + (Pq.drest b j a).length * (T + 1) ≤ S + a.length * (T + 1)
 | 0, S, a, Z, D, h => ⟨S, Z, D, h, Nat.le_refl _⟩
 | j + 1, S, a, Z, D, h => by
   by_cases hl : b.length ≤ a.length
   ·rw [Pq.drest_step hl]
    obtain ⟨Z1, D1, h1⟩ := com_step h h' hb h0 hl
    obtain ⟨S2, Z2, D2, h2, h3⟩ := com_rest h' hb h0 j _ _ _ _ h1
    refine ⟨S2, Z2, D2, h2, ?_⟩
    have h4 := Pq.dstep_len hb h0 hl
    have h5 : ((Pq.dstep b a).length + 1) * (T + 1) ≤ a.length * (T + 1) := Nat.mul_le_mul_right _ h4
    rw [Nat.succ_mul] at h5
    omega
   ·rw [Pq.drest, if_neg hl]
    exact ⟨S, Z, D, h, Nat.le_refl _⟩
structure DivSz (N : Nat) (a b : List Rat) : Prop where
 rest : ∀ j, SzQ N (Pq.drest b j a)
 quo : ∀ j, b.length ≤ (Pq.drest b j a).length → Qs N (Pq.co (Pq.drest b j a) ((Pq.drest b j a).length - 1) / Pq.co b (b.length - 1)) ∧ ∀ t, Qs N (Pq.co (Pq.drest b j a) ((Pq.drest b j a).length - 1) / Pq.co b (b.length - 1) * Pq.co b t)
 one : 1 ≤ N
theorem div_sz {S T N : Nat} {a b : List Rat} {Z Y : Nat → Int} {D E : Int} (h : Com S (Pq.co a) Z D) (h' : Com T (Pq.co b) Y E) (hb : Pq.Nz b) (h0 : 0 < b.length) (h1 : 1 ≤ S) (hN : S + a.length * (T + 1) ≤ N) : DivSz N a b := by
 refine ⟨fun j i => ?_, fun j hj => ?_, by omega⟩
 ·obtain ⟨S', Z', D', h2, h3⟩ := com_rest h' hb h0 j _ _ _ _ h
  exact (h2.qs i).mono (by have := Nat.zero_le ((Pq.drest b j a).length * (T + 1)); omega)
 ·obtain ⟨S', Z', D', h2, h3⟩ := com_rest h' hb h0 j _ _ _ _ h
  have h5 : 1 * (T + 1) ≤ (Pq.drest b j a).length * (T + 1) := Nat.mul_le_mul_right _ (by omega)
  have hq := com_quo (m := (Pq.drest b j a).length - 1) h2 h' (Pq.nz_top hb h0)
  exact ⟨hq.1.mono (by omega), fun t => (hq.2 t).mono (by omega)⟩
end Go.Proofs.YtjnklbfhelbjgaaGreat

/- rat.made where a denominator with numerators is answered. -/
namespace Go.Proofs.YtjnklbfhelbjgaaGreat
open Go.RowKit Go.IntWalk
attribute [local go_sem ↓] Go.wp_at_zero Go.wp_at_succ
def CC (w : World) (g : Nat) (s : Bool) (A : Option Addr) (n c : Nat) (A' : Option Addr) (n' c' : Nat) : Prop := w.heap[g]? = some (.cells #[.bool s, .slice A n c, .slice A' n' c'] 194 (0, 0))
section
variable {w w' : World} {g B : Nat} {s : Bool} {A A' : Option Addr} {n c n' c' : Nat}
theorem CC.lt (h : CC w g s A n c A' n' c') : g < w.heap.size := (Array.getElem?_eq_some_iff.1 h).1
theorem CC.c0 (h : CC w g s A n c A' n' c') : w.cell? ⟨g, 0, none⟩ = some (.bool s) := by rw [cell_of_row w g 0 _ _ _ h]; rfl
theorem CC.c1 (h : CC w g s A n c A' n' c') : w.cell? ⟨g, 1, none⟩ = some (.slice A n c) := by rw [cell_of_row w g 1 _ _ _ h]; rfl
theorem CC.c2 (h : CC w g s A n c A' n' c') : w.cell? ⟨g, 2, none⟩ = some (.slice A' n' c') := by rw [cell_of_row w g 2 _ _ _ h]; rfl
theorem CC.fz (h : CC w g s A n c A' n' c') (j : Nat) : w.frozen? ⟨g, j, none⟩ = false := frozen_of_row w g j _ _ h
theorem CC.next (h : CC w g s A n c A' n' c') (hb : Below w.heap.size w w') : CC w' g s A n c A' n' c' := (hb.block g h.lt).trans h
theorem CC.new (w : World) (s : Bool) (A : Option Addr) (n c : Nat) (A' : Option Addr) (n' c' : Nat) : CC (w.alloc (.cells #[.bool s, .slice A n c, .slice A' n' c'] 194)) w.heap.size s A n c A' n' c' := heap_alloc_new w _
theorem CC.store (h : CC w g s A n c A' n' c') (t : Bool) (D : Option Addr) (k m : Nat) (D' : Option Addr) (k' m' : Nat) : CC (((w.setCell ⟨g, 0, none⟩ (.bool t)).setCell ⟨g, 1, none⟩ (.slice D k m)).setCell ⟨g, 2, none⟩ (.slice D' k' m')) g t D k m D' k' m' := by
 unfold CC at *
 simp [World.setCell, Array.getElem?_modify, h]
theorem CC.far (h : CC w g s A n c A' n' c') {p : Addr} (hp : g ≠ p.block) (u : Value) : CC (w.setCell p u) g s A n c A' n' c' := (Below.heap_setCell w p u g hp).trans h
theorem below_putC (hb : Below B w w') (hg : B ≤ g) (x y z : Value) : Below B w (((w'.setCell ⟨g, 0, none⟩ x).setCell ⟨g, 1, none⟩ y).setCell ⟨g, 2, none⟩ z) :=
 ((hb.setCell (p := ⟨g, 0, none⟩) hg _).setCell (p := ⟨g, 1, none⟩) hg _).setCell (p := ⟨g, 2, none⟩) hg _
end
def RetCm (d : Int) (P : List Int) (w : World) (e : Ending) (w' : World) : Prop :=
 ∃ (s : Bool) (A : Option Addr) (n c : Nat) (y : Int) (A' : Option Addr) (n' c' : Nat) (M : List Int) (kk : Int), e = .returned (.tuple #[.agg #[.bool s, .slice A n c, .slice A' n' c'], .int .i64 kk]) ∧ OwZ w' w.heap.size s A n c y ∧ OwZs w' w.heap.size A' n' c' M ∧ Hid (y = d ∧ M = P ∧ kk = 0) ∧ Below w.heap.size w w'
set_option maxRecDepth 100000 in
set_option maxHeartbeats 8000000 in
theorem made_common {f N : Nat} {A : Option Addr} {n c : Nat} {L : List (Int × Int)} {w : World} {d : Int} {P : List Int} (h : RdQs w w.heap.size N A n c L) (hn : n ≤ 1048576) (hN : N ≤ 1000000000000) (hall : ∀ p ∈ L, p.2 ≠ 0) (heg : ∀ args w, (callFunc f args).run Tryz.prog w = .ok (.enter f args) w)
  (hdo : ∀ (W : World) (A' : Option Addr) (c' : Nat) (b : Nat), Below w.heap.size w W → w.heap.size ≤ b → OwQs W b A' n c' (L.map qval) → Calls Tryz.prog f #[.slice A' n c'] W (RetCm d P W)) :
  Calls Tryz.prog 169 #[.func (.func f) #[] #[], .slice A n c] w (RetCm d P w) := by
 have HD := Lib.hid hdo
 have HLEN := Lib.hid h.len
 have hmk := fun W : World => make_qroom n (by omega) W
 obtain ⟨i0, hi, hz0, hz1, hz2⟩ := info_parts infoQ
 have HAL := Lib.hid hall
 obtain ⟨W0, HW0⟩ : ∃ W, W = (w.alloc (.cells #[.bool false, .slice none 0 0, .slice none 0 0] 194)).alloc (.cells #[.bool false, .slice none 0 0, .slice none 0 0] 194) := ⟨_, rfl⟩
 have hR0 : CC W0 w.heap.size false none 0 0 none 0 0 := by rw [HW0]; exact (CC.new w false none 0 0 none 0 0).next ((Below.refl _ _).alloc (Nat.le_refl _) _)
 have hB0 : Below w.heap.size w W0 := by rw [HW0]; exact ((Below.refl w.heap.size w).alloc (Nat.le_refl _) _).alloc (by simp) _
 have hs0 : W0.heap.size = w.heap.size + 1 + 1 := by rw [HW0]; simp
 obtain ⟨W1, HW1⟩ : ∃ W, W = W0.alloc (.cells (madeCells #[.bool false, .slice none 0 0, .bool false, .slice none 0 0] (n * 4)) 47) := ⟨_, rfl⟩
 have hb1 : Below W0.heap.size W0 W1 := by rw [HW1]; exact (Below.refl _ _).alloc (Nat.le_refl _) _
 have hO1 : OwQs W1 W0.heap.size (some ⟨W0.heap.size, 0, none⟩) 0 n [] := by rw [HW1]; exact OwQs.room W0 n (by unfold maxLen; omega)
 have HRZ := Lib.hid (show ∀ W : World, Below W0.heap.size W0 W → CC W w.heap.size false none 0 0 none 0 0 from fun W hb => hR0.next hb)
 have HB0 := Lib.hid hB0
 have HS0 := Lib.hid hs0
 rw [hs0] at hO1
 rw [HW0] at HW1
 have HW1 := Lib.hid HW1
 clear hdo hall hR0 hB0 hs0 HW0
 go_enter Tryz.func169, Tryz.ntmps169
 go_wp2_with fail
 rw [← HW1.out]
 clear HW1
 clear HW1
 have HLT := Lib.hid (show w.heap.size + 1 < W0.heap.size by rw [HS0.out]; exact Nat.lt_succ_self _)
 rw [← HS0.out] at hO1
 go_loopw [7, 17] (fun ov iv wr => ∃ (j c' : Nat) (A' : Option Addr) (M : List Rat), ov = .slice A' j c' ∧ iv = .int .i64 j ∧ j ≤ n ∧ OwQs wr W0.heap.size A' j c' M ∧ Hid (M = (L.take j).map qval) ∧ Hid (∀ (i : Nat) (p : Int × Int), i < j → L[i]? = some p → p.2 ≠ 0) ∧ Below W0.heap.size W0 wr) (fun _ iv _ => n - (intOf iv).toNat)
 case atStart => exact ⟨0, n, _, [], by rw [HS0.out], rfl, Nat.zero_le _, hO1, Lib.hid rfl, Lib.hid fun i p hi => absurd hi (Nat.not_lt_zero _), hb1⟩
 case round =>
  clear hO1 hb1
  obtain ⟨j, c', A', M, rfl, rfl, hj, ho, hM, hne, hB⟩ := hrel
  by_cases hjn : j = n
  ·subst hjn
   have HBW := Lib.hid (HB0.out.trans (hB.mono HB0.out.size))
   have HO := Lib.hid (show OwQs wr W0.heap.size A' j c' (L.map qval) by rw [← List.take_of_length_le (l := L) (by rw [HLEN.out]; exact Nat.le_refl _), ← hM.out]; exact ho)
   have HR := Lib.hid (HRZ.out _ hB)
   have HLW := Lib.hid (show w.heap.size < wr.heap.size from Nat.lt_of_lt_of_le (Nat.lt_trans (Nat.lt_succ_self _) HLT.out) hB.size)
   clear ho hB hM hne
   go_wp2_with fail
   refine (HD.out wr A' c' _ HBW.out HB0.out.size HO.out).mono ?_
   rintro _ W5 ⟨s5, A5, n5, c5, y5, A6, n6, c6, M6, kk, rfl, ho5, ho6, hy, hb5⟩
   have hR5 := HR.out.next hb5
   have r0 := hR5.c0
   have r1 := hR5.c1
   have r2 := hR5.c2
   have f0 := hR5.fz 0
   have f1 := hR5.fz 1
   have f2 := hR5.fz 2
   have HR9 := Lib.hid (hR5.store s5 A5 n5 c5 A6 n6 c6)
   have HO9 := Lib.hid (And.intro ((((ho5.far (p := ⟨w.heap.size, 0, none⟩) HLW.out (.bool s5)).far (p := ⟨w.heap.size, 1, none⟩) HLW.out (.slice A5 n5 c5)).far (p := ⟨w.heap.size, 2, none⟩) HLW.out (.slice A6 n6 c6)).base (b' := w.heap.size) (Nat.le_of_lt HLW.out)) ((((ho6.far (p := ⟨w.heap.size, 0, none⟩) HLW.out (.bool s5)).far (p := ⟨w.heap.size, 1, none⟩) HLW.out (.slice A5 n5 c5)).far (p := ⟨w.heap.size, 2, none⟩) HLW.out (.slice A6 n6 c6)).base (b' := w.heap.size) (Nat.le_of_lt HLW.out)))
   have HB9 := Lib.hid (below_putC (HBW.out.trans (hb5.mono HBW.out.size)) (Nat.le_refl w.heap.size) (.bool s5) (.slice A5 n5 c5) (.slice A6 n6 c6))
   clear ho5 ho6 hb5 hR5
   go_wp2_with fail
   generalize ((W5.setCell ⟨w.heap.size, 0, none⟩ (.bool s5)).setCell ⟨w.heap.size, 1, none⟩ (.slice A5 n5 c5)).setCell ⟨w.heap.size, 2, none⟩ (.slice A6 n6 c6) = W9 at *
   have z0 := HR9.out.c0
   have z1 := HR9.out.c1
   have z2 := HR9.out.c2
   exact bodyPost_ret (by simp [results, Tryz.results169, go_sem, z0, z1, z2]) rfl ⟨s5, A5, n5, c5, y5, A6, n6, c6, M6, kk, rfl, HO9.out.1, HO9.out.2, hy, HB9.out⟩
  ·have hjl : j < n := by omega
   clear hjn
   have hjli : (j : Int) < (n : Int) := by omega
   have hBW := HB0.out.trans (hB.mono HB0.out.size)
   obtain ⟨ad, s1, A1, n1, c1, s2, A2, n2, c2, z1, d1, rfl, hbk, hx0, hx1, hx2, hx3, hr1, hr2, hn1, hn2, hp⟩ := qs_at h hjl
   obtain ⟨hy0, hy1, hy2, hy3⟩ := qs_cells hBW hbk hx0 hx1 hx2 hx3
   obtain ⟨W2, HW2⟩ : ∃ W, W = wr.alloc (.cells #[.bool s1, .slice A1 n1 c1, .bool s2, .slice A2 n2 c2] 47) := ⟨_, rfl⟩
   have hb2 : Below wr.heap.size wr W2 := by rw [HW2]; exact (Below.refl _ _).alloc (Nat.le_refl _) _
   have hB2 := hB.trans (hb2.mono hB.size)
   have hBW2 := hBW.trans (hb2.mono hBW.size)
   have HO := Lib.hid (ho.next hb2)
   have HRD := Lib.hid (And.intro (hr1.next hBW2) (hr2.next hBW2))
   have HB2 := Lib.hid hB2
   have HBW2 := Lib.hid hBW2
   have HNN := Lib.hid (And.intro (Nat.le_trans hn1 hN) (Nat.le_trans hn2 hN))
   have HW2 := Lib.hid HW2
   clear ho hB hb2 hB2 hBW hBW2 hr1 hr2 hx0 hx1 hx2 hx3
   go_wp2_with fail
   rw [← HW2.out]
   clear HW2 hy0 hy1 hy2 hy3
   clear HW2
   have HD1 := Lib.hid (show d1 ≠ 0 from HAL.out _ (List.mem_of_getElem? hp.out))
   refine (qnorm_any HRD.out.1 HRD.out.2 HNN.out.1 HNN.out.2 HD1.out).mono ?_
   rintro _ W3 ⟨s3, A3, n3, c3, s4, A4, n4, c4, y, rfl, ho3, hy, hb3⟩
   have hB3 := HB2.out.trans (hb3.mono HB2.out.size)
   obtain ⟨W4, HW4⟩ : ∃ W, W = W3.alloc (.cells #[.bool s3, .slice A3 n3 c3, .bool s4, .slice A4 n4 c4] 47) := ⟨_, rfl⟩
   have hb4 : Below W3.heap.size W3 W4 := by rw [HW4]; exact (Below.refl _ _).alloc (Nat.le_refl _) _
   have hB4 := hB3.trans (hb4.mono hB3.size)
   obtain ⟨E, hE, hEl, hEn⟩ := (HO.out.next hb3).next hb4
   have HO4 := Lib.hid ((ho3.base HB2.out.size).next hb4)
   rw [HW4] at hE hB4 hEn
   rw [HW4] at HO4
   have HE := Lib.hid hE
   have HEN := Lib.hid (And.intro hEl hEn)
   have HM2 := Lib.hid (show M ++ [y] = (L.take (j + 1)).map qval by rw [hM.out, hy.out]; exact mapq_snoc hp.out)
   have HNE2 := Lib.hid (show ∀ (i : Nat) (p : Int × Int), i < j + 1 → L[i]? = some p → p.2 ≠ 0 from fun i p hi hq => by
    rcases Nat.lt_or_ge i j with h1 | h1
    ·exact hne.out i p h1 hq
    ·rw [show i = j by omega, hp.out] at hq
     injection hq with hq
     rw [← hq]
     exact HD1.out)
   have HB4 := Lib.hid hB4
   clear hE hEl hEn hb3 ho3 hb4 hB3 hB4 hy HO hne hM
   clear HW4
   go_wp2_with (at_builtin; refine wpList_append_own _ rfl _ _ 72 rfl W0.heap.size 47 i0 (.agg #[.bool false, .slice none 0 0, .bool false, .slice none 0 0]) 4 64 Tryz.underlying72 hi hz0 hz1 hz2 rfl (by decide) _ _ _ rfl (HE.out.alloc _) ⟨W3.heap.size + 1, 0, none⟩ 1 1 [.bool s3, .slice A3 n3 c3, .bool s4, .slice A4 n4 c4] rfl rfl (by simpa using qcell_new (W3.alloc (.cells #[.bool s3, .slice A3 n3 c3, .bool s4, .slice A4 n4 c4] 47)) (.bool s3) (.slice A3 n3 c3) (.bool s4) (.slice A4 n4 c4) 47) (by simp [Value.oneCell']) (by unfold maxLen; omega) (by omega) (by have := HB4.out.size; simp at this ⊢; omega) ?_; intro v' w1 hown' hgrow _)
   have hmore := qs_more (e := ((s3, A3, n3, c3), (s4, A4, n4, c4))) (x := y) HO4.out rfl (HE.out.alloc _) HEN.out.1 HEN.out.2 hown' hgrow
   have HB5 := Lib.hid ((HB4.out.alloc HB4.out.size (.cells #[.bool s3, .slice A3 n3 c3, .bool s4, .slice A4 n4 c4] 47)).grown hgrow (by have := HB4.out.size; simp at this ⊢; omega) (own_block HE.out))
   obtain ⟨A5, c5, rfl, ho5⟩ := hmore
   clear hown' hgrow HE HEN HO4
   go_wp2
   go_roundw
   case rel => exact ⟨j + 1, c5, A5, M ++ [y], rfl, by go_num, by omega, ho5, HM2, HNE2, HB5.out⟩
   case measure => simp [intOf]; omega
end Go.Proofs.YtjnklbfhelbjgaaGreat
