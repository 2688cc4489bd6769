/- Fractions: in lowest terms. Nothing of the program. -/
import Derived.Test.YtipbpdiahemmpaaGreatQ17
import Derived.Test.YtipbpdiahemmpaaGreatQ18
namespace Qz
/-- What numerator and denominator are divided by. -/
def gs (a b : Int) : Int := if b < 0 then -(Int.gcd a b : Int) else (Int.gcd a b : Int)
theorem gs_ne {a b : Int} (hb : b ≠ 0) : gs a b ≠ 0 := by
  have h : Int.gcd a b ≠ 0 := fun e => hb (Int.gcd_eq_zero_iff.1 e).2
  unfold gs
  split <;> omega
theorem gs_left (a b : Int) : gs a b ∣ a := by
  unfold gs
  split
  · exact Int.neg_dvd.2 (Int.gcd_dvd_left a b)
  · exact Int.gcd_dvd_left a b
theorem gs_right (a b : Int) : gs a b ∣ b := by
  unfold gs
  split
  · exact Int.neg_dvd.2 (Int.gcd_dvd_right a b)
  · exact Int.gcd_dvd_right a b
theorem make_num {a b : Int} (hb : b ≠ 0) : a.tdiv (gs a b) = (Rat.divInt a b).num := by
  rw [Rat.num_divInt, Int.gcd_comm b a]
  unfold gs
  split
  · rw [Int.tdiv_neg, Int.sign_eq_neg_one_of_neg (by assumption), Int.tdiv_eq_ediv_of_dvd (Int.gcd_dvd_left a b), Int.neg_one_mul, Int.neg_ediv_of_dvd (Int.gcd_dvd_left a b)]
  · rw [Int.sign_eq_one_of_pos (by omega), Int.one_mul, Int.tdiv_eq_ediv_of_dvd (Int.gcd_dvd_left a b)]
theorem make_den {a b : Int} (hb : b ≠ 0) : b.tdiv (gs a b) = ((Rat.divInt a b).den : Int) := by
  rw [Rat.den_divInt, if_neg hb, Int.gcd_comm b a]
  unfold gs
  split
  · rename_i h
    obtain ⟨k, hk⟩ : ∃ k : Nat, b = -(k : Int) := ⟨b.natAbs, by omega⟩
    have e : b.natAbs = k := by omega
    rw [Int.tdiv_neg, Int.tdiv_eq_ediv_of_dvd (Int.gcd_dvd_right a b), ← Int.neg_ediv_of_dvd (Int.gcd_dvd_right a b), e]
    rw [show -b = (k : Int) by omega]
    rfl
  · rename_i h
    obtain ⟨k, hk⟩ : ∃ k : Nat, b = (k : Int) := ⟨b.natAbs, by omega⟩
    have e : b.natAbs = k := by omega
    rw [Int.tdiv_eq_ediv_of_dvd (Int.gcd_dvd_right a b), e]
    conv => lhs; arg 1; rw [hk]
    rfl
theorem gcd_list (a b : Int) : [a, b].foldl (fun (g x : Int) => (Int.gcd g x : Int)) 0 = (Int.gcd a b : Int) := by
  simp [Int.gcd]
end Qz

/- Fractions in memory; rat.Make. -/
namespace Go.Proofs.YtipbpdiahemmpaaGreat
open Go.RowKit Go.IntWalk
attribute [local go_sem ↓] Go.wp_at_zero Go.wp_at_succ

/-- The four cells of a fraction. -/
def QC (w : World) (g : Nat) (s : Bool) (A : Option Addr) (n c : Nat) (s' : Bool) (A' : Option Addr) (n' c' : Nat) : Prop := w.heap[g]? = some (.cells #[.bool s, .slice A n c, .bool s', .slice A' n' c'] 56 (0, 0))
/-- A fraction in lowest terms, in memory of the call's own. -/
structure OwQ (w : World) (b : Nat) (s : Bool) (A : Option Addr) (n c : Nat) (s' : Bool) (A' : Option Addr) (n' c' : Nat) (x : Rat) : Prop where
  num : OwZ w b s A n c x.num
  den : OwZ w b s' A' n' c' (x.den : Int)
section
variable {w w' : World} {g b b' B : Nat} {s s' : Bool} {A A' : Option Addr} {n c n' c' : Nat} {x : Rat}
theorem QC.lt (h : QC w g s A n c s' A' n' c') : g < w.heap.size := (Array.getElem?_eq_some_iff.1 h).1
theorem QC.c0 (h : QC w g s A n c s' A' n' c') : w.cell? ⟨g, 0, none⟩ = some (.bool s) := by rw [cell_of_row w g 0 _ _ _ h]; rfl
theorem QC.c1 (h : QC w g s A n c s' A' n' c') : w.cell? ⟨g, 1, none⟩ = some (.slice A n c) := by rw [cell_of_row w g 1 _ _ _ h]; rfl
theorem QC.c2 (h : QC w g s A n c s' A' n' c') : w.cell? ⟨g, 2, none⟩ = some (.bool s') := by rw [cell_of_row w g 2 _ _ _ h]; rfl
theorem QC.c3 (h : QC w g s A n c s' A' n' c') : w.cell? ⟨g, 3, none⟩ = some (.slice A' n' c') := by rw [cell_of_row w g 3 _ _ _ h]; rfl
theorem QC.fz (h : QC w g s A n c s' A' n' c') (j : Nat) : w.frozen? ⟨g, j, none⟩ = false := frozen_of_row w g j _ _ h
theorem QC.next (h : QC w g s A n c s' A' n' c') (hb : Below w.heap.size w w') : QC w' g s A n c s' A' n' c' := (hb.block g h.lt).trans h
theorem QC.new (w : World) (s : Bool) (A : Option Addr) (n c : Nat) (s' : Bool) (A' : Option Addr) (n' c' : Nat) : QC (w.alloc (.cells #[.bool s, .slice A n c, .bool s', .slice A' n' c'] 56)) w.heap.size s A n c s' A' n' c' := heap_alloc_new w _
/-- A fraction is stored. -/
def putQ (w : World) (g : Nat) (s : Bool) (A : Option Addr) (n c : Nat) (s' : Bool) (A' : Option Addr) (n' c' : Nat) : World := (((w.setCell ⟨g, 0, none⟩ (.bool s)).setCell ⟨g, 1, none⟩ (.slice A n c)).setCell ⟨g, 2, none⟩ (.bool s')).setCell ⟨g, 3, none⟩ (.slice A' n' c')
theorem QC.store (h : QC w g s A n c s' A' n' c') (t : Bool) (D : Option Addr) (k m : Nat) (t' : Bool) (D' : Option Addr) (k' m' : Nat) : QC (putQ w g t D k m t' D' k' m') g t D k m t' D' k' m' := by
  unfold QC putQ at *
  simp [World.setCell, Array.getElem?_modify, h]
theorem keep_putQ (h : QC w g s A n c s' A' n' c') (t : Bool) (D : Option Addr) (k m : Nat) (t' : Bool) (D' : Option Addr) (k' m' : Nat) : KeepT w (putQ w g t D k m t' D' k' m') := fun i cs f e => by
  have hne : i ≠ g := by
    rintro rfl
    unfold QC at h
    rw [h] at e
    simp at e
  unfold putQ
  rw [Below.heap_setCell _ (⟨g, 3, none⟩ : Addr) _ i hne, Below.heap_setCell _ (⟨g, 2, none⟩ : Addr) _ i hne, Below.heap_setCell _ (⟨g, 1, none⟩ : Addr) _ i hne, Below.heap_setCell _ (⟨g, 0, none⟩ : Addr) _ i hne]
  exact e
theorem below_putQ (hb : Below B w w') (hg : B ≤ g) (t : Bool) (D : Option Addr) (k m : Nat) (t' : Bool) (D' : Option Addr) (k' m' : Nat) : Below B w (putQ w' g t D k m t' D' k' m') :=
  (((hb.setCell (p := ⟨g, 0, none⟩) hg _).setCell (p := ⟨g, 1, none⟩) hg _).setCell (p := ⟨g, 2, none⟩) hg _).setCell (p := ⟨g, 3, none⟩) hg _
theorem OwQ.next (h : OwQ w b s A n c s' A' n' c' x) (hb : Below w.heap.size w w') : OwQ w' b s A n c s' A' n' c' x := ⟨h.num.next hb, h.den.next hb⟩
theorem OwQ.base (h : OwQ w b s A n c s' A' n' c' x) (hb : b' ≤ b) : OwQ w b' s A n c s' A' n' c' x := ⟨h.num.base hb, h.den.base hb⟩
theorem OwQ.keep (h : OwQ w b s A n c s' A' n' c' x) (hk : KeepT w w') : OwQ w' b s A n c s' A' n' c' x := ⟨h.num.keep hk, h.den.keep hk⟩
/-- Two integers in a new row. -/
theorem zs_two {N : Nat} {z z' : Int} (h : RdZ w w.heap.size s A n c z) (h' : RdZ w w.heap.size s' A' n' c' z') (hn : n ≤ N) (hn' : n' ≤ N) {w1 : World} (hw : w1 = w.alloc (.cells #[.bool s, .slice A n c, .bool s', .slice A' n' c'] 28)) :
    RdZs w1 w1.heap.size N (some ⟨w.heap.size, 0, none⟩) 2 2 [z, z'] := by
  have hb : Below w.heap.size w w1 := by rw [hw]; exact (Below.refl _ _).alloc (Nat.le_refl _) _
  have hr : w1.heap[w.heap.size]? = some (.cells #[.bool s, .slice A n c, .bool s', .slice A' n' c'] 28 (0, 0)) := by rw [hw]; exact heap_alloc_new w _
  have hlt : w.heap.size < w1.heap.size := (Array.getElem?_eq_some_iff.1 hr).1
  refine ⟨rfl, Nat.le_refl _, by unfold maxLen; omega, fun j y hy => ?_⟩
  match j, hy with
  | 0, hy =>
    simp at hy
    subst hy
    exact ⟨_, s, A, n, c, rfl, hlt, by rw [add_base, cell_of_row w1 _ _ _ _ _ hr]; rfl, by rw [add_base]; exact (cell_of_row w1 _ _ _ _ _ hr).trans rfl, h.next hb, hn⟩
  | 1, hy =>
    simp at hy
    subst hy
    exact ⟨_, s', A', n', c', rfl, hlt, by rw [add_base, cell_of_row w1 _ _ _ _ _ hr]; rfl, by rw [add_base]; exact (cell_of_row w1 _ _ _ _ _ hr).trans rfl, h'.next hb, hn'⟩
  | j + 2, hy => simp at hy
end
/-- A fraction comes back in lowest terms, in memory of its own, with error 0. -/
def RetQ (x : Rat) (w : World) (e : Ending) (w' : World) : Prop :=
  ∃ (s : Bool) (A : Option Addr) (n c : Nat) (s' : Bool) (A' : Option Addr) (n' c' : Nat) (y : Rat), e = .returned (.tuple #[.agg #[.bool s, .slice A n c, .bool s', .slice A' n' c'], .int .i64 0]) ∧ OwQ w' w.heap.size s A n c s' A' n' c' y ∧ Hid (y = x) ∧ Below w.heap.size w w'
/-- Nothing comes back, with an error. -/
def RetQ0 (k : Int) (w : World) (e : Ending) (w' : World) : Prop := e = .returned (.tuple #[.agg #[.bool false, .slice none 0 0, .bool false, .slice none 0 0], .int .i64 k]) ∧ Below w.heap.size w w'
end Go.Proofs.YtipbpdiahemmpaaGreat

/- zpoly: the greatest common divisor, along a chain that is told. -/
namespace Go.Proofs.YtipbpdiahemmpaaGreat
open Go.RowKit Go.IntWalk
attribute [local go_sem ↓] Go.wp_at_zero Go.wp_at_succ

structure GT where
  a : List Int
  b : List Int
  g : Int
  h : Int
/-- One step of the chain, degrees one apart, numbers small. -/
def GStep (s t : GT) : Prop :=
  ∃ (m : Nat) (Q R : List Int), Pz.Nz s.a ∧ Pz.Nz s.b ∧ s.b.length = m + 1 ∧ s.a.length = m + 2 ∧ m ≤ 100 ∧ (∀ z ∈ s.a, z.natAbs < 4294967296) ∧ (∀ z ∈ s.b, z.natAbs < 4294967296) ∧ s.g.natAbs < 65536 ∧ s.h.natAbs < 65536 ∧ s.g ≠ 0 ∧ s.h ≠ 0 ∧
    Pz.Psd (Pz.co s.b m) 2 (Pz.co s.a) (Pz.co s.b) (Pz.co Q) (Pz.co R) ∧ Pz.Up (Pz.co Q) 2 ∧ Pz.Nz R ∧ R.length ≤ m ∧ t = ⟨s.b, R.map (exq (s.g * s.h)), Pz.co s.b m, Pz.co s.b m⟩
/-- A chain that ends. -/
inductive GRun : GT → List Int → Prop
  | done (a : List Int) (g h : Int) : GRun ⟨a, [], g, h⟩ a
  | step {s t : GT} {G : List Int} : GStep s t → GRun t G → GRun s G
/-- The chain's first numbers. -/
def gst (P P' : List Int) : GT := if P.length < P'.length then ⟨P', P, 1, 1⟩ else ⟨P, P', 1, 1⟩
/-- The primitive part. -/
abbrev pp (P : List Int) : List Int := P.map fun z => z.tdiv (prC P)
theorem pp_len (P : List Int) : (pp P).length = P.length := List.length_map ..
/-- A slice's length in a cell. -/
def lenAt (w : World) (g j : Nat) : Nat := match w.cell? ⟨g, j, none⟩ with
  | some (.slice _ n _) => n
  | _ => 0

set_option maxRecDepth 100000 in
set_option maxHeartbeats 8000000 in
theorem zgcd_run {N : Nat} {A A' : Option Addr} {n c n' c' : Nat} {L L' P P' G : List Int} {w : World} (h : RdZs w w.heap.size N A n c L) (h' : RdZs w w.heap.size N A' n' c' L') (hP : Pz.IsP (Pz.co L) P) (hP' : Pz.IsP (Pz.co L') P') (hn : n ≤ 1048576) (hn' : n' ≤ 1048576) (hN : N ≤ 400000000000) (hT : GRun (gst (pp P) (pp P')) G) (hG : Pz.Nz G) (hGs : ∀ z ∈ G, z.natAbs < 4294967296) (hGl : G.length ≤ 1000) :
    Calls Tryz.prog 222 #[.slice A n c, .slice A' n' c'] w (RetP (fun i => Pz.co (pp G) i * (Int.gcd (prC P) (prC P') : Int)) w) := by
  have hEN := enters_of Tryz.func261 (by kernel_rfl) rfl
  have HC := Lib.hid (And.intro (zl_co h) (zl_co h'))
  have HT := Lib.hid hT
  have HG := Lib.hid (And.intro hG (And.intro hGs hGl))
  have HPP := Lib.hid (And.intro hP hP')
  clear hT hG hGs hGl
  go_enter Tryz.func222, Tryz.ntmps222
  go_wp2_with fail
  refine (zprim_any h hP (by omega) (by omega)).mono ?_
  rintro _ W1 ⟨s1, A1, n1, c1, y1, A2, n2, c2, M2, rfl, ho1, ho2, hy1, hb1⟩
  obtain ⟨W2, HW2⟩ : ∃ W, W = W1.alloc (.cells #[.bool s1, .slice A1 n1 c1] 28) := ⟨_, rfl⟩
  have hb2 : Below W1.heap.size W1 W2 := by rw [HW2]; exact (Below.refl _ _).alloc (Nat.le_refl _) _
  have hX2 : ZC W2 W1.heap.size s1 A1 n1 c1 := by rw [HW2]; exact ZC.new W1 s1 A1 n1 c1
  have hB2 := hb1.trans (hb2.mono hb1.size)
  have HB2 := Lib.hid hB2
  have HX2 := Lib.hid (And.intro hX2 (And.intro (ho1.next hb2) (ho2.next hb2)))
  have h'2 := h'.next hB2
  have HW2 := Lib.hid HW2
  clear ho1 ho2 hb1 hb2 hX2 hB2 h'
  go_wp2_with fail
  rw [← HW2.out]
  clear HW2
  clear HW2
  have HG1 := Lib.hid (show W1.heap.size < W2.heap.size from HX2.out.1.lt)
  generalize W1.heap.size = gx at *
  refine (zprim_any h'2 hP' (by omega) (by omega)).mono ?_
  rintro _ W3 ⟨s3, A3, n3, c3, y3, A4, n4, c4, M4, rfl, ho3, ho4, hy3, hb3⟩
  obtain ⟨W4, HW4⟩ : ∃ W, W = W3.alloc (.cells #[.bool s3, .slice A3 n3 c3] 28) := ⟨_, rfl⟩
  have hb4 : Below W3.heap.size W3 W4 := by rw [HW4]; exact (Below.refl _ _).alloc (Nat.le_refl _) _
  have hX4 : ZC W4 W3.heap.size s3 A3 n3 c3 := by rw [HW4]; exact ZC.new W3 s3 A3 n3 c3
  have hb24 := hb3.trans (hb4.mono hb3.size)
  obtain ⟨W5, HW5⟩ : ∃ W, W = W4.alloc (.cells #[.bool s1, .slice A1 n1 c1, .bool s3, .slice A3 n3 c3] 28) := ⟨_, rfl⟩
  have hb5 : Below W4.heap.size W4 W5 := by rw [HW5]; exact (Below.refl _ _).alloc (Nat.le_refl _) _
  have hzN1 : n1 ≤ N := by
    rw [HX2.out.2.1.len, hy1.out.1]
    exact zl_prC fun z hz => by
      obtain ⟨i, _, rfl⟩ := Pz.mem_co hz
      rw [HPP.out.1.2]; exact HC.out.1 i
  have hzN3 : n3 ≤ N := by
    rw [ho3.len, hy3.out.1]
    exact zl_prC fun z hz => by
      obtain ⟨i, _, rfl⟩ := Pz.mem_co hz
      rw [HPP.out.2.2]; exact HC.out.2 i
  have hq := zs_two (N := N) (HX2.out.2.1.next hb24).rd (ho3.next hb4).rd hzN1 hzN3 HW5
  have hs4 : W4.heap.size = W3.heap.size + 1 := by rw [HW4]; simp
  have hx := (HX2.out.1.next hb24)
  have x0 := hx.c0
  have x1 := hx.c1
  have x2 := hX4.c0
  have x3 := hX4.c1
  rw [hs4] at hq
  rw [HW4] at x0 x1 x2 x3 HW5
  have HQ := Lib.hid hq
  have hb25 := hb24.trans (hb5.mono hb24.size)
  have HB5 := Lib.hid (HB2.out.trans (hb25.mono HB2.out.size))
  have HO5 := Lib.hid (And.intro ((HX2.out.2.2.next hb25).base (b' := w.heap.size) (Nat.le_refl _)) ((ho4.next (hb4.trans (hb5.mono hb4.size))).base (b' := w.heap.size) HB2.out.size))
  have HW5 := Lib.hid HW5
  clear ho3 ho4 hb3 hb4 hb5 hb24 hb25 hX4 hx hq hs4 HW4
  go_wp2_with fail
  rw [← HW5.out]
  clear HW5 x0 x1 x2 x3
  clear HW5
  refine (gcdl_any HQ.out (by omega)).mono ?_
  rintro _ W6 ⟨s6, A6, n6, c6, y6, rfl, ho6, hy6, hb6⟩
  have HG6 := Lib.hid (show y6 = (Int.gcd (prC P) (prC P') : Int) by rw [hy6.out, hy1.out.1, hy3.out.1]; exact Qz.gcd_list _ _)
  obtain ⟨W7, HW7⟩ : ∃ W, W = W6.alloc (.cells #[.bool s6, .slice A6 n6 c6] 28) := ⟨_, rfl⟩
  have hb7 : Below W6.heap.size W6 W7 := by rw [HW7]; exact (Below.refl _ _).alloc (Nat.le_refl _) _
  have hX7 : ZC W7 W6.heap.size s6 A6 n6 c6 := by rw [HW7]; exact ZC.new W6 s6 A6 n6 c6
  have hb57 := hb6.trans (hb7.mono hb6.size)
  have HB7 := Lib.hid (HB5.out.trans (hb57.mono HB5.out.size))
  have HO7 := Lib.hid (And.intro (HO5.out.1.next hb57) (HO5.out.2.next hb57))
  have HX7 := Lib.hid (And.intro hX7 ((ho6.base (b' := w.heap.size) HB5.out.size).next hb7))
  have HM := Lib.hid (show M2 = pp P ∧ M4 = pp P' from ⟨hy1.out.2, hy3.out.2⟩)
  have HNC := Lib.hid (show n6 ≤ N by rw [ho6.len, hy6.out]; exact zl_fold _ 0 (by rw [Zz.zl_zero]; exact Nat.zero_le _) (fun z hz => by
    simp at hz
    rcases hz with rfl | rfl
    · have := HX2.out.2.1.len; omega
    · obtain ⟨ad, s, A', n', c', _, _, _, _, hr, hn⟩ := HQ.out.at_ 1 z rfl
      exact Nat.le_trans hr.len hn))
  have HW7 := Lib.hid HW7
  clear ho6 hb6 hb7 hX7 hb57
  go_upto_if 32 with fail
  rw [← HW7.out]
  clear HW7
  clear HW7
  generalize W6.heap.size = gc at *
  go_cut [6, 8] from 32 to 34 (fun pv qv V => ∃ (a b : KV), pv = .slice a.A a.n a.c ∧ qv = .slice b.A b.n b.c ∧ OwZs W7 w.heap.size a.A a.n a.c (gst (pp P) (pp P')).a ∧ OwZs W7 w.heap.size b.A b.n b.c (gst (pp P) (pp P')).b ∧ V = W7)
  case first =>
    have hl2 : (pp P).length = n2 := by rw [← HO7.out.1.len, HM.out.1]
    have hl4 : (pp P').length = n4 := by rw [← HO7.out.2.len, HM.out.2]
    by_cases hlt : n2 < n4
    · have HE := Lib.hid (show gst (pp P) (pp P') = ⟨pp P', pp P, 1, 1⟩ by unfold gst; rw [if_pos (by omega)])
      have hlti : (n2 : Int) < (n4 : Int) := by omega
      clear hlt hl2 hl4
      go_wp2
      go_meet
      exact ⟨⟨A4, n4, c4⟩, ⟨A2, n2, c2⟩, rfl, rfl, by rw [HE.out]; show OwZs W7 w.heap.size A4 n4 c4 (pp P'); rw [← HM.out.2]; exact HO7.out.2, by rw [HE.out]; show OwZs W7 w.heap.size A2 n2 c2 (pp P); rw [← HM.out.1]; exact HO7.out.1, rfl⟩
    · have HE := Lib.hid (show gst (pp P) (pp P') = ⟨pp P, pp P', 1, 1⟩ by unfold gst; rw [if_neg (by omega)])
      have hlti : (n4 : Int) ≤ (n2 : Int) := by omega
      clear hlt hl2 hl4
      go_wp2
      go_meet
      exact ⟨⟨A2, n2, c2⟩, ⟨A4, n4, c4⟩, rfl, rfl, by rw [HE.out]; show OwZs W7 w.heap.size A2 n2 c2 (pp P); rw [← HM.out.1]; exact HO7.out.1, by rw [HE.out]; show OwZs W7 w.heap.size A4 n4 c4 (pp P'); rw [← HM.out.2]; exact HO7.out.2, rfl⟩
  case rest =>
    obtain ⟨a, b, rfl, rfl, hoa, hob, hV⟩ := hcut
    subst hV
    have HAB := Lib.hid (And.intro hoa hob)
    clear hoa hob
    go_wp2_with fail
    refine (of_any 1 (by decide) (by decide) wc).mono ?_
    rintro _ W8 ⟨s8, A8, n8, c8, y8, rfl, ho8, hy8, hb8⟩
    obtain rfl : y8 = 1 := hy8.out
    go_wp2_with fail
    refine (of_any 1 (by decide) (by decide) W8).mono ?_
    rintro _ W9 ⟨s9, A9, n9, c9, y9, rfl, ho9, hy9, hb9⟩
    obtain rfl : y9 = 1 := hy9.out
    obtain ⟨W10, HW10⟩ : ∃ W, W = W9.alloc (.cells #[.slice a.A a.n a.c, .slice b.A b.n b.c, .bool s8, .slice A8 n8 c8, .bool s9, .slice A9 n9 c9] 213) := ⟨_, rfl⟩
    have hb10 : Below W9.heap.size W9 W10 := by rw [HW10]; exact (Below.refl _ _).alloc (Nat.le_refl _) _
    have hK : KC W10 W9.heap.size a b ⟨s8, A8, n8, c8⟩ ⟨s9, A9, n9, c9⟩ := by rw [HW10]; exact KC.new W9 a b ⟨s8, A8, n8, c8⟩ ⟨s9, A9, n9, c9⟩
    have hb79 := hb8.trans (hb9.mono hb8.size)
    have hb710 := hb79.trans (hb10.mono hb79.size)
    have HST := Lib.hid (show (gst (pp P) (pp P')).g = 1 ∧ (gst (pp P) (pp P')).h = 1 by unfold gst; split <;> exact ⟨rfl, rfl⟩)
    have hCS : CS W10 w.heap.size W9.heap.size a b ⟨s8, A8, n8, c8⟩ ⟨s9, A9, n9, c9⟩ (gst (pp P) (pp P')).a (gst (pp P) (pp P')).b (gst (pp P) (pp P')).g (gst (pp P) (pp P')).h := by
      rw [HST.out.1, HST.out.2]
      exact ⟨hK, HAB.out.1.next hb710, HAB.out.2.next hb710, (ho8.next (hb9.trans (hb10.mono hb9.size))).base HB7.out.size, (ho9.next hb10).base (Nat.le_trans HB7.out.size hb8.size)⟩
    have HX10 := Lib.hid (HX7.out.1.next hb710)
    have HO10 := Lib.hid (show RdZ W10 W9.heap.size s6 A6 n6 c6 y6 from (HX7.out.2.next hb79).rd.below hb10)
    have HB10 := Lib.hid (HB7.out.trans (hb710.mono HB7.out.size))
    have HWG := Lib.hid (show w.heap.size ≤ W9.heap.size from Nat.le_trans HB7.out.size hb79.size)
    have HGC := Lib.hid (show gc < W9.heap.size by have := HX7.out.1.lt; have := hb79.size; omega)
    have HGK := Lib.hid (show W9.heap.size < W10.heap.size from hK.lt)
    have HW10 := Lib.hid HW10
    clear ho8 ho9 hb8 hb9 hb10 hb79 hb710 hK HX7 HAB
    go_wp2_with fail
    rw [← HW10.out]
    clear HW10
    clear HW10
    generalize W9.heap.size = g at *
    go_loopw [] (fun wr => ∃ (a b : KV) (x y : IV) (st : GT), CS wr w.heap.size g a b x y st.a st.b st.g st.h ∧ Hid (GRun st G) ∧ Hid (W10.heap.size ≤ wr.heap.size) ∧ Below g W10 wr) (fun wr => lenAt wr g 1)
    case atStart => exact ⟨a, b, _, _, _, hCS, HT, Lib.hid (Nat.le_refl _), Below.refl _ _⟩
    case round =>
      clear hCS
      obtain ⟨a, b, x, y, st, hcs, hrun, hsz, hB⟩ := hrel
      have hWr : w.heap.size ≤ wr.heap.size := Nat.le_trans HWG.out (Nat.le_trans (Nat.le_of_lt HGK.out) hB.size)
      have HWR := Lib.hid hWr
      have hX := (hB.block gc HGC.out).trans HX10.out
      have HX := Lib.hid (show ZC wr gc s6 A6 n6 c6 from hX)
      have HRC := Lib.hid (show RdZ wr g s6 A6 n6 c6 y6 from HO10.out.below hB)
      have HBB := Lib.hid hB
      have HCS := Lib.hid hcs
      clear hWr hX hB hcs
      go_wp2_with fail
      rcases hrun.out with ⟨G, gv, hv⟩ | @⟨_, t, _, hst, hr⟩
      · refine (step_zero HCS.out).mono ?_
        rintro _ W11 ⟨rfl, hb11⟩
        have hcs := HCS.out.next hb11
        have q0 := hcs.kc.cs.1
        have hrdG := hcs.oa.rd (N := 1) (fun z hz => Zz.zl_small (HG.out.2.1 z hz))
        have hGn : a.n ≤ 1000 := by rw [← hcs.oa.len]; exact HG.out.2.2
        clear hrun
        go_wp2_with fail
        clear q0
        refine (zprim_any (N := 1) hrdG (Pz.IsP.self HG.out.1) (by omega) (by omega)).mono ?_
        rintro _ W12 ⟨s12, A12, n12, c12, y12, A13, n13, c13, M13, rfl, ho12, ho13, hy13, hb12⟩
        obtain ⟨W13, HW13⟩ : ∃ W, W = W12.alloc (.cells #[.bool s12, .slice A12 n12 c12] 28) := ⟨_, rfl⟩
        have hb13 : Below W12.heap.size W12 W13 := by rw [HW13]; exact (Below.refl _ _).alloc (Nat.le_refl _) _
        have hb11_13 := hb11.trans ((hb12.trans (hb13.mono hb12.size)).mono hb11.size)
        have HB13 := Lib.hid hb11_13
        have hX13 := HX.out.next hb11_13
        have x0 := hX13.c0
        have x1 := hX13.c1
        rw [HW13] at x0 x1
        have HO13 := Lib.hid ((ho13.next hb13).base (b' := w.heap.size) (Nat.le_trans HWR.out hb11.size))
        have HM13 := Lib.hid (show M13 = pp G from hy13.out.2)
        have HW13 := Lib.hid HW13
        clear ho12 ho13 hb11 hb12 hb13 hb11_13 hX13 hcs hrdG
        go_wp2_with fail
        rw [← HW13.out]
        clear HW13 x0 x1
        clear HW13
        have HRC13 := Lib.hid (show RdZ W13 W13.heap.size s6 A6 n6 c6 y6 from (HRC.out.below (HB13.out.mono (Nat.le_of_lt HCS.out.kc.lt))).more (Nat.le_trans (Nat.le_of_lt HCS.out.kc.lt) HB13.out.size))
        have HSG := Lib.hid (show ∀ z ∈ M13, Zz.zl z ≤ 1 from fun z hz => by
          rw [HM13.out] at hz
          obtain ⟨u, hu, rfl⟩ := List.mem_map.1 hz
          exact Nat.le_trans (Zz.zl_tdiv _ _) (Zz.zl_small (HG.out.2.1 u hu)))
        have hn13 : n13 ≤ 1000 := by rw [← HO13.out.len, HM13.out, pp_len]; exact HG.out.2.2
        refine (zscale_any (N := 1) (N' := N) (HO13.out.rd HSG.out) HRC13.out (by omega) HNC.out (by omega) (by omega)).mono ?_
        rintro _ W14 ⟨A14, n14, c14, M14, rfl, ho14, hM14, hb14⟩
        have hB14 := HB10.out.trans ((HBB.out.trans ((HB13.out.trans (hb14.mono HB13.out.size)).mono (Nat.le_of_lt HCS.out.kc.lt))).mono HWG.out)
        go_wp2
        go_ret
        exact ⟨_, _, _, M14, rfl, ho14.base (Nat.le_trans HWR.out HB13.out.size), Lib.hid (by rw [← HG6.out, ← HM13.out]; exact hM14.out), hB14⟩
      · obtain ⟨m, Q, R, e1, e2, e3, e4, e5, e6, e7, e8, e9, e10, e11, e12, e13, e14, e15, rfl⟩ := hst
        have HE := Lib.hid (And.intro e3 e15)
        have HR := Lib.hid hr
        clear hrun
        refine (step_go HCS.out HWR.out e1 e2 e3 e4 e5 e6 e7 e8 e9 e10 e11 e12 e13 e14 e15).mono ?_
        rintro _ W11 ⟨b', x', y', rfl, hcs', hb11⟩
        have HC' := Lib.hid hcs'
        have HB' := Lib.hid (HBB.out.trans hb11)
        have HS' := Lib.hid (Nat.le_trans hsz.out hb11.size)
        have HMS := Lib.hid (show lenAt W11 g 1 < lenAt wr g 1 by
          unfold lenAt
          rw [hcs'.kc.cs.2.1, HCS.out.kc.cs.2.1]
          show b'.n < b.n
          rw [← hcs'.ob.len, ← HCS.out.ob.len, List.length_map, HE.out.1]
          have := HE.out.2
          omega)
        clear e1 e2 e3 e4 e5 e6 e7 e8 e9 e10 e11 e12 e13 e14 e15 hcs' hb11 hr hsz
        go_wp2
        go_roundw
        case rel => exact ⟨b, b', x', y', _, HC'.out, HR, HS', HB'.out⟩
        case measure => exact HMS.out
end Go.Proofs.YtipbpdiahemmpaaGreat

/- rat.Make. -/
namespace Go.Proofs.YtipbpdiahemmpaaGreat
open Go.RowKit Go.IntWalk
attribute [local go_sem ↓] Go.wp_at_zero Go.wp_at_succ

theorem q_boxes (w : World) (s : Bool) (A : Option Addr) (n c : Nat) (s' : Bool) (A' : Option Addr) (n' c' : Nat) :
    ∀ W1 : World, W1 = ((w.alloc (.cells #[.bool s, .slice A n c] 28)).alloc (.cells #[.bool s', .slice A' n' c'] 28)).alloc (.cells #[.bool false, .slice none 0 0, .bool false, .slice none 0 0] 56) →
      ZC W1 w.heap.size s A n c ∧ ZC W1 (w.heap.size + 1) s' A' n' c' ∧ QC W1 (w.heap.size + 1 + 1) false none 0 0 false none 0 0 ∧ Below w.heap.size w W1 := by
  rintro W1 rfl
  refine ⟨((ZC.new w s A n c).alloc _).alloc _, by simpa using (ZC.new (w.alloc (.cells #[.bool s, .slice A n c] 28)) s' A' n' c').alloc (.cells #[.bool false, .slice none 0 0, .bool false, .slice none 0 0] 56), by simpa using QC.new ((w.alloc (.cells #[.bool s, .slice A n c] 28)).alloc (.cells #[.bool s', .slice A' n' c'] 28)) false none 0 0 false none 0 0, ?_⟩
  exact (((Below.refl w.heap.size w).alloc (Nat.le_refl _) _).alloc (by simp) _).alloc (by simp; omega) _

set_option maxRecDepth 100000 in
set_option maxHeartbeats 2000000 in
theorem qmake_zero {s s' : Bool} {A A' : Option Addr} {n c n' c' : Nat} {w : World} (h' : RdZ w w.heap.size s' A' n' c' 0) (hn' : n' ≤ 1000000000000) :
    Calls Tryz.prog 210 #[.agg #[.bool s, .slice A n c], .agg #[.bool s', .slice A' n' c']] w (RetQ0 6 w) := by
  obtain ⟨W1, HW1⟩ : ∃ W, W = ((w.alloc (.cells #[.bool s, .slice A n c] 28)).alloc (.cells #[.bool s', .slice A' n' c'] 28)).alloc (.cells #[.bool false, .slice none 0 0, .bool false, .slice none 0 0] 56) := ⟨_, rfl⟩
  obtain ⟨hX, hY, hR, hB⟩ := q_boxes w s A n c s' A' n' c' W1 HW1
  have a0 := hY.c0
  have a1 := hY.c1
  rw [HW1] at a0 a1
  have h1 := h'.next hB
  have HW1 := Lib.hid HW1
  go_enter Tryz.func210, Tryz.ntmps210
  go_wp2_with fail
  rw [← HW1.out]
  clear HW1 a0 a1
  clear HW1
  refine (sign_any h1 (by omega)).mono ?_
  rintro _ W2 ⟨k, rfl, hk, hb2⟩
  obtain rfl : k = 0 := hk.out
  have hR2 := hR.next hb2
  have hB2 := hB.trans (hb2.mono hB.size)
  have r0 := hR2.c0
  have r1 := hR2.c1
  have r2 := hR2.c2
  have r3 := hR2.c3
  have f0 := hR2.fz 0
  have f1 := hR2.fz 1
  have f2 := hR2.fz 2
  have f3 := hR2.fz 3
  have HR9 := Lib.hid (hR2.store false none 0 0 false none 0 0)
  have HB9 := Lib.hid (below_putQ hB2 (show w.heap.size ≤ w.heap.size + 1 + 1 by omega) false none 0 0 false none 0 0)
  unfold putQ at HR9 HB9
  clear hX hY hR hR2 hB hB2 hb2 h1 h'
  go_wp2_with fail
  generalize (((W2.setCell ⟨w.heap.size + 1 + 1, 0, none⟩ (.bool false)).setCell ⟨w.heap.size + 1 + 1, 1, none⟩ (.slice none 0 0)).setCell ⟨w.heap.size + 1 + 1, 2, none⟩ (.bool false)).setCell ⟨w.heap.size + 1 + 1, 3, none⟩ (.slice none 0 0) = W9 at *
  have z0 := HR9.out.c0
  have z1 := HR9.out.c1
  have z2 := HR9.out.c2
  have z3 := HR9.out.c3
  exact bodyPost_ret (by simp [results, Tryz.results210, go_sem, z0, z1, z2, z3]) rfl ⟨rfl, HB9.out⟩

set_option maxRecDepth 100000 in
set_option maxHeartbeats 4000000 in
theorem qmake_any {s s' : Bool} {A A' : Option Addr} {n c n' c' : Nat} {z d : Int} {w : World} (h : RdZ w w.heap.size s A n c z) (h' : RdZ w w.heap.size s' A' n' c' d) (hn : n ≤ 1000000000000) (hn' : n' ≤ 1000000000000) (hd : d ≠ 0) :
    Calls Tryz.prog 210 #[.agg #[.bool s, .slice A n c], .agg #[.bool s', .slice A' n' c']] w (RetQ (Rat.divInt z d) w) := by
  obtain ⟨W1, HW1⟩ : ∃ W, W = ((w.alloc (.cells #[.bool s, .slice A n c] 28)).alloc (.cells #[.bool s', .slice A' n' c'] 28)).alloc (.cells #[.bool false, .slice none 0 0, .bool false, .slice none 0 0] 56) := ⟨_, rfl⟩
  obtain ⟨hX, hY, hR, hB⟩ := q_boxes w s A n c s' A' n' c' W1 HW1
  have a0 := hY.c0
  have a1 := hY.c1
  rw [HW1] at a0 a1
  have HRD := Lib.hid (show ∀ W : World, Below W1.heap.size W1 W → RdZ W W.heap.size s A n c z ∧ RdZ W W.heap.size s' A' n' c' d from fun W hb => ⟨(h.next hB).next hb, (h'.next hB).next hb⟩)
  have HCE := Lib.hid (show ∀ W : World, Below W1.heap.size W1 W → ZC W w.heap.size s A n c ∧ ZC W (w.heap.size + 1) s' A' n' c' ∧ QC W (w.heap.size + 1 + 1) false none 0 0 false none 0 0 from fun W hb => ⟨hX.next hb, hY.next hb, hR.next hb⟩)
  have HB := Lib.hid hB
  have HS := Lib.hid (show w.heap.size + 1 + 1 < W1.heap.size from hR.lt)
  have HLZ := Lib.hid (And.intro h.len h'.len)
  have HD0 := Lib.hid hd
  have HW1 := Lib.hid HW1
  clear hX hY hR hB h h' hd
  go_enter Tryz.func210, Tryz.ntmps210
  go_wp2_with fail
  rw [← HW1.out]
  clear HW1 a0 a1
  clear HW1
  refine (sign_any (HRD.out _ (Below.refl _ _)).2 (by omega)).mono ?_
  rintro _ W2 ⟨k, rfl, hk, hb2⟩
  have hkb : (k == 0) = false := by
    have e := hk.out
    have e2 := mt Int.sign_eq_zero_iff_zero.1 HD0.out
    rw [← e] at e2
    simpa using e2
  have HB2 := Lib.hid hb2
  obtain ⟨W3, HW3⟩ : ∃ W, W = W2.alloc (.cells #[.bool s, .slice A n c, .bool s', .slice A' n' c'] 28) := ⟨_, rfl⟩
  have hr3 := zs_two (N := 1000000000000) (HRD.out _ hb2).1 (HRD.out _ hb2).2 hn hn' HW3
  have hb3 : Below W2.heap.size W2 W3 := by rw [HW3]; exact (Below.refl _ _).alloc (Nat.le_refl _) _
  have HB3 := Lib.hid (hb2.trans (hb3.mono hb2.size))
  have x0 := (HCE.out _ hb2).1.c0
  have x1 := (HCE.out _ hb2).1.c1
  have y0 := (HCE.out _ hb2).2.1.c0
  have y1 := (HCE.out _ hb2).2.1.c1
  have HW3 := Lib.hid HW3
  clear hb2 hb3
  go_wp2_with fail
  rw [← HW3.out]
  clear HW3 x0 x1 y0 y1
  clear HW3
  refine (gcdl_any hr3 (by decide)).mono ?_
  rintro _ W4 ⟨s4, A4, n4, c4, g4, rfl, ho4, hg4, hb4⟩
  have HB4 := Lib.hid (HB3.out.trans (hb4.mono HB3.out.size))
  obtain ⟨W5, HW5⟩ : ∃ W, W = W4.alloc (.cells #[.bool s4, .slice A4 n4 c4] 28) := ⟨_, rfl⟩
  have hb5 : Below W4.heap.size W4 W5 := by rw [HW5]; exact (Below.refl _ _).alloc (Nat.le_refl _) _
  have HX5 := Lib.hid (show ZC W5 W4.heap.size s4 A4 n4 c4 by rw [HW5]; exact ZC.new W4 s4 A4 n4 c4)
  have HB5 := Lib.hid (HB4.out.trans (hb5.mono HB4.out.size))
  have HO5 := Lib.hid ((ho4.base (b' := W1.heap.size) HB3.out.size).next hb5)
  have HGC := Lib.hid (show W1.heap.size ≤ W4.heap.size from HB4.out.size)
  have HG4 := Lib.hid (show g4 = (Int.gcd z d : Int) by rw [hg4.out]; exact Qz.gcd_list z d)
  have HN4 := Lib.hid (show n4 ≤ 1000000000000 by
    rw [ho4.len, HG4.out]
    have e1 := Zz.zl_gcd z d
    have e2 := HLZ.out
    omega)
  have y0 := (HCE.out _ HB5.out).2.1.c0
  have y1 := (HCE.out _ HB5.out).2.1.c1
  rw [HW5] at y0 y1
  have HW5 := Lib.hid HW5
  clear hr3 ho4 hg4 hb4 hb5
  go_wp2_with fail
  rw [← HW5.out]
  clear HW5 y0 y1
  clear HW5
  generalize W4.heap.size = gc at *
  refine (sign_any (HRD.out _ HB5.out).2 (by omega)).mono ?_
  rintro _ W6 ⟨k6, rfl, hk6, hb6⟩
  have HB6 := Lib.hid (HB5.out.trans (hb6.mono HB5.out.size))
  have HX6 := Lib.hid (HX5.out.next hb6)
  have HO6 := Lib.hid (HO5.out.next hb6)
  clear hb6 HX5 HO5
  go_upto_if 21 with fail
  go_cut [] from 21 (fun wr => ∃ (s' : Bool) (A' : Option Addr) (n' c' : Nat) (y : Int), ZC wr gc s' A' n' c' ∧ OwZ wr W1.heap.size s' A' n' c' y ∧ Hid (y = Qz.gs z d) ∧ Below W1.heap.size W1 wr)
  case first =>
    by_cases hneg : k6 < 0
    · have HP := Lib.hid (show -g4 = Qz.gs z d by
        have h5 := hk6.out
        rw [h5] at hneg
        unfold Qz.gs
        rw [if_pos (Int.sign_neg_iff.1 hneg), HG4.out])
      have a0 := HX6.out.c0
      have a1 := HX6.out.c1
      go_wp2_with fail
      refine (neg_any HO6.out.rd (by have := HN4.out; omega)).mono ?_
      rintro _ W7 ⟨s7, A7, n7, c7, z7, rfl, ho7, hz7, hb7⟩
      have hX7 := HX6.out.next hb7
      have g0 := hX7.fz 0
      have g1 := hX7.fz 1
      have b0 := hX7.c0
      have b1 := hX7.c1
      have hZ8 := hX7.store s7 A7 n7 c7
      have ho8 := (ho7.base (b' := W1.heap.size) HB6.out.size).keep (keep_set2 hX7 (.bool s7) (.slice A7 n7 c7))
      have hB8 := ((HB6.out.trans (hb7.mono HB6.out.size)).setCell (p := ⟨gc, 0, none⟩) HGC.out (.bool s7)).setCell (p := ⟨gc, 1, none⟩) HGC.out (.slice A7 n7 c7)
      have HV8 := Lib.hid (show z7 = Qz.gs z d by rw [hz7.out, HP.out])
      have HALL := Lib.hid (And.intro hZ8 (And.intro ho8 hB8))
      clear a0 a1 hX7 hZ8 ho8 hB8 ho7 hb7
      go_wp2
      go_meet
      exact ⟨_, _, _, _, _, HALL.out.1, HALL.out.2.1, HV8, HALL.out.2.2⟩
    · have HP := Lib.hid (show g4 = Qz.gs z d by
        have h5 := hk6.out
        rw [h5] at hneg
        unfold Qz.gs
        rw [if_neg (mt Int.sign_neg_iff.2 hneg), HG4.out])
      have hneg' : 0 ≤ k6 := by omega
      clear hneg
      go_wp2
      go_meet
      exact ⟨_, _, _, _, _, HX6.out, HO6.out, HP, HB6.out⟩
  case rest =>
    clear HX6 HO6
    obtain ⟨s7, A7, n7, c7, y, hZ7, ho7, hy, hB7⟩ := hcut
    have HX7 := Lib.hid (And.intro hZ7 ho7)
    have HB7 := Lib.hid hB7
    have HYN := Lib.hid (show n7 ≤ 1000000000000 by
      rw [ho7.len, hy.out]
      have e1 : Zz.zl (Qz.gs z d) = Zz.zl g4 := by
        unfold Qz.gs
        split
        · rw [Zz.zl_neg, HG4.out]
        · rw [HG4.out]
      rw [e1, HG4.out]
      have e2 := Zz.zl_gcd z d
      have e3 := HLZ.out
      omega)
    have HY0 := Lib.hid (show y ≠ 0 by rw [hy.out]; exact Qz.gs_ne HD0.out)
    have a0 := hZ7.c0
    have a1 := hZ7.c1
    have x0 := (HCE.out _ hB7).1.c0
    have x1 := (HCE.out _ hB7).1.c1
    clear hZ7 ho7 hB7
    go_wp2_with fail
    clear a0 a1 x0 x1
    refine (exact_any (HRD.out _ HB7.out).1 HX7.out.2.rd hn HYN.out HY0.out).mono ?_
    rintro _ W8 ⟨s8, A8, n8, c8, q8, e8, rfl, ho8, hq8, hb8⟩
    have HQ8 := Lib.hid (show q8 = (Rat.divInt z d).num by
      rw [← Qz.make_num HD0.out, ← hy.out]
      rcases hq8.out with ⟨_, f2, _⟩ | ⟨f1, _, _⟩
      · exact f2
      · exact absurd (Int.tmod_eq_zero_of_dvd (by rw [hy.out]; exact Qz.gs_left z d)) f1)
    obtain ⟨W9, HW9⟩ : ∃ W, W = W8.alloc (.cells #[.bool s8, .slice A8 n8 c8] 28) := ⟨_, rfl⟩
    have hb9 : Below W8.heap.size W8 W9 := by rw [HW9]; exact (Below.refl _ _).alloc (Nat.le_refl _) _
    have hb79 := hb8.trans (hb9.mono hb8.size)
    have HB9 := Lib.hid (HB7.out.trans (hb79.mono HB7.out.size))
    have HX9 := Lib.hid (show ZC W9 W8.heap.size s8 A8 n8 c8 by rw [HW9]; exact ZC.new W8 s8 A8 n8 c8)
    have HO9 := Lib.hid ((ho8.base (b' := W1.heap.size) HB7.out.size).next hb9)
    have HY9 := Lib.hid (And.intro (HX7.out.1.next hb79) (HX7.out.2.next hb79))
    have a0 := HY9.out.1.c0
    have a1 := HY9.out.1.c1
    have y0 := (HCE.out _ HB9.out).2.1.c0
    have y1 := (HCE.out _ HB9.out).2.1.c1
    rw [HW9] at a0 a1 y0 y1
    have HW9 := Lib.hid HW9
    clear ho8 hq8 hb8 hb9 hb79
    go_wp2_with fail
    rw [← HW9.out]
    clear HW9 a0 a1 y0 y1
    clear HW9
    generalize W8.heap.size = gn at *
    refine (exact_any (HRD.out _ HB9.out).2 HY9.out.2.rd hn' HYN.out HY0.out).mono ?_
    rintro _ V1 ⟨t1, D1, m1, l1, q1, e1, rfl, ho1, hq1, hv1⟩
    have HQ1 := Lib.hid (show q1 = ((Rat.divInt z d).den : Int) by
      rw [← Qz.make_den HD0.out, ← hy.out]
      rcases hq1.out with ⟨_, f2, _⟩ | ⟨f1, _, _⟩
      · exact f2
      · exact absurd (Int.tmod_eq_zero_of_dvd (by rw [hy.out]; exact Qz.gs_right z d)) f1)
    obtain ⟨V2, HV2⟩ : ∃ W, W = V1.alloc (.cells #[.bool t1, .slice D1 m1 l1] 28) := ⟨_, rfl⟩
    have hv2 : Below V1.heap.size V1 V2 := by rw [HV2]; exact (Below.refl _ _).alloc (Nat.le_refl _) _
    have hv12 := hv1.trans (hv2.mono hv1.size)
    have HU2 := Lib.hid (HB9.out.trans (hv12.mono HB9.out.size))
    have hN := HX9.out.next hv12
    have hR := (HCE.out _ HU2.out).2.2
    have HF := Lib.hid (show OwQ V2 w.heap.size s8 A8 n8 c8 t1 D1 m1 l1 (Rat.divInt z d) from ⟨by rw [← HQ8.out]; exact (HO9.out.next hv12).base HB.out.size, by rw [← HQ1.out]; exact (ho1.next hv2).base (Nat.le_trans HB.out.size HB9.out.size)⟩)
    have HF9 := Lib.hid (HF.out.keep (keep_putQ hR s8 A8 n8 c8 t1 D1 m1 l1))
    have HR9 := Lib.hid (hR.store s8 A8 n8 c8 t1 D1 m1 l1)
    have HBF := Lib.hid (below_putQ (HB.out.trans (HU2.out.mono HB.out.size)) (show w.heap.size ≤ w.heap.size + 1 + 1 by omega) s8 A8 n8 c8 t1 D1 m1 l1)
    have a0 := hN.c0
    have a1 := hN.c1
    have r0 := hR.c0
    have r1 := hR.c1
    have r2 := hR.c2
    have r3 := hR.c3
    have f0 := hR.fz 0
    have f1 := hR.fz 1
    have f2 := hR.fz 2
    have f3 := hR.fz 3
    rw [HV2] at a0 a1 r0 r1 r2 r3 f0 f1 f2 f3
    unfold putQ at HF9 HR9 HBF
    have HV2 := Lib.hid HV2
    clear ho1 hq1 hv1 hv2 hv12 hN hR
    go_wp2_with fail
    rw [← HV2.out]
    clear HV2 a0 a1 r0 r1 r2 r3 f0 f1 f2 f3
    clear HV2
    generalize (((V2.setCell ⟨w.heap.size + 1 + 1, 0, none⟩ (.bool s8)).setCell ⟨w.heap.size + 1 + 1, 1, none⟩ (.slice A8 n8 c8)).setCell ⟨w.heap.size + 1 + 1, 2, none⟩ (.bool t1)).setCell ⟨w.heap.size + 1 + 1, 3, none⟩ (.slice D1 m1 l1) = V9 at *
    have z0 := HR9.out.c0
    have z1 := HR9.out.c1
    have z2 := HR9.out.c2
    have z3 := HR9.out.c3
    exact bodyPost_ret (by simp [results, Tryz.results210, go_sem, z0, z1, z2, z3]) rfl ⟨_, _, _, _, _, _, _, _, _, rfl, HF9.out, Lib.hid rfl, HBF.out⟩
end Go.Proofs.YtipbpdiahemmpaaGreat
