/- The laws' walks: lists of primes. -/
import Derived.Test.YtjnhfakdpnnboaaDoorW16
import Derived.Test.YtjnhfakdpnnboaaDoorL7
import Derived.Sort.CutIn
import Derived.Deep.RegionHeld3
import Derived.Deep.AppendLies
namespace Go.Proofs.YtjnhfakdpnnboaaDoor
open Go.RowKit Go.IntWalk Go.Shelf
attribute [local go_sem] Oper.semAt_some

/-- What List tells, whatever is asked: the list with 0, or none with 1. -/
def ListIs (k : Int) (P : List Nat) (c : Int) (L : List Nat) : Prop := ((k < 0 ∨ 10000 < k) → c = 1 ∧ L = []) ∧ (0 ≤ k → k ≤ 10000 → c = 0 ∧ L = P)
def RetLs (k : Int) (P : List Nat) (w : World) (e : Ending) (w' : World) : Prop :=
  ∃ (v : Value) (L : List Nat) (c : Int), e = .returned (.tuple #[v, .int .i64 c]) ∧ Hid (ListIs k P c L) ∧ w'.ownsRow w.heap.size 25 1 v L.length (ucells L) ∧ Below w.heap.size w w'
theorem List_all (p : Nat) (hp : p < 4294967296) (k : Int) (d : Bool) (w : World) (hT : Tabs w) :
    Calls Tryd.prog 36 #[.int .u32 p, .int .i64 k, .bool d] w (RetLs k ((Nt.frm d p).take k.toNat) w) := by
  by_cases hk : k < 0 ∨ 10000 < k
  · refine (List_err p k d hk w).mono ?_
    rintro e w' ⟨he, hb⟩
    exact ⟨_, [], 1, he, Lib.hid ⟨fun _ => ⟨rfl, rfl⟩, fun _ _ => by omega⟩, World.ownsRow_nil _ _ _ _, hb⟩
  · obtain ⟨n, rfl⟩ : ∃ n : Nat, k = n := ⟨k.toNat, by omega⟩
    have h : Calls Tryd.prog 36 #[.int .u32 p, .int .i64 n, .bool d] w (RetPL ((Nt.frm d p).take n) w) := by
      cases d
      · exact List_up p n hp (by omega) w hT
      · exact List_down p n hp (by omega) w hT
    refine h.mono ?_
    rintro e w' ⟨v, L, he, hL, ho, hb⟩
    exact ⟨v, L, 0, he, Lib.hid ⟨fun h => by omega, fun _ _ => ⟨rfl, hL.out⟩⟩, ho, hb⟩

/-- What stays of the law's own cells: the range's, and the answer's. -/
structure LF (w W : World) (d : Bool) (lo hi : Nat) : Prop where
  c0 : W.cell? ⟨w.heap.size, 0, none⟩ = some (.bool d)
  c1 : W.cell? ⟨w.heap.size, 1, none⟩ = some (.int .u32 lo)
  c2 : W.cell? ⟨w.heap.size, 2, none⟩ = some (.int .u32 hi)
  r : ∃ u, W.cell? ⟨w.heap.size + 1, 0, none⟩ = some u
  f : W.frozen? ⟨w.heap.size + 1, 0, none⟩ = false
  s : w.heap.size + 2 ≤ W.heap.size
  B : Below w.heap.size w W
theorem LF.below {w W W' : World} {d : Bool} {lo hi B : Nat} (h : LF w W d lo hi) (hB : w.heap.size + 2 ≤ B) (hb : Below B W W') : LF w W' d lo hi :=
  ⟨(hb.cell (p := ⟨_, 0, none⟩) (by show w.heap.size < B; omega)).trans h.c0, (hb.cell (p := ⟨_, 1, none⟩) (by show w.heap.size < B; omega)).trans h.c1, (hb.cell (p := ⟨_, 2, none⟩) (by show w.heap.size < B; omega)).trans h.c2,
    h.r.imp fun u hu => (hb.cell (p := ⟨_, 0, none⟩) (by show w.heap.size + 1 < B; omega)).trans hu, (hb.frozen (p := ⟨_, 0, none⟩) (by show w.heap.size + 1 < B; omega)).trans h.f, Nat.le_trans h.s hb.size, h.B.trans (hb.mono (by omega))⟩
theorem LF.start (w : World) (d : Bool) (lo hi : Nat) : LF w ((w.alloc (.cells #[.bool d, .int .u32 lo, .int .u32 hi] 48)).alloc (.cells #[.bool false] 4)) d lo hi :=
  ⟨by go_simp, by go_simp, by go_simp, ⟨.bool false, by go_simp⟩, by go_simp, by simp, ((Below.refl _ w).alloc (Nat.le_refl _) _).alloc (by simp) _⟩
theorem LF.tabs {w W : World} {d : Bool} {lo hi : Nat} (h : LF w W d lo hi) (hT : Tabs w) : Tabs W := hT.below h.B

/-- The two lists, from place j on the one, whole the other. -/
structure LS (g1 g2 : Nat) (L : List Nat) (j : Nat) (W : World) : Prop where
  c1 : ∀ (x v : Nat), j ≤ x → L[x]? = some v → W.cell? ⟨g1, x, none⟩ = some (.int .u32 v)
  f1 : ∀ x, W.frozen? ⟨g1, x, none⟩ = false
  c2 : ∀ (x v : Nat), L[x]? = some v → W.cell? ⟨g2, x, none⟩ = some (.int .u32 v)
  ne : g1 ≠ g2
theorem LS.store {g1 g2 : Nat} {L : List Nat} {j : Nat} {W : World} (h : LS g1 g2 L j W) (u : Value) : LS g1 g2 L (j + 1) (W.setCell ⟨g1, j, none⟩ u) :=
  ⟨fun x v hx hv => (World.cell?_setCell_other W ⟨g1, j, none⟩ ⟨g1, x, none⟩ u (by intro e; injection e with _ e; omega)).trans (h.c1 x v (by omega) hv),
    fun x => by rw [World.frozen?_setCell]; exact h.f1 x,
    fun x v hv => (World.cell?_setCell_other W ⟨g1, j, none⟩ ⟨g2, x, none⟩ u (by intro e; injection e with e _; exact h.ne e)).trans (h.c2 x v hv), h.ne⟩
theorem LF.store {w W : World} {d : Bool} {lo hi g j : Nat} (h : LF w W d lo hi) (hg : w.heap.size + 2 ≤ g) (u : Value) : LF w (W.setCell ⟨g, j, none⟩ u) d lo hi :=
  h.below (Nat.le_refl _) ((Below.refl (w.heap.size + 2) W).setCell (p := ⟨g, j, none⟩) hg u)
/-- Where the law stands in the primes. -/
def LAt (d : Bool) (p j q : Nat) (m : Bool) : Prop := (j = 0 ∧ q = p ∧ m = Nt.isP p) ∨ (0 < j ∧ m = true ∧ (Nt.frm d p).drop j = Nt.aft d q)
def LCur (d : Bool) (p j v : Nat) (b : Bool) : Prop := (Nt.frm d p).drop j = if b then v :: Nt.aft d v else []
theorem LAt.stay {d : Bool} {p j q : Nat} (h : LAt d p j q true) (h0 : ¬ 0 < j) : LCur d p j q true := by
  rcases h with ⟨rfl, rfl, hm⟩ | ⟨h1, _⟩
  · exact Nt.frm_yes hm.symm
  · omega
theorem LAt.step {d : Bool} {p j q v : Nat} {m b : Bool} (h : LAt d p j q m) (hc : 0 < j ∨ m = false) (hs : Nt.IsStep d q v b) : LCur d p j v b := by
  rcases h with ⟨rfl, rfl, hm⟩ | ⟨h0, _, hd⟩
  · rcases hc with h | h
    · omega
    · exact Nt.frm_no (hm.symm.trans h) hs
  · exact hd.trans (Nt.aft_step hs)
theorem LCur.next {d : Bool} {p j v : Nat} (h : LCur d p j v true) : LAt d p (j + 1) v true := by
  have h' : (Nt.frm d p).drop j = v :: Nt.aft d v := h
  refine .inr ⟨by omega, rfl, ?_⟩
  rw [← List.drop_drop, h']
  rfl
theorem LCur.at {d : Bool} {p j v n : Nat} (h : LCur d p j v true) (hj : j < n) : ((Nt.frm d p).take n)[j]? = some v := by
  have h' : (Nt.frm d p).drop j = v :: Nt.aft d v := h
  rw [List.getElem?_take_of_lt hj]
  have := congrArg (·[0]?) h'
  simpa [List.getElem?_drop] using this
theorem LCur.ends {d : Bool} {p j v n : Nat} (h : LCur d p j v false) (hj : j ≤ ((Nt.frm d p).take n).length) : ((Nt.frm d p).take n).length = j := by
  have h' : (Nt.frm d p).drop j = [] := h
  have := List.drop_eq_nil_iff.1 h'
  simp at hj ⊢
  omega
/-- What a list in the row of its own reads. -/
theorem row_reads {W : World} {B n : Nat} {a : Option Addr} {c : Nat} {L : List Nat} (h : W.ownsRow B 25 1 (.slice a n c) n (ucells L)) (hn : 0 < n) :
    ∃ g, a = some ⟨g, 0, none⟩ ∧ B ≤ g ∧ g < W.heap.size ∧ (∀ (x v : Nat), L[x]? = some v → W.cell? ⟨g, x, none⟩ = some (.int .u32 v)) ∧ ∀ x, W.frozen? ⟨g, x, none⟩ = false := by
  obtain ⟨g, cap, hv, hb, hlt⟩ := h.form hn
  have ha : a = some ⟨g, 0, none⟩ := by injection hv
  subst ha
  refine ⟨g, rfl, hb, hlt, fun x v hx => ?_, fun x => h.frozenAt x⟩
  have hl : x < L.length := by
    rcases Nat.lt_or_ge x L.length with h | h
    · exact h
    · rw [List.getElem?_eq_none h] at hx; cases hx
  have h1 := h.1
  rw [h.cellAt x (by rw [← h1]; simpa [ucells] using hl)]
  simp [ucells, hx]

/-- What the walk through the range holds. -/
structure LR (w W : World) (d : Bool) (lo hi Bi Ba Bm i v : Nat) (b : Bool) : Prop where
  F : LF w W d lo hi
  ci : W.cell? ⟨Bi, 0, none⟩ = some (.int .i64 i)
  fi : W.frozen? ⟨Bi, 0, none⟩ = false
  ca : W.cell? ⟨Ba, 0, none⟩ = some (.int .u32 v)
  fa : W.frozen? ⟨Ba, 0, none⟩ = false
  cm : W.cell? ⟨Bm, 0, none⟩ = some (.bool b)
  fm : W.frozen? ⟨Bm, 0, none⟩ = false
  bi : w.heap.size + 2 ≤ Bi
  ba : Bi < Ba
  bm : Bi < Bm
  ne : Ba ≠ Bm
  la : Ba < W.heap.size
  lm : Bm < W.heap.size
theorem LR.start1 {w wy : World} {d : Bool} {lo hi Bi : Nat} (hF : LF w wy d lo hi) (hci : wy.cell? ⟨Bi, 0, none⟩ = some (.int .i64 (0 : Nat))) (hfi : wy.frozen? ⟨Bi, 0, none⟩ = false) (hs : wy.heap.size = Bi + 1) (hB : w.heap.size + 2 ≤ Bi)
    (v : Nat) (b : Bool) (t t' : TypeId) : LR w (((wy.alloc (.cells #[.int .u32 v] t)).alloc (.cells #[.bool b] t')).drew) d lo hi Bi wy.heap.size (wy.heap.size + 1) 0 v b := by
  have hlt : Bi < wy.heap.size := by omega
  refine ⟨hF.below hF.s ((((Below.refl _ _).alloc (Nat.le_refl _) _).alloc (by simp) _).drew), ?_, ?_, ?_, ?_, ?_, ?_, hB, hlt, by omega, by omega, by simp; try omega, by simp; try omega⟩ <;> go_simp
  all_goals assumption
theorem LR.start2 {w wy : World} {d : Bool} {lo hi Bi : Nat} (hF : LF w wy d lo hi) (hci : wy.cell? ⟨Bi, 0, none⟩ = some (.int .i64 (0 : Nat))) (hfi : wy.frozen? ⟨Bi, 0, none⟩ = false) (hs : wy.heap.size = Bi + 1) (hB : w.heap.size + 2 ≤ Bi)
    (v : Nat) (b : Bool) (t t' : TypeId) : LR w (((wy.alloc (.cells #[.bool b] t')).alloc (.cells #[.int .u32 v] t)).drew) d lo hi Bi (wy.heap.size + 1) wy.heap.size 0 v b := by
  have hlt : Bi < wy.heap.size := by omega
  refine ⟨hF.below hF.s ((((Below.refl _ _).alloc (Nat.le_refl _) _).alloc (by simp) _).drew), ?_, ?_, ?_, ?_, ?_, ?_, hB, by omega, hlt, by omega, by simp; try omega, by simp; try omega⟩ <;> go_simp
  all_goals assumption
theorem LR.put {w W : World} {d : Bool} {lo hi Bi Ba Bm i v : Nat} {b : Bool} (h : LR w W d lo hi Bi Ba Bm i v b) (v' : Nat) (b' : Bool) :
    LR w ((W.setCell ⟨Ba, 0, none⟩ (.int .u32 v')).setCell ⟨Bm, 0, none⟩ (.bool b')) d lo hi Bi Ba Bm i v' b' := by
  obtain ⟨hF, ci, fi, ca, fa, cm, fm, bi, ba, bm, ne, la, lm⟩ := h
  have hlt : Bi ≠ Ba := by omega
  have hlt' : Bi ≠ Bm := by omega
  refine ⟨(hF.store (by omega) _).store (by omega) _, ?_, ?_, ?_, ?_, ?_, ?_, bi, ba, bm, ne, by simpa [World.setCell] using la, by simpa [World.setCell] using lm⟩ <;> go_simp
  all_goals assumption

/-- What the range's rounds hold. -/
structure RG (w W : World) (hi Bi Ba Bm Bw i v : Nat) (b t : Bool) : Prop where
  c2 : W.cell? ⟨w.heap.size, 2, none⟩ = some (.int .u32 hi)
  r : ∃ u, W.cell? ⟨w.heap.size + 1, 0, none⟩ = some u
  f : W.frozen? ⟨w.heap.size + 1, 0, none⟩ = false
  ci : W.cell? ⟨Bi, 0, none⟩ = some (.int .i64 i)
  fi : W.frozen? ⟨Bi, 0, none⟩ = false
  ca : W.cell? ⟨Ba, 0, none⟩ = some (.int .u32 v)
  fa : W.frozen? ⟨Ba, 0, none⟩ = false
  cm : W.cell? ⟨Bm, 0, none⟩ = some (.bool b)
  fm : W.frozen? ⟨Bm, 0, none⟩ = false
  ct : W.cell? ⟨Bw, 0, none⟩ = some (.bool t)
  ft : W.frozen? ⟨Bw, 0, none⟩ = false
theorem RG.kept {w A B : World} {hi Bi Ba Bm Bw i v : Nat} {b t : Bool} {row : Option Nat} (h : RG w A hi Bi Ba Bm Bw i v b t) (hg : A.grownBy B row) (hr : ∀ r, row = some r → ∃ o : Obj, A.heap[r]? = some o ∧ o.isCells = false) :
    RG w B hi Bi Ba Bm Bw i v b t := by
  obtain ⟨u, hu⟩ := h.r
  exact ⟨cell_kept h.c2 hg hr, ⟨u, cell_kept hu hg hr⟩, (frozen_kept hu hg hr).trans h.f, cell_kept h.ci hg hr, (frozen_kept h.ci hg hr).trans h.fi, cell_kept h.ca hg hr, (frozen_kept h.ca hg hr).trans h.fa,
    cell_kept h.cm hg hr, (frozen_kept h.cm hg hr).trans h.fm, cell_kept h.ct hg hr, (frozen_kept h.ct hg hr).trans h.ft⟩
/-- Where the boxes lie. -/
structure RB (n Bi Ba Bm Bw : Nat) : Prop where
  bi : n + 2 ≤ Bi
  ba : Bi < Ba
  bm : Bi < Bm
  ne : Ba ≠ Bm
  wa : Ba < Bw
  wm : Bm < Bw
theorem RG.step {w W : World} {hi Bi Ba Bm Bw i v : Nat} {b t : Bool} (h : RG w W hi Bi Ba Bm Bw i v b t) (hB : RB w.heap.size Bi Ba Bm Bw) (v' i' : Nat) (b' : Bool) :
    RG w (((W.setCell ⟨Ba, 0, none⟩ (.int .u32 v')).setCell ⟨Bm, 0, none⟩ (.bool b')).setCell ⟨Bi, 0, none⟩ (.int .i64 i')) hi Bi Ba Bm Bw i' v' b' t := by
  obtain ⟨c2, ⟨u, hu⟩, f, ci, fi, ca, fa, cm, fm, ct, ft⟩ := h
  obtain ⟨b1, b2, b3, b4, b5, b6⟩ := hB
  have n1 : w.heap.size ≠ Bi := by omega
  have n2 : w.heap.size ≠ Ba := by omega
  have n3 : w.heap.size ≠ Bm := by omega
  have m1 : w.heap.size + 1 ≠ Bi := by omega
  have m2 : w.heap.size + 1 ≠ Ba := by omega
  have m3 : w.heap.size + 1 ≠ Bm := by omega
  have o1 : Bi ≠ Ba := by omega
  have o2 : Bi ≠ Bm := by omega
  have o3 : Bw ≠ Ba := by omega
  have o4 : Bw ≠ Bm := by omega
  have o5 : Bw ≠ Bi := by omega
  refine ⟨?_, ⟨u, ?_⟩, ?_, ?_, ?_, ?_, ?_, ?_, ?_, ?_, ?_⟩ <;> go_simp
  all_goals assumption
theorem RG.stop {w W : World} {hi Bi Ba Bm Bw i v : Nat} {b t : Bool} (h : RG w W hi Bi Ba Bm Bw i v b t) (hB : RB w.heap.size Bi Ba Bm Bw) (t' : Bool) :
    RG w (W.setCell ⟨Bw, 0, none⟩ (.bool t')) hi Bi Ba Bm Bw i v b t' := by
  obtain ⟨c2, ⟨u, hu⟩, f, ci, fi, ca, fa, cm, fm, ct, ft⟩ := h
  obtain ⟨b1, b2, b3, b4, b5, b6⟩ := hB
  have n1 : w.heap.size ≠ Bw := by omega
  have m1 : w.heap.size + 1 ≠ Bw := by omega
  have o1 : Bi ≠ Bw := by omega
  have o3 : Ba ≠ Bw := by omega
  have o4 : Bm ≠ Bw := by omega
  refine ⟨?_, ⟨u, ?_⟩, ?_, ?_, ?_, ?_, ?_, ?_, ?_, ?_, ?_⟩ <;> go_simp
  all_goals assumption
theorem RG.start {w wc : World} {d : Bool} {lo hi Bi Ba Bm i v : Nat} {b : Bool} (h : LR w wc d lo hi Bi Ba Bm i v b) (t t1 t2 : TypeId) (u1 u2 : Value) :
    RG w (((wc.alloc (.cells #[.bool true] t)).alloc (.cells #[u1] t1)).alloc (.cells #[u2] t2)) hi Bi Ba Bm wc.heap.size i v b true ∧ RB w.heap.size Bi Ba Bm wc.heap.size ∧
      Below w.heap.size w (((wc.alloc (.cells #[.bool true] t)).alloc (.cells #[u1] t1)).alloc (.cells #[u2] t2)) := by
  obtain ⟨hF, ci, fi, ca, fa, cm, fm, bi, ba, bm, ne, ha, hm⟩ := h
  obtain ⟨u, hu⟩ := hF.r
  have c2 := hF.c2
  have hf := hF.f
  have l1 : w.heap.size < wc.heap.size := by omega
  have l2 : w.heap.size + 1 < wc.heap.size := by omega
  have l3 : Bi < wc.heap.size := by omega
  have hb : Below wc.heap.size wc (((wc.alloc (.cells #[.bool true] t)).alloc (.cells #[u1] t1)).alloc (.cells #[u2] t2)) := (((Below.refl _ wc).alloc (Nat.le_refl _) _).alloc (by simp) _).alloc (by simp; omega) _
  have hc : ∀ g j, g < wc.heap.size → _ := fun g j hg => hb.cell (p := ⟨g, j, none⟩) hg
  have hz : ∀ g j, g < wc.heap.size → _ := fun g j hg => hb.frozen (p := ⟨g, j, none⟩) hg
  refine ⟨?_, ⟨bi, ba, bm, ne, ha, hm⟩, hF.B.trans (hb.mono (by omega))⟩
  exact ⟨(hc _ _ l1).trans c2, ⟨u, (hc _ _ l2).trans hu⟩, (hz _ _ l2).trans hf, (hc _ _ l3).trans ci, (hz _ _ l3).trans fi, (hc _ _ ha).trans ca, (hz _ _ ha).trans fa, (hc _ _ hm).trans cm, (hz _ _ hm).trans fm, by go_simp, by go_simp⟩
theorem KpB.set {Blo Bhi : Nat} {A W : World} (h : KpB Blo Bhi A W) {g : Nat} (h2 : 2 ≤ g) (hl : g < Blo) (hh : g < Bhi) (u : Value) : KpB Blo Bhi A (W.setCell ⟨g, 0, none⟩ u) :=
  ⟨h.two.setCell (p := ⟨g, 0, none⟩) h2 u, (World.cell?_setCell_other W ⟨g, 0, none⟩ ⟨Blo, 0, none⟩ u (by intro e; injection e with e _; omega)).trans h.lo, (World.cell?_setCell_other W ⟨g, 0, none⟩ ⟨Bhi, 0, none⟩ u (by intro e; injection e with e _; omega)).trans h.hi⟩
/-- What the reference tells next, behind what has come. -/
def LNx (lo : Nat) (pre : List Nat) (v : Nat) (b : Bool) : Prop := Nt.frm false lo = pre ++ if b then v :: Nt.aft false v else []
theorem LNx.step {lo v v' : Nat} {b : Bool} {pre : List Nat} (h : LNx lo pre v true) (hs : Nt.IsStep false v v' b) : LNx lo (pre ++ [v]) v' b := by
  have h' : Nt.frm false lo = pre ++ v :: Nt.aft false v := h
  show Nt.frm false lo = _
  rw [h', Nt.aft_step hs]
  simp


theorem nil_no (W : World) (f : Nat) (a b : Value) : (binOp .eql 53 (.func (.func f) #[] #[a, b]) .nilFunc).run Tryd.prog W = .ok (.bool false) W := by kernel_rfl

/-- Between two rounds. -/
def LI (w : World) (lo hi Bi Ba Bm Bw : Nat) (pre : List Nat) (W : World) : Prop :=
  ∃ (v : Nat) (b : Bool), v < 4294967296 ∧ pre.length < 30 ∧ Hid (LNx lo pre v b) ∧ RG w W hi Bi Ba Bm Bw pre.length v b true
/-- A round has left. -/
def LIx (w : World) (lo hi Bi Ba Bm Bw : Nat) (c : Code) (pre : List Nat) (W : World) : Prop :=
  (c = .ret ∧ ∃ (ini : List Nat) (x v : Nat) (b : Bool), pre = ini ++ [x] ∧ LNx lo ini v b ∧ ¬ (b = true ∧ x = v ∧ x ≤ hi)) ∨
  (c = .exit 2 ∧ ∃ (i v : Nat) (b : Bool), RG w W hi Bi Ba Bm Bw i v b false)
theorem LI_own (w : World) (lo hi Bi Ba Bm Bw : Nat) : Own (LI w lo hi Bi Ba Bm Bw) :=
  fun _ _ _ _ ⟨v, b, h1, h2, h3, h4⟩ hg hr => ⟨v, b, h1, h2, h3, h4.kept hg hr⟩
theorem LIx_own (w : World) (lo hi Bi Ba Bm Bw : Nat) (c : Code) : Own (LIx w lo hi Bi Ba Bm Bw c) :=
  fun _ _ _ _ h hg hr => h.elim Or.inl (fun ⟨hc, i, v, b, h4⟩ => .inr ⟨hc, i, v, b, h4.kept hg hr⟩)

set_option maxRecDepth 100000 in
set_option maxHeartbeats 4000000 in
theorem walk_lists (p : Nat) (hp : p < 4294967296) (k : Int) (d : Bool) (lo hi : Nat) (hlo : lo < 4294967296) (hhi : hi < 4294967296) (w : World) (hT : Tabs w) :
    Calls Tryd.prog 10 #[.int .u32 p, .int .i64 k, .agg #[.bool d, .int .u32 lo, .int .u32 hi]] w (RetT w) := by
  have hF0 := LF.start w d lo hi
  refine (callsIn_wide (n := 4)).1 ?_
  refine callsIn_of_wp_marks Tryd.func10 rfl trivial ?_ rfl
  simp only [Tryd.ntmps10, List.size_toArray, List.length_cons, List.length_nil, Nat.reduceAdd, Nat.reduceSub, Array.replicate_succ, Array.replicate_zero, List.push_toArray, List.append_toArray, List.nil_append, List.cons_append]
  gi_upto_region 3 with fail
  generalize (w.alloc (.cells #[.bool d, .int .u32 lo, .int .u32 hi] 48)).alloc (.cells #[.bool false] 4) = W0 at hF0 ⊢
  refine ⟨trivial, ?_⟩
  refine (callsIn_wide.2 (List_all p hp k d _ (hF0.tabs hT))).mono ?_
  rintro _ w1 ⟨v1, L1, e1, rfl, hL1, ho1, hb1⟩
  have hF1 := hF0.below hF0.s hb1
  have hc0 := hF1.c0
  obtain ⟨a1, cap1, rfl⟩ := row_slice ho1
  gi_upto_region 3 with fail
  refine ⟨trivial, ?_⟩
  refine (callsIn_wide.2 (List_all p hp k d _ (hF1.tabs hT))).mono ?_
  rintro _ w2 ⟨v2, L2, e2, rfl, hL2, ho2, hb2⟩
  have hF2 := hF1.below hF1.s hb2
  clear hc0
  obtain ⟨a2, cap2, rfl⟩ := row_slice ho2
  gi_upto_region 3 with fail
  gi_cut [41] from 36 (fun s41 wc => s41 = .bool (decide (k < 0) || decide (10000 < k)) ∧ wc = w2)
  case first =>
    by_cases h1 : k < 0
    · gi_wp2
      gi_meet
      exact ⟨by simp [h1], rfl⟩
    · by_cases h2 : 10000 < k
      · gi_wp2
        gi_meet
        exact ⟨by simp [h2], rfl⟩
      · gi_wp2
        gi_meet
        exact ⟨by simp [h1, h2], rfl⟩
  case rest =>
    obtain ⟨rfl, rfl⟩ := hcut
    gi_upto_if 41 with fail
    gi_cut [7, 8, 9, 10] from 20 (fun _ _ _ _ wx => LF w wx d lo hi)
    case first =>
      by_cases bad : k < 0 ∨ 10000 < k
      · have hd : (decide (k < 0) || decide (10000 < k)) = true := by simpa using bad
        rw [hd]
        clear hd
        obtain ⟨rfl, rfl⟩ := hL1.out.1 bad
        clear bad
        gi_wp2_with fail
        refine ⟨trivial, ?_⟩
        refine (callsIn_wide.2 (num_any _ _)).mono ?_
        rintro _ _ ⟨rfl, rfl⟩
        gi_wp2
        gi_meet
        exact hF2
      · have hd : (decide (k < 0) || decide (10000 < k)) = false := by simp; omega
        rw [hd]
        clear hd
        obtain ⟨n, rfl⟩ : ∃ n : Nat, k = n := ⟨k.toNat, by omega⟩
        obtain ⟨rfl, hP1⟩ := hL1.out.2 (by omega) (by omega)
        obtain ⟨rfl, hP2⟩ := hL2.out.2 (by omega) (by omega)
        have hlen : L1.length = L2.length := by rw [hP1, hP2]
        have hk1 : L1.length ≤ n := by rw [hP1]; simp; omega
        have hk2 : L2.length ≤ n := by omega
        have hn10 : n ≤ 10000 := by omega
        clear hL1 hL2 bad
        have HP1 := Lib.hid (show L1 = (Nt.frm d p).take n from hP1)
        have HP2 := Lib.hid (show L2 = (Nt.frm d p).take n from hP2)
        clear hP1 hP2
        have HL := Lib.hid hlen
        have hrow : 0 < L2.length → ∃ g1 g2, a1 = some ⟨g1, 0, none⟩ ∧ a2 = some ⟨g2, 0, none⟩ ∧ w.heap.size + 2 ≤ g1 ∧ LS g1 g2 L2 0 wc := by
          intro h0
          rw [hlen] at ho1
          obtain ⟨g1, e1, k1, k2, k3, k4⟩ := row_reads ho1 h0
          obtain ⟨g2, e2, m1, m2, m3, m4⟩ := row_reads ho2 h0
          refine ⟨g1, g2, e1, e2, Nat.le_trans hF0.s k1, fun x v _ hx => ?_, fun x => ?_, m3, by omega⟩
          · exact (hb2.cell (p := ⟨g1, x, none⟩) k2).trans (k3 x v (by rw [HP1.out, ← HP2.out]; exact hx))
          · exact (hb2.frozen (p := ⟨g1, x, none⟩) k2).trans (k4 x)
        rw [hlen]
        clear hlen
        obtain ⟨n2, hn2⟩ : ∃ n2, n2 = L2.length := ⟨_, rfl⟩
        rw [← hn2] at hrow hk2 ⊢
        have HN2 := Lib.hid hn2
        clear hn2 hk1
        gi_upto_region 9 with fail
        refine ⟨trivial, ?_⟩
        refine (callsIn_wide.2 (num_any _ _)).mono ?_
        rintro _ _ ⟨rfl, rfl⟩
        gi_upto_region 9 with fail
        refine ⟨trivial, ?_⟩
        refine (callsIn_wide.2 (refIs_any p rfl hp _)).mono ?_
        rintro _ _ ⟨rfl, rfl⟩
        gi_upto_region 10 with fail
        gi_loopw [11, 12, 13] (fun at_ more i wr => ∃ (q : Nat) (m : Bool) (j : Nat), at_ = .int .u32 q ∧ more = .bool m ∧ i = .int .i64 j ∧ q < 4294967296 ∧ j ≤ n2 ∧ Hid (LAt d p j q m) ∧ LF w wr d lo hi ∧
          Hid (0 < n2 → ∃ g1 g2, a1 = some ⟨g1, 0, none⟩ ∧ a2 = some ⟨g2, 0, none⟩ ∧ w.heap.size + 2 ≤ g1 ∧ LS g1 g2 L2 j wr)) (fun _ _ i _ => n - (intOf i).toNat)
        case atStart => exact ⟨p, _, 0, rfl, rfl, rfl, hp, by omega, Lib.hid (.inl ⟨rfl, rfl, rfl⟩), hF2, Lib.hid hrow⟩
        case round =>
          clear hrow hF2 ho2 hb2 ho1 hF1 hb1 hF0
          obtain ⟨q, m, j, rfl, rfl, rfl, hq, hj, hA, hF, hrow⟩ := hrel
          by_cases hjn : j < n
          · have hc0 := hF.c0
            have hTr := hF.tabs hT
            by_cases h0 : 0 < j
            · cases d
              · gi_upto_region 16 with fail
                refine ⟨trivial, ?_⟩
                refine (callsIn_wide.2 (refNext_any q rfl hq _)).mono ?_
                rintro _ _ ⟨v, b, rfl, hs, rfl⟩
                have HC := Lib.hid (hA.out.step (.inl h0) (v := v) (b := b) hs.out)
                have hv : v < 4294967296 := Nt.IsStep.lt (down := false) hq hs.out
                cases b
                · gi_upto_region 16 with fail
                  have he : n2 = j := by rw [HN2.out, HP2.out]; exact HC.out.ends (by rw [← HP2.out, ← HN2.out]; exact hj)
                  have hne : ((n2 : Int) != (j : Nat)) = false := by simp [he]
                  clear he
                  gi_wp2
                  gi_meet
                  exact hF
                · gi_upto_region 16 with fail
                  have hL : L2[j]? = some v := by rw [HP2.out]; exact HC.out.at hjn
                  have hlt : j < n2 := by rw [HN2.out]; exact (List.getElem?_eq_some_iff.1 hL).1
                  obtain ⟨g1, g2, rfl, rfl, hg, hS⟩ := hrow.out (by omega)
                  have hc1 := hS.c1 j v (Nat.le_refl _) hL
                  have hf1 := hS.f1 j
                  have hc2 := hS.c2 j v hL
                  have hF' := hF.store (j := j) hg (.int .u32 (0 : Int))
                  have hS' := hS.store (.int .u32 (0 : Int))
                  clear hL hrow hS
                  gi_wp2
                  go_roundw
                  case rel => exact ⟨v, true, j + 1, rfl, rfl, by go_num, hv, by omega, Lib.hid HC.out.next, hF', Lib.hid fun _ => ⟨g1, g2, rfl, rfl, hg, hS'⟩⟩
                  case measure => simp [intOf]; omega
              · gi_upto_region 16 with fail
                refine ⟨trivial, ?_⟩
                refine (callsIn_wide.2 (refLast_any q rfl hq _)).mono ?_
                rintro _ _ ⟨v, b, rfl, hs, rfl⟩
                have HC := Lib.hid (hA.out.step (.inl h0) (v := v) (b := b) hs.out)
                have hv : v < 4294967296 := Nt.IsStep.lt (down := true) hq hs.out
                cases b
                · gi_upto_region 16 with fail
                  have he : n2 = j := by rw [HN2.out, HP2.out]; exact HC.out.ends (by rw [← HP2.out, ← HN2.out]; exact hj)
                  have hne : ((n2 : Int) != (j : Nat)) = false := by simp [he]
                  clear he
                  gi_wp2
                  gi_meet
                  exact hF
                · gi_upto_region 16 with fail
                  have hL : L2[j]? = some v := by rw [HP2.out]; exact HC.out.at hjn
                  have hlt : j < n2 := by rw [HN2.out]; exact (List.getElem?_eq_some_iff.1 hL).1
                  obtain ⟨g1, g2, rfl, rfl, hg, hS⟩ := hrow.out (by omega)
                  have hc1 := hS.c1 j v (Nat.le_refl _) hL
                  have hf1 := hS.f1 j
                  have hc2 := hS.c2 j v hL
                  have hF' := hF.store (j := j) hg (.int .u32 (0 : Int))
                  have hS' := hS.store (.int .u32 (0 : Int))
                  clear hL hrow hS
                  gi_wp2
                  go_roundw
                  case rel => exact ⟨v, true, j + 1, rfl, rfl, by go_num, hv, by omega, Lib.hid HC.out.next, hF', Lib.hid fun _ => ⟨g1, g2, rfl, rfl, hg, hS'⟩⟩
                  case measure => simp [intOf]; omega
            · cases m
              · cases d
                · gi_upto_region 16 with fail
                  refine ⟨trivial, ?_⟩
                  refine (callsIn_wide.2 (refNext_any q rfl hq _)).mono ?_
                  rintro _ _ ⟨v, b, rfl, hs, rfl⟩
                  have HC := Lib.hid (hA.out.step (.inr rfl) (v := v) (b := b) hs.out)
                  have hv : v < 4294967296 := Nt.IsStep.lt (down := false) hq hs.out
                  cases b
                  · gi_upto_region 16 with fail
                    have he : n2 = j := by rw [HN2.out, HP2.out]; exact HC.out.ends (by rw [← HP2.out, ← HN2.out]; exact hj)
                    have hne : ((n2 : Int) != (j : Nat)) = false := by simp [he]
                    clear he
                    gi_wp2
                    gi_meet
                    exact hF
                  · gi_upto_region 16 with fail
                    have hL : L2[j]? = some v := by rw [HP2.out]; exact HC.out.at hjn
                    have hlt : j < n2 := by rw [HN2.out]; exact (List.getElem?_eq_some_iff.1 hL).1
                    obtain ⟨g1, g2, rfl, rfl, hg, hS⟩ := hrow.out (by omega)
                    have hc1 := hS.c1 j v (Nat.le_refl _) hL
                    have hf1 := hS.f1 j
                    have hc2 := hS.c2 j v hL
                    have hF' := hF.store (j := j) hg (.int .u32 (0 : Int))
                    have hS' := hS.store (.int .u32 (0 : Int))
                    clear hL hrow hS
                    gi_wp2
                    go_roundw
                    case rel => exact ⟨v, true, j + 1, rfl, rfl, by go_num, hv, by omega, Lib.hid HC.out.next, hF', Lib.hid fun _ => ⟨g1, g2, rfl, rfl, hg, hS'⟩⟩
                    case measure => simp [intOf]; omega
                · gi_upto_region 16 with fail
                  refine ⟨trivial, ?_⟩
                  refine (callsIn_wide.2 (refLast_any q rfl hq _)).mono ?_
                  rintro _ _ ⟨v, b, rfl, hs, rfl⟩
                  have HC := Lib.hid (hA.out.step (.inr rfl) (v := v) (b := b) hs.out)
                  have hv : v < 4294967296 := Nt.IsStep.lt (down := true) hq hs.out
                  cases b
                  · gi_upto_region 16 with fail
                    have he : n2 = j := by rw [HN2.out, HP2.out]; exact HC.out.ends (by rw [← HP2.out, ← HN2.out]; exact hj)
                    have hne : ((n2 : Int) != (j : Nat)) = false := by simp [he]
                    clear he
                    gi_wp2
                    gi_meet
                    exact hF
                  · gi_upto_region 16 with fail
                    have hL : L2[j]? = some v := by rw [HP2.out]; exact HC.out.at hjn
                    have hlt : j < n2 := by rw [HN2.out]; exact (List.getElem?_eq_some_iff.1 hL).1
                    obtain ⟨g1, g2, rfl, rfl, hg, hS⟩ := hrow.out (by omega)
                    have hc1 := hS.c1 j v (Nat.le_refl _) hL
                    have hf1 := hS.f1 j
                    have hc2 := hS.c2 j v hL
                    have hF' := hF.store (j := j) hg (.int .u32 (0 : Int))
                    have hS' := hS.store (.int .u32 (0 : Int))
                    clear hL hrow hS
                    gi_wp2
                    go_roundw
                    case rel => exact ⟨v, true, j + 1, rfl, rfl, by go_num, hv, by omega, Lib.hid HC.out.next, hF', Lib.hid fun _ => ⟨g1, g2, rfl, rfl, hg, hS'⟩⟩
                    case measure => simp [intOf]; omega
              · obtain ⟨v, hqv⟩ : ∃ v, v = q := ⟨_, rfl⟩
                rw [← hqv] at hA hq ⊢
                clear hqv
                have HC := Lib.hid (hA.out.stay h0)
                have hv := hq
                gi_upto_region 16 with fail
                have hL : L2[j]? = some v := by rw [HP2.out]; exact HC.out.at hjn
                have hlt : j < n2 := by rw [HN2.out]; exact (List.getElem?_eq_some_iff.1 hL).1
                obtain ⟨g1, g2, rfl, rfl, hg, hS⟩ := hrow.out (by omega)
                have hc1 := hS.c1 j v (Nat.le_refl _) hL
                have hf1 := hS.f1 j
                have hc2 := hS.c2 j v hL
                have hF' := hF.store (j := j) hg (.int .u32 (0 : Int))
                have hS' := hS.store (.int .u32 (0 : Int))
                clear hL hrow hS
                gi_wp2
                go_roundw
                case rel => exact ⟨v, true, j + 1, rfl, rfl, by go_num, hv, by omega, Lib.hid HC.out.next, hF', Lib.hid fun _ => ⟨g1, g2, rfl, rfl, hg, hS'⟩⟩
                case measure => simp [intOf]; omega
          · gi_wp2
            gi_meet
            exact hF
    case rest =>
      clear hF0 hF1 hF2 hb1 hb2 ho1 ho2 hL1 hL2
      have hF := hcut
      have hci : (wc.alloc (.cells #[.int .i64 0] 3)).cell? ⟨wc.heap.size, 0, none⟩ = some (.int .i64 (0 : Nat)) := by go_simp
      have hfi : (wc.alloc (.cells #[.int .i64 0] 3)).frozen? ⟨wc.heap.size, 0, none⟩ = false := by go_simp
      have hFy := hF.below hF.s ((Below.refl wc.heap.size wc).alloc (Nat.le_refl _) (.cells #[.int .i64 0] 3))
      have hsy : (wc.alloc (.cells #[.int .i64 0] 3)).heap.size = wc.heap.size + 1 := by simp
      gi_upto_region 23 with fail
      generalize wc.alloc (.cells #[.int .i64 0] 3) = wy at hci hfi hFy hsy ⊢
      have hBi := hF.s
      clear hcut hF
      generalize wc.heap.size = Bi at hci hfi hsy hBi ⊢
      have HCI := Lib.hid hci
      have HFI := Lib.hid hfi
      have HSY := Lib.hid hsy
      clear hci hfi hsy
      gi_cut [15, 16] from 121 (fun s15 s16 wx => ∃ Ba Bm : Nat, s15 = .pointer (some ⟨Ba, 0, none⟩) ∧ s16 = .pointer (some ⟨Bm, 0, none⟩) ∧ LR w wx d lo hi Bi Ba Bm 0 lo (Nt.isP lo))
      case first =>
        have hc1 := hFy.c1
        have hlt : w.heap.size < wy.heap.size := by have := hFy.s; omega
        refine wpIn_wide.2 ?_
        go_region_held3 (fun w' => w'.cell? ⟨w.heap.size, 1, none⟩ = some (.int .u32 lo)) (go_keep) ((go_at_call 19; refine (refIs_any lo rfl hlo _).mono ?_; rintro _ _ ⟨rfl, rfl⟩))
        all_goals (go_wp2_with fail; gi_meet)
        all_goals first
          | exact ⟨_, _, rfl, rfl, LR.start1 hFy HCI.out HFI.out HSY.out hBi _ _ _ _⟩
          | exact ⟨_, _, rfl, rfl, LR.start2 hFy HCI.out HFI.out HSY.out hBi _ _ _ _⟩
      case rest =>
        clear hFy HCI HFI HSY
        obtain ⟨Ba, Bm, rfl, rfl, hR⟩ := hcut
        have hcm := hR.cm
        gi_upto_if 127 with fail
        gi_cut [] from 121 (fun wx => ∃ (v : Nat) (b : Bool), v < 4294967296 ∧ Hid (Nt.frm false lo = if b then v :: Nt.aft false v else []) ∧ LR w wx d lo hi Bi Ba Bm 0 v b)
        case first =>
          have hca := hR.ca
          have hfa := hR.fa
          have hfm := hR.fm
          have hne := hR.ne
          by_cases hq : Nt.isP lo = true
          · have HQ := Lib.hid hq
            rw [hq] at hR hcm ⊢
            clear hq
            gi_wp2
            gi_meet
            exact ⟨lo, true, hlo, Lib.hid (Nt.frm_yes HQ.out), hR⟩
          · simp only [Bool.not_eq_true] at hq
            have HQ := Lib.hid hq
            rw [hq] at hR hcm ⊢
            clear hq
            gi_wp2_with fail
            refine ⟨trivial, ?_⟩
            refine (callsIn_wide.2 (refNext_any lo rfl hlo _)).mono ?_
            rintro _ _ ⟨v, b, rfl, hs, rfl⟩
            have hR' := hR.put v b
            have hv : v < 4294967296 := Nt.IsStep.lt (down := false) hlo hs.out
            gi_wp2
            gi_meet
            exact ⟨v, b, hv, Lib.hid (Nt.frm_no (down := false) HQ.out hs.out), hR'⟩
        case rest =>
          clear hR hcm
          obtain ⟨v, b, hv, hH, hR⟩ := hcut
          have hc1 := hR.F.c1
          have hc2 := hR.F.c2
          have hlt : w.heap.size < wc.heap.size := by have := hR.F.s; omega
          gi_upto_region 28 with fail
          refine ⟨trivial, ?_⟩
          refine (callsIn_wide.2 (between_any lo hi _)).mono ?_
          rintro _ _ ⟨rfl, rfl⟩
          have hcl : (((wc.alloc (.cells #[.bool true] 4)).alloc (.cells #[.int .u32 lo] 25)).alloc (.cells #[.int .u32 hi] 25)).cell? ⟨wc.heap.size + 1, 0, none⟩ = some (.int .u32 lo) := by go_simp
          have hch : (((wc.alloc (.cells #[.bool true] 4)).alloc (.cells #[.int .u32 lo] 25)).alloc (.cells #[.int .u32 hi] 25)).cell? ⟨wc.heap.size + 1 + 1, 0, none⟩ = some (.int .u32 hi) := by go_simp
          obtain ⟨hG, hRB, hB⟩ := RG.start hR 4 25 25 (.int .u32 lo) (.int .u32 hi)
          have hsz : (((wc.alloc (.cells #[.bool true] 4)).alloc (.cells #[.int .u32 lo] 25)).alloc (.cells #[.int .u32 hi] 25)).heap.size = wc.heap.size + 3 := by simp
          have hnil := nil_no
          gi_upto_region 31 with fail
          clear hnil
          clear hc1 hc2 hlt
          generalize (((wc.alloc (.cells #[.bool true] 4)).alloc (.cells #[.int .u32 lo] 25)).alloc (.cells #[.int .u32 hi] 25)) = W1 at hcl hch hG hB hsz ⊢
          clear hR
          generalize wc.heap.size = Bw at hcl hch hG hRB hsz ⊢
          have hs1 : Bw + 1 + 1 < W1.heap.size := by omega
          clear hsz
          have hT1 := hT.below hB
          have h2w : 2 ≤ w.heap.size := hT.size
          have b1 := hRB.bi
          have b2 := hRB.ba
          have b3 := hRB.bm
          have b5 := hRB.wa
          have b6 := hRB.wm
          have hseq := between_stopsk 3 (by omega) (Bw + 1) (Bw + 1 + 1) lo hi hlo hhi W1 (by omega) (by omega) hT1 hcl hch
          have hKb := KpB.put (Blo := Bw + 1) (Bhi := Bw + 1 + 1) (w := W1) (by omega) (by omega) (by omega)
          apply wpIn_rangeFunc_ownG (F := Fence.wide) (n := 4) (P := Tryd.prog) rfl (by omega) (gf := 63) (lb := #[.pointer (some ⟨Bw + 1, 0, none⟩), .pointer (some ⟨Bw + 1 + 1, 0, none⟩)]) rfl trivial (enters_of Tryd.func63 (by kernel_rfl) rfl)
            hseq KpB.trans hKb (Below.refl _ _) (fun _ => by rfl)
            (fun pre W => LI w lo hi Bi Ba Bm Bw pre W ∧ Below w.heap.size w W)
            (fun c pre W => LIx w lo hi Bi Ba Bm Bw c pre W ∧ Below w.heap.size w W)
            (OwnFrom.and (Own.from (LI_own w lo hi Bi Ba Bm Bw) _) (ownFrom_below (Nat.le_refl _) (by omega)))
            (fun c => OwnFrom.and (Own.from (LIx_own w lo hi Bi Ba Bm Bw c) _) (ownFrom_below (Nat.le_refl _) (by omega)))
            ⟨⟨v, b, hv, by simp, Lib.hid hH.out, hG⟩, hB⟩
          case hassign =>
            intro l x W K hK
            gi_wp2
            exact hK
          case hbody =>
            clear hcl hch hG hB hs1 hseq hKb hH
            rintro l pre x W ⟨⟨v, b, hv, hlen, hH, hG⟩, hB⟩ _
            have c2 := hG.c2
            have ca := hG.ca
            have cm := hG.cm
            by_cases hgood : b = true ∧ x = v ∧ x ≤ hi
            · obtain ⟨hb1, hx1, hxh⟩ := hgood
              subst hb1
              subst hx1
              have ci := hG.ci
              have fi := hG.fi
              have ct := hG.ct
              have ft := hG.ft
              have fa := hG.fa
              have fm := hG.fm
              have n1 : Ba ≠ Bm := hRB.ne
              have n2 : Bi ≠ Ba := by omega
              have n3 : Bi ≠ Bm := by omega
              have n4 : Bw ≠ Ba := by omega
              have n5 : Bw ≠ Bm := by omega
              have n6 : Bw ≠ Bi := by omega
              gi_upto_region 34 with fail
              gi_wp2_with fail
              refine ⟨trivial, ?_⟩
              refine (CallsIn.inRound l (callsIn_wide.2 (refNext_any x rfl hv _))).mono ?_
              rintro _ _ ⟨v', b', rfl, hs, rfl⟩
              have hv' : v' < 4294967296 := Nt.IsStep.lt (down := false) hv hs.out
              have hG1 := hG.step hRB v' (pre.length + 1) b'
              have hB1 := ((hB.setCell (p := ⟨Ba, 0, none⟩) (by simp; omega) (.int .u32 (v' : Int))).setCell (p := ⟨Bm, 0, none⟩) (by simp; omega) (.bool b')).setCell (p := ⟨Bi, 0, none⟩) (by simp; omega) (.int .i64 ((pre.length + 1 : Nat) : Int))
              have hK1 := (((KpB.refl (Bw + 1) (Bw + 1 + 1) W).set (g := Ba) (by omega) (by omega) (by omega) (.int .u32 (v' : Int))).set (g := Bm) (by omega) (by omega) (by omega) (.bool b')).set (g := Bi) (by omega) (by omega) (by omega) (.int .i64 ((pre.length + 1 : Nat) : Int))
              have hO1 := ((KeepsOthers.setCell W ⟨Ba, 0, none⟩ (.int .u32 (v' : Int))).trans (KeepsOthers.setCell _ ⟨Bm, 0, none⟩ (.bool b'))).trans (KeepsOthers.setCell _ ⟨Bi, 0, none⟩ (.int .i64 ((pre.length + 1 : Nat) : Int)))
              have HN := Lib.hid (hH.out.step hs.out)
              have hp1 : ((pre.length + 1 : Nat) : Int) = (pre.length : Int) + 1 := by omega
              by_cases h30 : pre.length + 1 = 30
              · have h30' : ((pre.length : Int) + 1 == 30) = true := by simp; omega
                have hG2 := hG1.stop hRB false
                have hB2 := hB1.setCell (p := ⟨Bw, 0, none⟩) (by simp; omega) (.bool false)
                have hO2 := hO1.trans (KeepsOthers.setCell _ ⟨Bw, 0, none⟩ (.bool false))
                rw [hp1] at hG2 hB2 hO2
                clear h30 hp1 hG1 hB1 hK1 hO1
                gi_wp2
                exact ⟨hO2.from _, .inr ⟨rfl, _, _, _, hG2⟩, hB2⟩
              · have h30' : ((pre.length : Int) + 1 == 30) = false := by simp; omega
                have hl' : (pre ++ [x]).length = pre.length + 1 := by simp
                have hG2 := hl' ▸ hG1
                have hlt : (pre ++ [x]).length < 30 := by rw [hl']; omega
                rw [hp1] at hB1 hK1 hO1
                clear h30 hp1 hG1 hl'
                have HG2 := Lib.hid hG2
                clear hG2
                gi_wp2
                exact ⟨hO1.from _, hK1, ⟨v', b', hv', hlt, HN, by simpa using HG2.out⟩, hB1⟩
            · obtain ⟨ru, hru⟩ := hG.r
              have hrf := hG.f
              have hbad : LIx w lo hi Bi Ba Bm Bw .ret (pre ++ [x]) (W.setCell ⟨w.heap.size + 1, 0, none⟩ (.bool false)) := .inl ⟨rfl, pre, x, v, b, rfl, hH.out, hgood⟩
              have hB1 := hB.setCell (p := ⟨w.heap.size + 1, 0, none⟩) (by simp) (.bool false)
              have hO1 := (KeepsOthers.setCell W ⟨w.heap.size + 1, 0, none⟩ (.bool false)).from W1.heap.size
              have HB := Lib.hid hbad
              clear hbad
              cases b
              · clear hgood
                gi_wp2
                exact ⟨hO1, HB.out, hB1⟩
              · by_cases hxv : x = v
                · subst hxv
                  have hxh : ¬ x ≤ hi := fun h => hgood ⟨rfl, rfl, h⟩
                  clear hgood
                  gi_wp2
                  exact ⟨hO1, HB.out, hB1⟩
                · clear hgood
                  have hxv' : ((x : Int) != (v : Int)) = true := by simp; omega
                  clear hxv
                  gi_wp2
                  exact ⟨hO1, HB.out, hB1⟩
          case hdone =>
            clear hcl hch hG hs1 hseq hKb hH
            have hsB := hB.size
            clear hB
            rintro D ys W hD rfl ⟨⟨v', b', hv', hlen, hH', hG'⟩, hB'⟩ hK
            have hN : Hid (b' = true → hi < v') := Lib.hid fun hb => by
              have h := hH'.out
              subst hb
              have h' : Nt.frm false lo = Nt.ups lo (hi + 1) ++ v' :: Nt.aft false v' := h
              rw [Nt.frm_up hlo] at h'
              exact Nt.beyond rfl h'
            obtain ⟨ru, hru⟩ := hG'.r
            have hrf := hG'.f
            have c2 := hG'.c2
            have ca := hG'.ca
            have cm := hG'.cm
            have ct := hG'.ct
            have hlr := World.block_lt_of_cell? W _ hru
            have hlD : D < W.heap.size := (Array.getElem?_eq_some_iff.1 hK).1
            cases b'
            · clear hN
              gi_wp2_with fail
              refine ⟨trivial, ?_⟩
              refine (callsIn_wide.2 (awake_any _ (hT.below hB'))).mono ?_
              rintro _ w9 ⟨rfl, hb9⟩
              have hr9 := (hb9.cell (p := ⟨w.heap.size + 1, 0, none⟩) hlr).trans hru
              have hf9 := (hb9.frozen (p := ⟨w.heap.size + 1, 0, none⟩) hlr).trans hrf
              have hK9 := (hb9.block D hlD).trans hK
              have hK10 := (KeepsOthers.setCell w9 ⟨w.heap.size + 1, 0, none⟩ (.bool true)).same D _ hK9 rfl
              have h1 : (w9.setCell ⟨w.heap.size + 1, 0, none⟩ (.bool true)).cell? ⟨w.heap.size + 1, 0, none⟩ = some (.bool true) := by go_simp
              have H1 := Lib.hid h1
              have HK := Lib.hid hK10
              clear h1 hK9 hK10
              gi_wp2
              refine ⟨by simp, .inl ⟨_, _, rfl, run_takeDeferred HK.out, ?_⟩⟩
              have hc5 := cell_kept H1.out (grownBy_putObj' _ D (.deferred none)) (fun r e => by cases e; exact ⟨_, HK.out, rfl⟩)
              refine ⟨.bool true, ?_, rfl, ?_⟩
              · simp [results, Tryd.f10, go_sem, hc5]
              · exact ((hB'.trans (hb9.mono hB'.size)).setCell (p := ⟨w.heap.size + 1, 0, none⟩) (by simp) _).trans (belowK_b (w := w) (Nat.le_refl _) _ D _ _ (by omega) HK.out rfl rfl)
            · have hlt := hN.out rfl
              clear hN
              gi_wp2_with fail
              refine ⟨trivial, ?_⟩
              refine (callsIn_wide.2 (awake_any _ (hT.below hB'))).mono ?_
              rintro _ w9 ⟨rfl, hb9⟩
              have hr9 := (hb9.cell (p := ⟨w.heap.size + 1, 0, none⟩) hlr).trans hru
              have hf9 := (hb9.frozen (p := ⟨w.heap.size + 1, 0, none⟩) hlr).trans hrf
              have hK9 := (hb9.block D hlD).trans hK
              have hK10 := (KeepsOthers.setCell w9 ⟨w.heap.size + 1, 0, none⟩ (.bool true)).same D _ hK9 rfl
              have h1 : (w9.setCell ⟨w.heap.size + 1, 0, none⟩ (.bool true)).cell? ⟨w.heap.size + 1, 0, none⟩ = some (.bool true) := by go_simp
              have H1 := Lib.hid h1
              have HK := Lib.hid hK10
              clear h1 hK9 hK10
              gi_wp2
              refine ⟨by simp, .inl ⟨_, _, rfl, run_takeDeferred HK.out, ?_⟩⟩
              have hc5 := cell_kept H1.out (grownBy_putObj' _ D (.deferred none)) (fun r e => by cases e; exact ⟨_, HK.out, rfl⟩)
              refine ⟨.bool true, ?_, rfl, ?_⟩
              · simp [results, Tryd.f10, go_sem, hc5]
              · exact ((hB'.trans (hb9.mono hB'.size)).setCell (p := ⟨w.heap.size + 1, 0, none⟩) (by simp) _).trans (belowK_b (w := w) (Nat.le_refl _) _ D _ _ (by omega) HK.out rfl rfl)
          case hstop =>
            clear hcl hch hG hs1 hseq hKb hH
            have hsB := hB.size
            clear hB
            rintro D c pre W hD ⟨m, hlk, hkh, hpk, rfl⟩ ⟨hx, hB'⟩ hK
            rcases hx with ⟨rfl, ini, x, v', b', e1, e2, e3⟩ | ⟨rfl, i, v', b', hG'⟩
            · exfalso
              have h' : Nt.ups lo 4294967296 = ini ++ if b' then v' :: Nt.aft false v' else [] := (Nt.frm_up hlo).symm.trans e2
              obtain ⟨q1, q2⟩ := Nt.meets (lo := lo) (k := m + 1) (by omega) (by omega) e1.symm h'
              refine e3 ⟨q1, q2, ?_⟩
              have hm : x ∈ Nt.ups lo (m + 1) := by rw [e1]; simp
              have := (Nt.mem_ups.1 hm).2.1
              omega
            · obtain ⟨ru, hru⟩ := hG'.r
              have hrf := hG'.f
              have c2 := hG'.c2
              have ca := hG'.ca
              have cm := hG'.cm
              have ct := hG'.ct
              have hlr := World.block_lt_of_cell? W _ hru
              have hlD : D < W.heap.size := (Array.getElem?_eq_some_iff.1 hK).1
              gi_wp2_with fail
              refine ⟨trivial, ?_⟩
              refine (callsIn_wide.2 (awake_any _ (hT.below hB'))).mono ?_
              rintro _ w9 ⟨rfl, hb9⟩
              have hr9 := (hb9.cell (p := ⟨w.heap.size + 1, 0, none⟩) hlr).trans hru
              have hf9 := (hb9.frozen (p := ⟨w.heap.size + 1, 0, none⟩) hlr).trans hrf
              have hK9 := (hb9.block D hlD).trans hK
              have hK10 := (KeepsOthers.setCell w9 ⟨w.heap.size + 1, 0, none⟩ (.bool true)).same D _ hK9 rfl
              have h1 : (w9.setCell ⟨w.heap.size + 1, 0, none⟩ (.bool true)).cell? ⟨w.heap.size + 1, 0, none⟩ = some (.bool true) := by go_simp
              have H1 := Lib.hid h1
              have HK := Lib.hid hK10
              clear h1 hK9 hK10
              gi_wp2
              refine ⟨by simp, .inl ⟨_, _, rfl, run_takeDeferred HK.out, ?_⟩⟩
              have hc5 := cell_kept H1.out (grownBy_putObj' _ D (.deferred none)) (fun r e => by cases e; exact ⟨_, HK.out, rfl⟩)
              refine ⟨.bool true, ?_, rfl, ?_⟩
              · simp [results, Tryd.f10, go_sem, hc5]
              · exact ((hB'.trans (hb9.mono hB'.size)).setCell (p := ⟨w.heap.size + 1, 0, none⟩) (by simp) _).trans (belowK_b (w := w) (Nat.le_refl _) _ D _ _ (by omega) HK.out rfl rfl)
theorem walk_PrimeLists (p : Nat) (hp : p < 4294967296) (k : Int) (_ : -9223372036854775808 ≤ k) (_ : k ≤ 9223372036854775807) (d : Bool) (lo : Nat) (hlo : lo < 4294967296) (hi : Nat) (hhi : hi < 4294967296) (w : World) (hT : Tabs w) :
    Calls Tryd.prog 10 #[.int .u32 p, .int .i64 k, .agg #[.bool d, .int .u32 lo, .int .u32 hi]] w (RetT w) :=
  walk_lists p hp k d lo hi hlo hhi w hT
end Go.Proofs.YtjnhfakdpnnboaaDoor
