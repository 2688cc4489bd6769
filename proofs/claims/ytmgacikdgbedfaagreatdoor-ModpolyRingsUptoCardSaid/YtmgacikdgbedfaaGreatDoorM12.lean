/- modpoly: one or two polynomials in normal form; the product, told. -/
import Derived.Test.YtmgacikdgbedfaaGreatDoorM11
import Derived.Test.YtmgacikdgbedfaaGreatDoorM5
namespace Go.Proofs.YtmgacikdgbedfaaGreatDoor
open Go.RowKit Go.IntWalk
attribute [local go_sem ↓] Go.wp_at_zero Go.wp_at_succ

/-- The field and two polynomials come back. -/
def RetA2 (p : Nat) (L L' : List Nat) (w : World) (e : Ending) (w' : World) : Prop :=
  ∃ (g : Nat) (A : Option Addr) (n c : Nat) (M : List Nat) (A' : Option Addr) (n' c' : Nat) (M' : List Nat), e = .returned (.tuple #[.agg #[.int .u64 p], .slice (some ⟨g, 0, none⟩) 2 2, .int .i64 0]) ∧ g < w'.heap.size ∧
    w'.cell? ⟨g, 0, none⟩ = some (.slice A n c) ∧ w'.cell? ⟨g, 1, none⟩ = some (.slice A' n' c') ∧ Po w' w.heap.size A n c M ∧ Po w' w.heap.size A' n' c' M' ∧
    Hid (Pm.Pn p M ∧ Pm.Cg p (Pm.co M) (Pm.co L) ∧ Pm.Pn p M' ∧ Pm.Cg p (Pm.co M') (Pm.co L')) ∧ n ≤ 1099511627776 ∧ n' ≤ 1099511627776 ∧ Below w.heap.size w w'
theorem pn_short {p : Nat} (hp : 0 < p) {L M : List Nat} {w w' : World} {b B n c m d : Nat} {A A' : Option Addr} (hM : Pm.Pn p M) (hc : Pm.Cg p (Pm.co M) (Pm.co L)) (h : Po w b A m d M) (h' : RdU w' B A' n c L) : m ≤ n := by
  rw [← h.len, ← h'.len]
  exact hM.short hp fun k hk => (hc k).trans (Pm.co_up L k hk)
theorem mall2_any {A A' : Option Addr} {n c n' c' : Nat} {L L' : List Nat} {w : World} (p : Nat) (hpr : Nt.Pr p) (hp : p < 4294967296)
    (h : RdU w w.heap.size A n c L) (h' : RdU w w.heap.size A' n' c' L') (hn : n ≤ 1099511627776) (hn' : n' ≤ 1099511627776) (hT : Tabs w) :
    Calls Tryz.prog 31 #[.int .u32 p, .slice (some ⟨w.heap.size, 0, none⟩) 2 2] (w.alloc (.cells #[.slice A n c, .slice A' n' c'] 23)) (RetA2 p L L' w) := by
  have hB := below1 w (.cells #[.slice A n c, .slice A' n' c'] 23)
  have hV : VB (w.alloc (.cells #[.slice A n c, .slice A' n' c'] 23)) w.heap.size 23 [.slice A n c, .slice A' n' c'] := VB.new w _ _
  have hc := mall_any (LL := [L, L']) p hpr hp hV rfl (by show _ ≤ 1048576; simp) (fun j v M hv hM => by
    match j, hv, hM with
    | 0, hv, hM =>
      injection hv with hv; injection hM with hM
      subst hv hM
      exact ⟨A, n, c, rfl, h.next hB, hn⟩
    | 1, hv, hM =>
      injection hv with hv; injection hM with hM
      subst hv hM
      exact ⟨A', n', c', rfl, h'.next hB, hn'⟩
    | (j + 2), hv, hM => simp at hM) (hT.below hB)
  refine hc.mono ?_
  rintro e w' ⟨g, T, rfl, hg, hVT, hTT, hb⟩
  obtain ⟨hTl, hTa⟩ := hTT.out
  match T, hTl, hTa, hVT with
  | [v0, v1], _, hTa, hVT =>
    obtain ⟨A1, n1, c1, M1, rfl, hp1, hm1, hc1⟩ := hTa 0 _ L rfl rfl
    obtain ⟨A2, n2, c2, M2, rfl, hp2, hm2, hc2⟩ := hTa 1 _ L' rfl rfl
    have hs : w.heap.size ≤ (w.alloc (.cells #[.slice A n c, .slice A' n' c'] 23)).heap.size := by simp
    exact ⟨g, A1, n1, c1, M1, A2, n2, c2, M2, rfl, hVT.lt, hVT.cell rfl, hVT.cell rfl, hp1.base hs, hp2.base hs, Lib.hid ⟨hm1, hc1, hm2, hc2⟩, Nat.le_trans (pn_short hpr.pos hm1 hc1 hp1 h) hn, Nat.le_trans (pn_short hpr.pos hm2 hc2 hp2 h') hn', hB.trans (hb.mono hs)⟩
/-- The field and a polynomial come back. -/
def RetA1 (p : Nat) (L : List Nat) (w : World) (e : Ending) (w' : World) : Prop :=
  ∃ (g : Nat) (A : Option Addr) (n c : Nat) (M : List Nat), e = .returned (.tuple #[.agg #[.int .u64 p], .slice (some ⟨g, 0, none⟩) 1 1, .int .i64 0]) ∧ g < w'.heap.size ∧
    w'.cell? ⟨g, 0, none⟩ = some (.slice A n c) ∧ Po w' w.heap.size A n c M ∧ Hid (Pm.Pn p M ∧ Pm.Cg p (Pm.co M) (Pm.co L)) ∧ n ≤ 1099511627776 ∧ Below w.heap.size w w'
theorem mall1_any {A : Option Addr} {n c : Nat} {L : List Nat} {w : World} (p : Nat) (hpr : Nt.Pr p) (hp : p < 4294967296) (h : RdU w w.heap.size A n c L) (hn : n ≤ 1099511627776) (hT : Tabs w) :
    Calls Tryz.prog 31 #[.int .u32 p, .slice (some ⟨w.heap.size, 0, none⟩) 1 1] (w.alloc (.cells #[.slice A n c] 23)) (RetA1 p L w) := by
  have hB := below1 w (.cells #[.slice A n c] 23)
  have hV : VB (w.alloc (.cells #[.slice A n c] 23)) w.heap.size 23 [.slice A n c] := VB.new w _ _
  have hc := mall_any (LL := [L]) p hpr hp hV rfl (by show _ ≤ 1048576; simp) (fun j v M hv hM => by
    match j, hv, hM with
    | 0, hv, hM =>
      injection hv with hv; injection hM with hM
      subst hv hM
      exact ⟨A, n, c, rfl, h.next hB, hn⟩
    | (j + 1), hv, hM => simp at hM) (hT.below hB)
  refine hc.mono ?_
  rintro e w' ⟨g, T, rfl, hg, hVT, hTT, hb⟩
  obtain ⟨hTl, hTa⟩ := hTT.out
  match T, hTl, hTa, hVT with
  | [v0], _, hTa, hVT =>
    obtain ⟨A1, n1, c1, M1, rfl, hp1, hm1, hc1⟩ := hTa 0 _ L rfl rfl
    have hs : w.heap.size ≤ (w.alloc (.cells #[.slice A n c] 23)).heap.size := by simp
    exact ⟨g, A1, n1, c1, M1, rfl, hVT.lt, hVT.cell rfl, hp1.base hs, Lib.hid ⟨hm1, hc1⟩, Nat.le_trans (pn_short hpr.pos hm1 hc1 hp1 h) hn, hB.trans (hb.mono hs)⟩
/-- No prime: an error. -/
def RetAN (w : World) (e : Ending) (w' : World) : Prop := e = .returned (.tuple #[.agg #[.int .u64 0], .slice none 0 0, .int .i64 40]) ∧ Below w.heap.size w w'
set_option maxRecDepth 100000 in
set_option maxHeartbeats 1000000 in
theorem mall_none {w : World} {v : Value} (p : Nat) (hpr : ¬ Nt.Pr p) (hp : p < 4294967296) (hT : Tabs w) :
    Calls Tryz.prog 31 #[.int .u32 p, v] w (RetAN w) := by
  have HP := Lib.hid hpr
  have hT0 := hT.alloc (.cells #[.int .u64 0] 51)
  have hB := below1 w (.cells #[.int .u64 0] 51)
  have hcn : ((w.alloc (.cells #[.int .u64 0] 51)).setCell ⟨w.heap.size, 0, none⟩ (.int .u64 0)).cell? ⟨w.heap.size, 0, none⟩ = some (.int .u64 0) := by go_simp
  clear hpr
  go_enter Tryz.func31, Tryz.ntmps31
  go_wp2_with fail
  refine (is_false HP.out rfl hp _ hT0).mono ?_
  rintro _ _ ⟨rfl, rfl⟩
  go_wp2
  refine bodyPost_ret (v := .tuple #[.agg #[.int .u64 0], .slice none 0 0, .int .i64 40]) (by simp [results, Tryz.results31, go_sem]) rfl ⟨rfl, hB⟩
/-- A polynomial and an error's number come back. -/
def RetPE (P : List Nat → Prop) (w : World) (e : Ending) (w' : World) : Prop :=
  ∃ (A : Option Addr) (n c : Nat) (L : List Nat), e = .returned (.tuple #[.slice A n c, .int .i64 0]) ∧ Po w' w.heap.size A n c L ∧ Hid (P L) ∧ Below w.heap.size w w'
/-- No polynomial, and an error. -/
def RetNE (code : Int) (w : World) (e : Ending) (w' : World) : Prop := e = .returned (.tuple #[.slice none 0 0, .int .i64 code]) ∧ Below w.heap.size w w'
theorem pn_cg {p : Nat} {L : List Nat} {f g : Nat → Int} (h : Pm.Pn p L ∧ Pm.Cg p (Pm.co L) f) (e : Pm.Cg p f g) : Pm.Pn p L ∧ Pm.Cg p (Pm.co L) g := ⟨h.1, h.2.trans e⟩
end Go.Proofs.YtmgacikdgbedfaaGreatDoor
