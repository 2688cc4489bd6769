/- Polynomials modulo a prime in memory; the field's numbers. -/
import Derived.Test.YtmgacikdgbedfaaGreatDoorW7
import Derived.Test.YtmgacikdgbedfaaGreatDoorU1
import Derived.Test.YtmgacikdgbedfaaGreatDoorPm2
import Derived.LoopTactic
import Derived.OwnWalk
namespace Go.Proofs.YtmgacikdgbedfaaGreatDoor
open Go.RowKit Go.IntWalk

/-- The slice of address A, n long, reads as the words L; its memory lies at or beyond block b. -/
structure Po (w : World) (b : Nat) (A : Option Addr) (n c : Nat) (L : List Nat) : Prop where
  len : L.length = n
  le : n ≤ c
  mx : c ≤ maxLen
  wd : Dg.Wd L
  at_ : n = 0 ∨ ∃ g cur, A = some ⟨g, 0, none⟩ ∧ b ≤ g ∧ w.heap[g]? = some (.cells cur 24 (0, 0)) ∧ n ≤ cur.size ∧ cur.toList.take n = uc L
theorem Po.rd {w : World} {b : Nat} {A : Option Addr} {n c : Nat} {L : List Nat} (h : Po w b A n c L) : RdU w w.heap.size A n c L := by
  refine ⟨h.len, h.le, h.mx, fun j u hu => ?_⟩
  have hj := some_lt hu
  rw [h.len] at hj
  rcases h.at_ with h0 | ⟨g, cur, rfl, h1, h2, h3, h4⟩
  · omega
  · refine ⟨h.wd.of_get hu, _, rfl, (Array.getElem?_eq_some_iff.1 h2).1, ?_⟩
    have e : (⟨g, 0, none⟩ : Addr).add j = ⟨g, j, none⟩ := by unfold Addr.add; by_cases h : j = 0 <;> simp [h]
    rw [e, cell_of_row w g j _ _ _ h2]
    have h5 := uc_at hu
    rw [← h4, List.getElem?_take_of_lt hj] at h5
    rw [← Array.getElem?_toList]
    exact h5
theorem Po.same {w w' : World} {b : Nat} {A : Option Addr} {n c : Nat} {L : List Nat} (h : Po w b A n c L) (hb : ∀ g, A = some ⟨g, 0, none⟩ → b ≤ g → g < w.heap.size → w'.heap[g]? = w.heap[g]?) : Po w' b A n c L := by
  refine ⟨h.len, h.le, h.mx, h.wd, ?_⟩
  rcases h.at_ with h0 | ⟨g, cur, h1, h2, h3, h4⟩
  · exact .inl h0
  · exact .inr ⟨g, cur, h1, h2, (hb g h1 h2 (Array.getElem?_eq_some_iff.1 h3).1).trans h3, h4⟩
theorem Po.next {w w' : World} {b : Nat} {A : Option Addr} {n c : Nat} {L : List Nat} (h : Po w b A n c L) (hb : Below w.heap.size w w') : Po w' b A n c L :=
  h.same fun g _ _ hg => hb.block g hg
theorem Po.base {w : World} {b b' : Nat} {A : Option Addr} {n c : Nat} {L : List Nat} (h : Po w b A n c L) (hb : b' ≤ b) : Po w b' A n c L := by
  refine ⟨h.len, h.le, h.mx, h.wd, ?_⟩
  rcases h.at_ with h0 | ⟨g, cur, h1, h2, h3⟩
  · exact .inl h0
  · exact .inr ⟨g, cur, h1, by omega, h3⟩
theorem Po.take {w : World} {b : Nat} {A : Option Addr} {n c : Nat} {L : List Nat} (h : Po w b A n c L) {k : Nat} (hk : k ≤ n) : Po w b A k c (L.take k) := by
  refine ⟨by rw [List.length_take, h.len]; omega, Nat.le_trans hk h.le, h.mx, h.wd.take k, ?_⟩
  rcases h.at_ with h0 | ⟨g, cur, h1, h2, h3, h4, h5⟩
  · exact .inl (by omega)
  · refine .inr ⟨g, cur, h1, h2, h3, Nat.le_trans hk h4, ?_⟩
    rw [uc_take, ← h5, List.take_take, Nat.min_eq_left hk]
theorem Po.cut {w : World} {b : Nat} {A : Option Addr} {n c : Nat} {L : List Nat} (h : Po w b A n c L) {c' : Nat} (h1 : n ≤ c') (h2 : c' ≤ c) : Po w b A n c' L :=
  ⟨h.len, h1, Nat.le_trans h2 h.mx, h.wd, h.at_⟩
theorem Po.none {w : World} {b n c : Nat} {A : Option Addr} {L : List Nat} (h : Po w b A n c L) (h0 : n = 0) : L = [] := List.eq_nil_of_length_eq_zero (by rw [h.len, h0])
theorem Po.nil (w : World) (b c : Nat) (A : Option Addr) (hc : c ≤ maxLen) : Po w b A 0 c [] := ⟨rfl, Nat.zero_le _, hc, Dg.Wd.nil, .inl rfl⟩
theorem UB.po {w : World} {g b : Nat} {L : List Nat} (h : UB w g L) (hw : Dg.Wd L) (hb : b ≤ g) {k c : Nat} (hk : k ≤ L.length) (hkc : k ≤ c) (hm : c ≤ maxLen) : Po w b (some ⟨g, 0, none⟩) k c (L.take k) := by
  refine ⟨by rw [List.length_take]; omega, hkc, hm, hw.take k, .inr ⟨g, _, rfl, hb, h, ?_, ?_⟩⟩
  · simp [uc]; exact hk
  · simp [uc]

/-- A polynomial comes back in memory of its own, in normal form. -/
def RetPo (p : Nat) (f : Nat → Int) (w : World) (e : Ending) (w' : World) : Prop :=
  ∃ (A : Option Addr) (n c : Nat) (L : List Nat), e = .returned (.slice A n c) ∧ Po w' w.heap.size A n c L ∧ Hid (Pm.Pn p L ∧ Pm.Cg p (Pm.co L) f) ∧ Below w.heap.size w w'
theorem RetPo.later {p : Nat} {f : Nat → Int} {w w1 w' : World} {e : Ending} (h : RetPo p f w1 e w') (hb : Below w.heap.size w w1) : RetPo p f w e w' := by
  obtain ⟨A, n, c, L, h1, h2, h3, h4⟩ := h
  exact ⟨A, n, c, L, h1, h2.base hb.size, h3, hb.trans (h4.mono hb.size)⟩

/-- A number of the field comes back. -/
def RetC (p : Nat) (z : Int) (w : World) (e : Ending) (w' : World) : Prop :=
  ∃ v : Nat, e = .returned (.int .u32 v) ∧ v < p ∧ Hid (Pm.cz p v z) ∧ Below w.heap.size w w'
theorem below1 (w : World) (a : Obj) : Below w.heap.size w (w.alloc a) := (Below.refl _ _).alloc (Nat.le_refl _) _

set_option maxHeartbeats 400000 in
theorem fadd_any (p x y : Nat) (h0 : 0 < p) (hp : p < 4294967296) (hx : x < 4294967296) (hy : y < 4294967296) (w : World) :
    Calls Tryz.prog 35 #[.agg #[.int .u64 p], .int .u32 x, .int .u32 y] w (RetC p ((x : Int) + y) w) := by
  go_enter Tryz.func35, Tryz.ntmps35
  go_wp2
  go_ret
  exact ⟨(x + y) % p, ret_i (add_val x y p hp h0), Nat.mod_lt _ h0, Lib.hid (by have := Pm.cz_mod (p := p) (x + y); rwa [Int.natCast_add] at this), below1 _ _⟩
theorem mulp_val (a b n : Nat) (ha : a < 4294967296) (hb : b < 4294967296) (hn : n < 4294967296) (h0 : 0 < n) :
    (IntKind.u64.wrap ((a : Int) * b)).tmod n % 4294967296 = ((a * b % n : Nat) : Int) := times_val a b n ha hb hn h0
set_option maxHeartbeats 400000 in
theorem fmul_any (p x y : Nat) (h0 : 0 < p) (hp : p < 4294967296) (hx : x < 4294967296) (hy : y < 4294967296) (w : World) :
    Calls Tryz.prog 55 #[.agg #[.int .u64 p], .int .u32 x, .int .u32 y] w (RetC p ((x : Int) * y) w) := by
  go_enter Tryz.func55, Tryz.ntmps55
  go_wp2
  go_ret
  exact ⟨x * y % p, ret_i (mulp_val x y p hx hy hp h0), Nat.mod_lt _ h0, Lib.hid (by have := Pm.cz_mod (p := p) (x * y); rwa [Int.natCast_mul] at this), below1 _ _⟩
theorem subp_val (x y p : Nat) (hp : p < 4294967296) (h0 : 0 < p) (hy : y ≤ p) : ((x : Int) + p - y) % p % 4294967296 = (((x + p - y) % p : Nat) : Int) := by
  rw [show (x : Int) + p - y = ((x + p - y : Nat) : Int) by omega, up_mod rfl rfl]
  have := Nat.mod_lt (x + p - y) h0
  omega
theorem cz_subp (x y p : Nat) (hy : y ≤ p) : Pm.cz p (((x + p - y) % p : Nat) : Int) ((x : Int) - y) := by
  refine (Pm.cz_mod (p := p) (x + p - y)).trans ?_
  exact ⟨1, by omega⟩
set_option maxHeartbeats 400000 in
theorem fsub_any (p x y : Nat) (h0 : 0 < p) (hp : p < 4294967296) (hx : x < 4294967296) (hy : y ≤ p) (w : World) :
    Calls Tryz.prog 36 #[.agg #[.int .u64 p], .int .u32 x, .int .u32 y] w (RetC p ((x : Int) - y) w) := by
  go_enter Tryz.func36, Tryz.ntmps36
  go_wp2
  go_ret
  exact ⟨(x + p - y) % p, ret_i (subp_val x y p hp h0 hy), Nat.mod_lt _ h0, Lib.hid (cz_subp x y p hy), below1 _ _⟩
end Go.Proofs.YtmgacikdgbedfaaGreatDoor
