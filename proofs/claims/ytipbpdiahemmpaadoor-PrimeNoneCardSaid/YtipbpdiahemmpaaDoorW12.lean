/- Orders by the reference; the calls Order and Root. -/
import Derived.Test.YtipbpdiahemmpaaDoorW11
namespace Go.Proofs.YtipbpdiahemmpaaDoor
open Go.RowKit Go.IntWalk

theorem RetRB.trans {k : IntKind} {R : Nat → Prop} {w w1 w' : World} {e : Ending} (hb : Below w.heap.size w w1) (h : RetRB k R w1 e w') : RetRB k R w e w' := by
  obtain ⟨v, h1, h2, h3⟩ := h
  exact ⟨v, h1, h2, hb.trans (h3.mono hb.size)⟩

set_option maxHeartbeats 1000000 in
theorem Order_none (a p : Nat) {ai pi : Int} (hai : ai = a) (hpi : pi = p) (hp : p < 4294967296) (hnp : ¬ Nt.Pr p) (w : World) (hT : Tabs w) :
    Calls Tryd.prog 17 #[.int .u32 ai, .int .u32 pi] w (RetE (· = 0) 40 w) := by
  subst hai hpi
  go_enter Tryd.func17, Tryd.ntmps17
  go_wp2_with fail
  refine (is_false hnp rfl hp _ hT).mono ?_
  rintro _ _ ⟨rfl, rfl⟩
  go_wp2
  go_ret2
  exact ⟨0, rfl, Lib.hid rfl, Below.refl _ _⟩
set_option maxHeartbeats 1000000 in
theorem Order_zero (a p : Nat) {ai pi : Int} (hai : ai = a) (hpi : pi = p) (hp : p < 4294967296) (hpr : Nt.Pr p) (h0 : a % p = 0) (w : World) (hT : Tabs w) :
    Calls Tryd.prog 17 #[.int .u32 ai, .int .u32 pi] w (RetE (· = 0) 5 w) := by
  subst hai hpi
  have hpp := hpr.pos
  have h0' : (a : Int) % p = 0 := emod_zero rfl h0
  clear h0
  go_enter Tryd.func17, Tryd.ntmps17
  go_wp2_with fail
  refine (is_true hpr rfl hp _ hT).mono ?_
  rintro _ _ ⟨rfl, rfl⟩
  go_wp2
  go_ret2
  exact ⟨0, rfl, Lib.hid rfl, Below.refl _ _⟩
set_option maxHeartbeats 1000000 in
theorem Order_ok (a p : Nat) {ai pi : Int} (hai : ai = a) (hpi : pi = p) (ha : a < 4294967296) (hp : p < 4294967296) (hpr : Nt.Pr p) (h0 : ¬ a % p = 0) (w : World) (hT : Tabs w) :
    Calls Tryd.prog 17 #[.int .u32 ai, .int .u32 pi] w (RetE (Nt.IsOrd a p) 0 w) := by
  subst hai hpi
  have hpp := hpr.pos
  have h0' : ((a : Int) % p == 0) = false := emod_ne rfl h0
  have H0 := Lib.hid h0
  clear h0
  go_enter Tryd.func17, Tryd.ntmps17
  go_wp2_with fail
  refine (is_true hpr rfl hp _ hT).mono ?_
  rintro _ _ ⟨rfl, rfl⟩
  go_wp2_with fail
  refine (order_any a p rfl rfl ha hp hpr H0.out _).mono ?_
  rintro _ w1 ⟨v, rfl, hv, hb⟩
  go_wp2
  go_ret2
  exact ⟨v, rfl, hv, hb⟩

set_option maxHeartbeats 1000000 in
theorem Root_none (p : Nat) {pi : Int} (hpi : pi = p) (hp : p < 4294967296) (hnp : ¬ Nt.Pr p) (w : World) (hT : Tabs w) :
    Calls Tryd.prog 18 #[.int .u32 pi] w (RetE (· = 0) 40 w) := by
  subst hpi
  go_enter Tryd.func18, Tryd.ntmps18
  go_wp2_with fail
  refine (is_false hnp rfl hp _ hT).mono ?_
  rintro _ _ ⟨rfl, rfl⟩
  go_wp2
  go_ret2
  exact ⟨0, rfl, Lib.hid rfl, Below.refl _ _⟩
set_option maxHeartbeats 1000000 in
theorem Root_ok (p : Nat) {pi : Int} (hpi : pi = p) (hp : p < 4294967296) (hpr : Nt.Pr p) (w : World) (hT : Tabs w) :
    Calls Tryd.prog 18 #[.int .u32 pi] w (RetE (Nt.IsRoot p) 0 w) := by
  subst hpi
  have hp2 := hpr.1
  obtain ⟨g0, hg1, hgp, hg⟩ := Nt.root_exists' hpr
  have HG := Lib.hid hg
  clear hg
  go_enter Tryd.func18, Tryd.ntmps18
  go_wp2_with fail
  refine (is_true hpr rfl hp _ hT).mono ?_
  rintro _ _ ⟨rfl, rfl⟩
  go_wp2_with fail
  go_loopg [4] g0 (fun k g wr => ∃ g' : Nat, 1 ≤ g' ∧ g' ≤ g0 ∧ g0 - g' ≤ k ∧ g = .int .u32 g' ∧ Hid (∀ h, 1 ≤ h → h < g' → ¬ Nt.IsOrd h p (p - 1)) ∧ Below w.heap.size w wr)
  case atStart => exact ⟨1, by omega, hg1, by omega, rfl, Lib.hid (fun h h1 h2 => by omega), Below.refl _ _⟩
  case round =>
    obtain ⟨g, hg2, hgg, hgk, rfl, hI, hB⟩ := hrel
    obtain ⟨W, rfl⟩ : ∃ W : World, W = wr := ⟨_, rfl⟩
    go_wp2_with fail
    refine (order_any g p rfl rfl (by omega) hp hpr (by rw [Nat.mod_eq_of_lt (by omega)]; omega) _).mono ?_
    rintro _ w1 ⟨o, rfl, ho, hb⟩
    have hB1 := hB.trans (hb.mono hB.size)
    clear hb hB
    by_cases he : o = p - 1
    · have HR := Lib.hid (show Nt.IsRoot p g from ⟨hg2, by omega, by rw [← he]; exact ho.out, hI.out⟩)
      have hei : (o : Int) = (p : Int) - 1 := by omega
      have he' : ((o : Int) != (p : Int) - 1) = false := by simp [hei]
      clear he hei
      go_wp2
      go_ret2
      exact ⟨g, rfl, HR, hB1⟩
    · have he' : ((o : Int) != (p : Int) - 1) = true := by simp; omega
      have hne : ¬ Nt.IsOrd g p (p - 1) := fun h => he (ho.out.unique h)
      have HI := Lib.hid (show ∀ h, 1 ≤ h → h < g + 1 → ¬ Nt.IsOrd h p (p - 1) from fun h h1 h2 => by
        by_cases e : h = g
        · subst e; exact hne
        · exact hI.out h h1 (by omega))
      have hlt : g < g0 := by
        apply Classical.byContradiction
        intro hc
        have e : g = g0 := by omega
        subst e
        exact hne HG.out
      obtain ⟨k, rfl⟩ : ∃ k, gk = k + 1 := ⟨gk - 1, by omega⟩
      clear he hne
      go_wp2
      go_roundg k
      case measure => omega
      case rel => exact ⟨g + 1, by omega, by omega, by omega, by go_num, HI, hB1⟩
end Go.Proofs.YtipbpdiahemmpaaDoor
