/- The laws' walks: powers, roots, the field. -/
import Derived.Test.YtipbpdiahemmpaaDoorL1
namespace Go.Proofs.YtipbpdiahemmpaaDoor
open Go.RowKit Go.IntWalk

theorem RetED.toE {R : Nat → Prop} {code : Int} {w w' : World} {e : Ending} (h : RetED R code w e w') : RetE R code w e w' := by
  obtain ⟨v, h1, h2, j, h3⟩ := h
  exact ⟨v, h1, h2, by rw [h3]; exact below_quiet w j⟩
section
variable {P : Program} {f : FuncId} {args : Array Value} {w : World} {n : Nat} {v : Value}
/-- A call in a region that draws its order: the world as it was. -/
theorem qs (h : Calls P f args (w.drewN n) fun e w' => e = .returned v ∧ w.drewN n = w') : Calls P f args (w.drewN n) fun e w'' => e = .returned v ∧ ∃ m, w'' = w.drewN m :=
  h.mono fun _ _ ⟨he, hm⟩ => ⟨he, n, hm.symm⟩
theorem qq (h : Calls P f args (w.drewN n) fun e w' => e = .returned v ∧ ∃ j, w' = (w.drewN n).drewN j) : Calls P f args (w.drewN n) fun e w'' => e = .returned v ∧ ∃ m, w'' = w.drewN m :=
  h.mono fun _ _ ⟨he, j, hm⟩ => ⟨he, n + j, by rw [hm, World.drewN_drewN]⟩
end
set_option maxHeartbeats 400000 in
theorem told_ok {v u : Int} (h : v = u) (w : World) : Calls Tryd.prog 8 #[.int .u32 v, .int .i64 0, .int .u32 u, .int .i64 0] w fun e w' => e = .returned (.bool true) ∧ w = w' := by
  subst h
  go_enter Tryd.func8, Tryd.ntmps8
  go_wp2_with (go_at_call 19; refine (num_any _ _).mono ?_; rintro _ _ ⟨rfl, rfl⟩)
  go_ret
  exact ⟨rfl, rfl⟩
set_option maxHeartbeats 400000 in
theorem told_err {c u : Int} (hc : (c != 0) = true) (w : World) : Calls Tryd.prog 8 #[.int .u32 0, .int .i64 c, .int .u32 u, .int .i64 c] w fun e w' => e = .returned (.bool true) ∧ w = w' := by
  go_enter Tryd.func8, Tryd.ntmps8
  go_wp2_with (go_at_call 19; refine (num_any _ _).mono ?_; rintro _ _ ⟨rfl, rfl⟩)
  go_ret
  exact ⟨rfl, rfl⟩
theorem refIs_true {n : Nat} (h : Nt.Pr n) {ni : Int} (hni : ni = n) (hn : n < 4294967296) (w : World) :
    Calls Tryd.prog 7 #[.int .u32 ni] w fun e w' => e = .returned (.bool true) ∧ w = w' := by
  have := refIs_any n hni hn w
  rw [Nt.isP_iff.2 h] at this
  exact this
theorem refIs_false {n : Nat} (h : ¬ Nt.Pr n) {ni : Int} (hni : ni = n) (hn : n < 4294967296) (w : World) :
    Calls Tryd.prog 7 #[.int .u32 ni] w fun e w' => e = .returned (.bool false) ∧ w = w' := by
  have := refIs_any n hni hn w
  rw [Nt.isP_false_iff.2 h] at this
  exact this

end Go.Proofs.YtipbpdiahemmpaaDoor
