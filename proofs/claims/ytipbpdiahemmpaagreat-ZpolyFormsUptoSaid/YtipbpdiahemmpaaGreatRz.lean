/- Results as numbers. -/
import Derived.Test.YtipbpdiahemmpaaGreatRows
import Derived.WalkKit
import Derived.WalkSpells
import Derived.WalkLawsBesides
import Derived.Lib.Hide
import Derived.Deep.QuietTactic
import Derived.BigQuiet
namespace Go.Proofs.YtipbpdiahemmpaaGreat
open Go.RowKit Go.IntWalk

theorem ret_i {k : IntKind} {a b : Int} (h : a = b) : Ending.returned (.int k a) = .returned (.int k b) := by rw [h]
theorem int_i {k : IntKind} {a b : Int} (h : a = b) : Value.int k a = .int k b := by rw [h]
/-- A number comes back; nothing has turned. -/
def RetU (k : IntKind) (n : Nat) (w : World) (e : Ending) (w' : World) : Prop := ∃ v : Nat, e = .returned (.int k v) ∧ Hid (v = n) ∧ w = w'
/-- A number comes back; at most the order of some operations was drawn. -/
def RetUD (k : IntKind) (n : Nat) (w : World) (e : Ending) (w' : World) : Prop := ∃ v : Nat, e = .returned (.int k v) ∧ Hid (v = n) ∧ ∃ j, w' = w.drewN j

def RetZ (z : Int) (w : World) (e : Ending) (w' : World) : Prop := ∃ v : Int, e = .returned (.int .i64 v) ∧ Hid (v = z) ∧ w = w'
/-- The same, where the order of some operations may have been drawn. -/
def RetZD (z : Int) (w : World) (e : Ending) (w' : World) : Prop := ∃ v : Int, e = .returned (.int .i64 v) ∧ Hid (v = z) ∧ ∃ j, w' = w.drewN j
end Go.Proofs.YtipbpdiahemmpaaGreat
