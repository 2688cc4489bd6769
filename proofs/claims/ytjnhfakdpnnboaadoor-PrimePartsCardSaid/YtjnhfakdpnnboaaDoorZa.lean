/- Sorting words: slices.Sort. -/
import Derived.Test.YtjnhfakdpnnboaaDoorZ9
namespace Go.Proofs.YtjnhfakdpnnboaaDoor
open Go.RowKit Go.IntWalk Go.Sort

/-- slices.Sort sorts the row that its block begins with. -/
theorem sort_any {g n cap : Nat} {d : Array Nat} {rest : List Value} {w : World} (hS : SB w g d rest) (hn : d.size = n) (hsz : n ≤ 1099511627776) :
    Calls Tryd.prog 66 #[.slice (some ⟨g, 0, none⟩) n cap] w (RetPd g rest 0 n d w) := by
  have HL := Lib.hid (fun w0 : World => bits_Len (n : Int) w0 (by omega) (by omega))
  obtain ⟨k, hk⟩ : ∃ k, k = Lib.bitLen (n : Int).toNat := ⟨_, rfl⟩
  rw [← hk] at HL
  have HP := Lib.hid (pdq_any (n + 1) g n cap d rest w hS hn 0 n (k : Int) (by omega) (by omega) (Nat.le_refl _) (Or.inl rfl) hsz)
  clear hk hn hS
  go_enter Tryd.func66, Tryd.ntmps66
  go_wp2_with fail
  refine (HL.out _).mono ?_
  rintro _ _ ⟨rfl, rfl⟩
  go_wp2_with fail
  refine HP.out.mono ?_
  rintro _ w2 ⟨rfl, hR⟩
  have HR := Lib.hid hR
  clear HP hR
  go_wp2
  go_end0
  exact ⟨rfl, HR.out⟩
end Go.Proofs.YtjnhfakdpnnboaaDoor
