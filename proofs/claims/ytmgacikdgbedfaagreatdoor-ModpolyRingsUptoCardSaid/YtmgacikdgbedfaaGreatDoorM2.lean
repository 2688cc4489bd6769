/- modpoly: in normal form; times a number. -/
import Derived.Test.YtmgacikdgbedfaaGreatDoorM1
namespace Go.Proofs.YtmgacikdgbedfaaGreatDoor
open Go.RowKit Go.IntWalk

/-- All are numbers of the field. -/
def Lt (p : Nat) (L : List Nat) : Prop := ∀ x ∈ L, x < p
theorem Lt.wd {p : Nat} {L : List Nat} (h : Lt p L) (hp : p < 4294967296) : Dg.Wd L := fun x hx => Nat.lt_trans (h x hx) hp
theorem Lt.set {p : Nat} {L : List Nat} (h : Lt p L) (k : Nat) {s : Nat} (hs : s < p) : Lt p (L.set k s) := fun y hy => by
  rcases List.mem_or_eq_of_mem_set hy with hy | rfl
  · exact h y hy
  · exact hs
theorem Lt.zeros {p : Nat} (h : 0 < p) (n : Nat) : Lt p (List.replicate n 0) := fun y hy => by rw [List.eq_of_mem_replicate hy]; exact h
theorem Lt.ld {p : Nat} {L : List Nat} (h : Lt p L) (hp : 0 < p) (i : Nat) : Dg.ld L i < p := by
  by_cases hi : i < L.length
  · rw [Dg.ld_lt hi]; exact h _ (List.getElem_mem hi)
  · rw [Dg.ld_ge (by omega)]; exact hp
/-- The coefficients below k are as they should be. -/
def Upto (p : Nat) (O : List Nat) (f : Nat → Int) (k : Nat) : Prop := ∀ j, j < k → Pm.cz p (Dg.ld O j : Nat) (f j)
theorem Upto.set {p : Nat} {O : List Nat} {f : Nat → Int} {k s : Nat} (h : Upto p O f k) (hk : k < O.length) (hs : Pm.cz p (s : Int) (f k)) : Upto p (O.set k s) f (k + 1) := fun j hj => by
  by_cases e : j = k
  · subst e; rw [Dg.ld_set_same s hk]; exact hs
  · rw [Dg.ld_set_other s e]; exact h j (by omega)
theorem Upto.all {p : Nat} {O : List Nat} {f : Nat → Int} (h : Upto p O f O.length) (hf : ∀ j, O.length ≤ j → Pm.cz p (f j) 0) : Pm.Cg p (Pm.co O) f := fun j => by
  by_cases hj : j < O.length
  · exact h j hj
  · unfold Pm.co
    rw [Dg.ld_ge (by omega)]
    exact (hf j (by omega)).symm
/-- What the cut leaves. -/
theorem cut_pn {p : Nat} {O : List Nat} {f : Nat → Int} {k : Nat} (hO : Lt p O) (hc : Pm.Cg p (Pm.co O) f) (hk : k ≤ O.length ∧ Dg.Nm (O.take k) ∧ ∀ i, Dg.ld (O.take k) i = Dg.ld O i) : Pm.Pn p (O.take k) ∧ Pm.Cg p (Pm.co (O.take k)) f :=
  ⟨⟨hk.2.1, fun x hx => hO x (List.mem_of_mem_take hx)⟩, fun i => by unfold Pm.co; rw [hk.2.2 i]; exact hc i⟩
theorem co_end {p : Nat} {L : List Nat} {j : Nat} (h : L.length ≤ j) : Pm.cz p (Pm.co L j) 0 := by unfold Pm.co; rw [Dg.ld_ge h]; exact Pm.cz.refl _

set_option maxRecDepth 100000 in
set_option maxHeartbeats 1000000 in
theorem mnorm_any {A : Option Addr} {n c : Nat} {L : List Nat} {w : World} (p : Nat) (h0 : 0 < p) (hp : p < 4294967296) (h : RdU w w.heap.size A n c L) (hn : n ≤ 17592186044416) :
    Calls Tryz.prog 51 #[.agg #[.int .u64 p], .slice A n c] w (RetPo p (Pm.co L) w) := by
  have HLEN := Lib.hid h.len
  have hmk := fun W : World => make_words n hn W
  go_enter Tryz.func51, Tryz.ntmps51
  go_wp2_with fail
  have hcb : ((w.alloc (.cells #[.int .u64 p] 51)).alloc (.cells (madeCells #[.int .u32 0] n) 24)).cell? ⟨w.heap.size, 0, none⟩ = some (.int .u64 p) := by go_simp
  have HU0 := UB.made (w.alloc (.cells #[.int .u64 p] 51)) n
  have hB0 : Below w.heap.size w ((w.alloc (.cells #[.int .u64 p] 51)).alloc (.cells (madeCells #[.int .u32 0] n) 24)) := (below1 w _).alloc (by simp) _
  rw [World.size_alloc] at HU0
  have HCB := Lib.hid hcb
  clear hcb hmk
  generalize (w.alloc (.cells #[.int .u64 p] 51)).alloc (.cells (madeCells #[.int .u32 0] n) 24) = W1 at HCB HU0 hB0 ⊢
  obtain ⟨gb, hgb⟩ : ∃ gb, gb = w.heap.size := ⟨_, rfl⟩
  rw [← hgb] at HCB HU0 ⊢
  have hbb : w.heap.size ≤ gb := by omega
  have HGB := Lib.hid hgb
  clear hgb
  go_loopw [13] (fun i wr => ∃ (k : Nat) (O : List Nat), i = .int .i64 k ∧ k ≤ n ∧ UB wr (gb + 1) O ∧ Hid (O.length = n ∧ Lt p O ∧ Upto p O (Pm.co L) k) ∧ wr.cell? ⟨gb, 0, none⟩ = some (.int .u64 p) ∧ Below w.heap.size w wr) (fun i _ => n - (intOf i).toNat)
  case atStart => exact ⟨0, _, rfl, Nat.zero_le _, HU0, Lib.hid ⟨by simp, Lt.zeros h0 n, fun j hj => absurd hj (by omega)⟩, HCB.out, hB0⟩
  case round =>
    clear HU0 hB0
    obtain ⟨k, O, rfl, hk, hU, hO, hc, hB⟩ := hrel
    by_cases hkn : k < n
    · obtain ⟨hx, ad, rfl, hbx, hcx⟩ := h.at_ k _ (Dg.get_of_ld (by rw [HLEN.out]; exact hkn))
      have hcx := (hB.cell (p := ad.add k) (by rw [add_blk]; exact hbx)).trans hcx
      obtain ⟨x, ex⟩ : ∃ x, x = Dg.ld L k := ⟨_, rfl⟩
      rw [← ex] at hx hcx
      have EX := Lib.hid ex
      clear ex
      have hcell := hU.cell (Dg.get_of_ld (L := O) (i := k) (by rw [hO.out.1]; exact hkn))
      generalize Dg.ld O k = o0 at hcell
      have hfz := hU.frozen k
      have hm := Nat.mod_lt x h0
      have hwr : (x : Int) % p % 4294967296 = ((x % p : Nat) : Int) := by
        rw [up_mod rfl rfl]; omega
      have hU1 := hU.set k (x % p)
      have hB1 := hB.setCell (p := ⟨gb + 1, k, none⟩) (by simp; omega) (.int .u32 ((x % p : Nat) : Int))
      have hc1 : (wr.setCell ⟨gb + 1, k, none⟩ (.int .u32 ((x % p : Nat) : Int))).cell? ⟨gb, 0, none⟩ = some (.int .u64 p) := by go_simp
      have HX := Lib.hid (And.intro hU1 (And.intro hB1 hc1))
      clear hU1 hB1 hc1
      go_wp2
      go_roundw
      case rel => exact ⟨k + 1, O.set k (x % p), by go_num, hkn, HX.out.1, Lib.hid ⟨by rw [List.length_set]; exact hO.out.1, hO.out.2.1.set k hm, hO.out.2.2.set (by rw [hO.out.1]; exact hkn) (by unfold Pm.co; rw [← EX.out]; exact Pm.cz_mod x)⟩, HX.out.2.2, HX.out.2.1⟩
      case measure => simp [intOf]; omega
    · obtain rfl : k = n := by omega
      have hR := hU.rd (hO.out.2.1.wd hp) (B := wr.heap.size) hU.lt (k := k) (by rw [hO.out.1]; exact Nat.le_refl _) (by rw [hO.out.1]; exact Nat.le_trans h.le h.mx)
      rw [hO.out.1, List.take_of_length_le (by rw [hO.out.1]; exact Nat.le_refl _)] at hR
      go_wp2_with fail
      refine (mtrim_any hR (by omega)).mono ?_
      rintro _ _ ⟨m, rfl, hm, rfl⟩
      go_wp2
      go_ret
      exact ⟨_, m, k, O.take m, rfl, hU.po (hO.out.2.1.wd hp) (by omega) hm.out.1 (by have := hm.out.1; rw [hO.out.1] at this; exact this) (Nat.le_trans h.le h.mx), Lib.hid (cut_pn hO.out.2.1 (Upto.all (by rw [hO.out.1]; exact hO.out.2.2) (fun j hj => co_end (by rw [HLEN.out, ← hO.out.1]; exact hj))) hm.out), hB⟩
end Go.Proofs.YtmgacikdgbedfaaGreatDoor
