/- modpoly: without noughts, in normal form, what is told; inverses. -/
import Derived.Test.YtmgacikdgbedfaaGreatDoorV1
import Derived.Laws.MakeOwn
import Derived.Deep.OwnRows
import Derived.Deep.RegionHeld3
namespace Go.Proofs.YtmgacikdgbedfaaGreatDoor
open Go.RowKit Go.IntWalk

/-- The measure of a slice. -/
def slLen : Value → Nat
  | .slice _ n _ => n
  | _ => 0
/-- The front of the list that says all. -/
def RetTm (A : Option Addr) (c : Nat) (L : List Nat) (w : World) (e : Ending) (w' : World) : Prop :=
  ∃ k : Nat, e = .returned (.slice A k c) ∧ Hid (k ≤ L.length ∧ Dg.Nm (L.take k) ∧ ∀ i, Dg.ld (L.take k) i = Dg.ld L i) ∧ w = w'
theorem ld_take {L : List Nat} {k i : Nat} (h : i < k) : Dg.ld (L.take k) i = Dg.ld L i := by
  by_cases hl : i < L.length
  · rw [Dg.ld_lt (by rw [List.length_take]; omega), Dg.ld_lt hl, List.getElem_take]
  · rw [Dg.ld_ge (by rw [List.length_take]; omega), Dg.ld_ge (by omega)]
theorem tm_done {L : List Nat} {k : Nat} (hk : k ≤ L.length) (h0 : ∀ i, k ≤ i → Dg.ld L i = 0) (h : k = 0 ∨ Dg.ld L (k - 1) ≠ 0) : k ≤ L.length ∧ Dg.Nm (L.take k) ∧ ∀ i, Dg.ld (L.take k) i = Dg.ld L i := by
  refine ⟨hk, Pm.nm_of_top ?_, fun i => ?_⟩
  · rw [List.length_take, Nat.min_eq_left hk]
    refine h.imp id fun h1 => ?_
    rcases Nat.eq_zero_or_pos k with h2 | h2
    · subst h2; rw [h0 0 (Nat.le_refl _)] at h1; exact absurd rfl h1
    · rwa [ld_take (by omega)]
  · by_cases hi : i < k
    · exact ld_take hi
    · rw [Dg.ld_ge (by rw [List.length_take]; omega), h0 i (by omega)]

set_option maxHeartbeats 1000000 in
theorem mtrim_any {B : Nat} {A : Option Addr} {n c : Nat} {L : List Nat} {w : World} (h : RdU w B A n c L) (hn : n ≤ 281474976710656) :
    Calls Tryz.prog 54 #[.slice A n c] w (RetTm A c L w) := by
  have hlen := Lib.hid h.len
  have hle := h.le
  have hmx := h.mx
  go_enter Tryz.func54, Tryz.ntmps54
  go_wp2
  go_loop [0] (fun a => ∃ k : Nat, k ≤ n ∧ a = .slice A k c ∧ Hid (∀ i, k ≤ i → Dg.ld L i = 0)) (fun a => slLen a)
  case atStart => exact ⟨n, Nat.le_refl _, rfl, Lib.hid fun i hi => Dg.ld_ge (by rw [hlen.out]; exact hi)⟩
  case round =>
    obtain ⟨k, hk, rfl, h0⟩ := hrel
    rcases Nat.eq_zero_or_pos k with hk0 | hk0
    · subst hk0
      go_wp2
      go_ret
      exact ⟨0, rfl, Lib.hid (tm_done (by omega) h0.out (.inl rfl)), rfl⟩
    · obtain ⟨j, rfl⟩ : ∃ j, k = j + 1 := ⟨k - 1, by omega⟩
      obtain ⟨hx, ad, rfl, hb, hc⟩ := h.at_ j (Dg.ld L j) (Dg.get_of_ld (by rw [hlen.out]; omega))
      have hi := hk
      by_cases hz : Dg.ld L j = 0
      · have hc0 : w.cell? (ad.add j) = some (.int .u32 0) := by rw [hc, hz]; rfl
        have HZ := Lib.hid hz
        clear hz hc
        go_wp2
        go_round
        case rel => exact ⟨j, by omega, rfl, Lib.hid fun i hi => by
          rcases Nat.lt_or_ge j i with h1 | h1
          · exact h0.out i h1
          · rw [show i = j by omega]; exact HZ.out⟩
        case measure => simp [slLen]
      · have hz' : ((Dg.ld L j : Int) == 0) = false := by simpa using hz
        have HZ := Lib.hid hz
        clear hz
        go_wp2
        go_ret
        exact ⟨j + 1, rfl, Lib.hid (tm_done (by rw [hlen.out]; exact hi) h0.out (.inr HZ.out)), rfl⟩

theorem infoW : (Tryz.prog.info? 24).map (fun i => (i.zero, i.size, i.bytes)) = some (some (.int .u32 0), 1, 4) := by kernel_rfl
theorem infoW1 : (Tryz.prog.info? 24).map (·.size) = some 1 := by kernel_rfl
theorem uc_zeros (n : Nat) : (uc (List.replicate n 0)).toArray = madeCells #[.int .u32 0] n := by
  unfold madeCells uc
  rw [List.map_replicate]
  apply Array.ext
  · simp
  · intro i h1 h2
    simp [Nat.mod_one]
theorem UB.made (w : World) (n : Nat) : UB (w.alloc (.cells (madeCells #[.int .u32 0] n) 24)) w.heap.size (List.replicate n 0) := by
  unfold UB
  rw [uc_zeros]
  exact heap_alloc_new w _
theorem make_words (n : Nat) (hn : n ≤ 17592186044416) (w : World) :
    (Instr.makeSlice 22 (.int .i64 (n : Int)) (.int .i64 (n : Int))).run Tryz.prog w = .ok (.slice (some ⟨w.heap.size, 0, none⟩) n n) (w.alloc (.cells (madeCells #[.int .u32 0] n) 24)) :=
  run_make_row' 22 24 (.int .u32 0) 4 Tryz.underlying22 infoW rfl .i64 .i64 n (by omega) (by omega) w

/-- The inverse in the field. -/
theorem cz_inv {p x v : Nat} (hp : Nt.Pr p) (h0 : ¬ x % p = 0) (hv : v = x ^ (p - 2) % p) : Pm.cz p ((v : Int) * x) 1 := by
  have h1 := Nt.inv_pow hp h0
  rw [← hv] at h1
  have h2 := Pm.cz_mod (p := p) (v * x)
  rw [h1] at h2
  have h3 := h2.symm
  rwa [Int.natCast_mul] at h3
/-- The field's inverse comes back. -/
def RetV (p x : Nat) (w : World) (e : Ending) (w' : World) : Prop :=
  ∃ v : Nat, e = .returned (.int .u32 v) ∧ v < p ∧ Hid (Pm.cz p ((v : Int) * x) 1) ∧ Below w.heap.size w w'
set_option maxHeartbeats 400000 in
theorem finv_any (p x : Nat) (hpr : Nt.Pr p) (hp : p < 4294967296) (hx : x < 4294967296) (h0 : ¬ x % p = 0) (w : World) (hT : Tabs w) :
    Calls Tryz.prog 53 #[.agg #[.int .u64 p], .int .u32 x] w (RetV p x w) := by
  have HP := Lib.hid hpr
  have H0 := Lib.hid h0
  have hpos := hpr.pos
  clear hpr h0
  have hT1 := hT.alloc (.cells #[.int .u64 p] 51)
  go_enter Tryz.func53, Tryz.ntmps53
  go_wp2_with fail
  refine (inv_ok x p rfl (by omega) hx hp HP.out H0.out _ hT1).mono ?_
  rintro _ w1 ⟨v, rfl, hv, j, hj⟩
  subst hj
  have HB := Lib.hid (below_drewN (below1 w (.cells #[.int .u64 p] 51)) j)
  have hvp : v < p := by rw [hv.out]; exact Nat.mod_lt _ hpos
  go_wp2
  go_ret
  exact ⟨v, rfl, hvp, Lib.hid (cz_inv HP.out H0.out hv.out), HB.out⟩

/-- What is told of a list: the same, no longer than it is. -/
def RetTo (b n : Nat) (L : List Nat) (w : World) (e : Ending) (w' : World) : Prop :=
  ∃ (A : Option Addr) (c : Nat), e = .returned (.slice A n c) ∧ Po w b A n c L ∧ w = w'
set_option maxHeartbeats 400000 in
theorem mtold_any {b : Nat} {A : Option Addr} {n c : Nat} {L : List Nat} {w : World} (h : Po w b A n c L) :
    Calls Tryz.prog 32 #[.slice A n c] w (RetTo b n L w) := by
  have hle := h.le
  have hmx := h.mx
  by_cases h0 : n = 0
  · have hL := h.none h0
    subst h0 hL
    go_enter Tryz.func32, Tryz.ntmps32
    go_wp2
    go_ret
    exact ⟨none, 0, rfl, Po.nil w b 0 none (Nat.zero_le _), rfl⟩
  · have h1 : ((n : Int) == 0) = false := by simp; omega
    have hc := h.cut (c' := n) (Nat.le_refl _) hle
    clear h0
    go_enter Tryz.func32, Tryz.ntmps32
    go_wp2
    go_ret
    exact ⟨A, n, rfl, hc, rfl⟩
end Go.Proofs.YtmgacikdgbedfaaGreatDoor
