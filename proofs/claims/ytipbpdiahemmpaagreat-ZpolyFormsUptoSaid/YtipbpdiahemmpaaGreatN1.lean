/- nat: without noughts, in memory of its own, compared. -/
import Derived.Test.YtipbpdiahemmpaaGreatU1
import Derived.LoopTactic
import Derived.OwnWalk
import Derived.Laws.CopyOwn
import Derived.Deep.OwnRows
namespace Go.Proofs.YtipbpdiahemmpaaGreat
open Go.RowKit Go.IntWalk

/-- The measure of a slice. -/
def slLen : Value → Nat
  | .slice _ n _ => n
  | _ => 0
/-- The front of the list that says all. -/
def RetTr (A : Option Addr) (c : Nat) (L : List Nat) (w : World) (e : Ending) (w' : World) : Prop :=
  ∃ k : Nat, e = .returned (.slice A k c) ∧ Hid (k ≤ L.length ∧ L.take k = Dg.dg (Dg.val L)) ∧ w = w'
theorem tr_done {L : List Nat} {k : Nat} (hw : Dg.Wd L) (hk : k ≤ L.length) (h0 : ∀ i, k ≤ i → Dg.ld L i = 0) (h : k = 0 ∨ Dg.ld L (k - 1) ≠ 0) : k ≤ L.length ∧ L.take k = Dg.dg (Dg.val L) := by
  refine ⟨hk, ?_⟩
  rw [← Dg.val_take h0]
  refine Dg.eq_dg (hw.take k) fun hne => ?_
  have hk0 : k ≠ 0 := by rintro rfl; simp at hne
  have hl := h.resolve_left hk0
  rw [List.getLast_eq_getElem]
  simp only [List.length_take, Nat.min_eq_left hk, List.getElem_take]
  rwa [Dg.ld_lt (by omega)] at hl

set_option maxHeartbeats 1000000 in
theorem trim_any {B : Nat} {A : Option Addr} {n c : Nat} {L : List Nat} {w : World} (h : RdU w B A n c L) (hn : n ≤ 281474976710656) :
    Calls Tryz.prog 239 #[.slice A n c] w (RetTr A c L w) := by
  have hw := h.wd
  have hlen := Lib.hid h.len
  have hle := h.le
  have hmx := h.mx
  go_enter Tryz.func239, Tryz.ntmps239
  go_wp2
  go_loop [0] (fun a => ∃ k : Nat, k ≤ n ∧ a = .slice A k c ∧ Hid (∀ i, k ≤ i → Dg.ld L i = 0)) (fun a => slLen a)
  case atStart => exact ⟨n, Nat.le_refl _, rfl, Lib.hid fun i hi => Dg.ld_ge (by rw [hlen.out]; exact hi)⟩
  case round =>
    obtain ⟨k, hk, rfl, h0⟩ := hrel
    rcases Nat.eq_zero_or_pos k with hk0 | hk0
    · subst hk0
      go_wp2
      go_ret
      exact ⟨0, rfl, Lib.hid (tr_done hw (by omega) h0.out (.inl rfl)), rfl⟩
    · obtain ⟨j, rfl⟩ : ∃ j, k = j + 1 := ⟨k - 1, by omega⟩
      obtain ⟨hx, ad, rfl, hb, hc⟩ := h.at_ j (Dg.ld L j) (Dg.get_of_ld (by rw [hlen.out]; omega))
      have hi := hk
      by_cases hz : Dg.ld L j = 0
      · have hc0 : w.cell? (ad.add j) = some (.int .u32 0) := by rw [hc, hz]; rfl
        have HZ := Lib.hid hz
        clear hz hc
        go_wp2
        go_round
        case rel => exact ⟨j, by omega, rfl, Lib.hid fun i hi => by
          rcases Nat.lt_or_ge j i with h1 | h1
          · exact h0.out i h1
          · rw [show i = j by omega]; exact HZ.out⟩
        case measure => simp [slLen]
      · have hz' : ((Dg.ld L j : Int) == 0) = false := by simpa using hz
        have HZ := Lib.hid hz
        clear hz
        go_wp2
        go_ret
        exact ⟨j + 1, rfl, Lib.hid (tr_done hw (by rw [hlen.out]; exact hi) h0.out (.inr HZ.out)), rfl⟩

theorem infoW : (Tryz.prog.info? 35).map (fun i => (i.zero, i.size, i.bytes)) = some (some (.int .u32 0), 1, 4) := by kernel_rfl
theorem infoW1 : (Tryz.prog.info? 35).map (·.size) = some 1 := by kernel_rfl
theorem uc_zeros (n : Nat) : (uc (List.replicate n 0)).toArray = madeCells #[.int .u32 0] n := by
  unfold madeCells uc
  rw [List.map_replicate]
  apply Array.ext
  · simp
  · intro i h1 h2
    simp [Nat.mod_one]
theorem UB.made (w : World) (n : Nat) : UB (w.alloc (.cells (madeCells #[.int .u32 0] n) 35)) w.heap.size (List.replicate n 0) := by
  unfold UB
  rw [uc_zeros]
  exact heap_alloc_new w _
theorem uc_one (L : List Nat) : ∀ v ∈ uc L, v.oneCell' = true := by
  intro v hv
  obtain ⟨x, _, rfl⟩ := List.mem_map.1 hv
  rfl
theorem make_nat (n : Nat) (hn : n ≤ 17592186044416) (w : World) :
    (Instr.makeSlice 26 (.int .i64 (n : Int)) (.int .i64 (n : Int))).run Tryz.prog w = .ok (.slice (some ⟨w.heap.size, 0, none⟩) n n) (w.alloc (.cells (madeCells #[.int .u32 0] n) 35)) :=
  run_make_row' 26 35 (.int .u32 0) 4 Tryz.underlying26 infoW rfl .i64 .i64 n (by omega) (by omega) w

/-- A natural number comes back in normal form, in memory of its own. -/
def RetN (n : Nat) (w : World) (e : Ending) (w' : World) : Prop :=
  ∃ (A : Option Addr) (m c x : Nat), e = .returned (.slice A m c) ∧ OwU w' w.heap.size A m c (Dg.dg x) ∧ Hid (x = n) ∧ Below w.heap.size w w'
theorem RetN.later {n : Nat} {w w1 w' : World} {e : Ending} (h : RetN n w1 e w') (hb : Below w.heap.size w w1) : RetN n w e w' := by
  obtain ⟨A, m, c, x, h1, h2, h3, h4⟩ := h
  exact ⟨A, m, c, x, h1, h2.base hb.size, h3, hb.trans (h4.mono hb.size)⟩

set_option maxRecDepth 100000 in
set_option maxHeartbeats 1000000 in
theorem own_any {A : Option Addr} {n c : Nat} {L : List Nat} {w : World} (h : RdU w w.heap.size A n c L) (hn : n ≤ 17592186044416) :
    Calls Tryz.prog 241 #[.slice A n c] w (RetN (Dg.val L) w) := by
  have hlen := Lib.hid h.len
  go_enter Tryz.func241, Tryz.ntmps241
  go_wp2_with fail
  refine (trim_any h (by omega)).mono ?_
  rintro _ _ ⟨k, rfl, hk, rfl⟩
  have hkn : k ≤ n := by have := hk.out.1; rw [hlen.out] at this; exact this
  rcases Nat.eq_zero_or_pos k with hk0 | hk0
  · subst hk0
    have hz : Dg.val L = 0 := by have := hk.out.2; rw [List.take_zero] at this; exact Dg.dg_nil.1 this.symm
    have HZ := Lib.hid hz
    clear hz
    go_wp2
    go_ret
    exact ⟨none, 0, 0, 0, rfl, by rw [Dg.dg_zero]; exact OwU.nil w _, Lib.hid HZ.out.symm, Below.refl _ _⟩
  · have hmk := make_nat k (by omega)
    have hB0 := (Below.refl w.heap.size w).alloc (Nat.le_refl _) (.cells (madeCells #[.int .u32 0] k) 35)
    have hR := (h.take hkn).below hB0
    have hU := UB.made w k
    have hlk : (L.take k).length = k := by rw [List.length_take, hlen.out]; omega
    have HLK := Lib.hid hlk
    clear hlk
    go_wp2_with (with_reducible refine wpList_copy_splice rfl (.tmp 12) (.tmp 13) _ _ rfl 35 Tryz.underlying26 infoW1 _ _ _ _ _ _ rfl rfl w.heap.size 0 (uc (List.replicate k 0)) 35 hU.raw (uc (L.take k)) ?c1 (hR.src _) ?c2 (uc_one _) w.heap.size w hB0 (Nat.le_refl _) ?_)
    case c1 => rw [uc_len, HLK.out]; simp
    case c2 => rw [uc_len, uc_len, HLK.out]; simp
    intro w2 hg2 hB2
    go_wp2
    go_ret
    have hsp : splice (uc (List.replicate k 0)) 0 (uc (L.take k)) = uc (L.take k) := by
      unfold splice
      rw [List.drop_eq_nil_of_le (by rw [uc_len, uc_len, HLK.out]; simp)]
      simp
    have hU2 : UB w2 w.heap.size (L.take k) := by have := hg2.out; rw [hsp] at this; exact this
    have hO := hU2.own (h.wd.take k) (Nat.le_refl _) (k := k) (by rw [HLK.out]; exact Nat.le_refl k) (by rw [HLK.out]; unfold maxLen; omega)
    rw [HLK.out, List.take_of_length_le (by rw [HLK.out]; exact Nat.le_refl k), hk.out.2] at hO
    exact ⟨_, _, _, _, rfl, hO, Lib.hid rfl, hB2⟩

set_option maxHeartbeats 400000 in
theorem norm_any {A : Option Addr} {n c : Nat} {L : List Nat} {w : World} (h : RdU w w.heap.size A n c L) (hn : n ≤ 17592186044416) :
    Calls Tryz.prog 186 #[.slice A n c] w (RetN (Dg.val L) w) := by
  go_enter Tryz.func186, Tryz.ntmps186
  go_wp2_with fail
  refine (own_any h hn).mono ?_
  rintro _ w1 ⟨A1, m1, c1, x1, rfl, hO, hx, hb⟩
  go_wp2
  go_ret
  exact ⟨_, _, _, _, rfl, hO, hx, hb⟩
end Go.Proofs.YtipbpdiahemmpaaGreat
