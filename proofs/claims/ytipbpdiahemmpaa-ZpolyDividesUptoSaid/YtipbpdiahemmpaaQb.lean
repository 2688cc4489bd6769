/- Rows of words in memory: what is read, what was made. -/
import Derived.Test.YtipbpdiahemmpaaRz
import Derived.Test.YtipbpdiahemmpaaDg
import Derived.Below
import Derived.Laws.OwnMore
import Derived.Laws.Rows
import Derived.Laws.MakeOwn
import Derived.Deep.AppendLies
import Derived.Deep.Draws
import Derived.Shelf.Small.Bits
import Derived.Test.YtipbpdiahemmpaaProg
import Derived.LoopTactic
import Derived.OwnWalk
import Derived.Laws.CopyOwn
import Derived.Deep.OwnRows
namespace Go.Proofs.Ytipbpdiahemmpaa
open Go.RowKit Go.IntWalk

/-- The cells of words. -/
def uc (L : List Nat) : List Value := L.map fun x : Nat => Value.int .u32 x
theorem uc_len (L : List Nat) : (uc L).length = L.length := by simp [uc]
theorem uc_at {L : List Nat} {j u : Nat} (h : L[j]? = some u) : (uc L)[j]? = some (.int .u32 u) := by simp [uc, h]
theorem uc_append (L M : List Nat) : uc (L ++ M) = uc L ++ uc M := by simp [uc]
theorem uc_take (L : List Nat) (k : Nat) : uc (L.take k) = (uc L).take k := by simp [uc]
theorem uc_set (L : List Nat) (k u : Nat) : uc (L.set k u) = (uc L).set k (.int .u32 u) := by simp [uc, List.map_set]
theorem add_blk (a : Addr) (n : Nat) : (a.add n).block = a.block := by unfold Addr.add; split <;> rfl
theorem add_add' (a : Addr) (i j : Nat) : (a.add i).add j = a.add (i + j) := by
  unfold Addr.add
  by_cases hi : i = 0 <;> by_cases hj : j = 0 <;> simp [hi, hj, Nat.add_assoc]
theorem some_lt {L : List Nat} {j u : Nat} (h : L[j]? = some u) : j < L.length := by
  rcases Nat.lt_or_ge j L.length with h1 | h1
  · exact h1
  · rw [List.getElem?_eq_none h1] at h; cases h

/-- The slice of address A, n long, reads as the words L; it lies below block B. -/
structure RdU (w : World) (B : Nat) (A : Option Addr) (n c : Nat) (L : List Nat) : Prop where
  len : L.length = n
  le : n ≤ c
  mx : c ≤ maxLen
  at_ : ∀ (j u : Nat), L[j]? = some u → u < 4294967296 ∧ ∃ ad, A = some ad ∧ ad.block < B ∧ w.cell? (ad.add j) = some (.int .u32 u)
theorem RdU.below {w w' : World} {B : Nat} {A : Option Addr} {n c : Nat} {L : List Nat} (h : RdU w B A n c L) (hb : Below B w w') : RdU w' B A n c L :=
  ⟨h.len, h.le, h.mx, fun j u hu => by
    obtain ⟨h1, ad, e, hB, hc⟩ := h.at_ j u hu
    exact ⟨h1, ad, e, hB, (hb.cell (p := ad.add j) (by rw [add_blk]; exact hB)).trans hc⟩⟩
theorem RdU.more {w : World} {B B' : Nat} {A : Option Addr} {n c : Nat} {L : List Nat} (h : RdU w B A n c L) (hB : B ≤ B') : RdU w B' A n c L :=
  ⟨h.len, h.le, h.mx, fun j u hu => by
    obtain ⟨h1, ad, e, hb, hc⟩ := h.at_ j u hu
    exact ⟨h1, ad, e, by omega, hc⟩⟩
theorem RdU.next {w w' : World} {A : Option Addr} {n c : Nat} {L : List Nat} (h : RdU w w.heap.size A n c L) (hb : Below w.heap.size w w') : RdU w' w'.heap.size A n c L := (h.below hb).more hb.size
theorem RdU.nil (w : World) (B c : Nat) (A : Option Addr) (hc : c ≤ maxLen) : RdU w B A 0 c [] := ⟨rfl, Nat.zero_le _, hc, fun j u h => by simp at h⟩
theorem RdU.wd {w : World} {B : Nat} {A : Option Addr} {n c : Nat} {L : List Nat} (h : RdU w B A n c L) : Dg.Wd L := fun x hx => by
  obtain ⟨j, hj⟩ := List.getElem?_of_mem hx
  exact (h.at_ j x hj).1
theorem RdU.take {w : World} {B : Nat} {A : Option Addr} {n c : Nat} {L : List Nat} (h : RdU w B A n c L) {k : Nat} (hk : k ≤ n) : RdU w B A k c (L.take k) :=
  ⟨by rw [List.length_take, h.len]; omega, Nat.le_trans hk h.le, h.mx, fun j u hu => by
    have hj := some_lt hu
    simp only [List.length_take] at hj
    rw [List.getElem?_take_of_lt (by omega)] at hu
    exact h.at_ j u hu⟩
theorem RdU.drop {w : World} {B : Nat} {A : Option Addr} {n c : Nat} {L : List Nat} (h : RdU w B A n c L) {k : Nat} (hk : k ≤ n) :
    RdU w B (if c = k then A else A.map (·.add (k * 1))) (n - k) (c - k) (L.drop k) :=
  ⟨by rw [List.length_drop, h.len], by have := h.le; omega, by have := h.mx; omega, fun j u hu => by
    have hj := some_lt hu
    simp only [List.length_drop, h.len] at hj
    rw [List.getElem?_drop] at hu
    obtain ⟨h1, ad, rfl, hb, hc⟩ := h.at_ (k + j) u hu
    have := h.le
    rw [if_neg (by omega)]
    exact ⟨h1, ad.add (k * 1), rfl, by rw [add_blk]; exact hb, by rw [add_add', Nat.mul_one]; exact hc⟩⟩

/-- As a copy reads it. -/
theorem RdU.src {w : World} {B : Nat} {A : Option Addr} {n c : Nat} {L : List Nat} (h : RdU w B A n c L) (p : Addr) :
    0 < (uc L).length → some p = some p ∧ ∃ ad, A = some ad ∧ ∀ (j : Nat) v, (uc L)[j]? = some v → w.cell? (ad.add j) = some v := by
  intro h0
  rw [uc_len] at h0
  obtain ⟨_, ad, e, _, _⟩ := h.at_ 0 (Dg.ld L 0) (Dg.get_of_ld h0)
  refine ⟨rfl, ad, e, fun j v hv => ?_⟩
  have hj : j < L.length := by
    rw [← uc_len]
    rcases Nat.lt_or_ge j (uc L).length with h1 | h1
    · exact h1
    · rw [List.getElem?_eq_none h1] at hv; cases hv
  obtain ⟨_, ad', e', _, hc⟩ := h.at_ j _ (Dg.get_of_ld hj)
  rw [e] at e'
  injection e' with e'
  subst e'
  rw [uc_at (Dg.get_of_ld hj)] at hv
  injection hv with hv
  rw [← hv]
  exact hc

/-- A row of words in memory of its own, at or beyond block b. -/
structure OwU (w : World) (b : Nat) (A : Option Addr) (n c : Nat) (L : List Nat) : Prop where
  own : w.ownsRow b 80 1 (.slice A n c) n (uc L)
  wd : Dg.Wd L
theorem OwU.len {w : World} {b : Nat} {A : Option Addr} {n c : Nat} {L : List Nat} (h : OwU w b A n c L) : L.length = n := by
  have := h.own.1
  rw [uc_len] at this
  omega
theorem OwU.form {w : World} {b : Nat} {A : Option Addr} {n c : Nat} {L : List Nat} (h : OwU w b A n c L) :
    (A = none ∧ n = 0 ∧ c = 0 ∧ L = []) ∨ ∃ g, A = some ⟨g, 0, none⟩ ∧ b ≤ g ∧ g < w.heap.size ∧ n ≤ c ∧ c ≤ maxLen := by
  rcases h.own.2 with ⟨h1, h2⟩ | ⟨g, cap, cur, h1, h2, h3, h4, h5, _⟩
  · injection h1 with h1 h1' h1''
    exact .inl ⟨h1, h2, h1'', List.eq_nil_of_length_eq_zero (by rw [h.len, h2])⟩
  · injection h1 with h1 h1' h1''
    subst h1''
    exact .inr ⟨g, h1, h2, (Array.getElem?_eq_some_iff.1 h3).1, h4, h5⟩
theorem OwU.rd {w : World} {b : Nat} {A : Option Addr} {n c : Nat} {L : List Nat} (h : OwU w b A n c L) : RdU w w.heap.size A n c L := by
  rcases h.form with ⟨rfl, rfl, rfl, rfl⟩ | ⟨g, rfl, h1, h2, h3, h4⟩
  · exact RdU.nil w _ 0 none (Nat.zero_le _)
  · refine ⟨h.len, h3, h4, fun j u hu => ⟨h.wd.of_get hu, _, rfl, h2, ?_⟩⟩
    have hj := some_lt hu
    rw [h.len] at hj
    have e : (⟨g, 0, none⟩ : Addr).add j = ⟨g, j, none⟩ := by unfold Addr.add; by_cases h : j = 0 <;> simp [h]
    rw [e, h.own.cellAt j (by omega)]
    exact uc_at hu
theorem OwU.kept {w w' : World} {b B : Nat} {A : Option Addr} {n c : Nat} {L : List Nat} (h : OwU w b A n c L) (hb : Below B w w') (hB : ∀ g, A = some ⟨g, 0, none⟩ → g < B) : OwU w' b A n c L := by
  refine ⟨⟨h.own.1, ?_⟩, h.wd⟩
  rcases h.own.2 with h0 | ⟨g, cap, cur, h1, h2, h3, h4⟩
  · exact .inl h0
  · have hA : A = some ⟨g, 0, none⟩ := by injection h1
    exact .inr ⟨g, cap, cur, h1, h2, (hb.block g (hB g hA)).trans h3, h4⟩
theorem OwU.next {w w' : World} {b : Nat} {A : Option Addr} {n c : Nat} {L : List Nat} (h : OwU w b A n c L) (hb : Below w.heap.size w w') : OwU w' b A n c L :=
  h.kept hb fun g e => by
    rcases h.form with ⟨h1, _⟩ | ⟨g', h1, _, h2, _⟩
    · rw [h1] at e; cases e
    · rw [h1] at e; injection e with e; injection e with e _; omega
theorem OwU.base {w : World} {b b' : Nat} {A : Option Addr} {n c : Nat} {L : List Nat} (h : OwU w b A n c L) (hb : b' ≤ b) : OwU w b' A n c L := by
  refine ⟨⟨h.own.1, ?_⟩, h.wd⟩
  rcases h.own.2 with h0 | ⟨g, cap, cur, h1, h2, h3⟩
  · exact .inl h0
  · exact .inr ⟨g, cap, cur, h1, by omega, h3⟩
theorem OwU.nil (w : World) (b : Nat) : OwU w b none 0 0 [] := ⟨World.ownsRow_nil _ _ _ _, Dg.Wd.nil⟩

/-- The whole block g holds the words L. -/
def UB (w : World) (g : Nat) (L : List Nat) : Prop := w.heap[g]? = some (.cells (uc L).toArray 80 (0, 0))
theorem UB.raw {w : World} {g : Nat} {L : List Nat} (h : UB w g L) : w.heap[g]? = some (.cells (uc L).toArray 80 (0, 0)) := h
theorem UB.lt {w : World} {g : Nat} {L : List Nat} (h : UB w g L) : g < w.heap.size := (Array.getElem?_eq_some_iff.1 h).1
theorem UB.cell {w : World} {g : Nat} {L : List Nat} (h : UB w g L) {j u : Nat} (hu : L[j]? = some u) : w.cell? ⟨g, j, none⟩ = some (.int .u32 u) := by
  rw [cell_of_row w g j _ _ _ h]
  simp [uc, hu]
theorem UB.frozen {w : World} {g : Nat} {L : List Nat} (h : UB w g L) (j : Nat) : w.frozen? ⟨g, j, none⟩ = false := frozen_of_row w g j _ _ h
theorem UB.set {w : World} {g : Nat} {L : List Nat} (h : UB w g L) (k u : Nat) : UB (w.setCell ⟨g, k, none⟩ (.int .u32 u)) g (L.set k u) := by
  unfold UB at h ⊢
  rw [uc_set]
  simp [World.setCell, Array.getElem?_modify, h]
theorem UB.alloc {w : World} {g : Nat} {L : List Nat} (h : UB w g L) (o : Obj) : UB (w.alloc o) g L := (Below.heap_alloc w o g h.lt).trans h
theorem UB.far {w : World} {g : Nat} {L : List Nat} (h : UB w g L) {p : Addr} (hp : g ≠ p.block) (u : Value) : UB (w.setCell p u) g L := (Below.heap_setCell w p u g hp).trans h
theorem UB.below {w w' : World} {g B : Nat} {L : List Nat} (h : UB w g L) (hb : Below B w w') (hg : g < B) : UB w' g L := (hb.block g hg).trans h
theorem UB.drewN {w : World} {g : Nat} {L : List Nat} (h : UB w g L) (n : Nat) : UB (w.drewN n) g L := h
theorem UB.new (w : World) (L : List Nat) : UB (w.alloc (.cells (uc L).toArray 80)) w.heap.size L := heap_alloc_new w _
theorem UB.own {w : World} {g b : Nat} {L : List Nat} (h : UB w g L) (hw : Dg.Wd L) (hb : b ≤ g) {k : Nat} (hk : k ≤ L.length) (hm : L.length ≤ maxLen) : OwU w b (some ⟨g, 0, none⟩) k L.length (L.take k) := by
  refine ⟨⟨?_, .inr ⟨g, L.length, _, rfl, hb, h, hk, hm, ?_, ?_⟩⟩, hw.take k⟩
  · rw [uc_len, List.length_take]; omega
  · simp [uc]
  · simp [uc]
theorem UB.rd {w : World} {g B : Nat} {L : List Nat} (h : UB w g L) (hw : Dg.Wd L) (hB : g < B) {k : Nat} (hk : k ≤ L.length) (hm : L.length ≤ maxLen) : RdU w B (some ⟨g, 0, none⟩) k L.length (L.take k) := by
  refine ⟨by rw [List.length_take]; omega, hk, hm, fun j u hu => ?_⟩
  have hj := some_lt hu
  simp only [List.length_take] at hj
  rw [List.getElem?_take_of_lt (by omega)] at hu
  have e : (⟨g, 0, none⟩ : Addr).add j = ⟨g, j, none⟩ := by unfold Addr.add; by_cases h : j = 0 <;> simp [h]
  exact ⟨hw.of_get hu, _, rfl, hB, by rw [e]; exact h.cell hu⟩

/-- A list comes back in memory of its own. -/
def RetO (P : List Nat → Prop) (w : World) (e : Ending) (w' : World) : Prop :=
  ∃ (A : Option Addr) (n c : Nat) (L : List Nat), e = .returned (.slice A n c) ∧ OwU w' w.heap.size A n c L ∧ Hid (P L) ∧ Below w.heap.size w w'
end Go.Proofs.Ytipbpdiahemmpaa

/- What a tool of the kit writes of the library's contracts at this program (math/bits.Len32, LeadingZeros32), with names for numbers. -/
namespace Go.Proofs.Ytipbpdiahemmpaa
open Go.Shelf
def lays128_ren : Go.Shelf.Ren := ⟨fun | 128 => 89 | n => n, fun | 51 => 80 | 3 => 3 | 4 => 4 | 46 => 82 | 5 => 5 | 9 => 9 | n => n, fun | n => n⟩
theorem lays128 : Go.Proofs.Lays.n128 Try.prog lays128_ren := {
  mixed := by kernel_rfl
  f128 := Try.func89.trans (congrArg some (by kernel_rfl))
  t3 := Try.underlying3
  a3 := Try.isAgg3
  z3 := Try.sizeOf3
  v3 := Try.zeroValue3
  t4 := Try.underlying4
  a4 := Try.isAgg4
  z4 := Try.sizeOf4
  v4 := Try.zeroValue4
  t5 := Try.underlying5
  a5 := Try.isAgg5
  z5 := Try.sizeOf5
  v5 := Try.zeroValue5
  t9 := Try.underlying9
  a9 := Try.isAgg9
  z9 := Try.sizeOf9
  v9 := Try.zeroValue9
  t46 := Try.underlying82
  a46 := Try.isAgg82
  z46 := Try.sizeOf82
  v46 := Try.zeroValue82
  t51 := Try.underlying80
  a51 := Try.isAgg80
  z51 := Try.sizeOf80
  v51 := Try.zeroValue80 }
theorem bits_Len32 (x : Int) (w : World) (h0 : 0 ≤ x) (h1 : x ≤ 4294967295) :
    Calls Try.prog 89 #[.int .u32 x] w fun e w' => e = .returned (.int .i64 (Lib.bitLen x.toNat)) ∧ w' = w := Any.bits_Len32 lays128 x w h0 h1
def lays133_ren : Go.Shelf.Ren := ⟨fun | 133 => 94 | 128 => 89 | n => n, fun | 51 => 80 | 3 => 3 | 4 => 4 | 46 => 82 | 5 => 5 | 9 => 9 | n => n, fun | n => n⟩
theorem lays133 : Go.Proofs.Lays.n133 Try.prog lays133_ren := {
  mixed := by kernel_rfl
  f128 := Try.func89.trans (congrArg some (by kernel_rfl))
  f133 := Try.func94.trans (congrArg some (by kernel_rfl))
  t3 := Try.underlying3
  a3 := Try.isAgg3
  z3 := Try.sizeOf3
  v3 := Try.zeroValue3
  t4 := Try.underlying4
  a4 := Try.isAgg4
  z4 := Try.sizeOf4
  v4 := Try.zeroValue4
  t5 := Try.underlying5
  a5 := Try.isAgg5
  z5 := Try.sizeOf5
  v5 := Try.zeroValue5
  t9 := Try.underlying9
  a9 := Try.isAgg9
  z9 := Try.sizeOf9
  v9 := Try.zeroValue9
  t46 := Try.underlying82
  a46 := Try.isAgg82
  z46 := Try.sizeOf82
  v46 := Try.zeroValue82
  t51 := Try.underlying80
  a51 := Try.isAgg80
  z51 := Try.sizeOf80
  v51 := Try.zeroValue80 }
theorem bits_LeadingZeros32 (x : Int) (w : World) (h0 : 0 ≤ x) (h1 : x ≤ 4294967295) :
    Calls Try.prog 94 #[.int .u32 x] w fun e w' => e = .returned (.int .i64 (32 - (Lib.bitLen x.toNat : Int))) ∧ w' = w := Any.bits_LeadingZeros32 lays133 x w h0 h1
end Go.Proofs.Ytipbpdiahemmpaa

/- nat: without noughts, in memory of its own, compared. -/
namespace Go.Proofs.Ytipbpdiahemmpaa
open Go.RowKit Go.IntWalk

/-- The measure of a slice. -/
def slLen : Value → Nat
  | .slice _ n _ => n
  | _ => 0
/-- The front of the list that says all. -/
def RetTr (A : Option Addr) (c : Nat) (L : List Nat) (w : World) (e : Ending) (w' : World) : Prop :=
  ∃ k : Nat, e = .returned (.slice A k c) ∧ Hid (k ≤ L.length ∧ L.take k = Dg.dg (Dg.val L)) ∧ w = w'
theorem tr_done {L : List Nat} {k : Nat} (hw : Dg.Wd L) (hk : k ≤ L.length) (h0 : ∀ i, k ≤ i → Dg.ld L i = 0) (h : k = 0 ∨ Dg.ld L (k - 1) ≠ 0) : k ≤ L.length ∧ L.take k = Dg.dg (Dg.val L) := by
  refine ⟨hk, ?_⟩
  rw [← Dg.val_take h0]
  refine Dg.eq_dg (hw.take k) fun hne => ?_
  have hk0 : k ≠ 0 := by rintro rfl; simp at hne
  have hl := h.resolve_left hk0
  rw [List.getLast_eq_getElem]
  simp only [List.length_take, Nat.min_eq_left hk, List.getElem_take]
  rwa [Dg.ld_lt (by omega)] at hl

set_option maxHeartbeats 1000000 in
theorem trim_any {B : Nat} {A : Option Addr} {n c : Nat} {L : List Nat} {w : World} (h : RdU w B A n c L) (hn : n ≤ 281474976710656) :
    Calls Try.prog 81 #[.slice A n c] w (RetTr A c L w) := by
  have hw := h.wd
  have hlen := Lib.hid h.len
  have hle := h.le
  have hmx := h.mx
  go_enter Try.func81, Try.ntmps81
  go_wp2
  go_loop [0] (fun a => ∃ k : Nat, k ≤ n ∧ a = .slice A k c ∧ Hid (∀ i, k ≤ i → Dg.ld L i = 0)) (fun a => slLen a)
  case atStart => exact ⟨n, Nat.le_refl _, rfl, Lib.hid fun i hi => Dg.ld_ge (by rw [hlen.out]; exact hi)⟩
  case round =>
    obtain ⟨k, hk, rfl, h0⟩ := hrel
    rcases Nat.eq_zero_or_pos k with hk0 | hk0
    · subst hk0
      go_wp2
      go_ret
      exact ⟨0, rfl, Lib.hid (tr_done hw (by omega) h0.out (.inl rfl)), rfl⟩
    · obtain ⟨j, rfl⟩ : ∃ j, k = j + 1 := ⟨k - 1, by omega⟩
      obtain ⟨hx, ad, rfl, hb, hc⟩ := h.at_ j (Dg.ld L j) (Dg.get_of_ld (by rw [hlen.out]; omega))
      have hi := hk
      by_cases hz : Dg.ld L j = 0
      · have hc0 : w.cell? (ad.add j) = some (.int .u32 0) := by rw [hc, hz]; rfl
        have HZ := Lib.hid hz
        clear hz hc
        go_wp2
        go_round
        case rel => exact ⟨j, by omega, rfl, Lib.hid fun i hi => by
          rcases Nat.lt_or_ge j i with h1 | h1
          · exact h0.out i h1
          · rw [show i = j by omega]; exact HZ.out⟩
        case measure => simp [slLen]
      · have hz' : ((Dg.ld L j : Int) == 0) = false := by simpa using hz
        have HZ := Lib.hid hz
        clear hz
        go_wp2
        go_ret
        exact ⟨j + 1, rfl, Lib.hid (tr_done hw (by rw [hlen.out]; exact hi) h0.out (.inr HZ.out)), rfl⟩

theorem infoW : (Try.prog.info? 80).map (fun i => (i.zero, i.size, i.bytes)) = some (some (.int .u32 0), 1, 4) := by kernel_rfl
theorem infoW1 : (Try.prog.info? 80).map (·.size) = some 1 := by kernel_rfl
theorem uc_zeros (n : Nat) : (uc (List.replicate n 0)).toArray = madeCells #[.int .u32 0] n := by
  unfold madeCells uc
  rw [List.map_replicate]
  apply Array.ext
  · simp
  · intro i h1 h2
    simp [Nat.mod_one]
theorem UB.made (w : World) (n : Nat) : UB (w.alloc (.cells (madeCells #[.int .u32 0] n) 80)) w.heap.size (List.replicate n 0) := by
  unfold UB
  rw [uc_zeros]
  exact heap_alloc_new w _
theorem uc_one (L : List Nat) : ∀ v ∈ uc L, v.oneCell' = true := by
  intro v hv
  obtain ⟨x, _, rfl⟩ := List.mem_map.1 hv
  rfl
theorem make_nat (n : Nat) (hn : n ≤ 17592186044416) (w : World) :
    (Instr.makeSlice 38 (.int .i64 (n : Int)) (.int .i64 (n : Int))).run Try.prog w = .ok (.slice (some ⟨w.heap.size, 0, none⟩) n n) (w.alloc (.cells (madeCells #[.int .u32 0] n) 80)) :=
  run_make_row' 38 80 (.int .u32 0) 4 Try.underlying38 infoW rfl .i64 .i64 n (by omega) (by omega) w

/-- A natural number comes back in normal form, in memory of its own. -/
def RetN (n : Nat) (w : World) (e : Ending) (w' : World) : Prop :=
  ∃ (A : Option Addr) (m c x : Nat), e = .returned (.slice A m c) ∧ OwU w' w.heap.size A m c (Dg.dg x) ∧ Hid (x = n) ∧ Below w.heap.size w w'
theorem RetN.later {n : Nat} {w w1 w' : World} {e : Ending} (h : RetN n w1 e w') (hb : Below w.heap.size w w1) : RetN n w e w' := by
  obtain ⟨A, m, c, x, h1, h2, h3, h4⟩ := h
  exact ⟨A, m, c, x, h1, h2.base hb.size, h3, hb.trans (h4.mono hb.size)⟩

set_option maxRecDepth 100000 in
set_option maxHeartbeats 1000000 in
theorem own_any {A : Option Addr} {n c : Nat} {L : List Nat} {w : World} (h : RdU w w.heap.size A n c L) (hn : n ≤ 17592186044416) :
    Calls Try.prog 75 #[.slice A n c] w (RetN (Dg.val L) w) := by
  have hlen := Lib.hid h.len
  go_enter Try.func75, Try.ntmps75
  go_wp2_with fail
  refine (trim_any h (by omega)).mono ?_
  rintro _ _ ⟨k, rfl, hk, rfl⟩
  have hkn : k ≤ n := by have := hk.out.1; rw [hlen.out] at this; exact this
  rcases Nat.eq_zero_or_pos k with hk0 | hk0
  · subst hk0
    have hz : Dg.val L = 0 := by have := hk.out.2; rw [List.take_zero] at this; exact Dg.dg_nil.1 this.symm
    have HZ := Lib.hid hz
    clear hz
    go_wp2
    go_ret
    exact ⟨none, 0, 0, 0, rfl, by rw [Dg.dg_zero]; exact OwU.nil w _, Lib.hid HZ.out.symm, Below.refl _ _⟩
  · have hmk := make_nat k (by omega)
    have hB0 := (Below.refl w.heap.size w).alloc (Nat.le_refl _) (.cells (madeCells #[.int .u32 0] k) 80)
    have hR := (h.take hkn).below hB0
    have hU := UB.made w k
    have hlk : (L.take k).length = k := by rw [List.length_take, hlen.out]; omega
    have HLK := Lib.hid hlk
    clear hlk
    go_wp2_with (with_reducible refine wpList_copy_splice rfl (.tmp 12) (.tmp 13) _ _ rfl 80 Try.underlying38 infoW1 _ _ _ _ _ _ rfl rfl w.heap.size 0 (uc (List.replicate k 0)) 80 hU.raw (uc (L.take k)) ?c1 (hR.src _) ?c2 (uc_one _) w.heap.size w hB0 (Nat.le_refl _) ?_)
    case c1 => rw [uc_len, HLK.out]; simp
    case c2 => rw [uc_len, uc_len, HLK.out]; simp
    intro w2 hg2 hB2
    go_wp2
    go_ret
    have hsp : splice (uc (List.replicate k 0)) 0 (uc (L.take k)) = uc (L.take k) := by
      unfold splice
      rw [List.drop_eq_nil_of_le (by rw [uc_len, uc_len, HLK.out]; simp)]
      simp
    have hU2 : UB w2 w.heap.size (L.take k) := by have := hg2.out; rw [hsp] at this; exact this
    have hO := hU2.own (h.wd.take k) (Nat.le_refl _) (k := k) (by rw [HLK.out]; exact Nat.le_refl k) (by rw [HLK.out]; unfold maxLen; omega)
    rw [HLK.out, List.take_of_length_le (by rw [HLK.out]; exact Nat.le_refl k), hk.out.2] at hO
    exact ⟨_, _, _, _, rfl, hO, Lib.hid rfl, hB2⟩

set_option maxHeartbeats 400000 in
theorem norm_any {A : Option Addr} {n c : Nat} {L : List Nat} {w : World} (h : RdU w w.heap.size A n c L) (hn : n ≤ 17592186044416) :
    Calls Try.prog 73 #[.slice A n c] w (RetN (Dg.val L) w) := by
  go_enter Try.func73, Try.ntmps73
  go_wp2_with fail
  refine (own_any h hn).mono ?_
  rintro _ w1 ⟨A1, m1, c1, x1, rfl, hO, hx, hb⟩
  go_wp2
  go_ret
  exact ⟨_, _, _, _, rfl, hO, hx, hb⟩
end Go.Proofs.Ytipbpdiahemmpaa

/- nat: of a number, as a number, how long, which one is greater. -/
namespace Go.Proofs.Ytipbpdiahemmpaa
open Go.RowKit Go.IntWalk

theorem cells_two {w : World} {x y : Nat} (hx : x < 4294967296) (hy : y < 4294967296) (o : Obj) (ho : o = .cells #[.int .u32 x, .int .u32 y] 80) : RdU (w.alloc o) (w.alloc o).heap.size (some ⟨w.heap.size, 0, none⟩) 2 2 [x, y] := by
  subst ho
  refine ⟨rfl, Nat.le_refl _, by unfold maxLen; omega, fun j u hu => ?_⟩
  have hj := some_lt hu
  simp at hj
  rcases j with _ | _ | j
  · obtain rfl : x = u := by simpa using hu
    exact ⟨hx, _, rfl, by simp, by simp [Addr.add, World.cell?_alloc_new]⟩
  · obtain rfl : y = u := by simpa using hu
    exact ⟨hy, _, rfl, by simp, by simp [Addr.add, World.cell?_alloc_new]⟩
  · omega

set_option maxHeartbeats 400000 in
theorem nOf_any (n : Nat) {ni : Int} (hni : ni = n) (hn : n < 18446744073709551616) (w : World) :
    Calls Try.prog 54 #[.int .u64 ni] w (RetN n w) := by
  subst hni
  have h1 : n % 4294967296 < 4294967296 := Nat.mod_lt _ (by omega)
  have h2 : n / 4294967296 < 4294967296 := by omega
  go_enter Try.func54, Try.ntmps54
  go_wp2_with fail
  refine (own_any (cells_two h1 h2 _ (by simp)) (by omega)).mono ?_
  rintro _ w1 ⟨A1, m1, c1, x1, rfl, hO, hx, hb⟩
  have hB := (Below.refl w.heap.size w).alloc (Nat.le_refl _) (.cells #[.int .u32 ((n : Int) % 4294967296), .int .u32 ((n : Int) / 4294967296)] 80)
  have HX := Lib.hid (hx.out.trans (Dg.val_two n))
  go_wp2
  go_ret
  exact ⟨_, _, _, _, rfl, hO.base hB.size, HX, hB.trans (hb.mono hB.size)⟩

set_option maxHeartbeats 400000 in
theorem len_any {A : Option Addr} {n c : Nat} {L : List Nat} {w : World} (h : RdU w w.heap.size A n c L) (hn : n ≤ 17592186044416) :
    Calls Try.prog 74 #[.slice A n c] w fun e w' => ∃ z : Nat, e = .returned (.int .i64 z) ∧ Hid (z = 0 ↔ Dg.val L = 0) ∧ w = w' := by
  have hlen := Lib.hid h.len
  go_enter Try.func74, Try.ntmps74
  go_wp2_with fail
  refine (trim_any h (by omega)).mono ?_
  rintro _ _ ⟨k, rfl, hk, rfl⟩
  have hkl := hk.out.1
  have hkn : k ≤ n := by rw [hlen.out] at hkl; exact hkl
  rcases Nat.eq_zero_or_pos k with h0 | h0
  · subst h0
    have HZ := Lib.hid (Dg.dg_nil.1 (hk.out.2.symm.trans (List.take_zero)))
    clear hkl
    go_wp2
    go_ret
    exact ⟨0, rfl, Lib.hid ⟨fun _ => HZ.out, fun _ => rfl⟩, rfl⟩
  · obtain ⟨j, rfl⟩ : ∃ j, k = j + 1 := ⟨k - 1, by omega⟩
    have hj : j < (L.take (j + 1)).length := by rw [List.length_take]; omega
    obtain ⟨hx, ad, rfl, hb, hc⟩ := (h.take hkn).at_ j (Dg.ld (L.take (j + 1)) j) (Dg.get_of_ld hj)
    have hpos : Dg.ld (L.take (j + 1)) j ≠ 0 := by
      have hne : L.take (j + 1) ≠ [] := fun e => by rw [e] at hj; simp at hj
      have hnm := Dg.dg_nm (Dg.val L)
      rw [← hk.out.2] at hnm
      have hh := hnm hne
      rw [List.getLast_eq_getElem] at hh
      rw [Dg.ld_lt hj]
      simpa [List.length_take, Nat.min_eq_left hkl] using hh
    have HNZ := Lib.hid (show Dg.val L ≠ 0 by
      intro h0
      have := hk.out.2
      rw [h0, Dg.dg_zero] at this
      rw [this] at hj
      simp at hj)
    generalize Dg.ld (L.take (j + 1)) j = x at hx hc hpos
    clear hj hkl
    have HP := Lib.hid hpos
    clear hpos
    go_wp2_with fail
    refine (bits_Len32 _ _ (by omega) (by omega)).mono ?_
    rintro _ _ ⟨rfl, rfl⟩
    have hbl := Lib.hid (Lib.bitLen_half x HP.out (by omega))
    have hle : Lib.bitLen x ≤ 64 := Lib.bitLen_le x 64 (Nat.le_refl _) (by omega)
    go_wp2
    go_ret
    refine ⟨32 * j + Lib.bitLen x, ?_, Lib.hid ⟨fun h => ?_, fun h => absurd h HNZ.out⟩, rfl⟩
    · exact ret_i (by simp)
    · have := hbl.out; omega

set_option maxHeartbeats 2000000 in
theorem cmp_any {A A' : Option Addr} {n c n' c' : Nat} {L L' : List Nat} {w : World} (h : RdU w w.heap.size A n c L) (h' : RdU w w.heap.size A' n' c' L') (hn : n ≤ 17592186044416) (hn' : n' ≤ 17592186044416) :
    Calls Try.prog 84 #[.slice A n c, .slice A' n' c'] w (RetZD (Dg.cmp (Dg.val L) (Dg.val L')) w) := by
  have hlen := Lib.hid h.len
  have hlen' := Lib.hid h'.len
  go_enter Try.func84, Try.ntmps84
  go_wp2_with fail
  refine (trim_any h (by omega)).mono ?_
  rintro _ _ ⟨k, rfl, hk, rfl⟩
  go_wp2_with fail
  refine (trim_any h' (by omega)).mono ?_
  rintro _ _ ⟨k', rfl, hk', rfl⟩
  have hkn : k ≤ n := by have := hk.out.1; rw [hlen.out] at this; exact this
  have hkn' : k' ≤ n' := by have := hk'.out.1; rw [hlen'.out] at this; exact this
  have hl1 : (Dg.dg (Dg.val L)).length = k := by rw [← hk.out.2, List.length_take]; have := hk.out.1; omega
  have hl2 : (Dg.dg (Dg.val L')).length = k' := by rw [← hk'.out.2, List.length_take]; have := hk'.out.1; omega
  have hR := h.take hkn
  have hR' := h'.take hkn'
  rw [hk.out.2] at hR
  rw [hk'.out.2] at hR'
  have HL1 := Lib.hid hl1
  have HL2 := Lib.hid hl2
  by_cases hne : k = k'
  · subst hne
    clear hl1 hl2
    have hee : ((k : Int) != (k : Int)) = false := by simp
    go_wp2_with fail
    go_loopw [5] (fun i wr => ∃ j d : Nat, wr = w.drewN d ∧ j ≤ k ∧ i = .int .i64 ((j : Int) - 1) ∧ Hid (∀ x, j ≤ x → Dg.ld (Dg.dg (Dg.val L)) x = Dg.ld (Dg.dg (Dg.val L')) x)) (fun i _ => (intOf i + 1).toNat)
    case atStart => exact ⟨k, 0, rfl, Nat.le_refl _, rfl, Lib.hid fun x hx => by rw [Dg.ld_ge (by rw [HL1.out]; exact hx), Dg.ld_ge (by rw [HL2.out]; exact hx)]⟩
    case round =>
      obtain ⟨j, d, rfl, hj, rfl, hE⟩ := hrel
      rcases Nat.eq_zero_or_pos j with h0 | h0
      · subst h0
        go_wp2
        go_ret
        exact ⟨0, rfl, Lib.hid (Dg.cmp_eq (by rw [← Dg.val_dg (Dg.val L), ← Dg.val_dg (Dg.val L')]; exact Dg.eq_of_ld fun x => hE.out x (Nat.zero_le _))).symm, _, rfl⟩
      · obtain ⟨t, rfl⟩ : ∃ t, j = t + 1 := ⟨j - 1, by omega⟩
        obtain ⟨hx, ad, rfl, hb, hc⟩ := hR.at_ t _ (Dg.get_of_ld (by rw [HL1.out]; omega))
        obtain ⟨hx', ad', rfl, hb', hc'⟩ := hR'.at_ t _ (Dg.get_of_ld (by rw [HL2.out]; omega))
        have HT : Hid (∀ x, t < x → Dg.ld (Dg.dg (Dg.val L)) x = Dg.ld (Dg.dg (Dg.val L')) x) := Lib.hid fun x hx => hE.out x hx
        have HEX := Lib.hid (show Dg.ld (Dg.dg (Dg.val L)) t = Dg.ld (Dg.dg (Dg.val L)) t from rfl)
        obtain ⟨x, ex⟩ : ∃ x, x = Dg.ld (Dg.dg (Dg.val L)) t := ⟨_, rfl⟩
        obtain ⟨y, ey⟩ : ∃ y, y = Dg.ld (Dg.dg (Dg.val L')) t := ⟨_, rfl⟩
        rw [← ex] at hx hc
        rw [← ey] at hx' hc'
        have EX := Lib.hid ex
        have EY := Lib.hid ey
        clear ex ey HEX hE hee
        rcases Nat.lt_trichotomy x y with hlt | heq | hgt
        · have hne1 : ((x : Int) != (y : Int)) = true := by simp; omega
          have HC := Lib.hid (Dg.cmp_lt (by
            have := Dg.lt_of_top (Dg.dg_wd _) HT.out (show Dg.ld (Dg.dg (Dg.val L)) t < Dg.ld (Dg.dg (Dg.val L')) t by rw [← EX.out, ← EY.out]; exact hlt)
            rwa [Dg.val_dg, Dg.val_dg] at this))
          go_wp2
          go_quiet (fail)
          go_wp2
          go_quiet (fail)
          go_wp2
          go_ret
          exact ⟨-1, rfl, Lib.hid HC.out.symm, _, by rw [World.drewN_drewN, World.drewN_drewN]⟩
        · subst heq
          go_wp2
          go_quiet (fail)
          go_wp2
          go_roundw
          case rel => exact ⟨t, _, rfl, by omega, rfl, Lib.hid fun x hx => by
            rcases Nat.lt_or_ge t x with h1 | h1
            · exact HT.out x h1
            · rw [show x = t by omega, ← EX.out, ← EY.out]⟩
          case measure => simp [intOf]
        · have hne1 : ((x : Int) != (y : Int)) = true := by simp; omega
          have hnl : ¬ (x : Int) < (y : Int) := by omega
          have HC := Lib.hid (Dg.cmp_gt (by
            have := Dg.lt_of_top (Dg.dg_wd _) (fun x hx => (HT.out x hx).symm) (show Dg.ld (Dg.dg (Dg.val L')) t < Dg.ld (Dg.dg (Dg.val L)) t by rw [← EX.out, ← EY.out]; exact hgt)
            rwa [Dg.val_dg, Dg.val_dg] at this))
          go_wp2
          go_quiet (fail)
          go_wp2
          go_quiet (fail)
          go_wp2
          go_ret
          exact ⟨1, rfl, Lib.hid HC.out.symm, _, by rw [World.drewN_drewN, World.drewN_drewN]⟩
  · have hne1 : ((k : Int) != (k' : Int)) = true := by simp; omega
    by_cases hlt : k < k'
    · have HC := Lib.hid (Dg.cmp_lt (Dg.lt_of_len (show (Dg.dg (Dg.val L)).length < (Dg.dg (Dg.val L')).length by rw [hl1, hl2]; exact hlt)))
      clear hl1 hl2 hne
      go_wp2
      go_ret
      exact ⟨-1, rfl, Lib.hid HC.out.symm, 0, rfl⟩
    · have HC := Lib.hid (Dg.cmp_gt (Dg.lt_of_len (show (Dg.dg (Dg.val L')).length < (Dg.dg (Dg.val L)).length by rw [hl1, hl2]; omega)))
      have hnl : ¬ (k : Int) < (k' : Int) := by omega
      clear hl1 hl2 hne
      go_wp2
      go_ret
      exact ⟨1, rfl, Lib.hid HC.out.symm, 0, rfl⟩
end Go.Proofs.Ytipbpdiahemmpaa
