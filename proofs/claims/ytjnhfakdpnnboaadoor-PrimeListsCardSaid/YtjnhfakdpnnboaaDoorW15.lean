/- The next prime, by the program: a range over Between. -/
import Derived.Test.YtjnhfakdpnnboaaDoorW14
import Derived.Shelf.Abstract
namespace Go.Proofs.YtjnhfakdpnnboaaDoor
open Go.RowKit Go.IntWalk Go.Shelf
attribute [local go_sem] Oper.semAt_some

/-- A number and a truth value come back; what was there is as it was. -/
def RetNBB (R : Nat → Bool → Prop) (w : World) (e : Ending) (w' : World) : Prop := ∃ (v : Nat) (b : Bool), e = .returned (.tuple #[.int .u32 v, .bool b]) ∧ Hid (R v b) ∧ Below w.heap.size w w'

set_option maxHeartbeats 2000000 in
theorem next_any (p : Nat) (hp : p < 4294967296) (w : World) (hT : Tabs w) :
    Calls Tryd.prog 31 #[.int .u32 p] w (RetNBB (Nt.IsNext p) w) := by
  refine (callsIn_wide (n := 4)).1 ?_
  refine callsIn_of_wp_marks Tryd.func31 rfl trivial ?_ rfl
  simp only [Tryd.ntmps31, List.size_toArray, List.length_cons, List.length_nil, Nat.reduceAdd, Nat.reduceSub, Array.replicate_succ, Array.replicate_zero, List.push_toArray, List.append_toArray, List.nil_append, List.cons_append]
  gi_wp2_with (refine ⟨trivial, ?_⟩; gi_at_call 37; refine (callsIn_wide.2 (between_any p 4294967295 _)).mono ?_; rintro e w' ⟨rfl, rfl⟩)
  obtain ⟨W0, hW0⟩ : ∃ W0, W0 = (((((w.alloc (.cells #[.int .u32 p] 25)).alloc (.cells #[.int .u32 0] 25)).alloc (.cells #[.bool false] 4)).alloc (.cells #[.int .u32 p] 25)).alloc (.cells #[.int .u32 4294967295] 25)) := ⟨_, rfl⟩
  have hsz : W0.heap.size = w.heap.size + 5 := by rw [hW0]; simp
  have hc0 : W0.cell? ⟨w.heap.size, 0, none⟩ = some (.int .u32 p) := by rw [hW0]; go_simp
  have hc1 : W0.cell? ⟨w.heap.size + 1, 0, none⟩ = some (.int .u32 0) := by rw [hW0]; go_simp
  have hc2 : W0.cell? ⟨w.heap.size + 1 + 1, 0, none⟩ = some (.bool false) := by rw [hW0]; go_simp
  have hc3 : W0.cell? ⟨w.heap.size + 1 + 1 + 1, 0, none⟩ = some (.int .u32 p) := by rw [hW0]; go_simp
  have hc4 : W0.cell? ⟨w.heap.size + 1 + 1 + 1 + 1, 0, none⟩ = some (.int .u32 4294967295) := by rw [hW0]; go_simp
  have hf1 : W0.frozen? ⟨w.heap.size + 1, 0, none⟩ = false := by rw [hW0]; go_simp
  have hf2 : W0.frozen? ⟨w.heap.size + 1 + 1, 0, none⟩ = false := by rw [hW0]; go_simp
  have hB0 : Below w.heap.size w W0 := by
    rw [hW0]
    exact (((((Below.refl _ w).alloc (Nat.le_refl _) _).alloc (by simp) _).alloc (by simp; omega) _).alloc (by simp; omega) _).alloc (by simp; omega) _
  have hT0 := hT.below hB0
  rw [← hW0]
  clear hW0
  refine wpIn_rangeFunc_ownG (F := Fence.wide) rfl (by omega) (gf := 63) (lb := #[.pointer (some ⟨w.heap.size + 1 + 1 + 1, 0, none⟩), .pointer (some ⟨w.heap.size + 1 + 1 + 1 + 1, 0, none⟩)]) rfl trivial (enters_of Tryd.func63 (by kernel_rfl) rfl)
    (between_stops 3 (by omega) (w.heap.size + 1 + 1 + 1) (w.heap.size + 1 + 1 + 1 + 1) (w.heap.size + 5) p 4294967295 hp (by omega) (by omega) (by omega) (by omega) W0 (by omega) hT0 hc3 hc4) belowK_t (belowK_b (by omega)) (Below.refl _ _) (fun _ => rfl)
    (fun pre W => ((∀ q ∈ pre, q ≤ p) ∧ (W.cell? ⟨w.heap.size, 0, none⟩ = some (.int .u32 p)) ∧ W.cell? ⟨w.heap.size + 1, 0, none⟩ = some (.int .u32 0) ∧ W.frozen? ⟨w.heap.size + 1, 0, none⟩ = false ∧ W.cell? ⟨w.heap.size + 1 + 1, 0, none⟩ = some (.bool false) ∧ W.frozen? ⟨w.heap.size + 1 + 1, 0, none⟩ = false) ∧ Below w.heap.size w W)
    (fun c pre W => (c = .ret ∧ ∃ ini last, pre = ini ++ [last] ∧ (∀ q ∈ ini, q ≤ p) ∧ p < last ∧ W.cell? ⟨w.heap.size + 1, 0, none⟩ = some (.int .u32 (last : Nat)) ∧ W.cell? ⟨w.heap.size + 1 + 1, 0, none⟩ = some (.bool true)) ∧ Below w.heap.size w W)
    (OwnFrom.and (Own.from (fun s A B row hs hg hr => ⟨hs.1, cell_kept hs.2.1 hg hr, cell_kept hs.2.2.1 hg hr, (frozen_kept hs.2.2.1 hg hr).trans hs.2.2.2.1, cell_kept hs.2.2.2.2.1 hg hr, (frozen_kept hs.2.2.2.2.1 hg hr).trans hs.2.2.2.2.2⟩) _) (ownFrom_below (Nat.le_refl _) (by omega)))
    (fun c => OwnFrom.and (Own.from (fun s A B row hs hg hr => by obtain ⟨hc, ini, last, e1, e2, e3, e4, e5⟩ := hs; exact ⟨hc, ini, last, e1, e2, e3, cell_kept e4 hg hr, cell_kept e5 hg hr⟩) _) (ownFrom_below (Nat.le_refl _) (by omega)))
    ⟨⟨by simp, hc0, hc1, hf1, hc2, hf2⟩, hB0⟩
    (fun x => { tmps := #[.int .u32 p, .pointer (some ⟨w.heap.size, 0, none⟩), .pointer (some ⟨w.heap.size + 1, 0, none⟩), .pointer (some ⟨w.heap.size + 1 + 1, 0, none⟩), .int .u32 (x : Nat), .int .u32 p, .func (.func 63) #[] #[.pointer (some ⟨w.heap.size + 1 + 1 + 1, 0, none⟩), .pointer (some ⟨w.heap.size + 1 + 1 + 1 + 1, 0, none⟩)], .int .u32 (x : Nat), undef, undef, undef, undef], defers := [] }) ?assign ?body ?done ?stop
  case assign =>
    intro l x W K hK
    gi_wp2
    exact hK
  case body =>
    clear hc0 hc1 hc2 hc3 hc4 hf1 hf2
    rintro l pre x W ⟨⟨hq, hc0, hc1, hf1, hc2, hf2⟩, hB⟩ _
    by_cases hx : p < x
    · have h1 : ((W.setCell ⟨w.heap.size + 1, 0, none⟩ (.int .u32 x)).setCell ⟨w.heap.size + 1 + 1, 0, none⟩ (.bool true)).cell? ⟨w.heap.size + 1, 0, none⟩ = some (.int .u32 x) := by go_simp
      have h2 : ((W.setCell ⟨w.heap.size + 1, 0, none⟩ (.int .u32 x)).setCell ⟨w.heap.size + 1 + 1, 0, none⟩ (.bool true)).cell? ⟨w.heap.size + 1 + 1, 0, none⟩ = some (.bool true) := by go_simp
      have H1 := Lib.hid h1
      have H2 := Lib.hid h2
      clear h1 h2
      gi_wp2
      exact ⟨((KeepsOthers.setCell _ _ _).trans (KeepsOthers.setCell _ _ _)).from _, ⟨rfl, pre, x, rfl, hq, hx, H1.out, H2.out⟩, (hB.setCell (p := ⟨w.heap.size + 1, 0, none⟩) (by simp) _).setCell (p := ⟨w.heap.size + 1 + 1, 0, none⟩) (by simp; omega) _⟩
    · gi_wp2
      exact ⟨KeepsFrom.refl _ _, Below.refl _ _, ⟨fun q hq' => (List.mem_append.1 hq').elim (hq q) (fun e => by simp at e; omega), hc0, hc1, hf1, hc2, hf2⟩, hB⟩
  case done =>
    clear hc0 hc1 hc2 hc3 hc4 hf1 hf2
    rintro D ys W hD rfl ⟨⟨hq, hc0, hc1, hf1, hc2, hf2⟩, hB⟩ hK
    have HQ := Lib.hid hq
    clear hq
    have h1 : ((W.setCell ⟨w.heap.size + 1, 0, none⟩ (.int .u32 0)).setCell ⟨w.heap.size + 1 + 1, 0, none⟩ (.bool false)).cell? ⟨w.heap.size + 1, 0, none⟩ = some (.int .u32 0) := by go_simp
    have h2 : ((W.setCell ⟨w.heap.size + 1, 0, none⟩ (.int .u32 0)).setCell ⟨w.heap.size + 1 + 1, 0, none⟩ (.bool false)).cell? ⟨w.heap.size + 1 + 1, 0, none⟩ = some (.bool false) := by go_simp
    have H1 := Lib.hid h1
    have H2 := Lib.hid h2
    clear h1 h2
    gi_wp2
    have hK' := ((KeepsOthers.setCell W ⟨w.heap.size + 1, 0, none⟩ (.int .u32 0)).trans (KeepsOthers.setCell _ ⟨w.heap.size + 1 + 1, 0, none⟩ (.bool false))).same D _ hK rfl
    refine ⟨by simp, .inl ⟨_, _, rfl, run_takeDeferred hK', ?_⟩⟩
    have hc5 := cell_kept H1.out (grownBy_putObj' _ D (.deferred none)) (fun r e => by cases e; exact ⟨_, hK', rfl⟩)
    have hc6 := cell_kept H2.out (grownBy_putObj' _ D (.deferred none)) (fun r e => by cases e; exact ⟨_, hK', rfl⟩)
    refine ⟨.tuple #[.int .u32 0, .bool false], ?_, ⟨0, false, rfl, Lib.hid (Or.inr ⟨rfl, rfl, fun q h1 h2 hq => ?_⟩), ?_⟩⟩
    · simp [results, Tryd.f31, go_sem, hc5, hc6]
    · have := HQ.out q (Nt.mem_ups.2 ⟨by omega, by omega, hq⟩)
      omega
    · exact ((hB.setCell (p := ⟨w.heap.size + 1, 0, none⟩) (by simp) _).setCell (p := ⟨w.heap.size + 1 + 1, 0, none⟩) (by simp; omega) _).trans (belowK_b (w := w) (Nat.le_refl _) _ D _ _ (by omega) hK' rfl rfl)
  case stop =>
    rintro D c pre W hD ⟨k, hlk, hkh, hpk, rfl⟩ ⟨⟨rfl, ini, last, e1, e2, e3, hc1', hc2'⟩, hB⟩ hK
    have E1 := Lib.hid e1
    clear e1
    gi_wp2
    refine ⟨by simp, .inl ⟨_, _, rfl, run_takeDeferred hK, ?_⟩⟩
    have hc5 := cell_kept hc1' (grownBy_putObj' _ D (.deferred none)) (fun r e => by cases e; exact ⟨_, hK, rfl⟩)
    have hc6 := cell_kept hc2' (grownBy_putObj' _ D (.deferred none)) (fun r e => by cases e; exact ⟨_, hK, rfl⟩)
    have e4 := E1.out
    rw [Nt.ups_yes hlk hpk] at e4
    obtain ⟨e5, e6⟩ := List.append_inj' e4 rfl
    obtain rfl : k = last := by simpa using e6
    refine ⟨.tuple #[.int .u32 k, .bool true], ?_, ⟨k, true, rfl, Lib.hid (Or.inl ⟨rfl, hpk, e3, by omega, fun q h1 h2 hq => ?_⟩), ?_⟩⟩
    · simp [results, Tryd.f31, go_sem, hc5, hc6]
    · have := e2 q (by rw [← e5]; exact Nt.mem_ups.2 ⟨by omega, h2, hq⟩)
      omega
    · exact hB.trans (belowK_b (w := w) (Nat.le_refl _) W D _ _ (by omega) hK rfl rfl)
end Go.Proofs.YtjnhfakdpnnboaaDoor
