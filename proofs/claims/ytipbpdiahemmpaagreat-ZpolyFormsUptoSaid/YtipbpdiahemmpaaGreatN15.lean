/- The reference's natural numbers, sixth part: times 2^32 and a word; the product. -/
import Derived.Test.YtipbpdiahemmpaaGreatN14
import Derived.Laws.AppendOwnNone
namespace Go.Proofs.YtipbpdiahemmpaaGreat
open Go.RowKit Go.IntWalk

/-- nil is nil. -/
def NilOk (A : Option Addr) (n c : Nat) : Prop := A = none → n = 0 ∧ c = 0
theorem OwU.nilOk {w : World} {b : Nat} {A : Option Addr} {n c : Nat} {L : List Nat} (h : OwU w b A n c L) : NilOk A n c := fun e => by
  rcases h.form with ⟨_, h1, h2, _⟩ | ⟨g, h1, _⟩
  · exact ⟨h1, h2⟩
  · rw [h1] at e; cases e
theorem one_own {w : World} {z : Nat} (hz : z < 4294967296) : OwU (w.alloc (.cells #[.int .u32 z] 35)) w.heap.size (some ⟨w.heap.size, 0, none⟩) 1 1 [z] := by
  have hU : UB (w.alloc (.cells #[.int .u32 z] 35)) w.heap.size [z] := UB.new w [z]
  exact hU.own (k := 1) (fun x hx => by simp at hx; omega) (Nat.le_refl _) (Nat.le_refl _) (by unfold maxLen; simp)

theorem row_sl {W : World} {base : Nat} {T : TypeId} {size : Nat} {v : Value} {n : Nat} {xs : List Value} (h : W.ownsRow base T size v n xs) : ∃ a c, v = .slice a n c := by
  rcases h.2 with ⟨rfl, h0⟩ | ⟨g, cap, _, rfl, _⟩
  · exact ⟨none, 0, by rw [h0]⟩
  · exact ⟨_, _, rfl⟩

set_option maxRecDepth 100000 in
set_option maxHeartbeats 2000000 in
theorem shift_any (z : Nat) {A : Option Addr} {n c : Nat} {L : List Nat} {w : World} (h : RdU w w.heap.size A n c L) (hnil : NilOk A n c) (hn : n ≤ 8796093022207) (hz : z < 4294967296) :
    Calls Tryz.prog 272 #[.slice A n c, .int .u32 z] w (RetN (z + 4294967296 * Dg.val L) w) := by
  have HLEN := Lib.hid h.len
  obtain ⟨i0, hi, hz0, hz1, hz2⟩ := info_parts infoW
  have hO := one_own (w := w) hz
  have hB0 := (Below.refl w.heap.size w).alloc (Nat.le_refl _) (.cells #[.int .u32 z] 35)
  have hR := h.next hB0
  rcases A with _ | ad
  · obtain ⟨rfl, rfl⟩ := hnil rfl
    have hL : L = [] := List.eq_nil_of_length_eq_zero HLEN.out
    subst hL
    have hO2 := hO.rd
    go_enter Tryz.func272, Tryz.ntmps272
    go_wp2_with (at_builtin; refine wpList_append_own_none rfl _ _ 26 rfl w.heap.size 35 i0 1 Tryz.underlying26 hi _ _ _ rfl hO.own rfl ?_)
    refine (refNorm_any hO2 (by omega)).mono ?_
    rintro _ W4 ⟨A4, m4, c4, x4, rfl, ho4, hx4, hb4⟩
    go_wp2
    go_ret
    exact ⟨_, _, _, _, rfl, ho4.base hB0.size, Lib.hid (hx4.out.trans (by simp [Dg.val])), hB0.trans (hb4.mono hB0.size)⟩
  · have hsrc : ∀ (j : Nat) v, (uc L)[j]? = some v → (w.alloc (.cells #[.int .u32 z] 35)).cell? (ad.add j) = some v := by
      intro j v hv
      have hlt : 0 < (uc L).length := by
        rcases Nat.lt_or_ge j (uc L).length with h1 | h1
        · omega
        · rw [List.getElem?_eq_none h1] at hv; cases hv
      obtain ⟨_, ad', e, hc⟩ := hR.src ad hlt
      injection e with e
      subst e
      exact hc j v hv
    have HSRC := Lib.hid hsrc
    have hucl : (uc L).length = n * 1 := by rw [uc_len, HLEN.out, Nat.mul_one]
    have HUCL := Lib.hid hucl
    have hwd := h.wd
    clear hsrc hucl
    go_enter Tryz.func272, Tryz.ntmps272
    go_wp2_with (at_builtin; refine wpList_append_own _ rfl _ _ 26 rfl w.heap.size 35 i0 (.int .u32 0) 1 4 Tryz.underlying26 hi hz0 hz1 hz2 rfl (by decide) _ _ _ rfl hO.own ad n c (uc L) rfl HUCL.out HSRC.out (uc_one L) (by unfold maxLen; omega) (by omega) (by simp) ?_; intro v' w1 hown' hgrow _; obtain ⟨A', c', rfl⟩ := row_sl hown')
    have hB1 := hB0.grown hgrow (by simp) (fun k e => by cases e; exact Nat.le_refl _)
    have hO2 : OwU w1 w.heap.size A' (1 + n) c' (z :: L) := ⟨by rw [show uc (z :: L) = uc [z] ++ uc L from rfl]; exact hown', Dg.Wd.cons hz hwd⟩
    refine (refNorm_any hO2.rd (by omega)).mono ?_
    rintro _ W4 ⟨A4, m4, c4, x4, rfl, ho4, hx4, hb4⟩
    go_wp2
    go_ret
    exact ⟨_, _, _, _, rfl, ho4.base hB1.size, Lib.hid hx4.out, hB1.trans (hb4.mono hB1.size)⟩
end Go.Proofs.YtipbpdiahemmpaaGreat
