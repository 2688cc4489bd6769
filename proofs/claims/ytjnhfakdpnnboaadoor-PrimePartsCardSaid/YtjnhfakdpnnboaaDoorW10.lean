/- The reference's factors. -/
import Derived.Test.YtjnhfakdpnnboaaDoorW9
import Derived.Laws.OwnMore
import Derived.RangeFuncBox
namespace Go.Proofs.YtjnhfakdpnnboaaDoor
open Go.RowKit Go.IntWalk

theorem fcells_len (L : List (Nat × Nat)) : (fcells L).length = L.length * 2 := by
  induction L with
  | nil => rfl
  | cons x L ih =>
    have : fcells (x :: L) = [Value.int .u32 x.1, Value.int .i64 x.2] ++ fcells L := rfl
    rw [this, List.length_append, ih, List.length_cons]
    simp; omega
theorem fcells_at0 (L : List (Nat × Nat)) (p k : Nat) : (fcells (L ++ [(p, k)]))[L.length * 2]? = some (.int .u32 p) := by
  rw [fcells_append, fcells_one, List.getElem?_append_right (by rw [fcells_len]; exact Nat.le_refl _), fcells_len, Nat.sub_self]
  rfl
theorem fcells_at1 (L : List (Nat × Nat)) (p k : Nat) : (fcells (L ++ [(p, k)]))[L.length * 2 + 1]? = some (.int .i64 k) := by
  rw [fcells_append, fcells_one, List.getElem?_append_right (by rw [fcells_len]; omega), fcells_len, Nat.add_sub_cancel_left]
  rfl
theorem fcells_set (L : List (Nat × Nat)) (p k : Nat) : (fcells (L ++ [(p, k)])).set (L.length * 2 + 1) (.int .i64 ((k : Int) + 1)) = fcells (L ++ [(p, k + 1)]) := by
  rw [fcells_append, fcells_append, fcells_one, fcells_one, List.set_append_right _ _ (by rw [fcells_len]; omega), fcells_len, Nat.add_sub_cancel_left]
  rfl
/-- One time more. -/
theorem fac_again {w W W1 : World} {g cap p k : Nat} {L : List (Nat × Nat)} {T : TypeId} (hB : Below w.heap.size w W) (hown : W.ownsRow w.heap.size T 2 (.slice (some ⟨g, 0, none⟩) (L.length + 1) cap) (L.length + 1) (fcells (L ++ [(p, k)])))
    (h1 : W1 = W.setCell ⟨g, L.length * 2 + 1, none⟩ (.int .i64 ((k : Int) + 1))) :
    W1.ownsRow w.heap.size T 2 (.slice (some ⟨g, 0, none⟩) (L.length + 1) cap) (L ++ [(p, k + 1)]).length (fcells (L ++ [(p, k + 1)])) ∧ Below w.heap.size w W1 := by
  obtain ⟨h2, h3⟩ := hown.stored (L.length * 2 + 1) (.int .i64 ((k : Int) + 1))
  rw [fcells_set] at h2
  subst h1
  refine ⟨by rw [List.length_append]; exact h2, hB.grown h3 hB.size (fun j hj => ?_)⟩
  cases hj
  exact own_block hown _ rfl

theorem fac_more' {w W w1 : World} {v v' : Value} {L : List (Nat × Nat)} {p n : Nat} {T t : TypeId} (hn : n = L.length) (hB : Below w.heap.size w W) (hown : W.ownsRow w.heap.size T 2 v n (fcells L))
    (hown' : w1.ownsRow w.heap.size T 2 v' (n + 1) (fcells L ++ [Value.int .u32 p, Value.int .i64 0])) (hg : (W.alloc (.cells #[Value.int .u32 p, Value.int .i64 0] t)).grownBy w1 v.ownBlock) :
    ∃ g cap, v' = .slice (some ⟨g, 0, none⟩) (n + 1) cap ∧ w1.cell? ⟨g, n * 2, none⟩ = some (.int .u32 p) ∧ w1.cell? ⟨g, n * 2 + 1, none⟩ = some (.int .i64 0) ∧ w1.frozen? ⟨g, n * 2 + 1, none⟩ = false ∧
      (w1.setCell ⟨g, n * 2 + 1, none⟩ (.int .i64 1)).ownsRow w.heap.size T 2 (.slice (some ⟨g, 0, none⟩) (n + 1) cap) (L ++ [(p, 1)]).length (fcells (L ++ [(p, 1)])) ∧ Below w.heap.size w (w1.setCell ⟨g, n * 2 + 1, none⟩ (.int .i64 1)) := by
  subst hn
  obtain ⟨h1, h2⟩ := fac_more (k := 0) hB hown hown' hg
  rw [List.length_append] at h1
  obtain ⟨g, cap, rfl⟩ := ownsRow_succ h1
  have h3 := fac_again (W1 := w1.setCell ⟨g, L.length * 2 + 1, none⟩ (.int .i64 1)) (k := 0) h2 h1 rfl
  exact ⟨g, cap, rfl, (h1.cellAt (L.length * 2) (by omega)).trans (fcells_at0 L p 0), (h1.cellAt (L.length * 2 + 1) (by omega)).trans (fcells_at1 L p 0), h1.frozenAt _, h3.1, h3.2⟩

theorem fac_first {w W w1 : World} {v v' : Value} {p : Nat} {T t : TypeId} (hB : Below w.heap.size w W) (hown : W.ownsRow w.heap.size T 2 v 0 [])
    (hown' : w1.ownsRow w.heap.size T 2 v' (0 + 1) ([] ++ [Value.int .u32 p, Value.int .i64 0])) (hg : (W.alloc (.cells #[Value.int .u32 p, Value.int .i64 0] t)).grownBy w1 v.ownBlock) :
    ∃ g cap, v' = .slice (some ⟨g, 0, none⟩) 1 cap ∧ w1.cell? ⟨g, 0, none⟩ = some (.int .u32 p) ∧ w1.cell? ⟨g, 1, none⟩ = some (.int .i64 0) ∧ w1.frozen? ⟨g, 1, none⟩ = false ∧
      (w1.setCell ⟨g, 1, none⟩ (.int .i64 1)).ownsRow w.heap.size T 2 (.slice (some ⟨g, 0, none⟩) 1 cap) 1 (fcells [(p, 1)]) ∧ Below w.heap.size w (w1.setCell ⟨g, 1, none⟩ (.int .i64 1)) :=
  fac_more' (L := []) rfl hB hown hown' hg

theorem Rs_exp {n m p k : Nat} {L : List (Nat × Nat)} (h : Nt.Rs n m (L ++ [(p, k)])) (hn : n < 4294967296) : k < 32 := by
  have h1 := (Nt.IsFac.mk rfl h.sorted h.pr : Nt.IsFac (Nt.fprod (L ++ [(p, k)])) (L ++ [(p, k)])).exp (p, k) (by simp)
  have h2 : Nt.fprod (L ++ [(p, k)]) * 1 ≤ Nt.fprod (L ++ [(p, k)]) * m := Nat.mul_le_mul_left _ h.pos
  rw [h.prod] at h2
  have h3 : 2 ^ k ≤ Nt.fprod (L ++ [(p, k)]) := h1.1
  exact len32 (n := n) (by omega) hn

set_option maxRecDepth 20000 in
set_option maxHeartbeats 2000000 in
theorem refFactors_any (n : Nat) {ni : Int} (hni : ni = n) (hn : n < 4294967296) (h0 : 0 < n) (w : World) :
    Calls Tryd.prog 43 #[.int .u32 ni] w (RetF n w) := by
  subst hni
  obtain ⟨i0, hi, hz0, hz1, hz2⟩ := info_parts infoF
  have HST := Lib.hid (Nt.Rs.start h0)
  clear h0
  go_enter Tryd.func43, Tryd.ntmps43
  go_wp2_with fail
  go_loopg [0, 3] n (fun g n' l wr => ∃ (m : Nat) (L : List (Nat × Nat)), m ≤ g ∧ n' = .int .u32 m ∧ m < 4294967296 ∧ L.length < 32 ∧ Hid (Nt.Rs n m L) ∧
    wr.ownsRow w.heap.size 63 2 l L.length (fcells L) ∧ Below w.heap.size w wr)
  case atStart => exact ⟨n, [], by omega, rfl, hn, by simp, HST, ⟨rfl, .inl ⟨rfl, rfl⟩⟩, Below.refl _ _⟩
  case round =>
    clear HST
    obtain ⟨m, L, hmg, rfl, hm, hL, hF, hown, hB⟩ := hrel
    by_cases h1 : 1 < m
    · obtain ⟨W, rfl⟩ : ∃ W : World, W = wr := ⟨_, rfl⟩
      obtain ⟨g, rfl⟩ : ∃ g, gk = g + 1 := ⟨gk - 1, by omega⟩
      go_wp2_with fail
      refine (least_any m rfl hm (by omega) _).mono ?_
      rintro _ _ ⟨p, rfl, hp, rfl⟩
      have hpb : p ≤ m := Nat.le_of_dvd (by omega) hp.out.dvd
      have hp2 := hp.out.two
      have hmd : (m : Int) / p % 4294967296 = ((m / p : Nat) : Int) := by
        have e : (m : Int) / p = ((m / p : Nat) : Int) := rfl
        have := Nat.div_le_self m p
        rw [e]
        generalize m / p = x at *
        omega
      have hdl : m / p < m := Nat.div_lt_self (by omega) hp2
      have HMD := Lib.hid hmd
      clear hmd
      rcases List.eq_nil_or_concat L with rfl | ⟨L0, ⟨p0, k0⟩, rfl⟩
      · have hn' : ∃ b c, u3 = .slice b 0 c := by
          rcases hown.2 with ⟨h, _⟩ | ⟨g, cap, cur, h, _⟩
          · exact ⟨_, _, h⟩
          · exact ⟨_, _, h⟩
        obtain ⟨b, c, rfl⟩ := hn'
        have hown0 : W.ownsRow w.heap.size 63 2 (.slice b 0 c) 0 [] := hown
        clear hown
        have HF := Lib.hid (hF.out.new hp.out (by simp))
        go_wp2_with (at_builtin; refine wpList_append_own _ rfl _ _ 59 rfl w.heap.size 63 i0 (.agg #[.int .u32 0, .int .i64 0]) 2 16 Tryd.underlying59 hi hz0 hz1 hz2 rfl (by decide) _ _ _ rfl (hown0.alloc _) ⟨W.heap.size, 0, none⟩ 1 1 [.int .u32 p, .int .i64 0] rfl rfl (cell_two_new _ _ _ _) (by simp [Value.oneCell']) (by unfold maxLen; omega) (by omega) (by have := hB.size; simp; omega) ?_; intro v' w1 hown' hgrow _; obtain ⟨g1, cap1, rfl, hc0, hc1, hfz, HO1, HO2⟩ := fac_first hB hown0 hown' hgrow; clear hown' hgrow)
        go_roundg g
        case measure => omega
        case rel => exact ⟨m / p, [] ++ [(p, 1)], by omega, int_i HMD.out, by omega, by simp, HF, HO1, HO2⟩
      · rw [List.concat_eq_append] at *
        have hlen : (L0 ++ [(p0, k0)]).length = L0.length + 1 := by simp
        rw [hlen] at hown hL
        obtain ⟨gb, cap, rfl⟩ := ownsRow_succ hown
        have hc0 : W.cell? ⟨gb, L0.length * 2, none⟩ = some (.int .u32 p0) := (hown.cellAt (L0.length * 2) (by omega)).trans (fcells_at0 L0 p0 k0)
        have hc1 : W.cell? ⟨gb, L0.length * 2 + 1, none⟩ = some (.int .i64 k0) := (hown.cellAt (L0.length * 2 + 1) (by omega)).trans (fcells_at1 L0 p0 k0)
        have hfz : W.frozen? ⟨gb, L0.length * 2 + 1, none⟩ = false := hown.frozenAt _
        by_cases he : p0 = p
        · subst he
          have HF := Lib.hid (hF.out.more hp.out)
          have hk0 := Rs_exp hF.out hn
          clear hlen
          go_wp2_with (at_builtin; fail)
          have HO := Lib.hid (fac_again hB hown rfl)
          clear hown hB hc0 hc1 hfz
          go_roundg g
          case measure => omega
          case rel => exact ⟨m / p0, L0 ++ [(p0, k0 + 1)], by omega, int_i HMD.out, by omega, by simp; omega, HF, HO.out.1, HO.out.2⟩
        · have hne : ((p0 : Int) != p) = true := by simp; omega
          have HF := Lib.hid (hF.out.new hp.out (fun x hx => by
            have h1 := hF.out.le x hx p hp2 hp.out.dvd
            rcases List.mem_append.1 hx with hx | hx
            · have h3 := hF.out.sorted
              rw [List.pairwise_append] at h3
              have h4 := h3.2.2 x hx (p0, k0) (by simp)
              have h5 := hF.out.le (p0, k0) (by simp) p hp2 hp.out.dvd
              simp at h4 h5
              omega
            · simp at hx; subst hx; exact he))
          have HL := Lib.hid hlen
          clear hlen he
          go_wp2_with (at_builtin; refine wpList_append_own _ rfl _ _ 59 rfl w.heap.size 63 i0 (.agg #[.int .u32 0, .int .i64 0]) 2 16 Tryd.underlying59 hi hz0 hz1 hz2 rfl (by decide) _ _ _ rfl (hown.alloc _) ⟨W.heap.size, 0, none⟩ 1 1 [.int .u32 p, .int .i64 0] rfl rfl (cell_two_new _ _ _ _) (by simp [Value.oneCell']) (by unfold maxLen; omega) (by omega) (by have := hB.size; simp; omega) ?_; intro v' w1 hown' hgrow _; obtain ⟨g1, cap1, rfl, hc0, hc1, hfz, HO1, HO2⟩ := fac_more' HL.out.symm hB hown hown' hgrow; clear hown' hgrow)
          go_roundg g
          case measure => omega
          case rel => exact ⟨m / p, L0 ++ [(p0, k0)] ++ [(p, 1)], by omega, int_i HMD.out, by omega, by have := len32 HF.out.len hn; exact this, HF, HO1, HO2⟩
    · have HF := Lib.hid (hF.out.done (by omega))
      go_wp2
      go_ret
      exact ⟨_, _, rfl, HF, hown, hB⟩
end Go.Proofs.YtjnhfakdpnnboaaDoor
