/- modpoly: the product. -/
import Derived.Test.YtmgacikdgbedfaaGreatDoorM3
import Derived.Test.YtmgacikdgbedfaaGreatDoorPm4
import Derived.Deep.RegionWith
import Derived.Deep.DrawnRows
namespace Go.Proofs.YtmgacikdgbedfaaGreatDoor
open Go.RowKit Go.IntWalk
attribute [local go_sem ↓] Go.wp_at_zero Go.wp_at_succ

/-- All coefficients are congruent. -/
def AllC (p : Nat) (O : List Nat) (f : Nat → Int) : Prop := ∀ j, j < O.length → Pm.cz p (Dg.ld O j : Nat) (f j)
theorem AllC.set {p : Nat} {O : List Nat} {f g : Nat → Int} {k s : Nat} (h : AllC p O f) (hk : k < O.length) (hs : Pm.cz p (s : Int) (g k)) (hg : ∀ j, j ≠ k → g j = f j) : AllC p (O.set k s) g := fun j hj => by
  by_cases e : j = k
  · subst e; rw [Dg.ld_set_same s hk]; exact hs
  · rw [Dg.ld_set_other s e, hg j e]; exact h j (by simpa using hj)

theorem times_step {p i k t x y o v u : Nat} {L L' O : List Nat} (ht : t = i + k) (ex : x = Dg.ld L i) (ey : y = Dg.ld L' k) (eo : o = Dg.ld O t) (hto : t < O.length)
    (h : AllC p O (Pm.pt (Pm.co L) (Pm.co L') i k)) (hv : Pm.cz p v ((x : Int) * y)) (hu : Pm.cz p u ((o : Int) + v)) : Pm.cz p u (Pm.pt (Pm.co L) (Pm.co L') i (k + 1) t) := by
  have h1 := h t hto
  rw [← eo] at h1
  subst ht
  rw [Pm.pt_here]
  refine hu.trans (h1.add (hv.trans ?_))
  unfold Pm.co
  rw [ex, ey]
  exact Pm.cz.refl _

set_option maxRecDepth 100000 in
set_option maxHeartbeats 4000000 in
theorem mtimes_any {A A' : Option Addr} {n c n' c' : Nat} {L L' : List Nat} {w : World} (p : Nat) (hpr : Nt.Pr p) (hp : p < 4294967296)
    (h : RdU w w.heap.size A n c L) (h' : RdU w w.heap.size A' n' c' L') (hn : n ≤ 4398046511104) (hn' : n' ≤ 4398046511104) (hL : Pm.Pn p L) (hL' : Pm.Pn p L') :
    Calls Tryz.prog 37 #[.agg #[.int .u64 p], .slice A n c, .slice A' n' c'] w (RetPo p (Pm.cv (Pm.co L) (Pm.co L')) w) := by
  have HP := Lib.hid hpr
  have h0 := hpr.pos
  have HLEN := Lib.hid h.len
  have HLEN' := Lib.hid h'.len
  have HL := Lib.hid hL
  have HL' := Lib.hid hL'
  clear hpr hL hL'
  rcases Nat.eq_zero_or_pos n with hn0 | hn0
  · have HZ := Lib.hid (Pm.cv_none (L := L) (M := L') (.inl (HLEN.out.trans hn0)))
    subst hn0
    go_enter Tryz.func37, Tryz.ntmps37
    go_wp2
    go_ret
    exact ⟨none, 0, 0, [], rfl, Po.nil _ _ 0 none (Nat.zero_le _), Lib.hid ⟨Pm.Pn.nil, fun j => by rw [HZ.out j, Pm.co_zero (Nat.zero_le _)]; exact Pm.cz.refl _⟩, below1 _ _⟩
  · have hz1 : ((n : Int) == 0) = false := by simp; omega
    rcases Nat.eq_zero_or_pos n' with hn0' | hn0'
    · have HZ := Lib.hid (Pm.cv_none (L := L) (M := L') (.inr (HLEN'.out.trans hn0')))
      subst hn0'
      go_enter Tryz.func37, Tryz.ntmps37
      go_wp2
      go_ret
      exact ⟨none, 0, 0, [], rfl, Po.nil _ _ 0 none (Nat.zero_le _), Lib.hid ⟨Pm.Pn.nil, fun j => by rw [HZ.out j, Pm.co_zero (Nat.zero_le _)]; exact Pm.cz.refl _⟩, below1 _ _⟩
    · have hz2 : ((n' : Int) == 0) = false := by simp; omega
      obtain ⟨m, hm⟩ : ∃ m, m = n + n' - 1 := ⟨_, rfl⟩
      have hmk : ∀ W : World, (Instr.makeSlice 22 (.int .i64 ((n : Int) + n' - 1)) (.int .i64 ((n : Int) + n' - 1))).run Tryz.prog W = .ok (.slice (some ⟨W.heap.size, 0, none⟩) m m) (W.alloc (.cells (madeCells #[.int .u32 0] m) 24)) := fun W => by
        rw [show (n : Int) + n' - 1 = (m : Int) by omega]
        exact make_words m (by omega) W
      have hmI : (m : Int) = n + n' - 1 := by omega
      have HMI := Lib.hid hmI
      have HM := Lib.hid hm
      clear hm hmI
      go_enter Tryz.func37, Tryz.ntmps37
      go_wp2_with fail
      have hcb : ((w.alloc (.cells #[.int .u64 p] 51)).alloc (.cells (madeCells #[.int .u32 0] m) 24)).cell? ⟨w.heap.size, 0, none⟩ = some (.int .u64 p) := by go_simp
      have HU0 := UB.made (w.alloc (.cells #[.int .u64 p] 51)) m
      have hB0 : Below w.heap.size w ((w.alloc (.cells #[.int .u64 p] 51)).alloc (.cells (madeCells #[.int .u32 0] m) 24)) := (below1 w _).alloc (by simp) _
      rw [World.size_alloc] at HU0
      have HCB := Lib.hid hcb
      clear hcb hmk
      generalize (w.alloc (.cells #[.int .u64 p] 51)).alloc (.cells (madeCells #[.int .u32 0] m) 24) = W1 at HCB HU0 hB0 ⊢
      obtain ⟨gb, hgb⟩ : ∃ gb, gb = w.heap.size := ⟨_, rfl⟩
      rw [← hgb] at HCB HU0 ⊢
      have hbb : w.heap.size ≤ gb := by omega
      have HGB := Lib.hid hgb
      clear hgb
      go_loopw [29] (fun iv wr => ∃ (i : Nat) (O : List Nat), iv = .int .i64 i ∧ i ≤ n ∧ UB wr (gb + 1) O ∧ Hid (O.length = m ∧ Lt p O ∧ AllC p O (Pm.pt (Pm.co L) (Pm.co L') i 0)) ∧ wr.cell? ⟨gb, 0, none⟩ = some (.int .u64 p) ∧ Below w.heap.size w wr) (fun iv _ => n - (intOf iv).toNat)
      case atStart => exact ⟨0, _, rfl, Nat.zero_le _, HU0, Lib.hid ⟨by simp, Lt.zeros h0 m, fun j hj => by rw [Pm.pt_zero, Dg.ld_replicate]; exact Pm.cz.refl _⟩, HCB.out, hB0⟩
      case round =>
        clear HU0 hB0
        obtain ⟨i, O, rfl, hi, hU, hO, hc, hB⟩ := hrel
        by_cases hin : i < n
        · obtain ⟨hx, ad, rfl, hbx, hcx⟩ := h.at_ i _ (Dg.get_of_ld (by rw [HLEN.out]; exact hin))
          have hcx := (hB.cell (p := ad.add i) (by rw [add_blk]; exact hbx)).trans hcx
          obtain ⟨x, ex⟩ : ∃ x, x = Dg.ld L i := ⟨_, rfl⟩
          rw [← ex] at hx hcx
          have EX := Lib.hid ex
          clear ex
          obtain ⟨wo, rfl⟩ : ∃ wo : World, wo = wr := ⟨_, rfl⟩
          go_wp2_with fail
          go_loopw [36] (fun kv wr => ∃ (k : Nat) (O : List Nat), kv = .int .i64 k ∧ k ≤ n' ∧ UB wr (gb + 1) O ∧ Hid (O.length = m ∧ Lt p O ∧ AllC p O (Pm.pt (Pm.co L) (Pm.co L') i k)) ∧ wr.cell? ⟨gb, 0, none⟩ = some (.int .u64 p) ∧ Below w.heap.size w wr) (fun kv _ => n' - (intOf kv).toNat)
          case atStart => exact ⟨0, O, rfl, Nat.zero_le _, hU, hO, hc, hB⟩
          case round =>
            clear hU hO hc hB hcx
            obtain ⟨k, O, rfl, hk, hU, hO, hc, hB⟩ := hrel
            by_cases hkn : k < n'
            · obtain ⟨hy, ad', rfl, hby, hcy⟩ := h'.at_ k _ (Dg.get_of_ld (by rw [HLEN'.out]; exact hkn))
              have hcy := (hB.cell (p := ad'.add k) (by rw [add_blk]; exact hby)).trans hcy
              obtain ⟨y, ey⟩ : ∃ y, y = Dg.ld L' k := ⟨_, rfl⟩
              rw [← ey] at hy hcy
              have EY := Lib.hid ey
              clear ey
              obtain ⟨t, ht⟩ : ∃ t, t = i + k := ⟨_, rfl⟩
              have htm : t < m := by have := HM.out; omega
              have hs1 : IntKind.i64.wrap ((i : Int) + k) = (t : Int) := by rw [IntWalk.i64_in _ (by omega)]; omega
              have ht0 : (0 : Int) ≤ (t : Int) := by omega
              have ht1 : (t : Int) < (m : Int) := by omega
              have hcell := hU.cell (Dg.get_of_ld (L := O) (i := t) (by rw [hO.out.1]; exact htm))
              have hol := hO.out.2.1.ld h0 t
              obtain ⟨o, eo⟩ : ∃ o, o = Dg.ld O t := ⟨_, rfl⟩
              rw [← eo] at hcell hol
              have EO := Lib.hid eo
              have HT := Lib.hid ht
              have hgl := hU.lt
              clear eo ht
              go_wp2_with fail
              go_region_with
                (first
                  | (go_at_call 55; refine (fmul_any p x y h0 hp hx hy _).mono ?_; rintro _ w1 ⟨v, rfl, hv, hz, hb1⟩; have hc1 := (hb1.cell (p := ⟨gb, 0, none⟩) (Nat.lt_of_succ_lt hgl)).trans hc; have hce1 := (hb1.cell (p := ⟨gb + 1, t, none⟩) hgl).trans hcell)
                  | (go_at_call 35; refine (fadd_any p o v h0 hp (by omega) (by omega) _).mono ?_; rintro _ w2 ⟨u, rfl, hu, hz2, hb2⟩; have hc2 := (hb2.cell (p := ⟨gb, 0, none⟩) (Nat.lt_of_lt_of_le (Nat.lt_of_succ_lt hgl) hb1.size)).trans hc1; have hce2 := (hb2.cell (p := ⟨gb + 1, t, none⟩) (Nat.lt_of_lt_of_le hgl hb1.size)).trans hce1; have hfz2 := ((hU.drewN 1).below hb1 hgl |>.below hb2 (Nat.lt_of_lt_of_le hgl hb1.size)).frozen t))
              all_goals
                have hbb2 := hb1.trans (hb2.mono hb1.size)
                have hU2 := ((hU.drewN 1).below hbb2 hgl).set t u
                have hB2 := (hB.drew.trans (hbb2.mono hB.size)).setCell (p := ⟨gb + 1, t, none⟩) (by simp; omega) (.int .u32 (u : Int))
                have hc3 : (w2.setCell ⟨gb + 1, t, none⟩ (.int .u32 (u : Int))).cell? ⟨gb, 0, none⟩ = some (.int .u64 p) := by go_simp
                have HX := Lib.hid (And.intro hU2 (And.intro hB2 hc3))
                clear hU2 hB2 hc3 hbb2
                go_wp2
                go_roundw
                case rel => exact ⟨k + 1, O.set t u, by go_num, hkn, HX.out.1, Lib.hid ⟨by rw [List.length_set]; exact hO.out.1, hO.out.2.1.set t hu, hO.out.2.2.set (by rw [hO.out.1]; exact htm) (times_step HT.out EX.out EY.out EO.out (by rw [hO.out.1]; exact htm) hO.out.2.2 hz.out hz2.out) (fun j hj => Pm.pt_other (by rw [← HT.out]; exact hj))⟩, HX.out.2.2, HX.out.2.1⟩
                case measure => simp [intOf]; omega
            · obtain rfl : k = n' := by omega
              have HN := Lib.hid (show AllC p O (Pm.pt (Pm.co L) (Pm.co L') (i + 1) 0) from fun j hj => by
                rw [← Pm.pt_next (fun q hq => Pm.co_zero (by rw [HLEN'.out]; exact hq))]; exact hO.out.2.2 j hj)
              go_wp2
              go_roundw
              case rel => exact ⟨i + 1, O, by go_num, hin, hU, Lib.hid ⟨hO.out.1, hO.out.2.1, HN.out⟩, hc, hB⟩
              case measure => simp [intOf]; omega
        · obtain rfl : i = n := by omega
          have HA := Lib.hid (show Pm.Cg p (Pm.co O) (Pm.cv (Pm.co L) (Pm.co L')) from fun j => by
            by_cases hj : j < O.length
            · have := hO.out.2.2 j hj
              rwa [Pm.pt_all (fun q hq => Pm.co_zero (by rw [HLEN.out]; exact hq))] at this
            · rw [Pm.co_zero (by omega)]
              exact (Pm.cv_end (by rw [HLEN.out]; exact hn0) (by rw [HLEN'.out]; exact hn0') (by rw [HLEN.out, HLEN'.out, ← HM.out, ← hO.out.1]; omega)).symm)
          have hmx : m ≤ maxLen := by have := HM.out; unfold maxLen; omega
          have hpo := hU.po (hO.out.2.1.wd hp) (b := w.heap.size) (by omega) (k := m) (c := m) (by rw [hO.out.1]; exact Nat.le_refl _) (Nat.le_refl _) hmx
          rw [List.take_of_length_le (by rw [hO.out.1]; exact Nat.le_refl _)] at hpo
          have HPN := Lib.hid (Pm.cv_pn HP.out HL.out HL'.out (by rw [HLEN.out]; exact hn0) (by rw [HLEN'.out]; exact hn0') (by rw [HLEN.out, HLEN'.out, hO.out.1, HM.out]) hO.out.2.1 HA.out)
          go_wp2
          go_ret
          exact ⟨_, m, m, O, rfl, hpo, Lib.hid ⟨HPN.out, HA.out⟩, hB⟩
end Go.Proofs.YtmgacikdgbedfaaGreatDoor
