/- Orders by the reference; the calls Order and Root. -/
import Derived.Test.YtjnhfakdpnnboaaDoorW11
namespace Go.Proofs.YtjnhfakdpnnboaaDoor
open Go.RowKit Go.IntWalk

set_option maxRecDepth 20000 in
set_option maxHeartbeats 2000000 in
theorem refOrder_any (a p : Nat) {ai pi : Int} (hai : ai = a) (hpi : pi = p) (ha : a < 4294967296) (hp : p < 4294967296) (hpr : Nt.Pr p) (h0 : ¬ a % p = 0) (w : World) :
    Calls Tryd.prog 41 #[.int .u32 ai, .int .u32 pi] w (RetRB .u32 (Nt.IsOrd a p) w) := by
  subst hai hpi
  have hpp := hpr.pos
  have hp2 := hpr.1
  have HS := Lib.hid (Nt.Os.start hpr h0)
  clear h0
  go_enter Tryd.func41, Tryd.ntmps41
  go_wp2_with fail
  refine (refFactors_any (p - 1) (by omega) (by omega) (by omega) _).mono ?_
  rintro _ w1 ⟨v, L, rfl, hL, hown, hB⟩
  obtain ⟨ad, cap, rfl, hA⟩ := fac_slice hown
  have hlen : L.length < 32 := len32 hL.out.len (by omega)
  clear hown
  go_wp2_with fail
  go_loopg [5, 14] L.length (fun g e i wr => ∃ (e' i' : Nat), i' + g = L.length ∧ e = .int .u32 e' ∧ i = .int .i64 i' ∧ 0 < e' ∧ e' < 4294967296 ∧ Hid (Nt.Os a p e' (L.take i')) ∧ Below w1.heap.size w1 wr)
  case atStart => exact ⟨p - 1, 0, by omega, int_i (by omega), rfl, by omega, by omega, by simpa using HS, Below.refl _ _⟩
  case round =>
    clear HS
    obtain ⟨e, i, hig, rfl, rfl, he0, he, hO, hB1⟩ := hrel
    by_cases hil : i < L.length
    · obtain ⟨W, rfl⟩ : ∃ W : World, W = wr := ⟨_, rfl⟩
      obtain ⟨g, rfl⟩ : ∃ g, gk = g + 1 := ⟨gk - 1, by omega⟩
      obtain ⟨⟨f, k⟩, hx⟩ : ∃ x, L[i]? = some x := ⟨_, List.getElem?_eq_getElem hil⟩
      obtain ⟨gb, rfl, hgl, hc0, hc1⟩ := (hA.below hB1).at_ i _ hx
      have hfp := hL.out.pr _ (List.mem_of_getElem? hx)
      have hf2 := hfp.1.1
      have hfl := (hL.out.exp _ (List.mem_of_getElem? hx)).2
      simp only at hf2 hfl hc0 hc1
      have HX := Lib.hid hx
      have HFP := Lib.hid hfp
      clear hx hfp
      have hnew : (W.alloc (.cells #[.int .u32 f, .int .i64 k] 63)).cell? ⟨W.heap.size, 0, none⟩ = some (.int .u32 f) := by go_simp
      have HNEW := Lib.hid hnew
      have HBA := Lib.hid (hB1.alloc hB1.size (.cells #[.int .u32 f, .int .i64 k] 63))
      have h1p : (1 : Int) % p = 1 := Int.emod_eq_of_lt (by omega) (by omega)
      clear hnew
      go_wp2_with fail
      clear hc0 hc1
      go_loopg [5] e (fun g e wx => ∃ (e' : Nat), e' ≤ g ∧ e = .int .u32 e' ∧ 0 < e' ∧ e' < 4294967296 ∧ Hid (Nt.Os a p e' (L.take i)) ∧ wx.cell? ⟨W.heap.size, 0, none⟩ = some (.int .u32 f) ∧ Below w1.heap.size w1 wx)
      case atStart => exact ⟨e, Nat.le_refl _, rfl, he0, he, hO, HNEW.out, HBA.out⟩
      case round =>
        clear hO he0 he HNEW HBA
        obtain ⟨e', heg, rfl, he0, he, hO, hcb, hB2⟩ := hrel
        have hf0 : 0 < f := by omega
        have next : Hid ((f ∣ e' → a ^ (e' / f) % p ≠ 1) → Nt.Os a p e' (L.take (i + 1))) := fun h => by
          have h2 := hO.out.next (x := (f, k)) h
          rw [List.take_add_one, HX.out]
          exact h2
        by_cases hd : e' % f = 0
        · have hd' : (e' : Int) % f = 0 := emod_zero rfl hd
          have hef : e' / f < 4294967296 := Nat.lt_of_le_of_lt (Nat.div_le_self _ _) he
          obtain ⟨v, hv⟩ : ∃ v, v = a ^ (e' / f) % p := ⟨_, rfl⟩
          have hv2 := hv
          have HC := Lib.hid (show ∀ W : World, Calls Tryd.prog 25 #[.int .u32 a, .int .u64 ((e' : Int) / f), .int .u32 p] W fun e w' => e = .returned (.int .u32 v) ∧ W = w' from fun W =>
            (refPow_any a (e' / f) p rfl rfl rfl ha (by omega) hp hpp W).mono fun _ _ ⟨u, h1, h2, h3⟩ => ⟨by rw [h1, h2.out, hv], h3⟩)
          have hq1 : (e' : Int) / f ≤ e' := Int.ediv_le_self _ (by omega)
          have hq0 : 0 ≤ (e' : Int) / f := Int.ediv_nonneg (by omega) (by omega)
          by_cases h1 : v = 1
          · have HST := Lib.hid (hO.out.strip hp2 (Nat.dvd_of_mod_eq_zero hd) (hv2.symm.trans h1))
            have hlt : e' / f < e' := Nat.div_lt_self he0 hf2
            have hpos := HST.out.pos
            obtain ⟨g2, rfl⟩ : ∃ g, gk = g + 1 := ⟨gk - 1, by omega⟩
            subst h1
            clear hv hv2 hd next
            go_wp2_with fail
            go_quiet ((go_at_call 25; exact qs (HC.out _)))
            go_wp2
            go_roundg g2
            case measure => omega
            case rel => exact ⟨e' / f, by omega, int_i rfl, hpos, hef, HST, hcb, below_drewN hB2 _⟩
          · have h1' : ((v : Int) == 1) = false := by simp; omega
            have HN := Lib.hid (next.out (fun _ => by rw [← hv2]; exact h1))
            clear hv hv2 hd next h1
            go_wp2_with fail
            go_quiet ((go_at_call 25; exact qs (HC.out _)))
            go_wp2
            go_roundg g
            case measure => omega
            case rel => exact ⟨e', i + 1, by omega, rfl, by go_num, he0, he, HN, below_drewN hB2 _⟩
        · have hd' : ((e' : Int) % f == 0) = false := emod_ne rfl hd
          have HN := Lib.hid (next.out (fun h => absurd (Nat.mod_eq_zero_of_dvd h) hd))
          clear hd next
          go_wp2_with fail
          go_quiet (fail)
          go_wp2
          go_roundg g
          case measure => omega
          case rel => exact ⟨e', i + 1, by omega, rfl, by go_num, he0, he, HN, below_drewN hB2 _⟩
    · have HE := Lib.hid (show Nt.IsOrd a p e by
        have h := hO.out
        rw [List.take_of_length_le (by omega)] at h
        exact h.done hpr hL.out)
      go_wp2
      go_ret
      exact ⟨e, rfl, HE, hB.trans (hB1.mono hB.size)⟩

theorem RetRB.trans {k : IntKind} {R : Nat → Prop} {w w1 w' : World} {e : Ending} (hb : Below w.heap.size w w1) (h : RetRB k R w1 e w') : RetRB k R w e w' := by
  obtain ⟨v, h1, h2, h3⟩ := h
  exact ⟨v, h1, h2, hb.trans (h3.mono hb.size)⟩

set_option maxHeartbeats 1000000 in
theorem Order_none (a p : Nat) {ai pi : Int} (hai : ai = a) (hpi : pi = p) (hp : p < 4294967296) (hnp : ¬ Nt.Pr p) (w : World) (hT : Tabs w) :
    Calls Tryd.prog 38 #[.int .u32 ai, .int .u32 pi] w (RetE (· = 0) 40 w) := by
  subst hai hpi
  go_enter Tryd.func38, Tryd.ntmps38
  go_wp2_with fail
  refine (is_false hnp rfl hp _ hT).mono ?_
  rintro _ _ ⟨rfl, rfl⟩
  go_wp2
  go_ret2
  exact ⟨0, rfl, Lib.hid rfl, Below.refl _ _⟩
set_option maxHeartbeats 1000000 in
theorem Order_zero (a p : Nat) {ai pi : Int} (hai : ai = a) (hpi : pi = p) (hp : p < 4294967296) (hpr : Nt.Pr p) (h0 : a % p = 0) (w : World) (hT : Tabs w) :
    Calls Tryd.prog 38 #[.int .u32 ai, .int .u32 pi] w (RetE (· = 0) 5 w) := by
  subst hai hpi
  have hpp := hpr.pos
  have h0' : (a : Int) % p = 0 := emod_zero rfl h0
  clear h0
  go_enter Tryd.func38, Tryd.ntmps38
  go_wp2_with fail
  refine (is_true hpr rfl hp _ hT).mono ?_
  rintro _ _ ⟨rfl, rfl⟩
  go_wp2
  go_ret2
  exact ⟨0, rfl, Lib.hid rfl, Below.refl _ _⟩
set_option maxHeartbeats 1000000 in
theorem Order_ok (a p : Nat) {ai pi : Int} (hai : ai = a) (hpi : pi = p) (ha : a < 4294967296) (hp : p < 4294967296) (hpr : Nt.Pr p) (h0 : ¬ a % p = 0) (w : World) (hT : Tabs w) :
    Calls Tryd.prog 38 #[.int .u32 ai, .int .u32 pi] w (RetE (Nt.IsOrd a p) 0 w) := by
  subst hai hpi
  have hpp := hpr.pos
  have h0' : ((a : Int) % p == 0) = false := emod_ne rfl h0
  have H0 := Lib.hid h0
  clear h0
  go_enter Tryd.func38, Tryd.ntmps38
  go_wp2_with fail
  refine (is_true hpr rfl hp _ hT).mono ?_
  rintro _ _ ⟨rfl, rfl⟩
  go_wp2_with fail
  refine (order_any a p rfl rfl ha hp hpr H0.out _).mono ?_
  rintro _ w1 ⟨v, rfl, hv, hb⟩
  go_wp2
  go_ret2
  exact ⟨v, rfl, hv, hb⟩

set_option maxHeartbeats 1000000 in
theorem Root_none (p : Nat) {pi : Int} (hpi : pi = p) (hp : p < 4294967296) (hnp : ¬ Nt.Pr p) (w : World) (hT : Tabs w) :
    Calls Tryd.prog 39 #[.int .u32 pi] w (RetE (· = 0) 40 w) := by
  subst hpi
  go_enter Tryd.func39, Tryd.ntmps39
  go_wp2_with fail
  refine (is_false hnp rfl hp _ hT).mono ?_
  rintro _ _ ⟨rfl, rfl⟩
  go_wp2
  go_ret2
  exact ⟨0, rfl, Lib.hid rfl, Below.refl _ _⟩
set_option maxHeartbeats 1000000 in
theorem Root_ok (p : Nat) {pi : Int} (hpi : pi = p) (hp : p < 4294967296) (hpr : Nt.Pr p) (w : World) (hT : Tabs w) :
    Calls Tryd.prog 39 #[.int .u32 pi] w (RetE (Nt.IsRoot p) 0 w) := by
  subst hpi
  have hp2 := hpr.1
  obtain ⟨g0, hg1, hgp, hg⟩ := Nt.root_exists' hpr
  have HG := Lib.hid hg
  clear hg
  go_enter Tryd.func39, Tryd.ntmps39
  go_wp2_with fail
  refine (is_true hpr rfl hp _ hT).mono ?_
  rintro _ _ ⟨rfl, rfl⟩
  go_wp2_with fail
  go_loopg [4] g0 (fun k g wr => ∃ g' : Nat, 1 ≤ g' ∧ g' ≤ g0 ∧ g0 - g' ≤ k ∧ g = .int .u32 g' ∧ Hid (∀ h, 1 ≤ h → h < g' → ¬ Nt.IsOrd h p (p - 1)) ∧ Below w.heap.size w wr)
  case atStart => exact ⟨1, by omega, hg1, by omega, rfl, Lib.hid (fun h h1 h2 => by omega), Below.refl _ _⟩
  case round =>
    obtain ⟨g, hg2, hgg, hgk, rfl, hI, hB⟩ := hrel
    obtain ⟨W, rfl⟩ : ∃ W : World, W = wr := ⟨_, rfl⟩
    go_wp2_with fail
    refine (order_any g p rfl rfl (by omega) hp hpr (by rw [Nat.mod_eq_of_lt (by omega)]; omega) _).mono ?_
    rintro _ w1 ⟨o, rfl, ho, hb⟩
    have hB1 := hB.trans (hb.mono hB.size)
    clear hb hB
    by_cases he : o = p - 1
    · have HR := Lib.hid (show Nt.IsRoot p g from ⟨hg2, by omega, by rw [← he]; exact ho.out, hI.out⟩)
      have hei : (o : Int) = (p : Int) - 1 := by omega
      have he' : ((o : Int) != (p : Int) - 1) = false := by simp [hei]
      clear he hei
      go_wp2
      go_ret2
      exact ⟨g, rfl, HR, hB1⟩
    · have he' : ((o : Int) != (p : Int) - 1) = true := by simp; omega
      have hne : ¬ Nt.IsOrd g p (p - 1) := fun h => he (ho.out.unique h)
      have HI := Lib.hid (show ∀ h, 1 ≤ h → h < g + 1 → ¬ Nt.IsOrd h p (p - 1) from fun h h1 h2 => by
        by_cases e : h = g
        · subst e; exact hne
        · exact hI.out h h1 (by omega))
      have hlt : g < g0 := by
        apply Classical.byContradiction
        intro hc
        have e : g = g0 := by omega
        subst e
        exact hne HG.out
      obtain ⟨k, rfl⟩ : ∃ k, gk = k + 1 := ⟨gk - 1, by omega⟩
      clear he hne
      go_wp2
      go_roundg k
      case measure => omega
      case rel => exact ⟨g + 1, by omega, by omega, by omega, by go_num, HI, hB1⟩
set_option maxHeartbeats 1000000 in
theorem refRoot_any (p : Nat) {pi : Int} (hpi : pi = p) (hp : p < 4294967296) (hpr : Nt.Pr p) (w : World) :
    Calls Tryd.prog 40 #[.int .u32 pi] w (RetRB .u32 (Nt.IsRoot p) w) := by
  subst hpi
  have hp2 := hpr.1
  obtain ⟨g0, hg1, hgp, hg⟩ := Nt.root_exists' hpr
  have HG := Lib.hid hg
  clear hg
  go_enter Tryd.func40, Tryd.ntmps40
  go_wp2_with fail
  go_loopg [3] g0 (fun k g wr => ∃ g' : Nat, 1 ≤ g' ∧ g' ≤ g0 ∧ g0 - g' ≤ k ∧ g = .int .u32 g' ∧ Hid (∀ h, 1 ≤ h → h < g' → ¬ Nt.IsOrd h p (p - 1)) ∧ Below w.heap.size w wr)
  case atStart => exact ⟨1, by omega, hg1, by omega, rfl, Lib.hid (fun h h1 h2 => by omega), Below.refl _ _⟩
  case round =>
    obtain ⟨g, hg2, hgg, hgk, rfl, hI, hB⟩ := hrel
    obtain ⟨W, rfl⟩ : ∃ W : World, W = wr := ⟨_, rfl⟩
    go_wp2_with fail
    refine (refOrder_any g p rfl rfl (by omega) hp hpr (by rw [Nat.mod_eq_of_lt (by omega)]; omega) _).mono ?_
    rintro _ w1 ⟨o, rfl, ho, hb⟩
    have hB1 := hB.trans (hb.mono hB.size)
    clear hb hB
    by_cases he : o = p - 1
    · have HR := Lib.hid (show Nt.IsRoot p g from ⟨hg2, by omega, by rw [← he]; exact ho.out, hI.out⟩)
      have hei : (o : Int) = (p : Int) - 1 := by omega
      have he' : ((o : Int) == (p : Int) - 1) = true := by simp [hei]
      clear he hei
      go_wp2
      go_ret
      exact ⟨g, rfl, HR, hB1⟩
    · have he' : ((o : Int) == (p : Int) - 1) = false := by simp; omega
      have hne : ¬ Nt.IsOrd g p (p - 1) := fun h => he (ho.out.unique h)
      have HI := Lib.hid (show ∀ h, 1 ≤ h → h < g + 1 → ¬ Nt.IsOrd h p (p - 1) from fun h h1 h2 => by
        by_cases e : h = g
        · subst e; exact hne
        · exact hI.out h h1 (by omega))
      have hlt : g < g0 := by
        apply Classical.byContradiction
        intro hc
        have e : g = g0 := by omega
        subst e
        exact hne HG.out
      obtain ⟨k, rfl⟩ : ∃ k, gk = k + 1 := ⟨gk - 1, by omega⟩
      clear he hne
      go_wp2
      go_roundg k
      case measure => omega
      case rel => exact ⟨g + 1, by omega, by omega, by omega, by go_num, HI, hB1⟩
end Go.Proofs.YtjnhfakdpnnboaaDoor
