/- Orders, by the program and by the reference. -/
import Derived.Test.YtjnhfakdpnnboaaDoorW10
import Derived.Test.YtjnhfakdpnnboaaDoorL2
import Derived.Test.YtjnhfakdpnnboaaDoorNt7
namespace Go.Proofs.YtjnhfakdpnnboaaDoor
open Go.RowKit Go.IntWalk

/-- A slice of factors, read: its cells. -/
structure FacAt (W : World) (ad : Option Addr) (L : List (Nat × Nat)) : Prop where
  at_ : ∀ i x, L[i]? = some x → ∃ g, ad = some ⟨g, 0, none⟩ ∧ g < W.heap.size ∧ W.cell? ⟨g, i * 2, none⟩ = some (.int .u32 x.1) ∧ W.cell? ⟨g, i * 2 + 1, none⟩ = some (.int .i64 x.2)
theorem fcells_get0 : ∀ (L : List (Nat × Nat)) (i : Nat) (x : Nat × Nat), L[i]? = some x → (fcells L)[i * 2]? = some (.int .u32 x.1) ∧ (fcells L)[i * 2 + 1]? = some (.int .i64 x.2)
  | [], i, x, h => by simp at h
  | y :: L, 0, x, h => by
    simp at h; subst h
    exact ⟨rfl, rfl⟩
  | y :: L, i + 1, x, h => by
    have h1 := fcells_get0 L i x (by simpa using h)
    have e : fcells (y :: L) = Value.int .u32 y.1 :: Value.int .i64 y.2 :: fcells L := rfl
    rw [e, show (i + 1) * 2 = i * 2 + 1 + 1 by omega, show i * 2 + 1 + 1 + 1 = (i * 2 + 1) + 1 + 1 by omega]
    exact h1
theorem fac_slice {W : World} {base : Nat} {T : TypeId} {v : Value} {L : List (Nat × Nat)} (h : W.ownsRow base T 2 v L.length (fcells L)) :
    ∃ ad cap, v = .slice ad L.length cap ∧ FacAt W ad L := by
  rcases h.2 with ⟨rfl, hn⟩ | ⟨g, cap, cur, rfl, hb, hg, _⟩
  · have : L = [] := List.eq_nil_of_length_eq_zero hn
    subst this
    exact ⟨none, 0, rfl, ⟨fun i x hx => by simp at hx⟩⟩
  · refine ⟨_, _, rfl, ⟨fun i x hx => ?_⟩⟩
    obtain ⟨h1, h2⟩ := fcells_get0 L i x hx
    have hlt : i < L.length := (List.getElem?_eq_some_iff.1 hx).1
    refine ⟨g, rfl, ?_, (h.cellAt (i * 2) (by omega)).trans h1, (h.cellAt (i * 2 + 1) (by omega)).trans h2⟩
    apply Classical.byContradiction
    intro hc
    rw [Array.getElem?_eq_none (by omega)] at hg
    cases hg
theorem FacAt.below {W W' : World} {ad : Option Addr} {L : List (Nat × Nat)} (h : FacAt W ad L) (hb : Below W.heap.size W W') : FacAt W' ad L :=
  ⟨fun i x hx => by
    obtain ⟨g, h1, h2, h3, h4⟩ := h.at_ i x hx
    exact ⟨g, h1, Nat.lt_of_lt_of_le h2 hb.size, (hb.cell (p := ⟨g, i * 2, none⟩) h2).trans h3, (hb.cell (p := ⟨g, i * 2 + 1, none⟩) h2).trans h4⟩⟩

/-- A number comes back; what was there is as it was. -/
def RetRB (k : IntKind) (R : Nat → Prop) (w : World) (e : Ending) (w' : World) : Prop := ∃ v : Nat, e = .returned (.int k v) ∧ Hid (R v) ∧ Below w.heap.size w w'

set_option maxRecDepth 20000 in
set_option maxHeartbeats 2000000 in
theorem order_any (a p : Nat) {ai pi : Int} (hai : ai = a) (hpi : pi = p) (ha : a < 4294967296) (hp : p < 4294967296) (hpr : Nt.Pr p) (h0 : ¬ a % p = 0) (w : World) :
    Calls Tryd.prog 64 #[.int .u32 ai, .int .u32 pi] w (RetRB .u32 (Nt.IsOrd a p) w) := by
  subst hai hpi
  have hpp := hpr.pos
  have hp2 := hpr.1
  have HS := Lib.hid (Nt.Os.start hpr h0)
  have hap := Nat.mod_lt a hpp
  clear h0
  go_enter Tryd.func64, Tryd.ntmps64
  go_wp2_with fail
  refine (factors_any (p - 1) (by omega) (by omega) (by omega) _).mono ?_
  rintro _ w1 ⟨v, L, rfl, hL, hown, hB⟩
  obtain ⟨ad, cap, rfl, hA⟩ := fac_slice hown
  have hlen : L.length < 32 := len32 hL.out.len (by omega)
  clear hown
  go_wp2_with fail
  go_loopg [5, 14] L.length (fun g e i wr => ∃ (e' i' : Nat), i' + g = L.length ∧ e = .int .u32 e' ∧ i = .int .i64 i' ∧ 0 < e' ∧ e' < 4294967296 ∧ Hid (Nt.Os a p e' (L.take i')) ∧ Below w1.heap.size w1 wr)
  case atStart => exact ⟨p - 1, 0, by omega, int_i (by omega), rfl, by omega, by omega, by simpa using HS, Below.refl _ _⟩
  case round =>
    clear HS
    obtain ⟨e, i, hig, rfl, rfl, he0, he, hO, hB1⟩ := hrel
    by_cases hil : i < L.length
    · obtain ⟨W, rfl⟩ : ∃ W : World, W = wr := ⟨_, rfl⟩
      obtain ⟨g, rfl⟩ : ∃ g, gk = g + 1 := ⟨gk - 1, by omega⟩
      obtain ⟨⟨f, k⟩, hx⟩ : ∃ x, L[i]? = some x := ⟨_, List.getElem?_eq_getElem hil⟩
      obtain ⟨gb, rfl, hgl, hc0, hc1⟩ := (hA.below hB1).at_ i _ hx
      have hfp := hL.out.pr _ (List.mem_of_getElem? hx)
      have hf2 := hfp.1.1
      have hfl := (hL.out.exp _ (List.mem_of_getElem? hx)).2
      simp only at hf2 hfl hc0 hc1
      have HX := Lib.hid hx
      have HFP := Lib.hid hfp
      clear hx hfp
      have hnew : (W.alloc (.cells #[.int .u32 f, .int .i64 k] 63)).cell? ⟨W.heap.size, 0, none⟩ = some (.int .u32 f) := by go_simp
      have HNEW := Lib.hid hnew
      have HBA := Lib.hid (hB1.alloc hB1.size (.cells #[.int .u32 f, .int .i64 k] 63))
      have h1p : (1 : Int) % p = 1 := Int.emod_eq_of_lt (by omega) (by omega)
      clear hnew
      go_wp2_with fail
      clear hc0 hc1
      go_loopg [5] e (fun g e wx => ∃ (e' : Nat), e' ≤ g ∧ e = .int .u32 e' ∧ 0 < e' ∧ e' < 4294967296 ∧ Hid (Nt.Os a p e' (L.take i)) ∧ wx.cell? ⟨W.heap.size, 0, none⟩ = some (.int .u32 f) ∧ Below w1.heap.size w1 wx)
      case atStart => exact ⟨e, Nat.le_refl _, rfl, he0, he, hO, HNEW.out, HBA.out⟩
      case round =>
        clear hO he0 he HNEW HBA
        obtain ⟨e', heg, rfl, he0, he, hO, hcb, hB2⟩ := hrel
        have hf0 : 0 < f := by omega
        have next : Hid ((f ∣ e' → a ^ (e' / f) % p ≠ 1) → Nt.Os a p e' (L.take (i + 1))) := fun h => by
          have h2 := hO.out.next (x := (f, k)) h
          rw [List.take_add_one, HX.out]
          exact h2
        by_cases hd : e' % f = 0
        · have hd' : (e' : Int) % f = 0 := emod_zero rfl hd
          have hef : e' / f < 4294967296 := Nat.lt_of_le_of_lt (Nat.div_le_self _ _) he
          obtain ⟨v, hv⟩ : ∃ v, v = (a % p) ^ (e' / f) % p := ⟨_, rfl⟩
          have hv2 : v = a ^ (e' / f) % p := hv.trans (Nat.pow_mod a (e' / f) p).symm
          have HC := Lib.hid (show ∀ W : World, Calls Tryd.prog 54 #[.int .u32 ((a : Int) % p), .int .u64 ((e' : Int) / f), .int .u32 p] W fun e w' => e = .returned (.int .u32 v) ∧ W = w' from fun W =>
            (power_any (a % p) (e' / f) p rfl rfl rfl (by omega) (by omega) hp hpp W).mono fun _ _ ⟨u, h1, h2, h3⟩ => ⟨by rw [h1, h2.out, hv], h3⟩)
          have hq1 : (e' : Int) / f ≤ e' := Int.ediv_le_self _ (by omega)
          have hq0 : 0 ≤ (e' : Int) / f := Int.ediv_nonneg (by omega) (by omega)
          by_cases h1 : v = 1
          · have HST := Lib.hid (hO.out.strip hp2 (Nat.dvd_of_mod_eq_zero hd) (hv2.symm.trans h1))
            have hlt : e' / f < e' := Nat.div_lt_self he0 hf2
            have hpos := HST.out.pos
            obtain ⟨g2, rfl⟩ : ∃ g, gk = g + 1 := ⟨gk - 1, by omega⟩
            subst h1
            clear hv hv2 hd next
            go_wp2_with fail
            go_quiet ((go_at_call 54; exact qs (HC.out _)))
            go_wp2
            go_roundg g2
            case measure => omega
            case rel => exact ⟨e' / f, by omega, int_i rfl, hpos, hef, HST, hcb, below_drewN hB2 _⟩
          · have h1' : ((v : Int) == 1) = false := by simp; omega
            have HN := Lib.hid (next.out (fun _ => by rw [← hv2]; exact h1))
            clear hv hv2 hd next h1
            go_wp2_with fail
            go_quiet ((go_at_call 54; exact qs (HC.out _)))
            go_wp2
            go_roundg g
            case measure => omega
            case rel => exact ⟨e', i + 1, by omega, rfl, by go_num, he0, he, HN, below_drewN hB2 _⟩
        · have hd' : ((e' : Int) % f == 0) = false := emod_ne rfl hd
          have HN := Lib.hid (next.out (fun h => absurd (Nat.mod_eq_zero_of_dvd h) hd))
          clear hd next
          go_wp2_with fail
          go_quiet (fail)
          go_wp2
          go_roundg g
          case measure => omega
          case rel => exact ⟨e', i + 1, by omega, rfl, by go_num, he0, he, HN, below_drewN hB2 _⟩
    · have HE := Lib.hid (show Nt.IsOrd a p e by
        have h := hO.out
        rw [List.take_of_length_le (by omega)] at h
        exact h.done hpr hL.out)
      go_wp2
      go_ret
      exact ⟨e, rfl, HE, hB.trans (hB1.mono hB.size)⟩
end Go.Proofs.YtjnhfakdpnnboaaDoor
