/- modpoly: times a number, monic. -/
import Derived.Test.YtmgacikdgbedfaaGreatDoorM2
namespace Go.Proofs.YtmgacikdgbedfaaGreatDoor
open Go.RowKit Go.IntWalk

/-- A list comes back in memory of its own. -/
def RetQ (P : List Nat → Prop) (w : World) (e : Ending) (w' : World) : Prop :=
  ∃ (A : Option Addr) (n c : Nat) (L : List Nat), e = .returned (.slice A n c) ∧ Po w' w.heap.size A n c L ∧ Hid (P L) ∧ Below w.heap.size w w'
theorem RetQ.imp {P Q : List Nat → Prop} {w w' : World} {e : Ending} (h : RetQ P w e w') (hi : ∀ L, P L → Q L) : RetQ Q w e w' := by
  obtain ⟨A, n, c, L, h1, h2, h3, h4⟩ := h
  exact ⟨A, n, c, L, h1, h2, Lib.hid (hi L h3.out), h4⟩

set_option maxRecDepth 100000 in
set_option maxHeartbeats 1000000 in
theorem mscale_any {A : Option Addr} {n c : Nat} {L : List Nat} {w : World} (p s : Nat) (h0 : 0 < p) (hp : p < 4294967296) (hs : s < 4294967296) (h : RdU w w.heap.size A n c L) (hn : n ≤ 17592186044416) :
    Calls Tryz.prog 52 #[.agg #[.int .u64 p], .slice A n c, .int .u32 s] w (RetPo p (fun k => (s : Int) * Pm.co L k) w) := by
  have HLEN := Lib.hid h.len
  have hmk := fun W : World => make_words n hn W
  go_enter Tryz.func52, Tryz.ntmps52
  go_wp2_with fail
  have hcb : ((w.alloc (.cells #[.int .u64 p] 51)).alloc (.cells (madeCells #[.int .u32 0] n) 24)).cell? ⟨w.heap.size, 0, none⟩ = some (.int .u64 p) := by go_simp
  have HU0 := UB.made (w.alloc (.cells #[.int .u64 p] 51)) n
  have hB0 : Below w.heap.size w ((w.alloc (.cells #[.int .u64 p] 51)).alloc (.cells (madeCells #[.int .u32 0] n) 24)) := (below1 w _).alloc (by simp) _
  rw [World.size_alloc] at HU0
  have HCB := Lib.hid hcb
  clear hcb hmk
  generalize (w.alloc (.cells #[.int .u64 p] 51)).alloc (.cells (madeCells #[.int .u32 0] n) 24) = W1 at HCB HU0 hB0 ⊢
  obtain ⟨gb, hgb⟩ : ∃ gb, gb = w.heap.size := ⟨_, rfl⟩
  rw [← hgb] at HCB HU0 ⊢
  have hbb : w.heap.size ≤ gb := by omega
  have HGB := Lib.hid hgb
  clear hgb
  go_loopw [15] (fun i wr => ∃ (k : Nat) (O : List Nat), i = .int .i64 k ∧ k ≤ n ∧ UB wr (gb + 1) O ∧ Hid (O.length = n ∧ Lt p O ∧ Upto p O (fun k => (s : Int) * Pm.co L k) k) ∧ wr.cell? ⟨gb, 0, none⟩ = some (.int .u64 p) ∧ Below w.heap.size w wr) (fun i _ => n - (intOf i).toNat)
  case atStart => exact ⟨0, _, rfl, Nat.zero_le _, HU0, Lib.hid ⟨by simp, Lt.zeros h0 n, fun j hj => absurd hj (by omega)⟩, HCB.out, hB0⟩
  case round =>
    clear HU0 hB0
    obtain ⟨k, O, rfl, hk, hU, hO, hc, hB⟩ := hrel
    by_cases hkn : k < n
    · obtain ⟨hx, ad, rfl, hbx, hcx⟩ := h.at_ k _ (Dg.get_of_ld (by rw [HLEN.out]; exact hkn))
      have hcx := (hB.cell (p := ad.add k) (by rw [add_blk]; exact hbx)).trans hcx
      obtain ⟨x, ex⟩ : ∃ x, x = Dg.ld L k := ⟨_, rfl⟩
      rw [← ex] at hx hcx
      have EX := Lib.hid ex
      clear ex
      go_wp2_with fail
      refine (fmul_any p x s h0 hp hx hs _).mono ?_
      rintro _ w1 ⟨v, rfl, hv, hz, hb1⟩
      have hgl := hU.lt
      have hU1 := hU.below hb1 hgl
      have hB1 := hB.trans (hb1.mono hB.size)
      have hc1 := (hb1.cell (p := ⟨gb, 0, none⟩) (by simp; omega)).trans hc
      have hcell := hU1.cell (Dg.get_of_ld (L := O) (i := k) (by rw [hO.out.1]; exact hkn))
      generalize Dg.ld O k = o0 at hcell
      have hfz := hU1.frozen k
      have hU2 := hU1.set k v
      have hB2 := hB1.setCell (p := ⟨gb + 1, k, none⟩) (by simp; omega) (.int .u32 (v : Int))
      have hc2 : (w1.setCell ⟨gb + 1, k, none⟩ (.int .u32 (v : Int))).cell? ⟨gb, 0, none⟩ = some (.int .u64 p) := by go_simp
      have HX := Lib.hid (And.intro hU2 (And.intro hB2 hc2))
      clear hU2 hB2 hc2
      go_wp2
      go_roundw
      case rel => exact ⟨k + 1, O.set k v, by go_num, hkn, HX.out.1, Lib.hid ⟨by rw [List.length_set]; exact hO.out.1, hO.out.2.1.set k hv, hO.out.2.2.set (by rw [hO.out.1]; exact hkn) (by unfold Pm.co; rw [← EX.out, Int.mul_comm]; exact hz.out)⟩, HX.out.2.2, HX.out.2.1⟩
      case measure => simp [intOf]; omega
    · obtain rfl : k = n := by omega
      have hR := hU.rd (hO.out.2.1.wd hp) (B := wr.heap.size) hU.lt (k := k) (by rw [hO.out.1]; exact Nat.le_refl _) (by rw [hO.out.1]; exact Nat.le_trans h.le h.mx)
      rw [hO.out.1, List.take_of_length_le (by rw [hO.out.1]; exact Nat.le_refl _)] at hR
      go_wp2_with fail
      refine (mtrim_any hR (by omega)).mono ?_
      rintro _ _ ⟨m, rfl, hm, rfl⟩
      go_wp2
      go_ret
      exact ⟨_, m, k, O.take m, rfl, hU.po (hO.out.2.1.wd hp) (by omega) hm.out.1 (by have := hm.out.1; rw [hO.out.1] at this; exact this) (Nat.le_trans h.le h.mx), Lib.hid (cut_pn hO.out.2.1 (Upto.all (by rw [hO.out.1]; exact hO.out.2.2) (fun j hj => by
        have := (Pm.cz.refl (p := p) (s : Int)).mul (co_end (p := p) (L := L) (j := j) (by rw [HLEN.out, ← hO.out.1]; exact hj))
        rwa [Int.mul_zero] at this)) hm.out), hB⟩

theorem mo_of {p : Nat} {L O : List Nat} {v : Nat} (hl : 0 < L.length) (hv : Pm.cz p ((v : Int) * (Dg.ld L (L.length - 1) : Nat)) 1) (h : Pm.Pn p O ∧ Pm.Cg p (Pm.co O) (fun k => (v : Int) * Pm.co L k)) : Pm.Mo p L O :=
  ⟨h.1, fun h0 => by rw [h0] at hl; simp at hl, fun _ => ⟨v, hv, h.2⟩⟩
theorem Tabs.drew {w : World} (h : Tabs w) : Tabs w.drew := ⟨h.size, h.tz, h.b0, h.b1, h.b2⟩
theorem RdU.drew {w : World} {B : Nat} {A : Option Addr} {n c : Nat} {L : List Nat} (h : RdU w B A n c L) : RdU w.drew B A n c L := ⟨h.len, h.le, h.mx, h.at_⟩
set_option maxRecDepth 100000 in
set_option maxHeartbeats 1000000 in
theorem mmonic_any {A : Option Addr} {n c : Nat} {L : List Nat} {w : World} (p : Nat) (hpr : Nt.Pr p) (hp : p < 4294967296) (h : RdU w w.heap.size A n c L) (hn : n ≤ 17592186044416) (hL : Pm.Pn p L) (hT : Tabs w) :
    Calls Tryz.prog 33 #[.agg #[.int .u64 p], .slice A n c] w (RetQ (Pm.Mo p L) w) := by
  have HP := Lib.hid hpr
  have hpos := hpr.pos
  have HLEN := Lib.hid h.len
  have HL := Lib.hid hL
  clear hpr hL
  rcases Nat.eq_zero_or_pos n with hn0 | hn0
  · have hl := List.eq_nil_of_length_eq_zero (HLEN.out.trans hn0)
    subst hn0 hl
    go_enter Tryz.func33, Tryz.ntmps33
    go_wp2
    go_ret
    exact ⟨none, 0, 0, [], rfl, Po.nil _ _ 0 none (Nat.zero_le _), Lib.hid ⟨Pm.Pn.nil, fun _ => rfl, fun h => by simp at h⟩, below1 _ _⟩
  · obtain ⟨hx, ad, rfl, hbx, hcx⟩ := h.at_ (n - 1) _ (Dg.get_of_ld (by rw [HLEN.out]; omega))
    obtain ⟨x, ex⟩ : ∃ x, x = Dg.ld L (n - 1) := ⟨_, rfl⟩
    rw [← ex] at hx hcx
    have hne : ¬ x % p = 0 := by
      have h1 := Pm.nm_top HL.out.1 (by rw [HLEN.out]; exact hn0)
      rw [HLEN.out, ← ex] at h1
      have h2 := HL.out.lt hpos (n - 1)
      rw [← ex] at h2
      rwa [Nat.mod_eq_of_lt h2]
    have EX := Lib.hid ex
    have HNE := Lib.hid hne
    have h1 : ((n : Int) == 0) = false := by simp; omega
    obtain ⟨m, hm⟩ : ∃ m, m = n - 1 := ⟨_, rfl⟩
    rw [← hm] at hcx
    have hs1 : IntKind.i64.wrap ((n : Int) - 1) = (m : Int) := by rw [IntWalk.i64_in _ (by omega)]; omega
    have hm0 : (0 : Int) ≤ (m : Int) := by omega
    have hm1 : (m : Int) < (n : Int) := by omega
    clear hm
    have hB0 := below1 w (.cells #[.int .u64 p] 51)
    have hcb : (w.alloc (.cells #[.int .u64 p] 51)).cell? ⟨w.heap.size, 0, none⟩ = some (.int .u64 p) := by go_simp
    have hct : (w.alloc (.cells #[.int .u64 p] 51)).cell? (ad.add m) = some (.int .u32 x) := (hB0.cell (p := ad.add m) (by rw [add_blk]; exact hbx)).trans hcx
    have hT1 := hT.alloc (.cells #[.int .u64 p] 51)
    have hR1 := h.next hB0
    have hsz : w.heap.size < (w.alloc (.cells #[.int .u64 p] 51)).heap.size := by simp
    clear ex hne hcx
    go_enter Tryz.func33, Tryz.ntmps33
    go_wp2_with fail
    generalize w.alloc (.cells #[.int .u64 p] 51) = W1 at hcb hct hT1 hR1 hB0 hsz ⊢
    have HBA := Lib.hid (show (ad.add m).block < W1.heap.size by rw [add_blk]; omega)
    go_region_held3 (fun w' => w'.cell? ⟨w.heap.size, 0, none⟩ = some (.int .u64 p) ∧ w'.cell? (ad.add m) = some (.int .u32 x)) (go_keep)
      (first
        | (go_at_call 53; refine (finv_any p x HP.out hp hx HNE.out _ hT1.drew).mono ?_; rintro _ w1 ⟨v, rfl, hv, hz, hb1⟩; have hcb1 := (hb1.cell (p := ⟨w.heap.size, 0, none⟩) hsz).trans hcb; have hct1 := (hb1.cell (p := ad.add m) (HBA.out)).trans hct)
        | (go_at_call 52; refine (mscale_any p v hpos hp (by omega) (hR1.drew.next hb1) hn).mono ?_; rintro _ w2 ⟨A2, n2, c2, L2, rfl, ho2, hl2, hb2⟩; have hcb2 := (hb2.cell (p := ⟨w.heap.size, 0, none⟩) (Nat.lt_of_lt_of_le hsz hb1.size)).trans hcb1; have hct2 := (hb2.cell (p := ad.add m) (Nat.lt_of_lt_of_le HBA.out hb1.size)).trans hct1))
    go_wp2
    go_ret
    have hb := (hB0.drew.trans (hb1.mono hB0.size)).trans (hb2.mono (Nat.le_trans hB0.size hb1.size))
    exact ⟨A2, n2, c2, L2, rfl, ho2.base (Nat.le_trans hB0.size hb1.size), Lib.hid (mo_of (by rw [HLEN.out]; omega) (by rw [HLEN.out, ← EX.out]; exact hz.out) hl2.out), hb⟩
end Go.Proofs.YtmgacikdgbedfaaGreatDoor
