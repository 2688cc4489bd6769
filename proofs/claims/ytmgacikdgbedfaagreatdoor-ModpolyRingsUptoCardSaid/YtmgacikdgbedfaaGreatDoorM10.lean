/- modpoly: the derivative. -/
import Derived.Test.YtmgacikdgbedfaaGreatDoorM8
import Derived.Test.YtmgacikdgbedfaaGreatDoorPm4
namespace Go.Proofs.YtmgacikdgbedfaaGreatDoor
open Go.RowKit Go.IntWalk
attribute [local go_sem ↓] Go.wp_at_zero Go.wp_at_succ

/-- The derivative's coefficients. -/
def dco (f : Nat → Int) (k : Nat) : Int := ((k : Int) + 1) * f (k + 1)
theorem derive_step {p k k1 q x v : Nat} {L : List Nat} (hk : k1 = k + 1) (hq : q = k1 % p) (ex : x = Dg.ld L (k + 1)) (hv : Pm.cz p v ((x : Int) * q)) : Pm.cz p v (dco (Pm.co L) k) := by
  refine hv.trans ?_
  unfold dco Pm.co
  rw [← ex, Int.mul_comm, hq]
  have h1 := Pm.cz_mod (p := p) k1
  refine (h1.mul (Pm.cz.refl (p := p) (x : Int))).trans (Pm.cz.of_eq ?_)
  rw [hk]
  simp
set_option maxRecDepth 100000 in
set_option maxHeartbeats 1000000 in
theorem mderive_any {A : Option Addr} {n c : Nat} {L : List Nat} {w : World} (p : Nat) (h0 : 0 < p) (hp : p < 4294967296) (h : RdU w w.heap.size A n c L) (hn : n ≤ 17592186044416) :
    Calls Tryz.prog 46 #[.agg #[.int .u64 p], .slice A n c] w (RetPo p (dco (Pm.co L)) w) := by
  have HLEN := Lib.hid h.len
  rcases Nat.eq_zero_or_pos n with hn0 | hn0
  · subst hn0
    go_enter Tryz.func46, Tryz.ntmps46
    go_wp2
    go_ret
    exact ⟨none, 0, 0, [], rfl, Po.nil _ _ 0 none (Nat.zero_le _), Lib.hid ⟨Pm.Pn.nil, fun k => by unfold dco Pm.co; rw [Dg.ld_nil, Dg.ld_ge (by rw [HLEN.out]; exact Nat.zero_le _)]; simp; exact Pm.cz.refl _⟩, below1 _ _⟩
  · obtain ⟨m, rfl⟩ : ∃ m, n = m + 1 := ⟨n - 1, by omega⟩
    have h1 : ((m : Int) + 1 == 0) = false := by simp; omega
    have hmk := fun W : World => make_words m (by omega) W
    have hMx := Nat.le_trans h.le h.mx
    go_enter Tryz.func46, Tryz.ntmps46
    go_wp2_with fail
    have hcb : ((w.alloc (.cells #[.int .u64 p] 51)).alloc (.cells (madeCells #[.int .u32 0] m) 24)).cell? ⟨w.heap.size, 0, none⟩ = some (.int .u64 p) := by go_simp
    have HU0 := UB.made (w.alloc (.cells #[.int .u64 p] 51)) m
    have hB0 : Below w.heap.size w ((w.alloc (.cells #[.int .u64 p] 51)).alloc (.cells (madeCells #[.int .u32 0] m) 24)) := (below1 w _).alloc (by simp) _
    rw [World.size_alloc] at HU0
    have HCB := Lib.hid hcb
    clear hcb hmk
    generalize (w.alloc (.cells #[.int .u64 p] 51)).alloc (.cells (madeCells #[.int .u32 0] m) 24) = W1 at HCB HU0 hB0 ⊢
    obtain ⟨gb, hgb⟩ : ∃ gb, gb = w.heap.size := ⟨_, rfl⟩
    rw [← hgb] at HCB HU0 ⊢
    have hbb : w.heap.size ≤ gb := by omega
    have HGB := Lib.hid hgb
    clear hgb
    go_loopw [16] (fun iv wr => ∃ (k : Nat) (O : List Nat), iv = .int .i64 k ∧ k ≤ m ∧ UB wr (gb + 1) O ∧ Hid (O.length = m ∧ Lt p O ∧ Upto p O (dco (Pm.co L)) k) ∧ wr.cell? ⟨gb, 0, none⟩ = some (.int .u64 p) ∧ Below w.heap.size w wr) (fun iv _ => m - (intOf iv).toNat)
    case atStart => exact ⟨0, _, rfl, Nat.zero_le _, HU0, Lib.hid ⟨by simp, Lt.zeros h0 m, fun j hj => absurd hj (by omega)⟩, HCB.out, hB0⟩
    case round =>
      clear HU0 hB0
      obtain ⟨k, O, rfl, hk, hU, hO, hc, hB⟩ := hrel
      by_cases hkn : k < m
      · obtain ⟨hx, ad, rfl, hbx, hcx⟩ := h.at_ (k + 1) _ (Dg.get_of_ld (by rw [HLEN.out]; omega))
        have hcx := (hB.cell (p := ad.add (k + 1)) (by rw [add_blk]; exact hbx)).trans hcx
        obtain ⟨x, ex⟩ : ∃ x, x = Dg.ld L (k + 1) := ⟨_, rfl⟩
        rw [← ex] at hx hcx
        have EX := Lib.hid ex
        obtain ⟨k1, hk1⟩ : ∃ k1, k1 = k + 1 := ⟨_, rfl⟩
        rw [← hk1] at hcx
        have hs1 : IntKind.i64.wrap ((k : Int) + 1) = (k1 : Int) := by rw [IntWalk.i64_in _ (by omega)]; omega
        have hk10 : (0 : Int) ≤ (k1 : Int) := by omega
        have hk11 : (k1 : Int) < (m : Int) + 1 := by omega
        have hkk0 : (0 : Int) ≤ (k : Int) := by omega
        have hkk1 : (k : Int) < (m : Int) := by omega
        obtain ⟨q, hq⟩ : ∃ q, q = k1 % p := ⟨_, rfl⟩
        have hqp : q < p := by rw [hq]; exact Nat.mod_lt _ h0
        have hs2 : IntKind.u64.wrap (k1 : Int) = (k1 : Int) := by rw [IntWalk.u64_in _ (by omega)]
        have hs3 : (k1 : Int).tmod (p : Int) = (q : Int) := by rw [up_tmod rfl rfl, hq]
        have hpz' : ¬ p = 0 := by omega
        have hs4 : IntKind.u32.wrap (q : Int) = (q : Int) := by simp [IntKind.wrap, IntKind.bits, IntKind.signed]; omega
        have HK1 := Lib.hid hk1
        have HQ := Lib.hid hq
        have hgl := hU.lt
        have hblx : (ad.add k1).block < wr.heap.size := by rw [add_blk]; exact Nat.lt_of_lt_of_le hbx hB.size
        have HCO := Lib.hid (show ∀ w1 : World, UB w1 (gb + 1) O → ∃ o : Int, w1.cell? ⟨gb + 1, k, none⟩ = some (.int .u32 o) from fun w1 hu => ⟨_, hu.cell (Dg.get_of_ld (L := O) (i := k) (by rw [hO.out.1]; exact hkn))⟩)
        have hadg : gb + 1 ≠ (ad.add k1).block := by rw [add_blk]; omega
        clear ex hk1 hq
        go_wp2_with fail
        go_region_held3 (fun w' => w'.cell? ⟨gb, 0, none⟩ = some (.int .u64 p) ∧ w'.cell? (ad.add k1) = some (.int .u32 x)) (go_keep)
          (first
            | (go_at_call 55; refine (fmul_any p x q h0 hp hx (by omega) _).mono ?_; rintro _ w1 ⟨v, rfl, hv, hz, hb1⟩; have hc1 := (hb1.cell (p := ⟨gb, 0, none⟩) (Nat.lt_of_succ_lt hgl)).trans hc; have hcx1 := (hb1.cell (p := ad.add k1) hblx).trans hcx; have hfz1 := ((hU.drewN 1).below hb1 hgl).frozen k; obtain ⟨o5, hco5⟩ := HCO.out _ ((hU.drewN 1).below hb1 hgl)))
        have hU1 := ((hU.drewN 1).below hb1 hgl).set k v
        have hB1 := (hB.drew.trans (hb1.mono hB.size)).setCell (p := ⟨gb + 1, k, none⟩) (by simp; omega) (.int .u32 (v : Int))
        have hc2 : (w1.setCell ⟨gb + 1, k, none⟩ (.int .u32 (v : Int))).cell? ⟨gb, 0, none⟩ = some (.int .u64 p) := by go_simp
        have HX := Lib.hid (And.intro hU1 (And.intro hB1 hc2))
        clear hU1 hB1 hc2 hs1 hs2 hs3 hs4
        go_wp2
        go_roundw
        case rel => exact ⟨k + 1, O.set k v, by go_num, hkn, HX.out.1, Lib.hid ⟨by rw [List.length_set]; exact hO.out.1, hO.out.2.1.set k hv, hO.out.2.2.set (by rw [hO.out.1]; exact hkn) (derive_step HK1.out HQ.out EX.out hz.out)⟩, HX.out.2.2, HX.out.2.1⟩
        case measure => simp [intOf]; omega
      · obtain rfl : k = m := by omega
        have hkx : k ≤ maxLen := by omega
        have hR := hU.rd (hO.out.2.1.wd hp) (B := wr.heap.size) hU.lt (k := k) (by rw [hO.out.1]; exact Nat.le_refl _) (by rw [hO.out.1]; exact hkx)
        rw [hO.out.1, List.take_of_length_le (by rw [hO.out.1]; exact Nat.le_refl _)] at hR
        go_wp2_with fail
        refine (mtrim_any hR (by omega)).mono ?_
        rintro _ _ ⟨m, rfl, hm, rfl⟩
        go_wp2
        go_ret
        exact ⟨_, m, k, O.take m, rfl, hU.po (hO.out.2.1.wd hp) (by omega) hm.out.1 (by have := hm.out.1; rw [hO.out.1] at this; exact this) hkx, Lib.hid (cut_pn hO.out.2.1 (Upto.all (by rw [hO.out.1]; exact hO.out.2.2) (fun j hj => by
          unfold dco
          rw [Pm.co_zero (show L.length ≤ j + 1 by rw [HLEN.out]; rw [hO.out.1] at hj; omega), Int.mul_zero]
          exact Pm.cz.refl _)) hm.out), hB⟩
end Go.Proofs.YtmgacikdgbedfaaGreatDoor
