/- nat: of a number, as a number, how long, which one is greater. -/
import Derived.Test.YtipbpdiahemmpaaGreatN1
import Derived.Test.YtipbpdiahemmpaaGreatRz
import Derived.Test.YtipbpdiahemmpaaGreatSh
namespace Go.Proofs.YtipbpdiahemmpaaGreat
open Go.RowKit Go.IntWalk

theorem cells_two {w : World} {x y : Nat} (hx : x < 4294967296) (hy : y < 4294967296) (o : Obj) (ho : o = .cells #[.int .u32 x, .int .u32 y] 35) : RdU (w.alloc o) (w.alloc o).heap.size (some ⟨w.heap.size, 0, none⟩) 2 2 [x, y] := by
  subst ho
  refine ⟨rfl, Nat.le_refl _, by unfold maxLen; omega, fun j u hu => ?_⟩
  have hj := some_lt hu
  simp at hj
  rcases j with _ | _ | j
  · obtain rfl : x = u := by simpa using hu
    exact ⟨hx, _, rfl, by simp, by simp [Addr.add, World.cell?_alloc_new]⟩
  · obtain rfl : y = u := by simpa using hu
    exact ⟨hy, _, rfl, by simp, by simp [Addr.add, World.cell?_alloc_new]⟩
  · omega

set_option maxHeartbeats 400000 in
theorem nOf_any (n : Nat) {ni : Int} (hni : ni = n) (hn : n < 18446744073709551616) (w : World) :
    Calls Tryz.prog 212 #[.int .u64 ni] w (RetN n w) := by
  subst hni
  have h1 : n % 4294967296 < 4294967296 := Nat.mod_lt _ (by omega)
  have h2 : n / 4294967296 < 4294967296 := by omega
  go_enter Tryz.func212, Tryz.ntmps212
  go_wp2_with fail
  refine (own_any (cells_two h1 h2 _ (by simp)) (by omega)).mono ?_
  rintro _ w1 ⟨A1, m1, c1, x1, rfl, hO, hx, hb⟩
  have hB := (Below.refl w.heap.size w).alloc (Nat.le_refl _) (.cells #[.int .u32 ((n : Int) % 4294967296), .int .u32 ((n : Int) / 4294967296)] 35)
  have HX := Lib.hid (hx.out.trans (Dg.val_two n))
  go_wp2
  go_ret
  exact ⟨_, _, _, _, rfl, hO.base hB.size, HX, hB.trans (hb.mono hB.size)⟩

set_option maxHeartbeats 400000 in
theorem len_any {A : Option Addr} {n c : Nat} {L : List Nat} {w : World} (h : RdU w w.heap.size A n c L) (hn : n ≤ 17592186044416) :
    Calls Tryz.prog 184 #[.slice A n c] w fun e w' => ∃ z : Nat, e = .returned (.int .i64 z) ∧ Hid (z = 0 ↔ Dg.val L = 0) ∧ w = w' := by
  have hlen := Lib.hid h.len
  go_enter Tryz.func184, Tryz.ntmps184
  go_wp2_with fail
  refine (trim_any h (by omega)).mono ?_
  rintro _ _ ⟨k, rfl, hk, rfl⟩
  have hkl := hk.out.1
  have hkn : k ≤ n := by rw [hlen.out] at hkl; exact hkl
  rcases Nat.eq_zero_or_pos k with h0 | h0
  · subst h0
    have HZ := Lib.hid (Dg.dg_nil.1 (hk.out.2.symm.trans (List.take_zero)))
    clear hkl
    go_wp2
    go_ret
    exact ⟨0, rfl, Lib.hid ⟨fun _ => HZ.out, fun _ => rfl⟩, rfl⟩
  · obtain ⟨j, rfl⟩ : ∃ j, k = j + 1 := ⟨k - 1, by omega⟩
    have hj : j < (L.take (j + 1)).length := by rw [List.length_take]; omega
    obtain ⟨hx, ad, rfl, hb, hc⟩ := (h.take hkn).at_ j (Dg.ld (L.take (j + 1)) j) (Dg.get_of_ld hj)
    have hpos : Dg.ld (L.take (j + 1)) j ≠ 0 := by
      have hne : L.take (j + 1) ≠ [] := fun e => by rw [e] at hj; simp at hj
      have hnm := Dg.dg_nm (Dg.val L)
      rw [← hk.out.2] at hnm
      have hh := hnm hne
      rw [List.getLast_eq_getElem] at hh
      rw [Dg.ld_lt hj]
      simpa [List.length_take, Nat.min_eq_left hkl] using hh
    have HNZ := Lib.hid (show Dg.val L ≠ 0 by
      intro h0
      have := hk.out.2
      rw [h0, Dg.dg_zero] at this
      rw [this] at hj
      simp at hj)
    generalize Dg.ld (L.take (j + 1)) j = x at hx hc hpos
    clear hj hkl
    have HP := Lib.hid hpos
    clear hpos
    go_wp2_with fail
    refine (bits_Len32 _ _ (by omega) (by omega)).mono ?_
    rintro _ _ ⟨rfl, rfl⟩
    have hbl := Lib.hid (Lib.bitLen_half x HP.out (by omega))
    have hle : Lib.bitLen x ≤ 64 := Lib.bitLen_le x 64 (Nat.le_refl _) (by omega)
    go_wp2
    go_ret
    refine ⟨32 * j + Lib.bitLen x, ?_, Lib.hid ⟨fun h => ?_, fun h => absurd h HNZ.out⟩, rfl⟩
    · exact ret_i (by simp)
    · have := hbl.out; omega

set_option maxHeartbeats 2000000 in
theorem cmp_any {A A' : Option Addr} {n c n' c' : Nat} {L L' : List Nat} {w : World} (h : RdU w w.heap.size A n c L) (h' : RdU w w.heap.size A' n' c' L') (hn : n ≤ 17592186044416) (hn' : n' ≤ 17592186044416) :
    Calls Tryz.prog 192 #[.slice A n c, .slice A' n' c'] w (RetZD (Dg.cmp (Dg.val L) (Dg.val L')) w) := by
  have hlen := Lib.hid h.len
  have hlen' := Lib.hid h'.len
  go_enter Tryz.func192, Tryz.ntmps192
  go_wp2_with fail
  refine (trim_any h (by omega)).mono ?_
  rintro _ _ ⟨k, rfl, hk, rfl⟩
  go_wp2_with fail
  refine (trim_any h' (by omega)).mono ?_
  rintro _ _ ⟨k', rfl, hk', rfl⟩
  have hkn : k ≤ n := by have := hk.out.1; rw [hlen.out] at this; exact this
  have hkn' : k' ≤ n' := by have := hk'.out.1; rw [hlen'.out] at this; exact this
  have hl1 : (Dg.dg (Dg.val L)).length = k := by rw [← hk.out.2, List.length_take]; have := hk.out.1; omega
  have hl2 : (Dg.dg (Dg.val L')).length = k' := by rw [← hk'.out.2, List.length_take]; have := hk'.out.1; omega
  have hR := h.take hkn
  have hR' := h'.take hkn'
  rw [hk.out.2] at hR
  rw [hk'.out.2] at hR'
  have HL1 := Lib.hid hl1
  have HL2 := Lib.hid hl2
  by_cases hne : k = k'
  · subst hne
    clear hl1 hl2
    have hee : ((k : Int) != (k : Int)) = false := by simp
    go_wp2_with fail
    go_loopw [5] (fun i wr => ∃ j d : Nat, wr = w.drewN d ∧ j ≤ k ∧ i = .int .i64 ((j : Int) - 1) ∧ Hid (∀ x, j ≤ x → Dg.ld (Dg.dg (Dg.val L)) x = Dg.ld (Dg.dg (Dg.val L')) x)) (fun i _ => (intOf i + 1).toNat)
    case atStart => exact ⟨k, 0, rfl, Nat.le_refl _, rfl, Lib.hid fun x hx => by rw [Dg.ld_ge (by rw [HL1.out]; exact hx), Dg.ld_ge (by rw [HL2.out]; exact hx)]⟩
    case round =>
      obtain ⟨j, d, rfl, hj, rfl, hE⟩ := hrel
      rcases Nat.eq_zero_or_pos j with h0 | h0
      · subst h0
        go_wp2
        go_ret
        exact ⟨0, rfl, Lib.hid (Dg.cmp_eq (by rw [← Dg.val_dg (Dg.val L), ← Dg.val_dg (Dg.val L')]; exact Dg.eq_of_ld fun x => hE.out x (Nat.zero_le _))).symm, _, rfl⟩
      · obtain ⟨t, rfl⟩ : ∃ t, j = t + 1 := ⟨j - 1, by omega⟩
        obtain ⟨hx, ad, rfl, hb, hc⟩ := hR.at_ t _ (Dg.get_of_ld (by rw [HL1.out]; omega))
        obtain ⟨hx', ad', rfl, hb', hc'⟩ := hR'.at_ t _ (Dg.get_of_ld (by rw [HL2.out]; omega))
        have HT : Hid (∀ x, t < x → Dg.ld (Dg.dg (Dg.val L)) x = Dg.ld (Dg.dg (Dg.val L')) x) := Lib.hid fun x hx => hE.out x hx
        have HEX := Lib.hid (show Dg.ld (Dg.dg (Dg.val L)) t = Dg.ld (Dg.dg (Dg.val L)) t from rfl)
        obtain ⟨x, ex⟩ : ∃ x, x = Dg.ld (Dg.dg (Dg.val L)) t := ⟨_, rfl⟩
        obtain ⟨y, ey⟩ : ∃ y, y = Dg.ld (Dg.dg (Dg.val L')) t := ⟨_, rfl⟩
        rw [← ex] at hx hc
        rw [← ey] at hx' hc'
        have EX := Lib.hid ex
        have EY := Lib.hid ey
        clear ex ey HEX hE hee
        rcases Nat.lt_trichotomy x y with hlt | heq | hgt
        · have hne1 : ((x : Int) != (y : Int)) = true := by simp; omega
          have HC := Lib.hid (Dg.cmp_lt (by
            have := Dg.lt_of_top (Dg.dg_wd _) HT.out (show Dg.ld (Dg.dg (Dg.val L)) t < Dg.ld (Dg.dg (Dg.val L')) t by rw [← EX.out, ← EY.out]; exact hlt)
            rwa [Dg.val_dg, Dg.val_dg] at this))
          go_wp2
          go_quiet (fail)
          go_wp2
          go_quiet (fail)
          go_wp2
          go_ret
          exact ⟨-1, rfl, Lib.hid HC.out.symm, _, by rw [World.drewN_drewN, World.drewN_drewN]⟩
        · subst heq
          go_wp2
          go_quiet (fail)
          go_wp2
          go_roundw
          case rel => exact ⟨t, _, rfl, by omega, rfl, Lib.hid fun x hx => by
            rcases Nat.lt_or_ge t x with h1 | h1
            · exact HT.out x h1
            · rw [show x = t by omega, ← EX.out, ← EY.out]⟩
          case measure => simp [intOf]
        · have hne1 : ((x : Int) != (y : Int)) = true := by simp; omega
          have hnl : ¬ (x : Int) < (y : Int) := by omega
          have HC := Lib.hid (Dg.cmp_gt (by
            have := Dg.lt_of_top (Dg.dg_wd _) (fun x hx => (HT.out x hx).symm) (show Dg.ld (Dg.dg (Dg.val L')) t < Dg.ld (Dg.dg (Dg.val L)) t by rw [← EX.out, ← EY.out]; exact hgt)
            rwa [Dg.val_dg, Dg.val_dg] at this))
          go_wp2
          go_quiet (fail)
          go_wp2
          go_quiet (fail)
          go_wp2
          go_ret
          exact ⟨1, rfl, Lib.hid HC.out.symm, _, by rw [World.drewN_drewN, World.drewN_drewN]⟩
  · have hne1 : ((k : Int) != (k' : Int)) = true := by simp; omega
    by_cases hlt : k < k'
    · have HC := Lib.hid (Dg.cmp_lt (Dg.lt_of_len (show (Dg.dg (Dg.val L)).length < (Dg.dg (Dg.val L')).length by rw [hl1, hl2]; exact hlt)))
      clear hl1 hl2 hne
      go_wp2
      go_ret
      exact ⟨-1, rfl, Lib.hid HC.out.symm, 0, rfl⟩
    · have HC := Lib.hid (Dg.cmp_gt (Dg.lt_of_len (show (Dg.dg (Dg.val L')).length < (Dg.dg (Dg.val L)).length by rw [hl1, hl2]; omega)))
      have hnl : ¬ (k : Int) < (k' : Int) := by omega
      clear hl1 hl2 hne
      go_wp2
      go_ret
      exact ⟨1, rfl, Lib.hid HC.out.symm, 0, rfl⟩
end Go.Proofs.YtipbpdiahemmpaaGreat
