/- The law PrimeParts. -/
import Derived.Test.YtjnhfakdpnnboaaDoorZh
namespace Go.Proofs.YtjnhfakdpnnboaaDoor
open Go.RowKit Go.IntWalk

theorem tot_sum {n : Nat} {C : List Nat} (h : DivOf n C) : (C.map tot).sum = n := by
  rcases Nat.eq_zero_or_pos n with h0 | h0
  · rw [h.1 h0, h0]; rfl
  · obtain ⟨L, h1, h2, _⟩ := h.2 h0
    have h3 := (h2.map tot).sum_nat
    rw [h3, ← Nt.divs_tot h1]
    congr 1
    apply List.map_congr_left
    intro d hd
    have h4 := Nt.divs_dvd L (M := [1]) (D := 1) (fun x hx => by rw [List.mem_singleton.1 hx]; exact Nat.dvd_refl _) d hd
    rw [Nat.one_mul, h1.prod] at h4
    have : 0 < d := Nat.pos_of_dvd_of_pos h4 h0
    rw [tot, if_neg (by omega)]
theorem div_of {n d : Nat} {C : List Nat} (h : DivOf n C) (hd : d ∈ C) : 0 < d ∧ d ∣ n ∧ d ≤ n := by
  rcases Nat.eq_zero_or_pos n with h0 | h0
  · rw [h.1 h0] at hd; simp at hd
  · obtain ⟨L, h1, h2, _⟩ := h.2 h0
    have h4 := Nt.divs_dvd L (M := [1]) (D := 1) (fun x hx => by rw [List.mem_singleton.1 hx]; exact Nat.dvd_refl _) d (h2.mem_iff.1 hd)
    rw [Nat.one_mul, h1.prod] at h4
    exact ⟨Nat.pos_of_dvd_of_pos h4 h0, h4, Nat.le_of_dvd h0 h4⟩
theorem sum_take {C : List Nat} {i d : Nat} (f : Nat → Nat) (h : C[i]? = some d) : ((C.take (i + 1)).map f).sum = ((C.take i).map f).sum + f d := by
  rw [List.take_add_one, h]; simp
theorem sum_take_le (C : List Nat) (f : Nat → Nat) (i : Nat) : ((C.take i).map f).sum ≤ (C.map f).sum := by
  conv => rhs; rw [← List.take_append_drop i C]
  rw [List.map_append, List.sum_append_nat]
  omega
/-- Where the walk over the factors stands. -/
structure Pt (n : Nat) (L : List (Nat × Nat)) (i last prod : Nat) : Prop where
  fac : FacOf n L
  last : ∀ x ∈ L.drop i, last < x.1
  prod : prod = Nt.fprod (L.take i)
theorem Pt.start {n : Nat} {L : List (Nat × Nat)} (h : FacOf n L) : Pt n L 0 1 1 := by
  refine ⟨h, fun x hx => ?_, by simp [Nt.fprod]⟩
  rcases Nat.eq_zero_or_pos n with h0 | h0
  · rw [h.1 h0] at hx; simp at hx
  · exact ((h.2 h0).pr x (by simpa using hx)).1.1
theorem Pt.pos {n i last prod : Nat} {L : List (Nat × Nat)} (h : Pt n L i last prod) {x : Nat × Nat} (hx : L[i]? = some x) : 0 < n := by
  rcases Nat.eq_zero_or_pos n with h0 | h0
  · rw [h.fac.1 h0] at hx; simp at hx
  · exact h0
theorem Pt.here {n i last prod : Nat} {L : List (Nat × Nat)} (h : Pt n L i last prod) {p k : Nat} (hx : L[i]? = some (p, k)) : last < p ∧ Nt.Pr p ∧ 1 ≤ k ∧ 2 ^ k ≤ n ∧ p ≤ n ∧ prod * p ^ k ∣ n := by
  have h0 := h.pos hx
  have h1 := (h.fac.2 h0).pr _ (List.mem_of_getElem? hx)
  have h2 := (h.fac.2 h0).exp _ (List.mem_of_getElem? hx)
  refine ⟨h.last (p, k) ?_, h1.1, h1.2, h2.1, h2.2, ?_⟩
  · rw [List.drop_eq_getElem?_toList_append, hx]; simp
  · rw [h.prod, ← Nt.fprod_take hx]
    have := Nt.take_dvd L (i + 1)
    rwa [(h.fac.2 h0).prod] at this
theorem Pt.next {n i last prod : Nat} {L : List (Nat × Nat)} (h : Pt n L i last prod) {p k : Nat} (hx : L[i]? = some (p, k)) : Pt n L (i + 1) p (prod * p ^ k) := by
  refine ⟨h.fac, fun x hm => ?_, by rw [Nt.fprod_take hx, h.prod]⟩
  have h0 := h.pos hx
  have h3 := (h.fac.2 h0).sorted
  have h4 : L.drop i = (p, k) :: L.drop (i + 1) := by rw [List.drop_eq_getElem?_toList_append, hx]; rfl
  have h5 : (L.drop i).Pairwise (fun x y => x.1 < y.1) := h3.sublist (List.drop_sublist i L)
  rw [h4] at h5
  exact (List.pairwise_cons.1 h5).1 x hm
theorem Pt.done {n last prod : Nat} {L : List (Nat × Nat)} (h : Pt n L L.length last prod) (h0 : 0 < n) : prod = n := by
  rw [h.prod, List.take_length, (h.fac.2 h0).prod]
set_option maxRecDepth 100000 in
set_option maxHeartbeats 4000000 in
theorem walk_PrimeParts (n : Nat) (hn : n < 4294967296) (w : World) (hT : Tabs w) : Calls Tryd.prog 14 #[.int .u32 n] w (RetT w) := by
  have H1 := Lib.hid (fun w0 : World => facs_any n hn w0)
  have H3 := Lib.hid (fun w0 : World => divs_any n hn w0)
  have HT := Lib.hid hT
  clear hT
  go_enter Tryd.func14, Tryd.ntmps14
  go_wp2_with fail
  refine (H1.out _).mono ?_
  rintro _ w1 ⟨A1, c1, L, rfl, hL, hA, hB1⟩
  have hl1 := hL.out.len hn
  have HT1 := Lib.hid (HT.out.below hB1)
  go_wp2_with fail
  go_loopg [3, 4, 13] L.length (fun gk pv lv iv wr => ∃ (i last prod : Nat), i + gk = L.length ∧ pv = .int .u64 prod ∧ lv = .int .u32 last ∧ iv = .int .i64 i ∧ (last < 4294967296 ∧ prod ≤ 4294967296) ∧ Hid (Pt n L i last prod) ∧ Below w1.heap.size w1 wr)
  case atStart => exact ⟨0, 1, 1, by omega, rfl, rfl, rfl, by omega, Lib.hid (Pt.start hL.out), Below.refl _ _⟩
  case round =>
    obtain ⟨i, last, prod, hig, rfl, rfl, rfl, hlp, hP, hB2⟩ := hrel
    by_cases hil : i < L.length
    · obtain ⟨W, rfl⟩ : ∃ W : World, W = wr := ⟨_, rfl⟩
      obtain ⟨gi, rfl⟩ : ∃ g, gk = g + 1 := ⟨gk - 1, by omega⟩
      obtain ⟨⟨p, k⟩, hx⟩ : ∃ x, L[i]? = some x := ⟨_, List.getElem?_eq_getElem hil⟩
      obtain ⟨gb, rfl, hgl, hc0, hc1⟩ := (hA.below hB2).at_ i _ hx
      obtain ⟨q1, q2, q3, q4, q5, q6⟩ := hP.out.here hx
      have h0 := hP.out.pos hx
      have hk32 := len32 q4 hn
      simp only at hc0 hc1
      have HN := Lib.hid (hP.out.next hx)
      have HD := Lib.hid (show ∀ t, t ≤ k → prod * p ^ t ≤ n from fun t ht => Nat.le_of_dvd h0 (Nat.dvd_trans (Nat.mul_dvd_mul_left _ (Nat.pow_dvd_pow p ht)) q6))
      have HPR := Lib.hid q2
      have g1 : decide ((p : Int) ≤ (last : Int)) = false := by simp; omega
      have g2 : decide ((k : Int) < 1) = false := by simp; omega
      have g3 : decide ((32 : Int) < (k : Int)) = false := by simp; omega
      have hf0 : (W.alloc (.cells #[.int .u32 p, .int .i64 k] 63)).cell? ⟨W.heap.size, 0, none⟩ = some (.int .u32 p) := by go_simp
      have HF0 := Lib.hid hf0
      have HBA := Lib.hid (hB2.alloc hB2.size (.cells #[.int .u32 p, .int .i64 k] 63))
      have HIS := Lib.hid (is_true q2 rfl (by omega) (W.alloc (.cells #[.int .u32 p, .int .i64 k] 63)) (HT1.out.below HBA.out))
      clear hx q2 q4 q6 hf0
      go_wp2_with fail
      refine HIS.out.mono ?_
      rintro _ _ ⟨rfl, rfl⟩
      clear hc0 hc1 HIS
      go_wp2_with fail
      go_loopg [3, 41] k (fun gk pv tv wx => ∃ (t pr : Nat), t + gk = k ∧ pv = .int .u64 pr ∧ tv = .int .i64 t ∧ pr ≤ 4294967296 ∧ Hid (pr = prod * p ^ t) ∧ wx.cell? ⟨W.heap.size, 0, none⟩ = some (.int .u32 p) ∧ Below w1.heap.size w1 wx)
      case atStart => exact ⟨0, prod, by omega, rfl, rfl, hlp.2, Lib.hid (by simp), HF0.out, HBA.out⟩
      case round =>
        obtain ⟨t, pr, htg, rfl, rfl, hpr, hT, hcf, hB3⟩ := hrel
        by_cases htk : t < k
        · obtain ⟨gt, rfl⟩ : ∃ g, gk = g + 1 := ⟨gk - 1, by omega⟩
          obtain ⟨pr', hpr'⟩ : ∃ x, x = pr * p := ⟨_, rfl⟩
          have HT2 := Lib.hid (show pr' = prod * p ^ (t + 1) by rw [hpr', hT.out, Nat.pow_succ, Nat.mul_assoc])
          have hle : pr' ≤ n := by rw [HT2.out]; exact HD.out (t + 1) htk
          have hm : IntKind.u64.wrap ((pr : Int) * p) = (pr' : Int) := by
            rw [show (pr : Int) * p = (pr' : Int) by rw [hpr']; simp, IntKind.wrap_u64]; omega
          have hgn : decide ((n : Int) < (pr' : Int)) = false := by simp; omega
          clear hpr'
          go_wp2_with fail
          go_roundg gt
          case measure => omega
          case rel => exact ⟨t + 1, pr', by omega, rfl, by go_num, by omega, HT2, hcf, hB3⟩
        · obtain rfl : t = k := by omega
          have HN2 := Lib.hid (show Pt n L (i + 1) p pr by rw [hT.out]; exact HN.out)
          go_wp2
          go_roundg gi
          case measure => omega
          case rel => exact ⟨i + 1, p, pr, by omega, rfl, rfl, by go_num, by omega, HN2, hB3⟩
    · obtain rfl : i = L.length := by omega
      have HB2 := Lib.hid (hB1.trans (hB2.mono hB1.size))
      have hgd : 0 < n → prod = n := hP.out.done
      clear hA hB1 hB2 H1
      have HGD := Lib.hid hgd
      clear hgd
      go_upto_region 16 with fail
      obtain ⟨W, rfl⟩ : ∃ W : World, W = wr := ⟨_, rfl⟩
      go_cut [61] from 54 to 61 (fun v wx => v = .bool false ∧ W = wx)
      case first =>
        rcases Nat.eq_zero_or_pos n with h0 | h0
        · have gz : decide ((0 : Int) < (n : Int)) = false := by simp; omega
          have gzN : decide (0 < n) = false := by simp; omega
          clear h0
          go_wp2_with fail
          go_meet
          exact ⟨rfl, rfl⟩
        · have gz : decide ((0 : Int) < (n : Int)) = true := by simp; omega
          have gzN : decide (0 < n) = true := by simp; omega
          obtain rfl := HGD.out h0
          go_wp2_with fail
          go_meet
          exact ⟨rfl, rfl⟩
      case rest =>
        obtain ⟨rfl, rfl⟩ := hcut
        go_wp2_with fail
        refine (H3.out _).mono ?_
        rintro _ w3 ⟨A3, c3, C, rfl, hC, hA3, hB3⟩
        have hl2 := hC.out.len
        have HB3 := Lib.hid (HB2.out.trans (hB3.mono HB2.out.size))
        clear H3 hB3
        go_wp2_with fail
        go_loopg [7, 65] C.length (fun gk sv jv wx => ∃ (j s : Nat), j + gk = C.length ∧ sv = .int .u64 s ∧ jv = .int .i64 j ∧ s ≤ n ∧ Hid (s = ((C.take j).map tot).sum) ∧ Below w3.heap.size w3 wx)
        case atStart => exact ⟨0, 0, by omega, rfl, rfl, Nat.zero_le _, Lib.hid (by simp), Below.refl _ _⟩
        case round =>
          obtain ⟨j, s, hjg, rfl, rfl, hsn, hS, hB4⟩ := hrel
          by_cases hjl : j < C.length
          · obtain ⟨Wj, rfl⟩ : ∃ W : World, W = wr := ⟨_, rfl⟩
            obtain ⟨gj, rfl⟩ : ∃ g, gk = g + 1 := ⟨gk - 1, by omega⟩
            obtain ⟨d, hx⟩ : ∃ x, C[j]? = some x := ⟨_, List.getElem?_eq_getElem hjl⟩
            obtain ⟨ga, rfl, hgl, hc0⟩ := (hA3.below hB4) j _ hx
            obtain ⟨q1, q2, q3⟩ := div_of hC.out (List.mem_of_getElem? hx)
            have gd0 : ((d : Int) == 0) = false := by simp; omega
            have gdm : (n : Int) % d = 0 := emod_zero rfl (Nat.mod_eq_zero_of_dvd q2)
            have HTT := Lib.hid (fun w0 : World => tots_any d (by omega) w0)
            obtain ⟨s', hs'⟩ : ∃ x, x = s + tot d := ⟨_, rfl⟩
            have HS' := Lib.hid (show s' = ((C.take (j + 1)).map tot).sum by rw [sum_take tot hx, hs', hS.out])
            have hsn' : s' ≤ n := by
              rw [HS'.out, ← tot_sum hC.out]
              exact sum_take_le C tot (j + 1)
            have HSS := Lib.hid hs'
            clear hx hs' q2
            go_wp2_with fail
            refine (HTT.out _).mono ?_
            rintro _ w5 ⟨t, rfl, ht, hB5⟩
            have hts : (s : Int) + t = (s' : Int) := by rw [HSS.out, ht.out]; simp
            have htn : t ≤ n := by omega
            have HB5 := Lib.hid (hB4.trans (hB5.mono hB4.size))
            clear HTT hc0 hB5
            go_wp2_with fail
            go_roundg gj
            case measure => omega
            case rel => exact ⟨j + 1, s', by omega, rfl, by go_num, hsn', HS', HB5.out⟩
          · obtain rfl : j = C.length := by omega
            have hsn2 : s = n := by rw [hS.out, List.take_length, tot_sum hC.out]
            subst hsn2
            have HB6 := Lib.hid (HB3.out.trans (hB4.mono HB3.out.size))
            have HAW := Lib.hid (awake_any wr (HT.out.below HB6.out))
            clear hA3 hB4
            go_wp2_with fail
            refine HAW.out.mono ?_
            rintro _ w9 ⟨rfl, hB9⟩
            have HB9 := Lib.hid (HB6.out.trans (hB9.mono HB6.out.size))
            go_wp2
            go_ret
            exact ⟨rfl, HB9.out⟩
end Go.Proofs.YtjnhfakdpnnboaaDoor
