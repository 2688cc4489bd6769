/- Divisors: the program's walk. -/
import Derived.Test.YtjnhfakdpnnboaaDoorZb
namespace Go.Proofs.YtjnhfakdpnnboaaDoor
open Go.RowKit Go.IntWalk

theorem LU.sb' {w : World} {b g c : Nat} {C : List Nat} (h : LU w b g c C) : ∃ rest, SB w g C.toArray rest ∧ C.length + rest.length = c := by
  rcases h.2 with ⟨h1, _⟩ | ⟨g', cap, cur, h1, h2, h3, h4, h5, h6, h7⟩
  · cases h1
  · have e : g = g' ∧ c = cap := by
      injection h1 with h1 _ h8; injection h1 with h1; injection h1 with h1
      exact ⟨h1, h8⟩
    obtain ⟨rfl, rfl⟩ := e
    refine ⟨cur.toList.drop (C.length * 1), ?_, ?_⟩
    · unfold SB
      rw [h3, List.toList_toArray, ← h7, List.take_append_drop]
    · have h8 : cur.toList.length = c := by rw [Array.length_toList, h6, Nat.mul_one]
      rw [List.length_drop, h8]; omega
theorem LU.of_sb {w : World} {b g c : Nat} {d : Array Nat} {rest : List Value} (h : SB w g d rest) (hb : b ≤ g) (hc : d.size + rest.length = c) (hm : c ≤ maxLen) : LU w b g c d.toList := by
  refine ⟨by rw [uc_len, Nat.mul_one], .inr ⟨g, c, _, rfl, hb, h, by simp; omega, hm, ?_, ?_⟩⟩
  · simp [uc]; omega
  · rw [Nat.mul_one, List.toList_toArray, ← uc_len d.toList, List.take_left]
/-- slices.Sort, on a row of this function's own. -/
theorem sort_lu {w : World} {b g c : Nat} {C : List Nat} (h : LU w b g c C) (hn : C.length ≤ 1099511627776) :
    Calls Tryd.prog 66 #[.slice (some ⟨g, 0, none⟩) C.length c] w fun e w' => e = .returned (.tuple #[]) ∧
      ∃ C', LU w' b g c C' ∧ C'.length = C.length ∧ C'.Perm C ∧ C'.Pairwise (· ≤ ·) ∧ Ox g w w' := by
  obtain ⟨rest, hS, hc⟩ := h.sb'
  refine (sort_any (cap := c) hS (by simp) hn).mono ?_
  rintro e w' ⟨rfl, d', hS', ⟨hp, hs⟩, hO⟩
  have hsz : d'.size = C.length := by rw [hp.1]; simp
  refine ⟨rfl, d'.toList, LU.of_sb hS' h.le.1 (by rw [hsz]; exact hc) h.le.2.2, by simpa using hsz, ?_, ?_, hO⟩
  · have h3 := hp.2.2
    rw [show d'.extract 0 C.length = d' by rw [← hsz]; simp] at h3
    simpa using h3
  · rw [List.pairwise_iff_getElem]
    intro i j hi hj hij
    simp only [Array.length_toList] at hi hj
    have h4 := hs i j (Nat.zero_le _) hij (by omega)
    rw [getElem!_pos d' i hi, getElem!_pos d' j hj] at h4
    simp only [ltN, decide_eq_false_iff_not, Nat.not_lt] at h4
    simpa using h4

/-- The divisors come back, ascending. -/
def RetDv (n : Nat) (w : World) (e : Ending) (w' : World) : Prop := ∃ (g c : Nat) (C : List Nat), e = .returned (.slice (some ⟨g, 0, none⟩) C.length c) ∧ LU w' w.heap.size g c C ∧
  Hid (∃ L, Nt.IsFac n L ∧ C.Perm (Nt.divsN [1] L) ∧ C.Pairwise (· ≤ ·)) ∧ Below w.heap.size w w'
theorem bnd {m j k t n : Nat} (h : m * (k + 1) ≤ n) (hj : j < m) (ht : t < k) : m + j * k + t + 1 ≤ n := by
  have h1 : (j + 1) * k ≤ m * k := Nat.mul_le_mul_right k hj
  rw [Nat.succ_mul] at h1
  rw [Nat.mul_succ] at h
  omega
theorem take_flat {C : List Nat} {j d : Nat} (f : Nat → List Nat) (h : C[j]? = some d) : (C.take (j + 1)).flatMap f = (C.take j).flatMap f ++ f d := by
  rw [List.take_add_one, h]; simp
theorem take_all {C : List Nat} {j : Nat} (f : Nat → List Nat) (h : j = C.length) : (C.take j).flatMap f = C.flatMap f := by rw [h, List.take_length]

set_option maxRecDepth 100000 in
set_option maxHeartbeats 8000000 in
theorem divisors_any (n : Nat) {ni : Int} (hni : ni = n) (hn : n < 4294967296) (h0 : 0 < n) (w : World) :
    Calls Tryd.prog 44 #[.int .u32 ni] w (RetDv n w) := by
  subst hni
  obtain ⟨i0, hi, hz0, hz1, hz2⟩ := info_parts infoZ
  have h0' : ((n : Int) == 0) = false := by simp; omega
  have hU1 : LU (w.alloc (.cells #[Value.int .u32 1] 25)) w.heap.size w.heap.size 1 [1] :=
    ⟨rfl, .inr ⟨w.heap.size, 1, _, rfl, Nat.le_refl _, heap_alloc_new w _, Nat.le_refl _, by unfold maxLen; decide, rfl, rfl⟩⟩
  have HFC := Lib.hid (fun w0 : World => factors_any n rfl hn h0 w0)
  have hB1 := (Below.refl w.heap.size w).alloc (Nat.le_refl _) (.cells #[Value.int .u32 1] 25)
  go_enter Tryd.func44, Tryd.ntmps44
  go_wp2_with fail
  refine (HFC.out _).mono ?_
  rintro _ w2 ⟨v, L, rfl, hL, hown, hB⟩
  have hgf : ∀ gf, v.ownBlock = some gf → gf ≠ w.heap.size := fun gf e => by
    have := own_block hown gf e
    simp at this
    omega
  obtain ⟨ad, cap, rfl, hA⟩ := fac_slice hown
  have HGF := Lib.hid hgf
  have hlen : L.length < 32 := len32 hL.out.len hn
  have hU2 := hU1.below hB (by simp)
  have HB2 := Lib.hid (hB1.trans (hB.mono (by simp)))
  have HS2 := Lib.hid (show w.heap.size < w2.heap.size by have := hB.size; simp at this; omega)
  clear hown HFC hU1 h0' hgf hB hB1
  go_wp2_with fail
  go_loopg [3, 14] L.length (fun gk lv iv wr => ∃ (i g c : Nat) (C : List Nat), i + gk = L.length ∧ lv = .slice (some ⟨g, 0, none⟩) C.length c ∧ iv = .int .i64 i ∧ LU wr w.heap.size g c C ∧ Kp w2 w.heap.size wr g ∧
    Hid (Nt.divsN C (L.drop i) = Nt.divsN [1] L ∧ C.length ≤ Nt.fprod (L.take i) ∧ 0 < C.length ∧ ∀ x ∈ C, x ∣ Nt.fprod (L.take i)))
  case atStart => exact ⟨0, w.heap.size, 1, [1], by omega, rfl, rfl, hU2, Kp.start _ _, Lib.hid ⟨rfl, Nat.le_refl _, Nat.one_pos, fun x hx => by rw [List.mem_singleton.1 hx]; exact Nat.one_dvd _⟩⟩
  case round =>
    clear hU2
    obtain ⟨i, g, c, C, hig, rfl, rfl, hU, hK, HC⟩ := hrel
    by_cases hil : i < L.length
    · obtain ⟨W, rfl⟩ : ∃ W : World, W = wr := ⟨_, rfl⟩
      obtain ⟨gi, rfl⟩ : ∃ x, gk = x + 1 := ⟨gk - 1, by omega⟩
      obtain ⟨⟨p, k⟩, hx⟩ : ∃ x, L[i]? = some x := ⟨_, List.getElem?_eq_getElem hil⟩
      obtain ⟨gf, rfl, hgl, hc0, hc1⟩ := hA.at_ i _ hx
      have hgn := HGF.out gf rfl
      rw [← hK.cell (a := ⟨gf, i * 2, none⟩) hgl hgn] at hc0
      rw [← hK.cell (a := ⟨gf, i * 2 + 1, none⟩) hgl hgn] at hc1
      have hfp := hL.out.pr _ (List.mem_of_getElem? hx)
      have hpn := (hL.out.exp _ (List.mem_of_getElem? hx)).2
      have hkn := len32 (hL.out.exp _ (List.mem_of_getElem? hx)).1 hn
      have hp2 := hfp.1.1
      simp only at hc0 hc1 hpn hkn hp2
      have HX := Lib.hid hx
      have HFP := Lib.hid hfp
      have hstep := Lib.hid (show (Nt.stepN C p k).length ≤ Nt.fprod (L.take (i + 1)) ∧ ∀ x ∈ Nt.stepN C p k, x ∣ Nt.fprod (L.take (i + 1)) by
        rw [Nt.fprod_take hx]
        exact ⟨Nt.step_len_le hp2 HC.out.2.1, fun x hx => Nt.mem_step HC.out.2.2.2 hx⟩)
      have hfn : Nt.fprod (L.take (i + 1)) ≤ n := Nat.le_of_dvd h0 (by have := Nt.take_dvd L (i + 1); rwa [hL.out.prod] at this)
      have hCk := Lib.hid (show C.length * (k + 1) ≤ n by rw [← Nt.stepN_len C p k]; exact Nat.le_trans hstep.out.1 hfn)
      have hCn : C.length ≤ n := by
        have := hCk.out
        rw [Nat.mul_succ] at this
        omega
      clear hx hfp hfn
      have hgW := hU.lt
      have hB3 : Below W.heap.size W (W.alloc (.cells #[.int .u32 p, .int .i64 k] 63)) := (Below.refl _ _).alloc (Nat.le_refl _) _
      have hU3 := hU.below hB3 hgW
      have HCL := Lib.hid (clone_any hU3 HC.out.2.2.1 (by omega))
      go_wp2_with fail
      refine HCL.out.mono ?_
      rintro _ w3 ⟨gq, cq, rfl, hQ, hB4⟩
      have hs4 := hB4.size
      simp at hs4
      have hU4 := hU3.below hB4 (by simp; omega)
      have hf0 : w3.cell? ⟨W.heap.size, 0, none⟩ = some (.int .u32 p) := (hB4.cell (p := ⟨W.heap.size, 0, none⟩) (by simp)).trans (by go_simp)
      have hf1 : w3.cell? ⟨W.heap.size, 1, none⟩ = some (.int .i64 k) := (hB4.cell (p := ⟨W.heap.size, 1, none⟩) (by simp)).trans (by go_simp)
      have hK4 := hK.next (g' := g) (Ox.of_below g (hB3.trans (hB4.mono (by simp)))) (.inl rfl)
      have hgq := hQ.le.1
      simp at hgq
      have HQL := Lib.hid hQ.lt
      clear hc0 hc1 hU3 HCL hB3 hB4 hU
      go_wp2_with fail
      go_loopg [3, 21] C.length (fun gk lv jv wx => ∃ (j g' c' : Nat) (C' : List Nat), j + gk = C.length ∧ lv = .slice (some ⟨g', 0, none⟩) C'.length c' ∧ jv = .int .i64 j ∧ LU wx w.heap.size g' c' C' ∧ Kp w3 g wx g' ∧
        Hid (C' = C ++ (C.take j).flatMap (Nt.ray p k)))
      case atStart => exact ⟨0, g, c, C, by omega, rfl, rfl, hU4, Kp.start _ _, Lib.hid (by simp)⟩
      case round =>
        clear hU4
        obtain ⟨j, g', c', C', hjg, rfl, rfl, hU, hKj, HJ⟩ := hrel
        by_cases hjl : j < C.length
        · obtain ⟨Wj, rfl⟩ : ∃ W : World, W = wr := ⟨_, rfl⟩
          obtain ⟨gj, rfl⟩ : ∃ x, gk = x + 1 := ⟨gk - 1, by omega⟩
          obtain ⟨d0, hd⟩ : ∃ x, C[j]? = some x := ⟨_, List.getElem?_eq_getElem hjl⟩
          have hcd := (hKj.cell (a := ⟨gq, j, none⟩) HQL.out (by show gq ≠ g; omega)).trans (hQ.cell hd)
          have hck := (hKj.cell (a := ⟨W.heap.size, 1, none⟩) (by show W.heap.size < _; omega) (by show W.heap.size ≠ g; omega)).trans hf1
          have hd0 := Nat.le_of_dvd (by have := Nt.fprod_pos (L := L.take i) (fun y hy => hL.out.pr y (List.mem_of_mem_take hy)); exact this) (HC.out.2.2.2 d0 (List.mem_of_getElem? hd))
          have hdn : Nt.fprod (L.take i) ≤ n := Nat.le_of_dvd h0 (by have := Nt.take_dvd L i; rwa [hL.out.prod] at this)
          have hd0' : d0 < 4294967296 := by omega
          have HDD := Lib.hid (show d0 * p ^ k ∣ n by
            have h1 := Nt.take_dvd L (i + 1)
            rw [hL.out.prod, Nt.fprod_take HX.out] at h1
            exact Nat.dvd_trans (Nat.mul_dvd_mul_right (HC.out.2.2.2 d0 (List.mem_of_getElem? hd)) _) h1)
          have HL' := Lib.hid (show C'.length = C.length + j * k by
            rw [HJ.out, List.length_append, Nt.flat_len, List.length_take, Nat.min_eq_left (by omega)])
          have HD0 := Lib.hid hd
          clear hd hd0 hdn
          go_wp2_with fail
          clear hcd hck
          go_loopg [3, 7, 27] k (fun gk lv dv tv wy => ∃ (t g2 c2 d : Nat) (C2 : List Nat), t + gk = k ∧ lv = .slice (some ⟨g2, 0, none⟩) C2.length c2 ∧ dv = .int .u32 d ∧ tv = .int .i64 t ∧ d < 4294967296 ∧ LU wy w.heap.size g2 c2 C2 ∧ Kp w3 g wy g2 ∧
            Hid (C2 = C' ++ Nt.ray p t d0 ∧ d = d0 * p ^ t))
          case atStart => exact ⟨0, g', c', d0, C', by omega, rfl, rfl, rfl, hd0', hU, hKj, Lib.hid ⟨by simp [Nt.ray_zero], by simp⟩⟩
          case round =>
            clear hU hKj
            obtain ⟨t, g2, c2, d, C2, htg, rfl, rfl, rfl, hd, hU, hKt, HT⟩ := hrel
            by_cases htk : t < k
            · obtain ⟨Wt, rfl⟩ : ∃ W : World, W = wr := ⟨_, rfl⟩
              obtain ⟨gt, rfl⟩ : ∃ x, gk = x + 1 := ⟨gk - 1, by omega⟩
              have hcp := (hKt.cell (a := ⟨W.heap.size, 0, none⟩) (by show W.heap.size < _; omega) (by show W.heap.size ≠ g; omega)).trans hf0
              obtain ⟨d', hd'⟩ : ∃ x, x = d * p := ⟨_, rfl⟩
              have hd'n : d' ≤ n := by
                have h1 : d' = d0 * p ^ (t + 1) := by rw [hd', HT.out.2, Nat.pow_succ, Nat.mul_assoc]
                have h2 : d' ∣ n := by rw [h1]; exact Nat.dvd_trans (Nat.mul_dvd_mul_left _ (Nat.pow_dvd_pow p (by omega))) HDD.out
                exact Nat.le_of_dvd h0 h2
              have hdm : IntKind.u32.wrap ((d : Int) * p) = (d' : Int) := by
                rw [show (d : Int) * p = (d' : Int) by rw [hd']; simp, IntKind.wrap_u32]; omega
              have hC2 : C2.length + 1 ≤ n := by
                have h1 := bnd hCk.out hjl htk
                rw [HT.out.1, List.length_append, Nt.ray_len, HL'.out]
                exact h1
              have HD' := Lib.hid hd'
              have hg2 := hU.lt
              clear hd'
              obtain ⟨vv, hvv⟩ : ∃ v, v = Value.slice (some ⟨g2, 0, none⟩) C2.length c2 := ⟨_, rfl⟩
              have hown : Wt.ownsRow w.heap.size 25 1 vv C2.length (uc C2) := by rw [hvv]; exact hU
              rw [← hvv]
              have HVV := Lib.hid hvv
              have HU := Lib.hid hU
              have hbase : w.heap.size ≤ (Wt.alloc (.cells #[Value.int .u32 d'] 25)).heap.size := by
                have := hU.le.1
                simp; omega
              have HBA := Lib.hid hbase
              clear hvv hU hbase
              go_wp2_with (at_builtin; go_loud (refine wpList_append_own_at _ rfl _ _ 49 rfl w.heap.size 25 i0 (.int .u32 0) 1 4 Tryd.underlying49 hi hz0 hz1 hz2 rfl (by decide) _ _ _ rfl (hown.alloc _) ⟨Wt.heap.size, 0, none⟩ 1 1 [.int .u32 d'] rfl rfl (cell_one_new _ _ _) (by simp [Value.oneCell']) (by unfold maxLen; omega) (by omega) HBA.out ?_; intro v' w1 hown' hgrow _ hat))
              rw [HVV.out] at hgrow hat
              obtain ⟨g3, c3, rfl, hU3, hO3, hat3⟩ := LU.more hown' hgrow hat
              have hK3 := hKt.next hO3 hat3
              have HT3 := Lib.hid (show C2 ++ [d'] = C' ++ Nt.ray p (t + 1) d0 ∧ d' = d0 * p ^ (t + 1) by
                have h1 : d' = d0 * p ^ (t + 1) := by rw [HD'.out, HT.out.2, Nat.pow_succ, Nat.mul_assoc]
                exact ⟨by rw [Nt.ray_succ, ← List.append_assoc, ← HT.out.1, ← h1], h1⟩)
              clear hown hown' hgrow hat hO3 hat3 hcp
              go_wp2
              go_roundg gt
              case measure => omega
              case rel => exact ⟨t + 1, g3, c3, d', C2 ++ [d'], by omega, rfl, rfl, by go_num, by omega, hU3, hK3, HT3⟩
            · obtain rfl : t = k := by omega
              have HJ2 := Lib.hid (show C2 = C ++ (C.take (j + 1)).flatMap (Nt.ray p t) by
                rw [take_flat _ HD0.out, ← List.append_assoc, ← HJ.out]; exact HT.out.1)
              go_wp2
              go_roundg gj
              case measure => omega
              case rel => exact ⟨j + 1, g2, c2, C2, by omega, rfl, by go_num, hU, hKt, HJ2⟩
        · obtain rfl : j = C.length := by omega
          have HN := Lib.hid (show C' = Nt.stepN C p k by rw [HJ.out, List.take_length]; rfl)
          have HC2 := Lib.hid (show Nt.divsN C' (L.drop (i + 1)) = Nt.divsN [1] L ∧ C'.length ≤ Nt.fprod (L.take (i + 1)) ∧ 0 < C'.length ∧ ∀ x ∈ C', x ∣ Nt.fprod (L.take (i + 1)) by
            have h1 := HC.out.1
            rw [Nt.divsN_drop HX.out] at h1
            rw [HN.out]
            exact ⟨h1, hstep.out.1, by rw [Nt.stepN_len]; exact Nat.mul_pos HC.out.2.2.1 (Nat.succ_pos _), hstep.out.2⟩)
          have hK5 : Kp w2 w.heap.size wr g' := hK4.next hKj.ox hKj.at_
          go_wp2
          go_roundg gi
          case measure => omega
          case rel => exact ⟨i + 1, g', c', C', by omega, rfl, by go_num, hU, hK5, HC2⟩
    · obtain rfl : i = L.length := by omega
      have HD := Lib.hid (show C = Nt.divsN [1] L by have := HC.out.1; rwa [List.drop_length] at this)
      have hCn := Nt.divs_len L (M := [1]) (D := 1) hL.out.pr (Nat.le_refl _)
      rw [← HD.out, Nat.one_mul, hL.out.prod] at hCn
      have HSO := Lib.hid (sort_lu hU (by omega))
      go_wp2_with fail
      refine HSO.out.mono ?_
      rintro _ w5 ⟨rfl, C', hU5, hlen5, hp5, hs5, hO5⟩
      have HF := Lib.hid (show ∃ L, Nt.IsFac n L ∧ C'.Perm (Nt.divsN [1] L) ∧ C'.Pairwise (· ≤ ·) from ⟨L, hL.out, by rw [← HD.out]; exact hp5, hs5⟩)
      have HK := Lib.hid (HB2.out.trans ((hK.next hO5 (.inl rfl)).below (Nat.le_refl _) (Nat.le_of_lt HS2.out)))
      clear HSO hp5 hs5 hO5
      go_wp2
      go_ret
      exact ⟨g, c, C', by rw [hlen5]; rfl, hU5, HF, HK.out⟩
end Go.Proofs.YtjnhfakdpnnboaaDoor
