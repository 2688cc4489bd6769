/- Divisors: the reference's. -/
import Derived.Test.YtjnhfakdpnnboaaDoorZf
namespace Go.Proofs.YtjnhfakdpnnboaaDoor
open Go.RowKit Go.IntWalk Go.Sort

theorem bnd2 {m e j k n : Nat} (h : m * (k + 1) ≤ n) (hj : j < m) (he : e < k) : m + m * e + j + 1 ≤ n := by
  have h1 : m * (e + 1) ≤ m * k := Nat.mul_le_mul_left m he
  rw [Nat.mul_succ] at h1 h
  omega
theorem ins_start {d : Array Nat} {n : Nat} (h : 0 < n) : insOuter ltN 0 n 0 d = insertionSort ltN d 0 n := by
  rw [insO_go h, ins_end]; rfl
theorem sorted_asc {d : Array Nat} {n : Nat} (hs : SortedIn ltN 0 n d) (hn : d.size = n) : d.toList.Pairwise (· ≤ ·) := by
  rw [List.pairwise_iff_getElem]
  intro i j hi hj hij
  simp only [Array.length_toList] at hi hj
  have h4 := hs i j (Nat.zero_le _) hij (by omega)
  rw [getElem!_pos d i hi, getElem!_pos d j hj] at h4
  simp only [ltN, decide_eq_false_iff_not, Nat.not_lt] at h4
  simpa using h4
theorem perm_list {C : List Nat} {d : Array Nat} {n : Nat} (hp : PermIn 0 n C.toArray d) (hn : C.toArray.size = n) : d.toList.Perm C := by
  have h3 := hp.2.2
  have hd : d.size = n := hp.1.trans hn
  rw [show d.extract 0 n = d by rw [← hd]; simp, show C.toArray.extract 0 n = C.toArray by rw [← hn]; simp] at h3
  simpa using h3
set_option maxRecDepth 100000 in
set_option maxHeartbeats 8000000 in
theorem refDivisors_any (n : Nat) {ni : Int} (hni : ni = n) (hn : n < 4294967296) (h0 : 0 < n) (w : World) :
    Calls Tryd.prog 45 #[.int .u32 ni] w (RetDv n w) := by
  subst hni
  obtain ⟨i0, hi, hz0, hz1, hz2⟩ := info_parts infoZ
  have h0' : ((n : Int) == 0) = false := by simp; omega
  have hU1 : LU (w.alloc (.cells #[Value.int .u32 1] 25)) w.heap.size w.heap.size 1 [1] :=
    ⟨rfl, .inr ⟨w.heap.size, 1, _, rfl, Nat.le_refl _, heap_alloc_new w _, Nat.le_refl _, by unfold maxLen; decide, rfl, rfl⟩⟩
  have HFC := Lib.hid (fun w0 : World => refFactors_any n rfl hn h0 w0)
  have hB1 := (Below.refl w.heap.size w).alloc (Nat.le_refl _) (.cells #[Value.int .u32 1] 25)
  go_enter Tryd.func45, Tryd.ntmps45
  go_wp2_with fail
  refine (HFC.out _).mono ?_
  rintro _ w2 ⟨v, L, rfl, hL, hown, hB⟩
  have hgf : ∀ gf, v.ownBlock = some gf → gf ≠ w.heap.size := fun gf e => by
    have := own_block hown gf e
    simp at this
    omega
  obtain ⟨ad, cap, rfl, hA⟩ := fac_slice hown
  have HGF := Lib.hid hgf
  have hlen : L.length < 32 := len32 hL.out.len hn
  have hU2 := hU1.below hB (by simp)
  have HB2 := Lib.hid (hB1.trans (hB.mono (by simp)))
  have HS2 := Lib.hid (show w.heap.size < w2.heap.size by have := hB.size; simp at this; omega)
  clear hown HFC hU1 h0' hgf hB hB1
  go_wp2_with fail
  go_loopg [3, 18] L.length (fun gk lv iv wr => ∃ (i g c : Nat) (C : List Nat), i + gk = L.length ∧ lv = .slice (some ⟨g, 0, none⟩) C.length c ∧ iv = .int .i64 i ∧ LU wr w.heap.size g c C ∧ Kp w2 w.heap.size wr g ∧
    Hid ((Nt.divsN C (L.drop i)).Perm (Nt.divsN [1] L) ∧ C.length ≤ Nt.fprod (L.take i) ∧ 0 < C.length ∧ ∀ x ∈ C, x ∣ Nt.fprod (L.take i)))
  case atStart => exact ⟨0, w.heap.size, 1, [1], by omega, rfl, rfl, hU2, Kp.start _ _, Lib.hid ⟨List.Perm.refl _, Nat.le_refl _, Nat.one_pos, fun x hx => by rw [List.mem_singleton.1 hx]; exact Nat.one_dvd _⟩⟩
  case round =>
    clear hU2
    obtain ⟨i, g, c, C, hig, rfl, rfl, hU, hK, HC⟩ := hrel
    by_cases hil : i < L.length
    · obtain ⟨W, rfl⟩ : ∃ W : World, W = wr := ⟨_, rfl⟩
      obtain ⟨gi, rfl⟩ : ∃ x, gk = x + 1 := ⟨gk - 1, by omega⟩
      obtain ⟨⟨p, k⟩, hx⟩ : ∃ x, L[i]? = some x := ⟨_, List.getElem?_eq_getElem hil⟩
      obtain ⟨gf, rfl, hgl, hc0, hc1⟩ := hA.at_ i _ hx
      have hgn := HGF.out gf rfl
      rw [← hK.cell (a := ⟨gf, i * 2, none⟩) hgl hgn] at hc0
      rw [← hK.cell (a := ⟨gf, i * 2 + 1, none⟩) hgl hgn] at hc1
      have hfp := hL.out.pr _ (List.mem_of_getElem? hx)
      have hpn := (hL.out.exp _ (List.mem_of_getElem? hx)).2
      have hkn := len32 (hL.out.exp _ (List.mem_of_getElem? hx)).1 hn
      have hp2 := hfp.1.1
      simp only at hc0 hc1 hpn hkn hp2
      have HX := Lib.hid hx
      have hstep := Lib.hid (show (Nt.stepN C p k).length ≤ Nt.fprod (L.take (i + 1)) ∧ ∀ x ∈ Nt.stepN C p k, x ∣ Nt.fprod (L.take (i + 1)) by
        rw [Nt.fprod_take hx]
        exact ⟨Nt.step_len_le hp2 HC.out.2.1, fun x hx => Nt.mem_step HC.out.2.2.2 hx⟩)
      have hfn : Nt.fprod (L.take (i + 1)) ≤ n := Nat.le_of_dvd h0 (by have := Nt.take_dvd L (i + 1); rwa [hL.out.prod] at this)
      have hCk := Lib.hid (show C.length * (k + 1) ≤ n by rw [← Nt.stepN_len C p k]; exact Nat.le_trans hstep.out.1 hfn)
      have hCn : C.length ≤ n := by
        have := hCk.out
        rw [Nat.mul_succ] at this
        omega
      have HDV := Lib.hid (show ∀ d ∈ C, d * p ^ k ∣ n from fun d hd => by
        have h1 := Nt.take_dvd L (i + 1)
        rw [hL.out.prod, Nt.fprod_take hx] at h1
        exact Nat.dvd_trans (Nat.mul_dvd_mul_right (HC.out.2.2.2 d hd) _) h1)
      have HPK := Lib.hid (show ∀ e, e ≤ k → p ^ e ≤ n from fun e he => by
        obtain ⟨d, hd⟩ := List.exists_mem_of_length_pos HC.out.2.2.1
        exact Nat.le_of_dvd h0 (Nat.dvd_trans (Nat.dvd_trans (Nat.pow_dvd_pow p he) (Nat.dvd_mul_left _ _)) (HDV.out d hd)))
      clear hx hfp hfn
      have hgW := hU.lt
      have hB3 : Below W.heap.size W (W.alloc (.cells #[.int .u32 p, .int .i64 k] 63)) := (Below.refl _ _).alloc (Nat.le_refl _) _
      obtain ⟨w3, hw3⟩ : ∃ z, z = W.alloc (.cells #[.int .u32 p, .int .i64 k] 63) := ⟨_, rfl⟩
      have hU3 := hU.below hB3 hgW
      have hf0 : (W.alloc (.cells #[.int .u32 p, .int .i64 k] 63)).cell? ⟨W.heap.size, 0, none⟩ = some (.int .u32 p) := by go_simp
      have hf1 : (W.alloc (.cells #[.int .u32 p, .int .i64 k] 63)).cell? ⟨W.heap.size, 1, none⟩ = some (.int .i64 k) := by go_simp
      have hs3 : (W.alloc (.cells #[.int .u32 p, .int .i64 k] 63)).heap.size = W.heap.size + 1 := by simp
      have hK4 := hK.next (g' := g) (Ox.of_below g hB3) (.inl rfl)
      have HF1 := Lib.hid hf1
      rw [← hw3] at hU3 hf0 hs3 hK4 HF1
      have HW3 := Lib.hid hw3
      clear hU hB3 hw3
      go_wp2_with fail
      clear hc0 hc1 hf1
      rw [← HW3.out]
      go_loopg [3, 7, 25] k (fun gk lv qv ev wx => ∃ (e g' c' q : Nat) (C' X : List Nat), e + gk = k ∧ lv = .slice (some ⟨g', 0, none⟩) C'.length c' ∧ qv = .int .u32 q ∧ ev = .int .i64 e ∧ q < 4294967296 ∧ LU wx w.heap.size g' c' C' ∧ Kp w3 g wx g' ∧ Rd wx g C ∧
        Hid (C' = C ++ X ∧ X.Perm (C.flatMap (Nt.ray p e)) ∧ q = p ^ e))
      case atStart => exact ⟨0, g, c, 1, C, [], by omega, rfl, rfl, rfl, by omega, hU3, Kp.start _ _, hU3.rd, Lib.hid ⟨by simp, by simp [show (Nt.ray p 0) = fun _ => [] from funext fun d => Nt.ray_zero p d], by simp⟩⟩
      case round =>
        clear hU3
        obtain ⟨e, g', c', q, C', X, heg, rfl, rfl, rfl, hq, hU, hKj, hRd, HJ⟩ := hrel
        by_cases hek : e < k
        · obtain ⟨Wj, rfl⟩ : ∃ W : World, W = wr := ⟨_, rfl⟩
          obtain ⟨gj, rfl⟩ : ∃ x, gk = x + 1 := ⟨gk - 1, by omega⟩
          have hcp := (hKj.cell (a := ⟨W.heap.size, 0, none⟩) (by show W.heap.size < _; omega) (by show W.heap.size ≠ g; omega)).trans hf0
          obtain ⟨q', hq'⟩ : ∃ x, x = q * p := ⟨_, rfl⟩
          have hq'n : q' ≤ n := by
            have h1 : q' = p ^ (e + 1) := by rw [hq', HJ.out.2.2, Nat.pow_succ]
            rw [h1]; exact HPK.out _ hek
          have hqm : IntKind.u32.wrap ((q : Int) * p) = (q' : Int) := by
            rw [show (q : Int) * p = (q' : Int) by rw [hq']; simp, IntKind.wrap_u32]; omega
          have HQ := Lib.hid (show q' = p ^ (e + 1) by rw [hq', HJ.out.2.2, Nat.pow_succ])
          have HXL := Lib.hid (show X.length = C.length * e by rw [HJ.out.2.1.length_eq, Nt.flat_len])
          clear hq'
          go_wp2_with fail
          clear hcp hqm
          go_loopg [3, 33] C.length (fun gk lv jv wy => ∃ (j g2 c2 : Nat) (C2 X2 : List Nat), j + gk = C.length ∧ lv = .slice (some ⟨g2, 0, none⟩) C2.length c2 ∧ jv = .int .i64 j ∧ LU wy w.heap.size g2 c2 C2 ∧ Kp w3 g wy g2 ∧ Rd wy g C ∧
            Hid (C2 = C ++ X2 ∧ X2 = X ++ (C.take j).map (fun d => d * p ^ (e + 1))))
          case atStart => exact ⟨0, g', c', C', X, by omega, rfl, rfl, hU, hKj, hRd, Lib.hid ⟨HJ.out.1, by simp⟩⟩
          case round =>
            clear hU hKj hRd
            obtain ⟨j, g2, c2, C2, X2, hjg, rfl, rfl, hU, hKt, hRd, HT⟩ := hrel
            by_cases hjl : j < C.length
            · obtain ⟨Wt, rfl⟩ : ∃ W : World, W = wr := ⟨_, rfl⟩
              obtain ⟨gt, rfl⟩ : ∃ x, gk = x + 1 := ⟨gk - 1, by omega⟩
              obtain ⟨d, hd⟩ : ∃ x, C[j]? = some x := ⟨_, List.getElem?_eq_getElem hjl⟩
              have hcd := hRd.2 j d hd
              obtain ⟨d', hd'⟩ : ∃ x, x = d * q' := ⟨_, rfl⟩
              have hd'n : d' ≤ n := by
                have h2 : d' ∣ n := by rw [hd', HQ.out]; exact Nat.dvd_trans (Nat.mul_dvd_mul_left _ (Nat.pow_dvd_pow p hek)) (HDV.out d (List.mem_of_getElem? hd))
                exact Nat.le_of_dvd h0 h2
              have hdn : d ≤ n := Nat.le_of_dvd h0 (Nat.dvd_trans (Nat.dvd_mul_right _ _) (HDV.out d (List.mem_of_getElem? hd)))
              have hdm : IntKind.u32.wrap ((d : Int) * q') = (d' : Int) := by
                rw [show (d : Int) * q' = (d' : Int) by rw [hd']; simp, IntKind.wrap_u32]; omega
              have hC2 : C2.length + 1 ≤ n := by
                have h1 := bnd2 hCk.out hjl hek
                rw [HT.out.1, HT.out.2, List.length_append, List.length_append, List.length_map, List.length_take, Nat.min_eq_left (by omega), HXL.out]
                omega
              have HD := Lib.hid (And.intro hd hd')
              clear hd hd'
              obtain ⟨vv, hvv⟩ : ∃ v, v = Value.slice (some ⟨g2, 0, none⟩) C2.length c2 := ⟨_, rfl⟩
              have hown : Wt.ownsRow w.heap.size 25 1 vv C2.length (uc C2) := by rw [hvv]; exact hU
              rw [← hvv]
              have HVV := Lib.hid hvv
              have hbase : w.heap.size ≤ (Wt.alloc (.cells #[Value.int .u32 d'] 25)).heap.size := by
                have := hU.le.1
                have := hU.lt
                simp; omega
              have HBA := Lib.hid hbase
              clear hvv hU hbase
              go_wp2_with (at_builtin; go_loud (refine wpList_append_two _ rfl _ _ 49 rfl w.heap.size 25 i0 (.int .u32 0) 1 4 Tryd.underlying49 hi hz0 hz1 hz2 rfl (by decide) _ _ _ _ _ rfl HVV.out (hown.alloc _) ⟨Wt.heap.size, 0, none⟩ 1 1 [.int .u32 d'] rfl rfl (cell_one_new _ _ _) (by simp [Value.oneCell']) (by unfold maxLen; omega) (by omega) HBA.out ?_; intro v' w1 hown' hgrow))
              obtain ⟨g3, c3, rfl, hU3, hO3, hat3, hR3⟩ := LU.two HT.out.1 hRd hown' hgrow
              have hK3 := hKt.next hO3 hat3
              have HT3 := Lib.hid (show C2 ++ [d'] = C ++ (X2 ++ [d']) ∧ X2 ++ [d'] = X ++ (C.take (j + 1)).map (fun d => d * p ^ (e + 1)) by
                refine ⟨by rw [HT.out.1, List.append_assoc], ?_⟩
                rw [List.take_add_one, HD.out.1, HT.out.2, HD.out.2, HQ.out]
                simp)
              clear hown hown' hgrow hO3 hat3 hcd hRd
              go_wp2
              go_roundg gt
              case measure => omega
              case rel => exact ⟨j + 1, g3, c3, C2 ++ [d'], X2 ++ [d'], by omega, rfl, by go_num, hU3, hK3, hR3, HT3⟩
            · obtain rfl : j = C.length := by omega
              have HJ2 := Lib.hid (show C2 = C ++ X2 ∧ X2.Perm (C.flatMap (Nt.ray p (e + 1))) ∧ q' = p ^ (e + 1) by
                refine ⟨HT.out.1, ?_, HQ.out⟩
                rw [HT.out.2, List.take_length]
                exact (List.Perm.append_right _ HJ.out.2.1).trans (Nt.flat_ray_succ C p e))
              go_wp2
              go_roundg gj
              case measure => omega
              case rel => exact ⟨e + 1, g2, c2, q', C2, X2, by omega, rfl, rfl, by go_num, by omega, hU, hKt, hRd, HJ2⟩
        · obtain rfl : e = k := by omega
          have HP := Lib.hid (show C'.Perm (Nt.stepN C p e) by rw [HJ.out.1]; exact List.Perm.append_left _ HJ.out.2.1)
          have HC2 := Lib.hid (show (Nt.divsN C' (L.drop (i + 1))).Perm (Nt.divsN [1] L) ∧ C'.length ≤ Nt.fprod (L.take (i + 1)) ∧ 0 < C'.length ∧ ∀ x ∈ C', x ∣ Nt.fprod (L.take (i + 1)) by
            have h1 := HC.out.1
            rw [Nt.divsN_drop HX.out] at h1
            refine ⟨(Nt.divsN_perm _ HP.out).trans h1, by rw [HP.out.length_eq]; exact hstep.out.1, by rw [HP.out.length_eq, Nt.stepN_len]; exact Nat.mul_pos HC.out.2.2.1 (Nat.succ_pos _), fun x hx => hstep.out.2 x (HP.out.mem_iff.1 hx)⟩)
          have hK5 : Kp w2 w.heap.size wr g' := hK4.next hKj.ox hKj.at_
          go_wp2
          go_roundg gi
          case measure => omega
          case rel => exact ⟨i + 1, g', c', C', by omega, rfl, by go_num, hU, hK5, HC2⟩
    · obtain rfl : i = L.length := by omega
      have HD := Lib.hid (show C.Perm (Nt.divsN [1] L) by have := HC.out.1; rwa [List.drop_length] at this)
      have hCn := Nt.divs_len L (M := [1]) (D := 1) hL.out.pr (Nat.le_refl _)
      rw [← HD.out.length_eq, Nat.one_mul, hL.out.prod] at hCn
      have hC0 := HC.out.2.2.1
      obtain ⟨rest, hS, hcr⟩ := hU.sb'
      have HLE := Lib.hid hU.le
      have HCR := Lib.hid hcr
      obtain ⟨wa, rfl⟩ : ∃ W : World, W = wr := ⟨_, rfl⟩
      obtain ⟨m0, hm0⟩ : ∃ x, x = C.length := ⟨_, rfl⟩
      have HSZ := Lib.hid (show C.toArray.size = m0 by rw [hm0]; simp)
      have HK := Lib.hid hK
      rw [← hm0] at hC0 hCn
      have HM0 := Lib.hid hm0
      rw [← hm0]
      clear hU hcr hm0 hK
      go_wp2_with fail
      go_loopg [48] m0 (fun gk iv wr => ∃ (i : Nat) (dk : Array Nat), i + gk = m0 ∧ iv = .int .i64 i ∧ SB wr g dk rest ∧ Hid (dk.size = m0 ∧ insOuter ltN 0 m0 i dk = insertionSort ltN C.toArray 0 m0) ∧ Hid (Om g wa wr))
      case atStart => exact ⟨0, C.toArray, by omega, rfl, hS, Lib.hid ⟨HSZ.out, ins_start hC0⟩, Lib.hid (Om.refl _ _)⟩
      case round =>
        clear hS
        obtain ⟨i, dk, hig, rfl, hS, hE, hO⟩ := hrel
        by_cases hlt : i < m0
        · obtain ⟨gi, rfl⟩ : ∃ x, gk = x + 1 := ⟨gk - 1, by omega⟩
          go_wp2_with fail
          go_loopg [11] i (fun gk jv wr => ∃ (j : Nat) (dj : Array Nat), j ≤ gk ∧ jv = .int .i64 j ∧ j ≤ i ∧ SB wr g dj rest ∧ Hid (dj.size = m0 ∧ insInner ltN 0 j dj = insInner ltN 0 i dk) ∧ Hid (Om g wa wr))
          case atStart => exact ⟨i, dk, Nat.le_refl _, rfl, Nat.le_refl _, hS, Lib.hid ⟨hE.out.1, rfl⟩, hO⟩
          case round =>
            clear hS hO
            obtain ⟨j, dj, hjk, rfl, hji, hS, hI, hO⟩ := hrel
            by_cases hja : 0 < j
            · obtain ⟨m, hm⟩ : ∃ m, m = j - 1 := ⟨_, rfl⟩
              have hm0 : (0 : Int) ≤ (m : Int) := by omega
              have hmn : (m : Int) < (m0 : Int) := by omega
              have hj0 : (0 : Int) ≤ (j : Int) := by omega
              have hjn : (j : Int) < (m0 : Int) := by omega
              have hs1 : IntKind.i64.wrap ((j : Int) - 1) = (m : Int) := by rw [IntWalk.i64_in _ (by omega)]; omega
              have hcj := hS.cell (i := j) (by rw [hI.out.1]; omega)
              have hcm := hS.cell (i := m) (by rw [hI.out.1]; omega)
              have hfj := hS.frozen j
              have hfm := hS.frozen m
              obtain ⟨x, hx⟩ : ∃ x, x = dj[j]! := ⟨_, rfl⟩
              obtain ⟨y, hy⟩ : ∃ y, y = dj[m]! := ⟨_, rfl⟩
              rw [← hx] at hcj
              rw [← hy] at hcm
              have HXY := Lib.hid (And.intro hx hy)
              have HJM := Lib.hid (show j = m + 1 by omega)
              have hne : j ≠ m := by omega
              have hjg : decide ((0 : Int) < (j : Int)) = true := by simp; omega
              have hjgN : decide (0 < j) = true := by simp; omega
              clear hx hy hm
              by_cases hxy : x < y
              · have gxy : decide ((x : Int) < (y : Int)) = true := by simp; omega
                have HT := Lib.hid (show ltN dj[j]! dj[m]! = true by rw [← HXY.out.1, ← HXY.out.2]; simp [ltN, hxy])
                obtain ⟨gt, rfl⟩ : ∃ x, gk = x + 1 := ⟨gk - 1, by omega⟩
                go_wp2_with fail
                go_quiet (fail)
                have hcj2 : (wr.drewN nq).cell? ⟨g, j, none⟩ = some (.int .u32 x) := hcj
                have hcm2 : (wr.drewN nq).cell? ⟨g, m, none⟩ = some (.int .u32 y) := hcm
                have hfj2 : (wr.drewN nq).frozen? ⟨g, j, none⟩ = false := hfj
                have hfm2 : (wr.drewN nq).frozen? ⟨g, m, none⟩ = false := hfm
                have hS2 := hS.drewN nq
                have hO2 := Lib.hid (hO.out.drewN nq)
                clear hcj hcm hfj hfm hS hO
                generalize wr.drewN nq = w6 at hcj2 hcm2 hfj2 hfm2 hS2 hO2 ⊢
                go_wp2_with fail
                go_region
                have hS3 := (hS2.swap (i := j) (j := m) (by rw [hI.out.1]; omega) (by rw [hI.out.1]; omega) HXY.out.2 HXY.out.1).drew
                have hO3 := Lib.hid (((hO2.out.set (i := j) (.int .u32 (y : Nat))).set (i := m) (.int .u32 (x : Nat))).drew)
                have HE3 := Lib.hid (show (swp dj j m).size = m0 ∧ insInner ltN 0 m (swp dj j m) = insInner ltN 0 i dk from ⟨by rw [size_swp]; exact hI.out.1, by
                  rw [← hI.out.2, ins_go HJM.out hja HT.out]⟩)
                clear hcj2 hcm2 hfj2 hfm2 hS2 hO2
                generalize ((w6.setCell ⟨g, j, none⟩ (.int .u32 (y : Nat))).setCell ⟨g, m, none⟩ (.int .u32 (x : Nat))).drew = w7 at hS3 hO3 ⊢
                go_wp2
                go_roundg gt
                case measure => omega
                case rel => have hjm := HJM.out; exact ⟨m, swp dj j m, by omega, rfl, by omega, hS3, HE3, hO3⟩
              · have gxy : decide ((x : Int) < (y : Int)) = false := by simp; omega
                have HX := Lib.hid (show insInner ltN 0 j dj = dj from ins_stop HJM.out (by rw [← HXY.out.1, ← HXY.out.2]; simp [ltN]; omega))
                have HE2 := Lib.hid (show dj.size = m0 ∧ insOuter ltN 0 m0 (i + 1) dj = insertionSort ltN C.toArray 0 m0 from ⟨hI.out.1, by
                  have h1 := hI.out.2
                  rw [HX.out] at h1
                  rw [← hE.out.2, insO_go hlt, ← h1]⟩)
                go_wp2_with fail
                go_quiet (fail)
                have hS2 := hS.drewN nq
                have hO2 := Lib.hid (hO.out.drewN nq)
                clear hcj hcm hfj hfm hS
                go_wp2
                go_roundg gi
                case measure => omega
                case rel => exact ⟨i + 1, dj, by omega, by go_num, hS2, HE2, hO2⟩
            · obtain rfl : j = 0 := by omega
              have HE2 := Lib.hid (show dj.size = m0 ∧ insOuter ltN 0 m0 (i + 1) dj = insertionSort ltN C.toArray 0 m0 from ⟨hI.out.1, by
                have h1 := hI.out.2
                rw [ins_end] at h1
                rw [← hE.out.2, insO_go hlt, ← h1]⟩)
              go_wp2_with fail
              go_quiet (fail)
              have hS2 := hS.drewN nq
              have hO2 := Lib.hid (hO.out.drewN nq)
              clear hS
              go_wp2
              go_roundg gi
              case measure => omega
              case rel => exact ⟨i + 1, dj, by omega, by go_num, hS2, HE2, hO2⟩
        · have HF := Lib.hid (show dk = insertionSort ltN C.toArray 0 m0 by
            rw [← hE.out.2, insO_end hlt])
          go_wp2
          go_ret
          have hp := insertionSort_holds swoN C.toArray 0 m0 (Nat.zero_le _) (by rw [HSZ.out]; exact Nat.le_refl _)
          rw [← HF.out] at hp
          have hl : dk.toList.length = m0 := by simpa using hE.out.1
          refine ⟨g, c, dk.toList, by rw [hl]; rfl, LU.of_sb hS HLE.out.1 (by rw [hE.out.1, HM0.out]; exact HCR.out) HLE.out.2.2, Lib.hid ⟨L, hL.out, ?_, sorted_asc hp.2 hE.out.1⟩, HB2.out.trans ((HK.out.next hO.out.ox (.inl rfl)).below (Nat.le_refl _) (Nat.le_of_lt HS2.out))⟩
          exact (perm_list hp.1 HSZ.out).trans HD.out
end Go.Proofs.YtjnhfakdpnnboaaDoor
