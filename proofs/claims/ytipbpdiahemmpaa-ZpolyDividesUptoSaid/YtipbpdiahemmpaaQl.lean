/- Reference 07, first part: in normal form; a coefficient; sum; times a number. -/
import Derived.Test.YtipbpdiahemmpaaQk
import Derived.Test.YtipbpdiahemmpaaQi
import Derived.Deep.CutBlock
import Derived.Deep.CutRange
import Derived.Deep.RegionWith
import Derived.Test.YtipbpdiahemmpaaQp
namespace Go.Proofs.Ytipbpdiahemmpaa
open Go.RowKit Go.IntWalk
attribute [local go_sem ↓] Go.wp_at_zero Go.wp_at_succ

set_option maxRecDepth 100000 in
set_option maxHeartbeats 4000000 in
theorem rzNorm_any {N : Nat} {A : Option Addr} {n c : Nat} {L : List Int} {w : World} (h : RdZs w w.heap.size N A n c L) (hn : n ≤ 4398046511103) (hN : N ≤ 17592186044416) :
    Calls Try.prog 10 #[.slice A n c] w (RetP (Pz.co L) w) := by
  have HLEN := Lib.hid h.len
  have hle := h.le
  have hmx := h.mx
  go_enter Try.func10, Try.ntmps10
  go_upto_block 0 with fail
  go_cut [3] from 8 to 20 (fun kv wr => ∃ k : Nat, kv = .int .i64 k ∧ k ≤ n ∧ Hid (∀ i, k ≤ i → Pz.co L i = 0) ∧ Hid (k = 0 ∨ Pz.co L (k - 1) ≠ 0) ∧ Below w.heap.size w wr)
  case first =>
    go_wp2_with fail
    go_loopw [3] (fun kv wr => ∃ k : Nat, kv = .int .i64 k ∧ k ≤ n ∧ Hid (∀ i, k ≤ i → Pz.co L i = 0) ∧ Below w.heap.size w wr) (fun kv _ => (intOf kv).toNat)
    case atStart => exact ⟨n, rfl, Nat.le_refl _, Lib.hid fun i hi => Pz.co_ge (by rw [HLEN.out]; exact hi), Below.refl _ _⟩
    case round =>
      obtain ⟨k, rfl, hk, hZ, hB⟩ := hrel
      rcases Nat.eq_zero_or_pos k with h0 | h0
      · subst h0
        go_wp2
        go_meet
        exact ⟨0, rfl, Nat.zero_le _, hZ, Lib.hid (.inl rfl), hB⟩
      · obtain ⟨j, rfl⟩ : ∃ j, k = j + 1 := ⟨k - 1, by omega⟩
        obtain ⟨ad, s, A1, n1, c1, z, rfl, hbk, hx0, hx1, hr, hn1, hz⟩ := zs_at h (show j < n by omega)
        obtain ⟨hy0, hy1⟩ := zs_cells hB hbk hx0 hx1
        go_wp2_with fail
        refine (rISign_any (hr.next hB) (by omega)).mono ?_
        rintro _ W2 ⟨kz, rfl, hkz, hb2⟩
        have hB2 := hB.trans (hb2.mono hB.size)
        have HZ := Lib.hid (show kz = 0 ↔ Pz.co L j = 0 by rw [hkz.out, Int.sign_eq_zero_iff_zero, Pz.co_get hz.out])
        clear hb2 hy0 hy1
        by_cases hk0 : kz = 0
        · have HC := Lib.hid (HZ.out.1 hk0)
          subst hk0
          go_wp2
          go_roundw
          case rel => exact ⟨j, by go_num, by omega, Lib.hid fun i hi => by
            rcases Nat.lt_or_ge j i with h1 | h1
            · exact hZ.out i h1
            · rw [show i = j by omega]; exact HC.out, hB2⟩
          case measure => simp [intOf]
        · have HC := Lib.hid (mt HZ.out.2 hk0)
          have hkb : (kz == 0) = false := by simpa using hk0
          clear hk0
          go_wp2
          go_meet
          exact ⟨j + 1, by go_num, hk, hZ, Lib.hid (.inr HC.out), hB2⟩
  case rest =>
    obtain ⟨kk, rfl, hk, hZ, HKK, hB⟩ := hcut
    have hmk := make_zs (kk) (by omega)
    have hZ0 := ZB.made wc (kk)
    have hE0 := EntF.zeros (wc.alloc (.cells (zcs (List.replicate (kk) (false, none, 0, 0))).toArray 40)) w.heap.size (kk)
    have hB0 := hB.alloc hB.size (.cells (zcs (List.replicate (kk) (false, none, 0, 0))).toArray 40)
    have HNZ := Lib.hid (show Pz.IsP (Pz.co L) (L.take (kk)) from ⟨Pz.nz_take (by rw [HLEN.out]; exact hk) (HKK.out), Pz.co_take_all hZ.out⟩)
    have HK := Lib.hid hZ.out
    go_wp2_with fail
    obtain ⟨g, hg⟩ : ∃ g, g = wc.heap.size := ⟨_, rfl⟩
    generalize wc.alloc (.cells (zcs (List.replicate (kk) (false, none, 0, 0))).toArray 40) = W3 at *
    rw [← hg] at hZ0 ⊢
    have HG := Lib.hid (show w.heap.size ≤ g by rw [hg]; exact hB.size)
    clear hmk hg
    go_loopw [25] (fun iv wr => ∃ (i : Nat) (E : List Ent), iv = .int .i64 i ∧ i ≤ kk ∧ ZB wr g E ∧ Hid (E.length = kk) ∧ EntF wr w.heap.size E (fun t => if t < i then Pz.co L t else 0) ∧ Below w.heap.size w wr) (fun iv _ => kk - (intOf iv).toNat)
    case atStart => exact ⟨0, _, rfl, Nat.zero_le _, hZ0, Lib.hid (by simp), fun i e he => by simpa using hE0 i e he, hB0⟩
    case round =>
      clear hZ0 hE0 hB0
      obtain ⟨i, E, rfl, hi, hZB, hEl, hE, hBi⟩ := hrel
      by_cases hik : i = kk
      · have ho := (hZB.own hE HG.out hEl.out (by unfold maxLen; omega))
        have HO := Lib.hid ho
        have hki := hik.symm
        subst hki
        clear hik
        go_wp2
        go_ret
        refine ⟨_, _, _, _, rfl, HO.out, Lib.hid ?_, hBi⟩
        have e : (List.range (kk)).map (fun t => if t < kk then Pz.co L t else 0) = L.take (kk) := by
          apply List.ext_getElem?
          intro t
          rcases Nat.lt_or_ge t (kk) with ht | ht
          · rw [List.getElem?_map, List.getElem?_range ht, List.getElem?_take_of_lt ht, Pz.get_co (by rw [HLEN.out]; omega)]
            simp [ht]
          · rw [List.getElem?_eq_none (by simpa using ht), List.getElem?_eq_none (by rw [List.length_take]; omega)]
        rw [e]
        exact HNZ.out
      · have hil : i < kk := by omega
        clear hik
        have hili : (i : Int) < (kk : Nat) := by omega
        have hiln : i < n := by omega
        have hilni : (i : Int) < (n : Int) := by omega
        obtain ⟨ad, s, A1, n1, c1, z, hA, hbk, hx0, hx1, hr, hn1, hz⟩ := zs_at h hiln
        subst hA
        obtain ⟨hy0, hy1⟩ := zs_cells hBi hbk hx0 hx1
        go_wp2_with fail
        refine (rINorm_any (hr.next hBi) (by omega)).mono ?_
        rintro _ W4 ⟨s4, A4, n4, c4, z4, rfl, ho4, hz4, hb4⟩
        have hB4 := hBi.trans (hb4.mono hBi.size)
        have hZ4 := hZB.next hb4
        have hE4 := hE.next hb4
        obtain ⟨e, he⟩ : ∃ e, E[i]? = some e := ⟨E[i]'(by rw [hEl.out]; exact hil), List.getElem?_eq_getElem _⟩
        obtain ⟨k0, k1⟩ := hZ4.cells he
        have f0 := hZ4.frozen (i * 2)
        have f1 := hZ4.frozen (i * 2 + 1)
        have HZ5 := Lib.hid (hZ4.store i (s4, A4, n4, c4))
        have HE5 := Lib.hid (hE4.store (j := i) (e := (s4, A4, n4, c4)) (z := z4) hZ4 (ho4.base hBi.size))
        have hB5 := (hB4.setCell (p := ⟨g, i * 2, none⟩) HG.out (.bool s4)).setCell (p := ⟨g, i * 2 + 1, none⟩) HG.out (.slice A4 n4 c4)
        have HF := Lib.hid (show z4 = Pz.co L i by rw [hz4.out, Pz.co_get hz.out])
        clear hx0 hx1 hy0 hy1 hr hz hb4 hZB hE hBi he
        go_wp2_with fail
        go_roundw
        case rel => exact ⟨i + 1, E.set i (s4, A4, n4, c4), by go_num, by omega, HZ5.out, Lib.hid (by rw [List.length_set]; exact hEl.out), HE5.out.congr fun t => (by
          by_cases e1 : t = i
          · subst e1; rw [if_pos rfl, if_pos (Nat.lt_succ_self _), HF.out]
          · rw [if_neg e1]
            by_cases e2 : t < i
            · rw [if_pos e2, if_pos (by omega)]
            · rw [if_neg e2, if_neg (by omega)]), hB5⟩
        case measure => simp [intOf]; omega
end Go.Proofs.Ytipbpdiahemmpaa

/- Reference 07, second part: a coefficient, the sum, times a number, the difference. -/
namespace Go.Proofs.Ytipbpdiahemmpaa
open Go.RowKit Go.IntWalk
attribute [local go_sem ↓] Go.wp_at_zero Go.wp_at_succ

set_option maxHeartbeats 1000000 in
theorem rzat_any {N : Nat} {A : Option Addr} {n c : Nat} {L : List Int} {w : World} (i : Nat) (h : RdZs w w.heap.size N A n c L) :
    Calls Try.prog 35 #[.slice A n c, .int .i64 i] w (RetS (Pz.co L i) N w) := by
  have HLEN := Lib.hid h.len
  have hB : Below w.heap.size w (w.alloc (.cells #[.bool false, .slice none 0 0] 40)) := (Below.refl w.heap.size w).alloc (Nat.le_refl _) _
  by_cases hin : i < n
  · obtain ⟨ad, s, A1, n1, c1, z, rfl, hbk, hx0, hx1, hr, hn1, hz⟩ := zs_at h hin
    have hini : (i : Int) < (n : Int) := by omega
    have hZ3 := ZC.new w s A1 n1 c1
    have hB3 : Below w.heap.size w (w.alloc (.cells #[.bool s, .slice A1 n1 c1] 40)) := (Below.refl w.heap.size w).alloc (Nat.le_refl _) _
    have HR3 := Lib.hid (hr.next hB3)
    obtain ⟨hy0, hy1⟩ := zs_cells hB hbk hx0 hx1
    clear hin
    go_enter Try.func35, Try.ntmps35
    go_wp2
    generalize w.alloc (.cells #[.bool s, .slice A1 n1 c1] 40) = W3 at *
    exact bodyPost_ret (by simp [results, Try.results35, go_sem, hZ3.c0, hZ3.c1]) rfl ⟨_, _, _, _, _, rfl, HR3.out, hn1, Lib.hid (Pz.co_get hz.out).symm, hB3⟩
  · have hini : (n : Int) ≤ (i : Int) := by omega
    have HZ := Lib.hid (show Pz.co L i = 0 from Pz.co_ge (by rw [HLEN.out]; omega))
    have hZ3 := ZC.new w false none 0 0
    clear hin
    go_enter Try.func35, Try.ntmps35
    go_wp2
    generalize w.alloc (.cells #[.bool false, .slice none 0 0] 40) = W3 at *
    exact bodyPost_ret (by simp [results, Try.results35, go_sem, hZ3.c0, hZ3.c1]) rfl ⟨false, none, 0, 0, 0, rfl, RdZ.zero _ _ _, Nat.zero_le _, Lib.hid HZ.out.symm, hB⟩

set_option maxRecDepth 100000 in
set_option maxHeartbeats 4000000 in
theorem rzAdd_any {N N' : Nat} {A A' : Option Addr} {n c n' c' : Nat} {L L' : List Int} {w : World} (h : RdZs w w.heap.size N A n c L) (h' : RdZs w w.heap.size N' A' n' c' L') (hn : n ≤ 4398046511103) (hn' : n' ≤ 4398046511103) (hN : N ≤ 8796093022207) (hN' : N' ≤ 8796093022207) :
    Calls Try.prog 15 #[.slice A n c, .slice A' n' c'] w (RetP (fun i => Pz.co L i + Pz.co L' i) w) := by
  have HC := Lib.hid (And.intro (zl_co h) (zl_co h'))
  have HSZ := Lib.hid (show ∀ i, Zz.zl (Pz.co L i + Pz.co L' i) ≤ max N N' + 1 from fun i => by have e1 := Zz.zl_add (Pz.co L i) (Pz.co L' i); have e2 := HC.out.1 i; have e3 := HC.out.2 i; omega)
  have HL := Lib.hid (And.intro h.len h'.len)
  go_enter Try.func15, Try.ntmps15
  by_cases hlt : n < n'
  · have hlti : (n : Int) < (n' : Int) := by omega
    have HM := Lib.hid (show n ≤ n' ∧ n' ≤ n' by omega)
    clear hlt
    have hmk := make_zs n' (by omega)
    have hZ0 := ZB.made w n'
    have hE0 := EntF.zeros (w.alloc (.cells (zcs (List.replicate n' (false, none, 0, 0))).toArray 40)) w.heap.size n'
    have hB0 := (Below.refl w.heap.size w).alloc (Nat.le_refl _) (.cells (zcs (List.replicate n' (false, none, 0, 0))).toArray 40)
    go_wp2_with fail
    generalize w.alloc (.cells (zcs (List.replicate n' (false, none, 0, 0))).toArray 40) = W1 at *
    obtain ⟨g, hg⟩ : ∃ g, g = w.heap.size := ⟨_, rfl⟩
    rw [← hg] at hZ0 ⊢
    have HG := Lib.hid (show w.heap.size ≤ g by rw [hg]; exact Nat.le_refl _)
    clear hmk hg
    go_loopw [20] (fun iv wr => ∃ (j : Nat) (E : List Ent), iv = .int .i64 j ∧ j ≤ n' ∧ ZB wr g E ∧ Hid (E.length = n') ∧ EntF wr w.heap.size E (fun i => if i < j then Pz.co L i + Pz.co L' i else 0) ∧ Below w.heap.size w wr) (fun iv _ => n' - (intOf iv).toNat)
    case atStart => exact ⟨0, _, rfl, Nat.zero_le _, hZ0, Lib.hid (by simp), fun i e he => by simpa using hE0 i e he, hB0⟩
    case round =>
      clear hZ0 hE0 hB0
      obtain ⟨j, E, rfl, hj, hZ, hEl, hE, hB⟩ := hrel
      by_cases hjm : j = n'
      · have hmj := hjm.symm
        subst hmj
        clear hjm
        have ho := (hZ.own hE HG.out hEl.out (by unfold maxLen; omega))
        have hrd := ho.rd (N := max N N' + 1) (fun z hz => by
          obtain ⟨i, hi, rfl⟩ := List.mem_map.1 hz
          split
          · exact HSZ.out i
          · rw [Zz.zl_zero]; exact Nat.zero_le _)
        go_wp2_with fail
        refine (rzNorm_any hrd (by omega) (by omega)).mono ?_
        rintro _ W4 ⟨A4, n4, c4, M4, rfl, ho4, hM4, hb4⟩
        go_wp2
        go_ret
        refine ⟨_, _, _, M4, rfl, ho4.base hB.size, Lib.hid (hM4.out.congr fun i => ?_), hB.trans (hb4.mono hB.size)⟩
        rcases Nat.lt_or_ge i n' with hi | hi
        · rw [Pz.co_get (z := Pz.co L i + Pz.co L' i) (by rw [List.getElem?_map, List.getElem?_range hi]; simp [hi])]
        · rw [Pz.co_ge (by simpa using hi), Pz.co_ge (by rw [HL.out.1]; have := HM.out; omega), Pz.co_ge (by rw [HL.out.2]; have := HM.out; omega)]; rfl
      · have hjl : j < n' := by omega
        have hjli : (j : Int) < (n' : Int) := by omega
        clear hjm
        go_wp2_with fail
        refine (rzat_any j (h.next hB)).mono ?_
        rintro _ W2 ⟨s2, A2, n2, c2, z2, rfl, hr2, hn2, hz2, hb2⟩
        have hB2 := hB.trans (hb2.mono hB.size)
        go_wp2_with fail
        refine (rzat_any j (h'.next hB2)).mono ?_
        rintro _ W3 ⟨s3, A3, n3, c3, z3, rfl, hr3, hn3, hz3, hb3⟩
        have hB3 := hB2.trans (hb3.mono hB2.size)
        go_wp2_with fail
        refine (rIAdd_any (hr2.next hb3) hr3 (by omega) (by omega)).mono ?_
        rintro _ W4 ⟨s4, A4, n4, c4, z4, rfl, ho4, hz4, hb4⟩
        have hB4 := hB3.trans (hb4.mono hB3.size)
        have hb24 := hb2.trans ((hb3.trans (hb4.mono hb3.size)).mono hb2.size)
        have hZ4 := hZ.next hb24
        have hE4 := hE.next hb24
        obtain ⟨e, he⟩ : ∃ e, E[j]? = some e := ⟨E[j]'(by rw [hEl.out]; exact hjl), List.getElem?_eq_getElem _⟩
        obtain ⟨k0, k1⟩ := hZ4.cells he
        have f0 := hZ4.frozen (j * 2)
        have f1 := hZ4.frozen (j * 2 + 1)
        have HZ5 := Lib.hid (hZ4.store j (s4, A4, n4, c4))
        have HE5 := Lib.hid (hE4.store (j := j) (e := (s4, A4, n4, c4)) (z := z4) hZ4 (ho4.base hB3.size))
        have hB5 := (hB4.setCell (p := ⟨g, j * 2, none⟩) HG.out (.bool s4)).setCell (p := ⟨g, j * 2 + 1, none⟩) HG.out (.slice A4 n4 c4)
        have HF := Lib.hid (show z4 = Pz.co L j + Pz.co L' j by rw [hz4.out, hz2.out, hz3.out])
        clear hb24 hb2 hb3 hb4 hZ hE he
        go_wp2_with fail
        go_roundw
        case rel => exact ⟨j + 1, E.set j (s4, A4, n4, c4), by go_num, by omega, HZ5.out, Lib.hid (by rw [List.length_set]; exact hEl.out), HE5.out.congr fun i => (by
          by_cases e1 : i = j
          · subst e1; rw [if_pos rfl, if_pos (Nat.lt_succ_self _), HF.out]
          · rw [if_neg e1]
            by_cases e2 : i < j
            · rw [if_pos e2, if_pos (by omega)]
            · rw [if_neg e2, if_neg (by omega)]), hB5⟩
        case measure => simp [intOf]; omega
  · have hlti : decide (n < n') = false := by simp; omega
    have HM := Lib.hid (show n ≤ n ∧ n' ≤ n by omega)
    clear hlt
    have hmk := make_zs n (by omega)
    have hZ0 := ZB.made w n
    have hE0 := EntF.zeros (w.alloc (.cells (zcs (List.replicate n (false, none, 0, 0))).toArray 40)) w.heap.size n
    have hB0 := (Below.refl w.heap.size w).alloc (Nat.le_refl _) (.cells (zcs (List.replicate n (false, none, 0, 0))).toArray 40)
    go_wp2_with fail
    generalize w.alloc (.cells (zcs (List.replicate n (false, none, 0, 0))).toArray 40) = W1 at *
    obtain ⟨g, hg⟩ : ∃ g, g = w.heap.size := ⟨_, rfl⟩
    rw [← hg] at hZ0 ⊢
    have HG := Lib.hid (show w.heap.size ≤ g by rw [hg]; exact Nat.le_refl _)
    clear hmk hg
    go_loopw [20] (fun iv wr => ∃ (j : Nat) (E : List Ent), iv = .int .i64 j ∧ j ≤ n ∧ ZB wr g E ∧ Hid (E.length = n) ∧ EntF wr w.heap.size E (fun i => if i < j then Pz.co L i + Pz.co L' i else 0) ∧ Below w.heap.size w wr) (fun iv _ => n - (intOf iv).toNat)
    case atStart => exact ⟨0, _, rfl, Nat.zero_le _, hZ0, Lib.hid (by simp), fun i e he => by simpa using hE0 i e he, hB0⟩
    case round =>
      clear hZ0 hE0 hB0
      obtain ⟨j, E, rfl, hj, hZ, hEl, hE, hB⟩ := hrel
      by_cases hjm : j = n
      · have hmj := hjm.symm
        subst hmj
        clear hjm
        have ho := (hZ.own hE HG.out hEl.out (by unfold maxLen; omega))
        have hrd := ho.rd (N := max N N' + 1) (fun z hz => by
          obtain ⟨i, hi, rfl⟩ := List.mem_map.1 hz
          split
          · exact HSZ.out i
          · rw [Zz.zl_zero]; exact Nat.zero_le _)
        go_wp2_with fail
        refine (rzNorm_any hrd (by omega) (by omega)).mono ?_
        rintro _ W4 ⟨A4, n4, c4, M4, rfl, ho4, hM4, hb4⟩
        go_wp2
        go_ret
        refine ⟨_, _, _, M4, rfl, ho4.base hB.size, Lib.hid (hM4.out.congr fun i => ?_), hB.trans (hb4.mono hB.size)⟩
        rcases Nat.lt_or_ge i n with hi | hi
        · rw [Pz.co_get (z := Pz.co L i + Pz.co L' i) (by rw [List.getElem?_map, List.getElem?_range hi]; simp [hi])]
        · rw [Pz.co_ge (by simpa using hi), Pz.co_ge (by rw [HL.out.1]; have := HM.out; omega), Pz.co_ge (by rw [HL.out.2]; have := HM.out; omega)]; rfl
      · have hjl : j < n := by omega
        have hjli : (j : Int) < (n : Int) := by omega
        clear hjm
        go_wp2_with fail
        refine (rzat_any j (h.next hB)).mono ?_
        rintro _ W2 ⟨s2, A2, n2, c2, z2, rfl, hr2, hn2, hz2, hb2⟩
        have hB2 := hB.trans (hb2.mono hB.size)
        go_wp2_with fail
        refine (rzat_any j (h'.next hB2)).mono ?_
        rintro _ W3 ⟨s3, A3, n3, c3, z3, rfl, hr3, hn3, hz3, hb3⟩
        have hB3 := hB2.trans (hb3.mono hB2.size)
        go_wp2_with fail
        refine (rIAdd_any (hr2.next hb3) hr3 (by omega) (by omega)).mono ?_
        rintro _ W4 ⟨s4, A4, n4, c4, z4, rfl, ho4, hz4, hb4⟩
        have hB4 := hB3.trans (hb4.mono hB3.size)
        have hb24 := hb2.trans ((hb3.trans (hb4.mono hb3.size)).mono hb2.size)
        have hZ4 := hZ.next hb24
        have hE4 := hE.next hb24
        obtain ⟨e, he⟩ : ∃ e, E[j]? = some e := ⟨E[j]'(by rw [hEl.out]; exact hjl), List.getElem?_eq_getElem _⟩
        obtain ⟨k0, k1⟩ := hZ4.cells he
        have f0 := hZ4.frozen (j * 2)
        have f1 := hZ4.frozen (j * 2 + 1)
        have HZ5 := Lib.hid (hZ4.store j (s4, A4, n4, c4))
        have HE5 := Lib.hid (hE4.store (j := j) (e := (s4, A4, n4, c4)) (z := z4) hZ4 (ho4.base hB3.size))
        have hB5 := (hB4.setCell (p := ⟨g, j * 2, none⟩) HG.out (.bool s4)).setCell (p := ⟨g, j * 2 + 1, none⟩) HG.out (.slice A4 n4 c4)
        have HF := Lib.hid (show z4 = Pz.co L j + Pz.co L' j by rw [hz4.out, hz2.out, hz3.out])
        clear hb24 hb2 hb3 hb4 hZ hE he
        go_wp2_with fail
        go_roundw
        case rel => exact ⟨j + 1, E.set j (s4, A4, n4, c4), by go_num, by omega, HZ5.out, Lib.hid (by rw [List.length_set]; exact hEl.out), HE5.out.congr fun i => (by
          by_cases e1 : i = j
          · subst e1; rw [if_pos rfl, if_pos (Nat.lt_succ_self _), HF.out]
          · rw [if_neg e1]
            by_cases e2 : i < j
            · rw [if_pos e2, if_pos (by omega)]
            · rw [if_neg e2, if_neg (by omega)]), hB5⟩
        case measure => simp [intOf]; omega
end Go.Proofs.Ytipbpdiahemmpaa

/- Reference 07, third part: times a number, the difference. -/
namespace Go.Proofs.Ytipbpdiahemmpaa
open Go.RowKit Go.IntWalk
attribute [local go_sem ↓] Go.wp_at_zero Go.wp_at_succ

set_option maxRecDepth 100000 in
set_option maxHeartbeats 4000000 in
theorem rzScale_any {N N' : Nat} {s : Bool} {A A' : Option Addr} {n c n' c' : Nat} {L : List Int} {x : Int} {w : World} (h : RdZs w w.heap.size N A n c L) (h' : RdZ w w.heap.size s A' n' c' x) (hn : n ≤ 4398046511103) (hn' : n' ≤ N') (hN : N ≤ 4398046511103) (hN' : N' ≤ 4398046511103) :
    Calls Try.prog 21 #[.slice A n c, .agg #[.bool s, .slice A' n' c']] w (RetP (fun i => Pz.co L i * x) w) := by
  have HC := Lib.hid (zl_co h)
  have HLX := Lib.hid (show Zz.zl x ≤ N' from Nat.le_trans h'.len hn')
  have HLEN := Lib.hid h.len
  have hX := ZC.new w s A' n' c'
  have hB : Below w.heap.size w (w.alloc (.cells #[.bool s, .slice A' n' c'] 40)) := (Below.refl w.heap.size w).alloc (Nat.le_refl _) _
  obtain ⟨W1, HW1⟩ : ∃ W, W = w.alloc (.cells #[.bool s, .slice A' n' c'] 40) := ⟨_, rfl⟩
  rw [← HW1] at hX hB
  obtain ⟨W2, HW2⟩ : ∃ W, W = W1.alloc (.cells (zcs (List.replicate n (false, none, 0, 0))).toArray 40) := ⟨_, rfl⟩
  have hmk := make_zs n (by omega)
  have hZ0 := ZB.made W1 n
  rw [← HW2] at hZ0
  have hE0 := EntF.zeros W2 w.heap.size n
  have hb2 : Below W1.heap.size W1 W2 := by rw [HW2]; exact (Below.refl _ _).alloc (Nat.le_refl _) _
  have hB2 := hB.trans (hb2.mono hB.size)
  have hX2 := hX.next hb2
  rw [HW1] at HW2
  have HW2 := Lib.hid HW2
  have HG0 := Lib.hid (show w.heap.size < W1.heap.size from hX.lt)
  have HH := Lib.hid h'
  clear hX hB hb2 h'
  go_enter Try.func21, Try.ntmps21
  go_wp2_with fail
  rw [← HW2.out]
  clear HW2
  clear HW2
  have e0 : (w.alloc (.cells #[.bool s, .slice A' n' c'] 40)).heap.size = w.heap.size + 1 := by simp
  rw [HW1, e0] at hZ0
  have HGG := Lib.hid (show w.heap.size < w.heap.size + 1 from Nat.lt_succ_self _)
  clear HW1 e0 hmk
  go_loopw [12] (fun iv wr => ∃ (j : Nat) (E : List Ent), iv = .int .i64 j ∧ j ≤ n ∧ ZB wr (w.heap.size + 1) E ∧ Hid (E.length = n) ∧ EntF wr w.heap.size E (fun i => if i < j then Pz.co L i * x else 0) ∧ Below w.heap.size w wr ∧ ZC wr w.heap.size s A' n' c') (fun iv _ => n - (intOf iv).toNat)
  case atStart => exact ⟨0, _, rfl, Nat.zero_le _, hZ0, Lib.hid (by simp), fun i e he => by simpa using hE0 i e he, hB2, hX2⟩
  case round =>
    clear hZ0 hE0 hB2 hX2
    obtain ⟨j, E, rfl, hj, hZ, hEl, hE, hB, hX⟩ := hrel
    by_cases hjm : j = n
    · have hmj := hjm.symm
      subst hmj
      clear hjm
      have ho := (hZ.own hE (Nat.le_succ _) hEl.out (by unfold maxLen; omega))
      have hrd := ho.rd (N := N + N') (fun z hz => by
        obtain ⟨i, hi, rfl⟩ := List.mem_map.1 hz
        split
        · have e1 := Zz.zl_mul (Pz.co L i) x
          have e2 := HC.out i
          have e3 := HLX.out
          omega
        · rw [Zz.zl_zero]; exact Nat.zero_le _)
      go_wp2_with fail
      refine (rzNorm_any hrd (by omega) (by omega)).mono ?_
      rintro _ W4 ⟨A4, n4, c4, M4, rfl, ho4, hM4, hb4⟩
      go_wp2
      go_ret
      refine ⟨_, _, _, M4, rfl, ho4.base hB.size, Lib.hid (hM4.out.congr fun i => ?_), hB.trans (hb4.mono hB.size)⟩
      rcases Nat.lt_or_ge i n with hi | hi
      · rw [Pz.co_get (z := Pz.co L i * x) (by rw [List.getElem?_map, List.getElem?_range hi]; simp [hi])]
      · rw [Pz.co_ge (by simpa using hi), Pz.co_ge (by rw [HLEN.out]; exact hi), Int.zero_mul]
    · have hjl : j < n := by omega
      have hjli : (j : Int) < (n : Int) := by omega
      clear hjm
      obtain ⟨ad, s3, A3, n3, c3, z, rfl, hbk, hz0, hz1, hrz, hn3, hz⟩ := zs_at h hjl
      obtain ⟨hw0, hw1⟩ := zs_cells hB hbk hz0 hz1
      have HZV := Lib.hid (show Pz.co L j = z from Pz.co_get hz.out)
      have HBD := Lib.hid (Below.refl wr.heap.size wr).drew
      have HMU := Lib.hid (rIMul_any ((hrz.next hB).next HBD.out) ((HH.out.next hB).next HBD.out) (by omega) (by omega))
      have hx0 := hX.c0
      have hx1 := hX.c1
      obtain ⟨e, he⟩ : ∃ e, E[j]? = some e := ⟨E[j]'(by rw [hEl.out]; exact hjl), List.getElem?_eq_getElem _⟩
      have HE := Lib.hid he
      have HZ := Lib.hid hZ
      have HEF := Lib.hid hE
      have HX := Lib.hid hX
      clear hz0 hz1 hrz hz he hZ hE hX
      go_upto_region 5 with fail
      go_region_with (first
        | (go_at_call 49; refine HMU.out.mono ?_; rintro _ W7 ⟨s7, A7, n7, c7, z7, rfl, ho7, hz7, hb7⟩; have HB7 := Lib.hid (HBD.out.trans hb7); have lb0 := ((HZ.out.next HB7.out).cells HE.out).1; have lb1 := ((HZ.out.next HB7.out).cells HE.out).2; have lf0 := (HZ.out.next HB7.out).frozen (j * 2); have lf1 := (HZ.out.next HB7.out).frozen (j * 2 + 1)))
      all_goals
        have HZ7 := Lib.hid ((HZ.out.next HB7.out).store j (s7, A7, n7, c7))
        have HE7 := Lib.hid ((HEF.out.next HB7.out).store (j := j) (e := (s7, A7, n7, c7)) (z := z7) (HZ.out.next HB7.out) (ho7.base hB.size))
        have HX7 := Lib.hid (((HX.out.next HB7.out).far (p := ⟨w.heap.size + 1, j * 2, none⟩) (by simp) (.bool s7)).far (p := ⟨w.heap.size + 1, j * 2 + 1, none⟩) (by simp) (.slice A7 n7 c7))
        have HBF := Lib.hid (((hB.trans (HB7.out.mono hB.size)).setCell (p := ⟨w.heap.size + 1, j * 2, none⟩) (Nat.le_succ _) (.bool s7)).setCell (p := ⟨w.heap.size + 1, j * 2 + 1, none⟩) (Nat.le_succ _) (.slice A7 n7 c7))
        have HFA := Lib.hid (show z7 = Pz.co L j * x by rw [hz7.out, HZV.out])
        clear hw0 hw1 hx0 hx1 lb0 lb1 lf0 lf1 hb7 ho7
        go_wp2
        go_roundw
        case rel => exact ⟨j + 1, E.set j (s7, A7, n7, c7), by go_num, by omega, HZ7.out, Lib.hid (by rw [List.length_set]; exact hEl.out), HE7.out.congr fun i => (by
          by_cases e1 : i = j
          · subst e1; rw [if_pos rfl, if_pos (Nat.lt_succ_self _), HFA.out]
          · rw [if_neg e1]
            by_cases e2 : i < j
            · rw [if_pos e2, if_pos (by omega)]
            · rw [if_neg e2, if_neg (by omega)]), HBF.out, HX7.out⟩
        case measure => simp [intOf]; omega

set_option maxHeartbeats 1000000 in
theorem rzSub_any {N N' : Nat} {A A' : Option Addr} {n c n' c' : Nat} {L L' : List Int} {w : World} (h : RdZs w w.heap.size N A n c L) (h' : RdZs w w.heap.size N' A' n' c' L') (hn : n ≤ 4398046511103) (hn' : n' ≤ 4398046511103) (hN : N ≤ 4398046511102) (hN' : N' ≤ 4398046511102) :
    Calls Try.prog 17 #[.slice A n c, .slice A' n' c'] w (RetP (fun i => Pz.co L i - Pz.co L' i) w) := by
  have HC := Lib.hid (zl_co h')
  have HLEN := Lib.hid h'.len
  go_enter Try.func17, Try.ntmps17
  go_wp2_with fail
  refine (rIOf_any (-1) (by omega) (by omega) w).mono ?_
  rintro _ W1 ⟨s1, A1, n1, c1, z1, rfl, ho1, hz1, hb1⟩
  have hn1 : n1 ≤ 1 := by rw [ho1.len, hz1.out]; exact Zz.zl_small (by decide)
  go_wp2_with fail
  refine (rzScale_any (N' := 1) (h'.next hb1) ho1.rd hn' hn1 (by omega) (by omega)).mono ?_
  rintro _ W2 ⟨A2, n2, c2, M2, rfl, ho2, hM2, hb2⟩
  have hB2 := hb1.trans (hb2.mono hb1.size)
  have hrd := ho2.rd (N := N' + 1) (fun z hz => by
    obtain ⟨i, _, rfl⟩ := Pz.mem_co hz
    rw [hM2.out.2]
    have e1 := Zz.zl_mul (Pz.co L' i) z1
    have e2 := HC.out i
    have e3 := ho1.len
    show Zz.zl (Pz.co L' i * z1) ≤ _
    omega)
  have hnn : n2 ≤ 4398046511103 := by
    rw [← ho2.len]
    exact Nat.le_trans (hM2.out.len (k := n') fun i hi => by rw [Pz.co_ge (by rw [HLEN.out]; exact hi), Int.zero_mul]) hn'
  go_wp2_with fail
  refine (rzAdd_any (h.next hB2) hrd hn hnn (by omega) (by omega)).mono ?_
  rintro _ W3 ⟨A3, n3, c3, M3, rfl, ho3, hM3, hb3⟩
  go_wp2
  go_ret
  exact ⟨_, _, _, M3, rfl, ho3.base hB2.size, Lib.hid (hM3.out.congr fun i => by have e := hM2.out.2 i; rw [hz1.out] at e; rw [e]; show Pz.co L i + Pz.co L' i * -1 = _; omega), hB2.trans (hb3.mono hB2.size)⟩
end Go.Proofs.Ytipbpdiahemmpaa

/- Reference 07, fourth part: times a power of x; the product. -/
namespace Go.Proofs.Ytipbpdiahemmpaa
open Go.RowKit Go.IntWalk
attribute [local go_sem ↓] Go.wp_at_zero Go.wp_at_succ

theorem zcs_inv {E : List Ent} {j : Nat} {v : Value} (h : (zcs E)[j]? = some v) : ∃ (q : Nat) (e : Ent), E[q]? = some e ∧ ((j = q * 2 ∧ v = .bool e.1) ∨ (j = q * 2 + 1 ∧ v = .slice e.2.1 e.2.2.1 e.2.2.2)) := by
  have hj : j < (zcs E).length := by
    rcases Nat.lt_or_ge j (zcs E).length with h1 | h1
    · exact h1
    · rw [List.getElem?_eq_none h1] at h; cases h
  rw [zcs_len] at hj
  have hq : j / 2 < E.length := by omega
  have he := List.getElem?_eq_getElem hq
  obtain ⟨c0, c1⟩ := zcs_at E (j / 2) _ he
  refine ⟨j / 2, _, he, ?_⟩
  rcases Nat.mod_two_eq_zero_or_one j with e | e
  · rw [show j / 2 * 2 = j by omega, h] at c0
    injection c0 with c0
    exact .inl ⟨by omega, c0⟩
  · rw [show j / 2 * 2 + 1 = j by omega, h] at c1
    injection c1 with c1
    exact .inr ⟨by omega, c1⟩
theorem add_next (ad : Addr) (q : Nat) : ad.add (q * 2 + 1) = ⟨(ad.add (q * 2)).block, (ad.add (q * 2)).off + 1, none⟩ := by
  unfold Addr.add
  by_cases h : q * 2 = 0
  · rw [if_neg (by omega), if_pos h]
    simp
  · rw [if_neg (by omega), if_neg h]
    simp [Nat.add_assoc]
theorem zs_ents {w : World} {B N : Nat} {ad : Addr} {n c : Nat} {L : List Int} (h : RdZs w B N (some ad) n c L) :
    ∃ E : List Ent, E.length = n ∧ (∀ (j : Nat) (v : Value), (zcs E)[j]? = some v → ad.block < B ∧ w.cell? (ad.add j) = some v) ∧ (∀ (j : Nat) (e : Ent) (z : Int), E[j]? = some e → L[j]? = some z → RdZ w B e.1 e.2.1 e.2.2.1 e.2.2.2 z ∧ e.2.2.1 ≤ N) := by
  have key : ∀ j : Fin n, ∃ e : Ent, w.cell? (ad.add (j.1 * 2)) = some (.bool e.1) ∧ w.cell? (ad.add (j.1 * 2 + 1)) = some (.slice e.2.1 e.2.2.1 e.2.2.2) ∧ ∀ z, L[j.1]? = some z → RdZ w B e.1 e.2.1 e.2.2.1 e.2.2.2 z ∧ e.2.2.1 ≤ N := by
    intro j
    obtain ⟨ad', s, A', n', c', z, e, hbk, h0, h1, hr, hn, hz⟩ := zs_at h j.2
    injection e with e
    subst e
    refine ⟨(s, A', n', c'), h0, by rw [add_next]; exact h1, fun z' hz' => ?_⟩
    rw [hz.out] at hz'
    injection hz' with hz'
    subst hz'
    exact ⟨hr, hn⟩
  obtain ⟨f, hf⟩ : ∃ f : Fin n → Ent, ∀ j : Fin n, w.cell? (ad.add (j.1 * 2)) = some (.bool (f j).1) ∧ w.cell? (ad.add (j.1 * 2 + 1)) = some (.slice (f j).2.1 (f j).2.2.1 (f j).2.2.2) ∧ ∀ z, L[j.1]? = some z → RdZ w B (f j).1 (f j).2.1 (f j).2.2.1 (f j).2.2.2 z ∧ (f j).2.2.1 ≤ N := ⟨fun j => Classical.choose (key j), fun j => Classical.choose_spec (key j)⟩
  have get : ∀ (j : Nat) (e : Ent), (List.ofFn f)[j]? = some e → ∃ hj : j < n, e = f ⟨j, hj⟩ := by
    intro j e he
    rcases Nat.lt_or_ge j n with hj | hj
    · rw [List.getElem?_eq_getElem (by simpa using hj)] at he
      simp at he
      exact ⟨hj, he.symm⟩
    · rw [List.getElem?_eq_none (by simpa using hj)] at he; cases he
  refine ⟨List.ofFn f, by simp, fun j v hv => ?_, fun j e z he hz => ?_⟩
  · have hpos : 0 < n := by
      obtain ⟨q, e, he, _⟩ := zcs_inv hv
      obtain ⟨hq, _⟩ := get q e he
      omega
    obtain ⟨ad', _, _, _, _, _, e0, hbk, _⟩ := zs_at h hpos
    injection e0 with e0
    subst e0
    refine ⟨hbk, ?_⟩
    obtain ⟨q, e, he, h1 | h1⟩ := zcs_inv hv
    · obtain ⟨hq, rfl⟩ := get q e he
      rw [h1.1, h1.2]
      exact (hf ⟨q, hq⟩).1
    · obtain ⟨hq, rfl⟩ := get q e he
      rw [h1.1, h1.2]
      exact (hf ⟨q, hq⟩).2.1
  · obtain ⟨hj, rfl⟩ := get j e he
    exact (hf ⟨j, hj⟩).2.2 z hz
theorem rdzs_of_row {w : World} {b N : Nat} {A : Option Addr} {n c : Nat} {E : List Ent} {L : List Int} (hr : w.ownsRow b 40 2 (.slice A n c) n (zcs E)) (hE : E.length = n) (hL : L.length = n)
    (hel : ∀ (j : Nat) (e : Ent) (z : Int), E[j]? = some e → L[j]? = some z → RdZ w w.heap.size e.1 e.2.1 e.2.2.1 e.2.2.2 z ∧ e.2.2.1 ≤ N) : RdZs w w.heap.size N A n c L := by
  rcases hr.2 with ⟨h1, h2⟩ | ⟨g, cap, cur, h1, h2, h3, h4, h5, _⟩
  · injection h1 with h1 h1' h1''
    subst h2
    refine ⟨hL, Nat.zero_le _, by rw [h1'']; exact Nat.zero_le _, fun j z hz => ?_⟩
    rw [List.eq_nil_of_length_eq_zero hL] at hz
    simp at hz
  · injection h1 with h1 h1' h1''
    subst h1 h1''
    refine ⟨hL, h4, h5, fun j z hz => ?_⟩
    have hj : j < L.length := by
      rcases Nat.lt_or_ge j L.length with h6 | h6
      · exact h6
      · rw [List.getElem?_eq_none h6] at hz; cases hz
    have hjE : j < E.length := by omega
    have he := List.getElem?_eq_getElem hjE
    have hz' := hel j _ z he hz
    obtain ⟨c0, c1⟩ := zcs_at E j _ he
    have e1 : (⟨g, 0, none⟩ : Addr).add (j * 2) = ⟨g, j * 2, none⟩ := add_base g _
    refine ⟨_, _, _, _, _, rfl, (Array.getElem?_eq_some_iff.1 h3).1, ?_, ?_, hz'.1, hz'.2⟩
    · rw [e1, hr.cellAt (j * 2) (by omega)]; exact c0
    · rw [e1]
      show w.cell? ⟨g, j * 2 + 1, none⟩ = _
      rw [hr.cellAt (j * 2 + 1) (by omega)]
      exact c1
theorem zcs_one_cell (E : List Ent) : ∀ u ∈ zcs E, u.oneCell' = true := by
  intro u hu
  obtain ⟨j, hj⟩ := List.getElem?_of_mem hu
  obtain ⟨q, e, _, h | h⟩ := zcs_inv hj <;> rw [h.2] <;> rfl
/-- Times a power of x. -/
def sh (k : Nat) (f : Nat → Int) (i : Nat) : Int := if i < k then 0 else f (i - k)
theorem co_shift (k : Nat) (L : List Int) (i : Nat) : Pz.co (List.replicate k 0 ++ L) i = sh k (Pz.co L) i := by
  unfold sh Pz.co
  rw [List.getD_eq_getElem?_getD, List.getD_eq_getElem?_getD]
  by_cases h : i < k
  · rw [if_pos h, List.getElem?_append_left (by simpa using h)]
    simp [h]
  · rw [if_neg h, List.getElem?_append_right (by simp; omega)]
    simp

set_option maxRecDepth 100000 in
set_option maxHeartbeats 4000000 in
theorem rzShift_any {N : Nat} {A : Option Addr} {n c : Nat} {L : List Int} {w : World} (k : Nat) (h : RdZs w w.heap.size N A n c L) (hnil : NilOk A n c) (hn : n + k ≤ 4398046511103) (hN : N ≤ 4398046511103) :
    Calls Try.prog 36 #[.slice A n c, .int .i64 k] w (RetP (sh k (Pz.co L)) w) := by
  have HLEN := Lib.hid h.len
  obtain ⟨i0, hi, hz0, hz1, hz2⟩ := info_parts infoZ
  have hmk := make_zs k (by omega)
  have hB0 := (Below.refl w.heap.size w).alloc (Nat.le_refl _) (.cells (zcs (List.replicate k (false, none, 0, 0))).toArray 40)
  obtain ⟨W1, HW1⟩ : ∃ W, W = w.alloc (.cells (zcs (List.replicate k (false, none, 0, 0))).toArray 40) := ⟨_, rfl⟩
  have hZ := ZB.made w k
  rw [← HW1] at hZ hB0
  have hO : W1.ownsRow w.heap.size 40 2 (.slice (some ⟨w.heap.size, 0, none⟩) k k) k (zcs (List.replicate k (false, none, 0, 0))) :=
    ⟨by rw [zcs_len]; simp, .inr ⟨w.heap.size, k, _, rfl, Nat.le_refl _, hZ, Nat.le_refl _, by unfold maxLen; omega, by simp [zcs_len], by rw [List.take_of_length_le (by simp [zcs_len])]⟩⟩
  have hR := h.next hB0
  rcases A with _ | ad
  · obtain ⟨rfl, rfl⟩ := hnil rfl
    have hL : L = [] := List.eq_nil_of_length_eq_zero HLEN.out
    subst hL
    have hrd : RdZs W1 W1.heap.size N (some ⟨w.heap.size, 0, none⟩) k k (List.replicate k 0) := rdzs_of_row hO (by simp) (by simp) (fun j e z he hz => by
      have e1 := List.eq_of_mem_replicate (List.mem_of_getElem? he)
      have e2 := List.eq_of_mem_replicate (List.mem_of_getElem? hz)
      subst e1 e2
      exact ⟨RdZ.zero _ _ _, Nat.zero_le _⟩)
    have HRD := Lib.hid hrd
    have HO := Lib.hid hO
    rw [HW1] at hO
    have HW1 := Lib.hid HW1
    clear hZ hR h hrd
    go_enter Try.func36, Try.ntmps36
    go_wp2_with (at_builtin; refine wpList_append_own_none rfl _ _ 23 rfl w.heap.size 40 i0 2 Try.underlying23 hi _ _ _ rfl hO rfl ?_)
    rw [← HW1.out]
    refine (rzNorm_any HRD.out (by omega) (by omega)).mono ?_
    rintro _ W4 ⟨A4, n4, c4, M4, rfl, ho4, hM4, hb4⟩
    go_wp2
    go_ret
    exact ⟨_, _, _, M4, rfl, ho4.base hB0.size, Lib.hid (hM4.out.congr fun i => by have e := co_shift k [] i; rw [List.append_nil] at e; exact e), hB0.trans (hb4.mono hB0.size)⟩
  · obtain ⟨E, hE, hcell, hent⟩ := zs_ents h
    have HE := Lib.hid hE
    have HEN := Lib.hid hent
    have HSRC : Hid (∀ (j : Nat) (v : Value), (zcs E)[j]? = some v → (w.alloc (.cells (zcs (List.replicate k (false, none, 0, 0))).toArray 40)).cell? (ad.add j) = some v) := Lib.hid (by rw [← HW1]; exact fun j v hv => (hB0.cell (p := ad.add j) (by rw [add_blk]; exact (hcell j v hv).1)).trans (hcell j v hv).2)
    have HZL := Lib.hid (show (zcs E).length = n * 2 by rw [zcs_len, hE])
    have HO := Lib.hid (show (w.alloc (.cells (zcs (List.replicate k (false, none, 0, 0))).toArray 40)).ownsRow w.heap.size 40 2 (.slice (some ⟨w.heap.size, 0, none⟩) k k) k (zcs (List.replicate k (false, none, 0, 0))) by rw [← HW1]; exact hO)
    have HB0 := Lib.hid (show Below w.heap.size w (w.alloc (.cells (zcs (List.replicate k (false, none, 0, 0))).toArray 40)) by rw [← HW1]; exact hB0)
    clear hE hent hcell hO hZ hR h hB0 hnil
    clear HW1
    go_enter Try.func36, Try.ntmps36
    go_wp2_with (at_builtin; refine wpList_append_own _ rfl _ _ 23 rfl w.heap.size 40 i0 (.agg #[.bool false, .slice none 0 0]) 2 32 Try.underlying23 hi hz0 hz1 hz2 rfl (by decide) _ _ _ rfl HO.out ad n c (zcs E) rfl HZL.out HSRC.out (zcs_one_cell E) (by unfold maxLen; omega) (by omega) (by simp) ?_; intro v' w1 hown' hgrow _; obtain ⟨A', c', rfl⟩ := row_sl hown')
    have hB1 := HB0.out.grown hgrow (by simp) (fun k e => by cases e; exact Nat.le_refl _)
    have hown2 : w1.ownsRow w.heap.size 40 2 (.slice A' (k + n) c') (k + n) (zcs (List.replicate k (false, none, 0, 0) ++ E)) := by rw [zcs_append]; exact hown'
    have hrd : RdZs w1 w1.heap.size N A' (k + n) c' (List.replicate k 0 ++ L) := rdzs_of_row hown2 (by simp [HE.out]) (by simp [HLEN.out]) (fun j e z he hz => by
      rcases Nat.lt_or_ge j k with hj | hj
      · rw [List.getElem?_append_left (by simpa using hj)] at he hz
        have e1 := List.eq_of_mem_replicate (List.mem_of_getElem? he)
        have e2 := List.eq_of_mem_replicate (List.mem_of_getElem? hz)
        subst e1 e2
        exact ⟨RdZ.zero _ _ _, Nat.zero_le _⟩
      · rw [List.getElem?_append_right (by simpa using hj)] at he hz
        simp only [List.length_replicate] at he hz
        obtain ⟨h1, h2⟩ := HEN.out (j - k) e z he hz
        exact ⟨h1.next hB1, h2⟩)
    refine (rzNorm_any hrd (by omega) (by omega)).mono ?_
    rintro _ W4 ⟨A4, n4, c4, M4, rfl, ho4, hM4, hb4⟩
    go_wp2
    go_ret
    exact ⟨_, _, _, M4, rfl, ho4.base hB1.size, Lib.hid (hM4.out.congr fun i => co_shift k L i), hB1.trans (hb4.mono hB1.size)⟩

theorem OwZs.nilOk {w : World} {b : Nat} {A : Option Addr} {n c : Nat} {L : List Int} (h : OwZs w b A n c L) : NilOk A n c := fun e => by
  rcases h.form with ⟨_, h1, h2⟩ | ⟨g, h1, _⟩
  · exact ⟨h1, h2⟩
  · rw [h1] at e; cases e
theorem rd_of {w : World} {b N : Nat} {A : Option Addr} {n c : Nat} {M : List Int} {f : Nat → Int} (h : OwZs w b A n c M) (hM : Pz.IsP f M) (hf : ∀ i, Zz.zl (f i) ≤ N) : RdZs w w.heap.size N A n c M := h.rd fun z hz => by
  obtain ⟨i, _, rfl⟩ := Pz.mem_co hz
  rw [hM.2]
  exact hf i
theorem sh_zl {k N : Nat} {f : Nat → Int} (hf : ∀ i, Zz.zl (f i) ≤ N) (i : Nat) : Zz.zl (sh k f i) ≤ N := by
  unfold sh
  split
  · rw [Zz.zl_zero]; exact Nat.zero_le _
  · exact hf _

set_option maxRecDepth 100000 in
set_option maxHeartbeats 4000000 in
theorem rzMul_any {N N' : Nat} {A A' : Option Addr} {n c n' c' : Nat} {L L' : List Int} {w : World} (h : RdZs w w.heap.size N A n c L) (h' : RdZs w w.heap.size N' A' n' c' L') (hn : n ≤ 4294967290) (hn' : n' ≤ 4294967290) (hN : N ≤ 2199023255551) (hN' : N' ≤ 2199023255550) :
    Calls Try.prog 19 #[.slice A n c, .slice A' n' c'] w (RetP (Pz.cvp (Pz.co L) (Pz.co L') n) w) := by
  have HC := Lib.hid (And.intro (zl_co h) (zl_co h'))
  have HLN := Lib.hid (And.intro h.len h'.len)
  go_enter Try.func19, Try.ntmps19
  go_wp2_with fail
  go_loopw [5, 10] (fun ov iv wr => ∃ (i m c2 : Nat) (A2 : Option Addr) (M : List Int), ov = .slice A2 m c2 ∧ iv = .int .i64 i ∧ i ≤ n ∧ OwZs wr w.heap.size A2 m c2 M ∧ Hid (Pz.IsP (Pz.cvp (Pz.co L) (Pz.co L') i) M) ∧ Below w.heap.size w wr) (fun _ iv _ => n - (intOf iv).toNat)
  case atStart => exact ⟨0, 0, 0, none, [], rfl, rfl, Nat.zero_le _, OwZs.nil _ _, Lib.hid ⟨Pz.nz_nil, fun t => Pz.co_nil t⟩, Below.refl _ _⟩
  case round =>
    obtain ⟨i, m, c2, A2, M, rfl, rfl, hi, ho, hM, hB⟩ := hrel
    have HZC := Lib.hid (show ∀ t, Zz.zl (Pz.cvp (Pz.co L) (Pz.co L') i t) ≤ N + N' + 1 from fun t => Pz.cvp_zl HC.out.1 HC.out.2 (by omega) t)
    have hml : m ≤ i + n' := by
      rw [← ho.len]
      exact hM.out.len fun t ht => Pz.cvp_above (k := n') (fun u hu => Pz.co_ge (by rw [HLN.out.2]; exact hu)) (by omega)
    have hrd := rd_of ho hM.out HZC.out
    by_cases hin : i = n
    · have hni := hin.symm
      subst hni
      clear hin
      go_wp2_with fail
      refine (rzNorm_any hrd (by omega) (by omega)).mono ?_
      rintro _ W4 ⟨A4, n4, c4, M4, rfl, ho4, hM4, hb4⟩
      go_wp2
      go_ret
      exact ⟨_, _, _, M4, rfl, ho4.base hB.size, Lib.hid (hM4.out.congr fun t => hM.out.2 t), hB.trans (hb4.mono hB.size)⟩
    · have hil : i < n := by omega
      clear hin
      have hili : (i : Int) < (n : Int) := by omega
      obtain ⟨ad, s3, A3, n3, c3, x, rfl, hbk, hz0, hz1, hrx, hn3, hx⟩ := zs_at h hil
      obtain ⟨hw0, hw1⟩ := zs_cells hB hbk hz0 hz1
      obtain ⟨W2, HW2⟩ : ∃ W, W = wr.alloc (.cells #[.bool s3, .slice A3 n3 c3] 40) := ⟨_, rfl⟩
      have hb2 : Below wr.heap.size wr W2 := by rw [HW2]; exact (Below.refl _ _).alloc (Nat.le_refl _) _
      have HW2 := Lib.hid HW2
      have HXV := Lib.hid (show Pz.co L i = x from Pz.co_get hx.out)
      have hB2 := hB.trans (hb2.mono hB.size)
      go_wp2_with fail
      rw [← HW2.out]
      clear HW2 hw0 hw1 hz0 hz1
      clear HW2
      refine (rzScale_any (N' := N) (h'.next hB2) (hrx.next hB2) (by omega) hn3 (by omega) (by omega)).mono ?_
      rintro _ W4 ⟨A4, n4, c4, M4, rfl, ho4, hM4, hb4⟩
      have hz4 : ∀ t, Zz.zl (Pz.co L' t * x) ≤ N + N' := fun t => by
        have e1 := Zz.zl_mul (Pz.co L' t) x
        have e2 := HC.out.2 t
        have e3 := HC.out.1 i
        rw [HXV.out] at e3
        omega
      have hn4 : n4 ≤ n' := by
        rw [← ho4.len]
        exact hM4.out.len fun t ht => by
          show Pz.co L' t * x = 0
          rw [Pz.co_ge (by rw [HLN.out.2]; exact ht), Int.zero_mul]
      have hr4 := rd_of ho4 hM4.out hz4
      have HNIL := Lib.hid ho4.nilOk
      have hB4 := hB2.trans (hb4.mono hB2.size)
      go_wp2_with fail
      refine (rzShift_any i hr4 HNIL.out (by omega) (by omega)).mono ?_
      rintro _ W5 ⟨A5, n5, c5, M5, rfl, ho5, hM5, hb5⟩
      have hr5 := rd_of (N := N + N') ho5 hM5.out (sh_zl fun t => by rw [hM4.out.2]; exact hz4 t)
      have hn5 : n5 ≤ i + n4 := by
        rw [← ho5.len]
        exact hM5.out.len fun t ht => by
          unfold sh
          split
          · rfl
          · exact Pz.co_ge (by rw [ho4.len]; omega)
      have hB5 := hB4.trans (hb5.mono hB4.size)
      have hrd5 := hrd.next (hb2.trans ((hb4.trans (hb5.mono hb4.size)).mono hb2.size))
      go_wp2_with fail
      refine (rzAdd_any hrd5 hr5 (by omega) (by omega) (by omega) (by omega)).mono ?_
      rintro _ W6 ⟨A6, n6, c6, M6, rfl, ho6, hM6, hb6⟩
      have HF := Lib.hid (show Pz.IsP (Pz.cvp (Pz.co L) (Pz.co L') (i + 1)) M6 from hM6.out.congr fun t => by
        show Pz.co M t + Pz.co M5 t = _
        rw [hM.out.2, hM5.out.2, Pz.cvp_succ]
        congr 1
        unfold sh
        by_cases ht : t < i
        · rw [if_pos ht, if_neg (by omega)]
        · rw [if_neg ht, if_pos (by omega), hM4.out.2, HXV.out]
          exact Int.mul_comm _ _)
      have hB6 := hB5.trans (hb6.mono hB5.size)
      have HO6 := Lib.hid (ho6.base hB5.size)
      clear hb2 hb4 hb5 hb6 ho4 ho5 ho6 hr4 hr5 hrd5 hrd hz4 hM4 hM5 hM6 hM hx hrx ho
      go_wp2
      go_roundw
      case rel => exact ⟨i + 1, n6, c6, A6, M6, rfl, by go_num, by omega, HO6.out, HF, hB6⟩
      case measure => simp [intOf]; omega
end Go.Proofs.Ytipbpdiahemmpaa
