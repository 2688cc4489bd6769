/- qpoly.norms at free; Squarefree at the example. -/
import Derived.Test.YtipbpdiahemmpaaGreatQ36
namespace Go.Proofs.YtipbpdiahemmpaaGreat
open Go.RowKit Go.IntWalk
attribute [local go_sem ↓] Go.wp_at_zero Go.wp_at_succ

theorem cell_of_same {w w' : World} {g : Nat} (h : w'.heap[g]? = w.heap[g]?) (j : Nat) : w'.cell? ⟨g, j, none⟩ = w.cell? ⟨g, j, none⟩ := by simp only [World.cell?, h]
theorem FC.grownP {w w1 : World} {g b : Nat} {s s' : Bool} {A A' Al : Option Addr} {n c n' c' nl cl m : Nat} {xs : List Value} {v : Value} {k : Nat} (h : FC w g s A n c s' A' n' c' Al nl cl) (hE : w.ownsRow b 38 k v m xs) (hg : w.grownBy w1 v.ownBlock) : FC w1 g s A n c s' A' n' c' Al nl cl := heap_grown hE hg h (by decide)

set_option maxRecDepth 100000 in
set_option maxHeartbeats 8000000 in
theorem norms_free {f N K : Nat} {A : Option Addr} {n c : Nat} {LL : List (List (Int × Int))} {w : World} (h : RdPs w w.heap.size N K A n c LL) (hn : n ≤ 1048576) (hK : K ≤ 1048576) (hN : N ≤ 1000000000000) (h1N : 1 ≤ N) (heg : ∀ args w, (callFunc f args).run Tryz.prog w = .ok (.enter f args) w) (hall : ∀ L ∈ LL, ∀ p ∈ L, p.2 ≠ 0)
    (hdo : (∀ L ∈ LL, ∀ p ∈ L, p.2 ≠ 0) → ∀ (W : World) (A' : Option Addr) (c' : Nat), Below w.heap.size w W → OwPs W w.heap.size A' n c' (LL.map nq) → Calls Tryz.prog f #[.slice A' n c'] W (RetSf w.heap.size W)) :
    Calls Tryz.prog 206 #[.slice A n c, .func (.func f) #[] #[]] w (RetSf w.heap.size w) := by
  have HD := Lib.hid hdo
  have HLEN := Lib.hid h.len
  obtain ⟨i0, hi, hz0, hz1, hz2⟩ := info_parts infoPoly
  have hb1 : Below w.heap.size w ((w.alloc (.cells #[.bool false, .slice none 0 0, .bool false, .slice none 0 0, .slice none 0 0] 175)).alloc (.cells #[.bool false, .slice none 0 0, .bool false, .slice none 0 0, .slice none 0 0] 175)) := ((Below.refl _ _).alloc (Nat.le_refl _) _).alloc (by simp) _
  have hR0 : FC ((w.alloc (.cells #[.bool false, .slice none 0 0, .bool false, .slice none 0 0, .slice none 0 0] 175)).alloc (.cells #[.bool false, .slice none 0 0, .bool false, .slice none 0 0, .slice none 0 0] 175)) w.heap.size false none 0 0 false none 0 0 none 0 0 := (FC.new w false none 0 0 false none 0 0 none 0 0).next ((Below.refl _ _).alloc (Nat.le_refl _) _)
  have hZ0 : FC ((w.alloc (.cells #[.bool false, .slice none 0 0, .bool false, .slice none 0 0, .slice none 0 0] 175)).alloc (.cells #[.bool false, .slice none 0 0, .bool false, .slice none 0 0, .slice none 0 0] 175)) (w.heap.size + 1) false none 0 0 false none 0 0 none 0 0 := by have := FC.new (w.alloc (.cells #[.bool false, .slice none 0 0, .bool false, .slice none 0 0, .slice none 0 0] 175)) false none 0 0 false none 0 0 none 0 0; simpa using this
  have HR0 := Lib.hid (And.intro hb1 (And.intro hR0 hZ0))
  clear hdo hb1 hR0 hZ0
  go_enter Tryz.func206, Tryz.ntmps206
  go_wp2_with fail
  generalize (w.alloc (.cells #[.bool false, .slice none 0 0, .bool false, .slice none 0 0, .slice none 0 0] 175)).alloc (.cells #[.bool false, .slice none 0 0, .bool false, .slice none 0 0, .slice none 0 0] 175) = W1 at *
  obtain ⟨gz, hgz⟩ : ∃ g, g = w.heap.size + 1 := ⟨_, rfl⟩
  rw [← hgz] at HR0 ⊢
  have HGZ := Lib.hid hgz
  clear hgz
  go_loopw [7, 14] (fun ov iv wr => ∃ (j c' : Nat) (A' : Option Addr) (M : List (List Rat)), ov = .slice A' j c' ∧ iv = .int .i64 j ∧ j ≤ n ∧ OwPs wr w.heap.size A' j c' M ∧ Hid (M = (LL.take j).map nq) ∧ Hid (∀ (i : Nat) (L : List (Int × Int)), i < j → LL[i]? = some L → ∀ p ∈ L, p.2 ≠ 0) ∧ Hid (FC wr w.heap.size false none 0 0 false none 0 0 none 0 0 ∧ FC wr gz false none 0 0 false none 0 0 none 0 0) ∧ Below w.heap.size w wr) (fun _ iv _ => n - (intOf iv).toNat)
  case atStart => exact ⟨0, 0, none, [], rfl, rfl, Nat.zero_le _, OwPs.nil _ _, Lib.hid rfl, Lib.hid fun i p hi => absurd hi (Nat.not_lt_zero _), Lib.hid HR0.out.2, HR0.out.1⟩
  case round =>
    obtain ⟨j, c', A', M, rfl, rfl, hj, ho, hM, hne, HX, hB⟩ := hrel
    by_cases hjn : j = n
    · subst hjn
      have HALL := Lib.hid (show ∀ L ∈ LL, ∀ p ∈ L, p.2 ≠ 0 from fun L hp => by
        obtain ⟨i, hi, e⟩ := List.mem_iff_getElem.1 hp
        exact hne.out i L (by rw [← HLEN.out]; exact hi) (by rw [List.getElem?_eq_getElem hi, e]))
      have HO := Lib.hid (show OwPs wr w.heap.size A' j c' (LL.map nq) by rw [← List.take_of_length_le (l := LL) (by rw [HLEN.out]; exact Nat.le_refl _), ← hM.out]; exact ho)
      have HB := Lib.hid hB
      clear ho hB hM hne
      go_wp2_with fail
      refine (HD.out HALL.out wr A' c' HB.out HO.out).mono ?_
      rintro _ W5 ⟨s1, A5, n5, c5, s2, A6, n6, c6, g6, c7, rfl, ho5, hy, hb5⟩
      have hR := HX.out.1.next hb5
      have r0 := hR.c0
      have r1 := hR.c1
      have r2 := hR.c2
      have r3 := hR.c3
      have r4 := hR.c4
      have f0 := hR.fz 0
      have f1 := hR.fz 1
      have f2 := hR.fz 2
      have f3 := hR.fz 3
      have f4 := hR.fz 4
      have HS := Lib.hid (hR.store s1 A5 n5 c5 s2 A6 n6 c6 (some ⟨g6, 0, none⟩) 2 c7)
      have HK := Lib.hid (ho5.keep (hR.keep s1 A5 n5 c5 s2 A6 n6 c6 (some ⟨g6, 0, none⟩) 2 c7))
      have HBF := Lib.hid (below_putF (HB.out.trans (hb5.mono HB.out.size)) (Nat.le_refl _) s1 A5 n5 c5 s2 A6 n6 c6 (some ⟨g6, 0, none⟩) 2 c7)
      have HCE := Lib.hid (show g6 < (putF W5 w.heap.size s1 A5 n5 c5 s2 A6 n6 c6 (some ⟨g6, 0, none⟩) 2 c7).heap.size ∧ 2 ≤ c7 ∧ (putF W5 w.heap.size s1 A5 n5 c5 s2 A6 n6 c6 (some ⟨g6, 0, none⟩) 2 c7).cell? ⟨g6, 3, none⟩ = some (.int .i64 2) from by
        have hne : g6 ≠ w.heap.size := by
          rintro rfl
          have h1 := hy.out.2.2
          rw [hR.c3] at h1
          injection h1 with h1
          cases h1
        have h2 : (putF W5 w.heap.size s1 A5 n5 c5 s2 A6 n6 c6 (some ⟨g6, 0, none⟩) 2 c7).heap[g6]? = W5.heap[g6]? := putF_at hne
        refine ⟨?_, hy.out.2.1, ?_⟩
        · have h3 := hy.out.1
          exact (Array.getElem?_eq_some_iff.1 (h2.trans (Array.getElem?_eq_getElem h3))).1
        · exact (cell_of_same h2 3).trans hy.out.2.2)
      have z0 := HS.out.c0
      have z1 := HS.out.c1
      have z2 := HS.out.c2
      have z3 := HS.out.c3
      have z4 := HS.out.c4
      unfold putF at HS HK HBF z0 z1 z2 z3 z4 HCE
      clear hR ho5 hb5
      go_wp2_with fail
      exact bodyPost_ret (by simp [results, Tryz.results206, go_sem, z0, z1, z2, z3, z4]) rfl ⟨s1, A5, n5, c5, s2, A6, n6, c6, g6, c7, rfl, HK.out, HCE, HBF.out⟩
    · have hjl : j < n := by omega
      clear hjn
      have hjli : (j : Int) < (n : Int) := by omega
      obtain ⟨ad, A1, n1, c1, L, rfl, hbk, hx, hr, hn1, hp⟩ := ps_at h hjl
      have hy := (hB.cell (p := ad.add j) (by rw [add_blk]; exact hbk)).trans hx
      have HR := Lib.hid (hr.next hB)
      have HO := Lib.hid ho
      clear hx hr ho
      go_wp2_with fail
      clear hy
      refine (qpnorm_any HR.out (by omega) hN h1N).mono ?_
      rintro _ W3 (⟨hall', A4, n4, c4, M4, rfl, ho4, hM4, hb3⟩ | ⟨hex, rfl, hb3⟩)
      · have HALL := Lib.hid hall'
        have hB3 := hB.trans (hb3.mono hB.size)
        obtain ⟨E, hE, hEl, hEn⟩ := HO.out.next hb3
        have HX3 := Lib.hid (show ∀ o, (FC (W3.alloc o) w.heap.size false none 0 0 false none 0 0 none 0 0) ∧ FC (W3.alloc o) gz false none 0 0 false none 0 0 none 0 0 from fun o => ⟨(HX.out.1.next hb3).next ((Below.refl _ _).alloc (Nat.le_refl _) _), (HX.out.2.next hb3).next ((Below.refl _ _).alloc (Nat.le_refl _) _)⟩)
        have HO4 := Lib.hid (ho4.base hB.size)
        have HE := Lib.hid hE
        have HEN := Lib.hid (And.intro hEl (hEn.next ((Below.refl _ _).alloc (Nat.le_refl _) (.cells #[.slice A4 n4 c4] 38))))
        have HM2 := Lib.hid (show M ++ [M4] = (LL.take (j + 1)).map nq by rw [hM.out, hM4.out]; exact mapn_snoc hp.out)
        have HNE2 := Lib.hid (show ∀ (i : Nat) (L : List (Int × Int)), i < j + 1 → LL[i]? = some L → ∀ p ∈ L, p.2 ≠ 0 from fun i L' hi hq => by
          rcases Nat.lt_or_ge i j with h1 | h1
          · exact hne.out i L' h1 hq
          · rw [show i = j by omega, hp.out] at hq
            injection hq with hq
            rw [← hq]
            exact HALL.out)
        have HB3 := Lib.hid hB3
        clear hE hEl hEn hb3 ho4 hB3 hB hM4 HO hne hM hall'
        go_wp2_with (at_builtin; refine wpList_append_own _ rfl _ _ 68 rfl w.heap.size 38 i0 (.slice none 0 0) 1 24 Tryz.underlying68 hi hz0 hz1 hz2 rfl (by decide) _ _ _ rfl (HE.out.alloc _) ⟨W3.heap.size, 0, none⟩ 1 1 [.slice A4 n4 c4] rfl rfl (pcell_new _ _ _) (by simp [Value.oneCell']) (by unfold maxLen; omega) (by omega) (by have := HB3.out.size; simp; omega) ?_; intro v' w1 hown' hgrow _)
        have hmore := ps_more (e := (A4, n4, c4)) (L := M4) HO4.out rfl (HE.out.alloc _) HEN.out.1 HEN.out.2 hown' hgrow
        have HB5 := Lib.hid ((HB3.out.alloc HB3.out.size (.cells #[.slice A4 n4 c4] 38)).grown hgrow (by have := HB3.out.size; simp; omega) (own_block HE.out))
        have HX5 := Lib.hid (And.intro (FC.grownP (HX3.out _).1 (HE.out.alloc _) hgrow) (FC.grownP (HX3.out _).2 (HE.out.alloc _) hgrow))
        obtain ⟨A5, c5, rfl, ho5⟩ := hmore
        clear hown' hgrow HE HEN HO4
        go_wp2
        go_roundw
        case rel => exact ⟨j + 1, c5, A5, M ++ [M4], rfl, by go_num, by omega, ho5, HM2, HNE2, HX5, HB5.out⟩
        case measure => simp [intOf]; omega
      · obtain ⟨p, hp1, hp2⟩ := hex
        exact absurd hp2 (hall L (List.mem_of_getElem? hp.out) p hp1)

end Go.Proofs.YtipbpdiahemmpaaGreat
