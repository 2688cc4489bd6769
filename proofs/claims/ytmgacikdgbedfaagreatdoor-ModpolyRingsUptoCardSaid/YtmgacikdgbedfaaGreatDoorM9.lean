/- modpoly: the power by a polynomial. -/
import Derived.Test.YtmgacikdgbedfaaGreatDoorM8
import Derived.Test.YtmgacikdgbedfaaGreatDoorPm5
namespace Go.Proofs.YtmgacikdgbedfaaGreatDoor
open Go.RowKit Go.IntWalk
attribute [local go_sem ↓] Go.wp_at_zero Go.wp_at_succ

/-- What a power by m answers. -/
def Pq (p : Nat) (A : List Nat) (E : Nat) (m R : List Nat) : Prop := Pm.Pn p R ∧ R.length < m.length ∧ Pm.Mf p (Pm.co m) (Pm.co R) (Pm.pw (Pm.co A) E)
theorem and_one (e : Nat) (he : e ≤ 18446744073709551615) : bits .and .u64 (e : Int) 1 = ((e % 2 : Nat) : Int) := by
  have h := u64_and_nat e 1 (by omega) (by omega)
  rw [show ((1 : Nat) : Int) = 1 from rfl] at h
  rw [h, Nat.and_one_is_mod]
theorem one_pn {p : Nat} (h : 2 ≤ p) : Pm.Pn p [1] := ⟨Pm.nm_of_top (.inr (by show (1 : Nat) ≠ 0; omega)), fun x hx => by simp at hx; omega⟩
theorem tm_mf {p : Nat} {L M R N : List Nat} (hR : Pm.Pn p N ∧ Pm.Cg p (Pm.co N) (Pm.cv (Pm.co L) (Pm.co M))) {m : List Nat} (h : Pm.Rm p N m R ∧ R.length ≤ N.length) : Pm.Mf p (Pm.co m) (Pm.cv (Pm.co L) (Pm.co M)) (Pm.co R) :=
  (Pm.Mf.of_cg hR.2.symm).trans h.1.mf

theorem tm_len {p : Nat} {L M N : List Nat} {W W' W'' : World} {b b' b'' n c n' c' m d : Nat} {A A' A'' : Option Addr} (hp : 0 < p) (h : Po W b A n c L) (h' : Po W' b' A' n' c' M) (hN : Hid (Pm.Pn p N ∧ Pm.Cg p (Pm.co N) (Pm.cv (Pm.co L) (Pm.co M)))) (hpo : Po W'' b'' A'' m d N) : m ≤ n + n' := by
  rw [← hpo.len, ← h.len, ← h'.len]
  refine hN.out.1.short hp fun k hk => (hN.out.2 k).trans ?_
  rcases Nat.eq_zero_or_pos L.length with h0 | h0
  · rw [Pm.cv_none (.inl h0)]; exact Pm.cz.refl _
  rcases Nat.eq_zero_or_pos M.length with h1 | h1
  · rw [Pm.cv_none (.inr h1)]; exact Pm.cz.refl _
  exact Pm.cv_end h0 h1 (by omega)
set_option maxRecDepth 100000 in
set_option maxHeartbeats 4000000 in
theorem mpow_any {A A' : Option Addr} {n c n' c' : Nat} {L L' : List Nat} {w : World} (p e : Nat) (hpr : Nt.Pr p) (hp : p < 4294967296) (he : e ≤ 18446744073709551615)
    (h : RdU w w.heap.size A n c L) (h' : RdU w w.heap.size A' n' c' L') (hn : n ≤ 2199023255552) (hn' : n' ≤ 2199023255552) (hL : Pm.Pn p L) (hL' : Pm.Pn p L') (hne : 0 < n') (hT : Tabs w) :
    Calls Tryz.prog 78 #[.agg #[.int .u64 p], .slice A n c, .int .u64 e, .slice A' n' c'] w (RetQ (Pq p L e L') w) := by
  have HP := Lib.hid hpr
  have HL := Lib.hid hL
  have HL' := Lib.hid hL'
  have HLEN' := Lib.hid h'.len
  clear hpr hL hL'
  have hB0 : Below w.heap.size w ((w.alloc (.cells #[.int .u64 p] 51)).alloc (.cells #[.int .u32 1] 24)) := (below1 w _).alloc (by simp) _
  have hR0 := h.next hB0
  have hR0' := h'.next hB0
  have hT0 := hT.below hB0
  have hU0 : UB ((w.alloc (.cells #[.int .u64 p] 51)).alloc (.cells #[.int .u32 1] 24)) (w.heap.size + 1) [1] := by
    have := UB.new (w.alloc (.cells #[.int .u64 p] 51)) [1]
    rwa [World.size_alloc] at this
  have hcb : ((w.alloc (.cells #[.int .u64 p] 51)).alloc (.cells #[.int .u32 1] 24)).cell? ⟨w.heap.size, 0, none⟩ = some (.int .u64 p) := by go_simp
  have hsz : w.heap.size + 1 < ((w.alloc (.cells #[.int .u64 p] 51)).alloc (.cells #[.int .u32 1] 24)).heap.size := by simp
  have HCB := Lib.hid hcb
  clear hcb
  go_enter Tryz.func78, Tryz.ntmps78
  go_wp2_with fail
  generalize (w.alloc (.cells #[.int .u64 p] 51)).alloc (.cells #[.int .u32 1] 24) = W1 at HCB hsz hR0 hR0' hB0 hT0 hU0 ⊢
  obtain ⟨gb, hgb⟩ : ∃ gb, gb = w.heap.size := ⟨_, rfl⟩
  rw [← hgb] at HCB hsz hU0 ⊢
  have hgw : w.heap.size ≤ gb := by omega
  have hr1 := hU0.rd (B := W1.heap.size) (show Dg.Wd [1] from fun x hx => by simp at hx; omega) hsz (k := 1) (Nat.le_refl _) (by unfold maxLen; simp)
  clear hgb hU0
  refine (mrest_any p HP.out hp hr1 hR0' (by omega) (by omega) (one_pn HP.out.1) HL'.out hne hT0).mono ?_
  rintro _ w2 ⟨A2, n2, c2, R2, rfl, hpo2, hrm2, hb2⟩
  have hcb2 := Lib.hid ((hb2.cell (p := ⟨gb, 0, none⟩) (Nat.lt_of_succ_lt hsz)).trans HCB.out)
  have hR2 := hR0.next hb2
  have hR2' := hR0'.next hb2
  have hT2 := hT0.below hb2
  have hB2 := hB0.trans (hb2.mono hB0.size)
  have hsz2 := Nat.lt_of_lt_of_le (Nat.lt_of_succ_lt hsz) hb2.size
  have hB0s := hB0.size
  have hb1s := hb2.size
  clear hr1 HCB hR0 hR0' hT0 hB0 hb2 hsz
  have HC2 := hcb2
  clear hcb2
  have hcb2 := HC2.out
  go_wp2_with fail
  refine (mrest_any p HP.out hp hR2 hR2' (by omega) (by omega) HL.out HL'.out hne hT2).mono ?_
  rintro _ w3 ⟨A3, n3, c3, R3, rfl, hpo3, hrm3, hb3⟩
  have hcb3 := Lib.hid ((hb3.cell (p := ⟨gb, 0, none⟩) hsz2).trans hcb2)
  have hR3' := hR2'.next hb3
  have hpo2' := hpo2.next hb3
  have hT3 := hT2.below hb3
  have hB3 := hB2.trans (hb3.mono hB2.size)
  have hsz3 := Nat.lt_of_lt_of_le hsz2 hb3.size
  have hl2 : n2 < n' := by
    have e1 := hrm2.out.1.short HP.out (by rw [HLEN'.out]; exact hne)
    rwa [hpo2.len, HLEN'.out] at e1
  have hl3 : n3 < n' := by
    have e1 := hrm3.out.1.short HP.out (by rw [HLEN'.out]; exact hne)
    rwa [hpo3.len, HLEN'.out] at e1
  have HS := Lib.hid (Pm.Pl.start (E := e) hrm2.out.1.mf hrm3.out.1.mf)
  have hwb : w.heap.size ≤ w2.heap.size := hB2.size
  have HP2 := Lib.hid (hpo2'.base hB0s)
  have HP3 := Lib.hid (hpo3.base hwb)
  clear hpo2 hpo2' hpo3 hR2 hR2' hT2 hB2 hsz2 hb3 HC2 hcb2
  go_wp2_with fail
  go_loopw [1, 2, 9] (fun av ev ov wr => ∃ (A1 Ao : Option Addr) (m1 c1 mo co e' : Nat) (M O : List Nat), av = .slice A1 m1 c1 ∧ ev = .int .u64 e' ∧ ov = .slice Ao mo co ∧ Po wr w.heap.size A1 m1 c1 M ∧ Po wr w.heap.size Ao mo co O ∧ m1 < n' ∧ mo < n' ∧ e' ≤ 18446744073709551615 ∧
    Hid (Pm.Pn p M ∧ Pm.Pn p O ∧ Pm.Pl p L' L e O M e') ∧ RdU wr wr.heap.size A' n' c' L' ∧ wr.cell? ⟨gb, 0, none⟩ = some (.int .u64 p) ∧ Tabs wr ∧ gb < wr.heap.size ∧ Below w.heap.size w wr) (fun _ ev _ _ => (intOf ev).toNat)
  case atStart => exact ⟨A3, A2, n3, c3, n2, c2, e, R3, R2, rfl, rfl, rfl, HP3.out, HP2.out, hl3, hl2, he, Lib.hid ⟨hrm3.out.1.1, hrm2.out.1.1, HS.out⟩, hR3', hcb3.out, hT3, hsz3, hB3⟩
  case round =>
    clear HP3 HP2 hl3 hl2 hrm3 hrm2 HS hR3' hcb3 hT3 hsz3 hB3 h h' hT hwb
    obtain ⟨A1, Ao, m1, c1, mo, co, e', M, O, rfl, rfl, rfl, hM, hO, hm1, hmo, he', hI, hR', hc, hT, hgl, hB⟩ := hrel
    rcases Nat.eq_zero_or_pos e' with h0 | h0
    · subst h0
      have HF := Lib.hid (show Pq p L e L' O from ⟨hI.out.2.1, by rw [hO.len, HLEN'.out]; exact hmo, hI.out.2.2.done⟩)
      go_wp2
      go_ret
      exact ⟨Ao, mo, co, O, rfl, hO, HF, hB⟩
    · have hand := and_one e' he'
      have hMr := hM.rd.drew
      have hRr := hR'.drew
      have hTr := hT.drew
      by_cases hod : e' % 2 = 1
      · have HOD := Lib.hid hod
        rw [hod] at hand
        clear hod
        have hOr := hO.rd.drew
        have HBD := Lib.hid (show mo + m1 ≤ 4398046511104 by omega)
        go_wp2_with fail
        go_region_held3 (fun w' => w'.cell? ⟨gb, 0, none⟩ = some (.int .u64 p)) (go_keep)
          (first
            | (go_at_call 37; refine (mtimes_any p HP.out hp hOr hMr (by omega) (by omega) hI.out.2.1 hI.out.1).mono ?_; rintro _ w4 ⟨A4, n4, c4, N4, rfl, hpo4, hN4, hb4⟩; have hc4 := (hb4.cell (p := ⟨gb, 0, none⟩) hgl).trans hc; have hl4 : n4 ≤ 4398046511104 := Nat.le_trans (tm_len HP.out.pos hO hM hN4 hpo4) (HBD.out))
            | (go_at_call 62; refine (mrest_any p HP.out hp hpo4.rd (hRr.next hb4) hl4 (by omega) hN4.out.1 HL'.out hne (hTr.below hb4)).mono ?_; rintro _ w5 ⟨A5, n5, c5, R5, rfl, hpo5, hrm5, hb5⟩; have hc5 := (hb5.cell (p := ⟨gb, 0, none⟩) (Nat.lt_of_lt_of_le hgl hb4.size)).trans hc4))
        have hl5 : n5 < n' := by
          have e1 := hrm5.out.1.short HP.out (by rw [HLEN'.out]; exact hne)
          rwa [hpo5.len, HLEN'.out] at e1
        have hb45 := hb4.trans (hb5.mono hb4.size)
        have hM5 := hM.same (w' := w5) fun g _ _ hg => hb45.block g hg
        have hR5 := hR'.drew.next hb45
        have hB5 := hB.drew.trans (hb45.mono hB.size)
        have hT5 := hTr.below hb45
        have hgl5 := Nat.lt_of_lt_of_le hgl hb45.size
        have HM5 := Lib.hid hM5
        have HPO5 := Lib.hid (hpo5.base (Nat.le_trans hB.size hb4.size))
        have hM5r := hM5.rd.drew
        have hR5r := hR5.drew
        have hT5r := hT5.drew
        have HMM := Lib.hid (show m1 + m1 ≤ 4398046511104 by omega)
        clear hM5 hb4 hb5 hc4 hpo4 hpo5 hMr hRr hTr hOr hT
        go_wp2_with fail
        go_region_held3 (fun w' => w'.cell? ⟨gb, 0, none⟩ = some (.int .u64 p)) (go_keep)
          (first
            | (go_at_call 37; refine (mtimes_any p HP.out hp hM5r hM5r (by omega) (by omega) hI.out.1 hI.out.1).mono ?_; rintro _ w6 ⟨A6, n6, c6, N6, rfl, hpo6, hN6, hb6⟩; have hc6 := (hb6.cell (p := ⟨gb, 0, none⟩) hgl5).trans hc5; have hl6 : n6 ≤ 4398046511104 := Nat.le_trans (tm_len HP.out.pos HM5.out HM5.out hN6 hpo6) (HMM.out))
            | (go_at_call 62; refine (mrest_any p HP.out hp hpo6.rd (hR5r.next hb6) hl6 (by omega) hN6.out.1 HL'.out hne (hT5r.below hb6)).mono ?_; rintro _ w7 ⟨A7, n7, c7, R7, rfl, hpo7, hrm7, hb7⟩; have hc7 := (hb7.cell (p := ⟨gb, 0, none⟩) (Nat.lt_of_lt_of_le hgl5 hb6.size)).trans hc6))
        have hl7 : n7 < n' := by
          have e1 := hrm7.out.1.short HP.out (by rw [HLEN'.out]; exact hne)
          rwa [hpo7.len, HLEN'.out] at e1
        have hb67 := hb6.trans (hb7.mono hb6.size)
        have HX := Lib.hid (And.intro (hpo7.base (Nat.le_trans hB5.size hb6.size)) (And.intro (HPO5.out.same (w' := w7) fun g _ _ hg => hb67.block g hg) (And.intro (hR5r.next hb67) (And.intro hc7 (And.intro (hT5r.below hb67) (And.intro (Nat.lt_of_lt_of_le hgl5 hb67.size) (hB5.drew.trans (hb67.mono hB5.size))))))))
        have HPL := Lib.hid (hI.out.2.2.odd HOD.out (tm_mf hN4.out hrm5.out) (tm_mf hN6.out hrm7.out))
        clear hb67 hc7 hc6 hpo7 hpo6 hb6 hb7
        go_wp2
        go_roundw
        case rel => exact ⟨A7, A5, n7, c7, n5, c5, e' / 2, R7, R5, rfl, rfl, rfl, HX.out.1, HX.out.2.1, hl7, hl5, by omega, Lib.hid ⟨hrm7.out.1.1, hrm5.out.1.1, HPL.out⟩, HX.out.2.2.1, HX.out.2.2.2.1, HX.out.2.2.2.2.1, HX.out.2.2.2.2.2.1, HX.out.2.2.2.2.2.2⟩
        case measure => simp [intOf]; omega
      · have hev : e' % 2 = 0 := by omega
        have HOD := Lib.hid hev
        rw [hev] at hand
        clear hod hev
        have HMM := Lib.hid (show m1 + m1 ≤ 4398046511104 by omega)
        have HMH := Lib.hid hM
        go_wp2_with fail
        go_region_held3 (fun w' => w'.cell? ⟨gb, 0, none⟩ = some (.int .u64 p)) (go_keep)
          (first
            | (go_at_call 37; refine (mtimes_any p HP.out hp hMr hMr (by omega) (by omega) hI.out.1 hI.out.1).mono ?_; rintro _ w6 ⟨A6, n6, c6, N6, rfl, hpo6, hN6, hb6⟩; have hc6 := (hb6.cell (p := ⟨gb, 0, none⟩) hgl).trans hc; have hl6 : n6 ≤ 4398046511104 := Nat.le_trans (tm_len HP.out.pos HMH.out HMH.out hN6 hpo6) (HMM.out))
            | (go_at_call 62; refine (mrest_any p HP.out hp hpo6.rd (hRr.next hb6) hl6 (by omega) hN6.out.1 HL'.out hne (hTr.below hb6)).mono ?_; rintro _ w7 ⟨A7, n7, c7, R7, rfl, hpo7, hrm7, hb7⟩; have hc7 := (hb7.cell (p := ⟨gb, 0, none⟩) (Nat.lt_of_lt_of_le hgl hb6.size)).trans hc6))
        have hl7 : n7 < n' := by
          have e1 := hrm7.out.1.short HP.out (by rw [HLEN'.out]; exact hne)
          rwa [hpo7.len, HLEN'.out] at e1
        have hb67 := hb6.trans (hb7.mono hb6.size)
        have HX := Lib.hid (And.intro (hpo7.base (Nat.le_trans hB.size hb6.size)) (And.intro (hO.same (w' := w7) fun g _ _ hg => hb67.block g hg) (And.intro (hRr.next hb67) (And.intro hc7 (And.intro (hTr.below hb67) (And.intro (Nat.lt_of_lt_of_le hgl hb67.size) (hB.drew.trans (hb67.mono hB.size))))))))
        have HPL := Lib.hid (hI.out.2.2.even HOD.out (tm_mf hN6.out hrm7.out))
        clear hb67 hc7 hc6 hpo7 hpo6 hb6 hb7
        go_wp2
        go_roundw
        case rel => exact ⟨A7, Ao, n7, c7, mo, co, e' / 2, R7, O, rfl, rfl, rfl, HX.out.1, HX.out.2.1, hl7, hmo, by omega, Lib.hid ⟨hrm7.out.1.1, hI.out.2.1, HPL.out⟩, HX.out.2.2.1, HX.out.2.2.2.1, HX.out.2.2.2.2.1, HX.out.2.2.2.2.2.1, HX.out.2.2.2.2.2.2⟩
        case measure => simp [intOf]; omega
end Go.Proofs.YtmgacikdgbedfaaGreatDoor
