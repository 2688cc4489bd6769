/- modpoly: quotient and rest. -/
import Derived.Test.YtmgacikdgbedfaaGreatDoorM6
namespace Go.Proofs.YtmgacikdgbedfaaGreatDoor
open Go.RowKit Go.IntWalk
attribute [local go_sem ↓] Go.wp_at_zero Go.wp_at_succ

/-- Quotient and rest come back. -/
def RetDv (p : Nat) (L L' : List Nat) (w : World) (e : Ending) (w' : World) : Prop :=
  ∃ (A A' : Option Addr) (n c n' c' : Nat) (Q R : List Nat), e = .returned (.tuple #[.slice A n c, .slice A' n' c']) ∧ Po w' w.heap.size A n c Q ∧ Po w' w.heap.size A' n' c' R ∧
    Hid (Pm.Pn p Q ∧ Pm.Pn p R ∧ Pm.Dv p (Pm.co L) (Pm.co L') (Pm.co Q) (Pm.co R) (L'.length - 1) ∧ Q.length ≤ L.length + 1 - L'.length ∧ R.length ≤ L.length) ∧ Below w.heap.size w w'
theorem div_zero' {p : Nat} {L L' : List Nat} (h : L.length < L'.length) : Pm.Dv p (Pm.co L) (Pm.co L') (Pm.co []) (Pm.co L) (L'.length - 1) :=
  ⟨fun k => by dsimp only; rw [Pm.cv_none (.inl rfl), Int.zero_add]; exact Pm.cz.refl _, (Pm.co_up L).mono (by omega)⟩
theorem sub_step {p i k t y o v u z : Nat} {R L' O : List Nat} (ht : t = i + k) (ey : y = Dg.ld L' k) (eo : o = Dg.ld O t) (hto : t < O.length)
    (h : AllC p O (Pm.sb (Pm.co R) (Pm.co L') v i k)) (hz : Pm.cz p z ((v : Int) * y)) (hu : Pm.cz p u ((o : Int) - z)) : Pm.cz p u (Pm.sb (Pm.co R) (Pm.co L') v i (k + 1) t) := by
  have h1 := h t hto
  rw [← eo] at h1
  subst ht
  rw [Pm.sb_here]
  refine hu.trans (h1.sub (hz.trans ?_))
  unfold Pm.co
  rw [ey]
  exact Pm.cz.refl _
theorem sub_all {p n i v : Nat} {R L' O : List Nat} (hO : O.length = n) (hR : R.length = n) (hi : i + L'.length ≤ n) (h : AllC p O (Pm.sb (Pm.co R) (Pm.co L') v i L'.length)) :
    Pm.Cg p (Pm.co O) (fun k => Pm.co R k - Pm.cv (Pm.mono v i) (Pm.co L') k) := fun j => by
  by_cases hj : j < O.length
  · have := h j hj
    rwa [Pm.sb_all (fun q hq => Pm.co_zero hq)] at this
  · dsimp only
    rw [Pm.co_zero (show O.length ≤ j by omega), Pm.co_zero (show R.length ≤ j by omega), Pm.cv_mono, if_pos (by omega), Pm.co_zero (show L'.length ≤ j - i by omega), Int.mul_zero]
    exact Pm.cz.refl _

set_option maxRecDepth 100000 in
set_option maxHeartbeats 8000000 in
theorem mdiv_any {A A' : Option Addr} {n c n' c' : Nat} {L L' : List Nat} {w : World} (p : Nat) (hpr : Nt.Pr p) (hp : p < 4294967296)
    (h : RdU w w.heap.size A n c L) (h' : RdU w w.heap.size A' n' c' L') (hn : n ≤ 4398046511104) (hn' : n' ≤ 4398046511104) (hL : Pm.Pn p L) (hL' : Pm.Pn p L') (hne : 0 < n') (hT : Tabs w) :
    Calls Tryz.prog 73 #[.agg #[.int .u64 p], .slice A n c, .slice A' n' c'] w (RetDv p L L' w) := by
  have HP := Lib.hid hpr
  have h0 := hpr.pos
  have HLEN := Lib.hid h.len
  have HLEN' := Lib.hid h'.len
  have HL := Lib.hid hL
  have HL' := Lib.hid hL'
  clear hpr hL hL'
  have hB0 := below1 w (.cells #[.int .u64 p] 51)
  have hcb : (w.alloc (.cells #[.int .u64 p] 51)).cell? ⟨w.heap.size, 0, none⟩ = some (.int .u64 p) := by go_simp
  have hsz : w.heap.size < (w.alloc (.cells #[.int .u64 p] 51)).heap.size := by simp
  have hR0 := h.next hB0
  have HCB := Lib.hid hcb
  clear hcb
  obtain ⟨j, hj⟩ : ∃ j, j = n' - 1 := ⟨_, rfl⟩
  obtain ⟨htl, adt, hadt, hbt, hct⟩ := h'.at_ j _ (Dg.get_of_ld (by rw [HLEN'.out]; omega))
  subst hadt
  obtain ⟨tp, etp⟩ : ∃ tp, tp = Dg.ld L' j := ⟨_, rfl⟩
  rw [← etp] at htl hct
  have hjl : j < n' := by omega
  have HJ := Lib.hid hj
  have ETP := Lib.hid etp
  have HTP : Hid (¬ tp % p = 0) := Lib.hid (by
    have h1 := Pm.nm_top HL'.out.1 (by rw [HLEN'.out]; exact hne)
    rw [HLEN'.out, ← hj, ← etp] at h1
    have h2 := HL'.out.lt h0 j
    rw [← etp] at h2
    rwa [Nat.mod_eq_of_lt h2])
  have HCT := Lib.hid hct
  clear hj etp hct
  by_cases hlt : n < n'
  · go_enter Tryz.func73, Tryz.ntmps73
    go_wp2_with fail
    generalize w.alloc (.cells #[.int .u64 p] 51) = W1 at HCB hsz hR0 hB0 ⊢
    refine (mclone_any hR0 (by omega)).mono ?_
    rintro _ w2 ⟨A2, c2, rfl, hcl, hc2, hc3, hb2⟩
    have hB2 := hB0.trans (hb2.mono hB0.size)
    have hpo : Po w2 w.heap.size A2 n c2 L := by
      rcases hcl.out with h1 | ⟨g, rfl, hg, hup⟩
      · have := h.len
        exact ⟨HLEN.out, hc2, hc3, h.wd, .inl h1⟩
      · have := hup.po (b := w.heap.size) h.wd (Nat.le_trans hB0.size hg) (k := n) (c := c2) (by rw [HLEN.out]; exact Nat.le_refl _) hc2 hc3
        rwa [List.take_of_length_le (by rw [HLEN.out]; exact Nat.le_refl _)] at this
    go_wp2
    go_ret2
    exact ⟨none, A2, 0, 0, n, c2, [], L, rfl, Po.nil _ _ 0 none (Nat.zero_le _), hpo, Lib.hid ⟨Pm.Pn.nil, HL.out, div_zero' (by rw [HLEN.out, HLEN'.out]; exact hlt), Nat.zero_le _, Nat.le_refl _⟩, hB2⟩
  · obtain ⟨e, he⟩ : ∃ e, e = n - n' := ⟨_, rfl⟩
    have hmk : ∀ W : World, (Instr.makeSlice 22 (.int .i64 ((n : Int) - n' + 1)) (.int .i64 ((n : Int) - n' + 1))).run Tryz.prog W = .ok (.slice (some ⟨W.heap.size, 0, none⟩) (e + 1) (e + 1)) (W.alloc (.cells (madeCells #[.int .u32 0] (e + 1)) 24)) := fun W => by
      rw [show (n : Int) - n' + 1 = ((e + 1 : Nat) : Int) by omega]
      exact make_words (e + 1) (by omega) W
    have HE := Lib.hid (show n = n' + e by omega)
    have he4 : e ≤ 4398046511104 := by omega
    clear he
    go_enter Tryz.func73, Tryz.ntmps73
    go_wp2_with fail
    generalize w.alloc (.cells #[.int .u64 p] 51) = W1 at HCB hsz hR0 hB0 ⊢
    refine (mclone_any hR0 (by omega)).mono ?_
    rintro _ w2 ⟨A2, c2, rfl, hcl, hc2, hc3, hb2⟩
    have hB2 := hB0.trans (hb2.mono hB0.size)
    rcases hcl.out with h1 | ⟨gr, hgr, hg, hup⟩
    · exfalso; omega
    subst hgr
    have hgrl := hup.lt
    have hcb2 := (hb2.cell (p := ⟨w.heap.size, 0, none⟩) hsz).trans HCB.out
    have hct2 := (hB2.cell (p := adt.add j) (by rw [add_blk]; exact hbt)).trans HCT.out
    have HUQ := Lib.hid (UB.made w2 (e + 1))
    have HUP := Lib.hid (hup.below (below1 w2 (.cells (madeCells #[.int .u32 0] (e + 1)) 24)) hgrl)
    have HB3 := Lib.hid (hB2.alloc hB2.size (.cells (madeCells #[.int .u32 0] (e + 1)) 24))
    have HCB3 := Lib.hid (((below1 w2 (.cells (madeCells #[.int .u32 0] (e + 1)) 24)).cell (p := ⟨w.heap.size, 0, none⟩) (Nat.lt_of_lt_of_le hsz hb2.size)).trans hcb2)
    have HCT3 := Lib.hid (((below1 w2 (.cells (madeCells #[.int .u32 0] (e + 1)) 24)).cell (p := adt.add j) (by rw [add_blk]; exact Nat.lt_of_lt_of_le hbt hB2.size)).trans hct2)
    have hlt3 : w2.heap.size < (w2.alloc (.cells (madeCells #[.int .u32 0] (e + 1)) 24)).heap.size := by simp
    clear hcl hcb2 hct2 hup
    go_wp2_with fail
    generalize w2.alloc (.cells (madeCells #[.int .u32 0] (e + 1)) 24) = W3 at HUQ HUP HB3 HCB3 HCT3 hlt3 ⊢
    have hgbr : w.heap.size < gr := Nat.lt_of_lt_of_le hsz hg
    have hb2s := hb2.size
    clear hmk hR0 hB0 hb2 hB2 hsz HCB HCT
    obtain ⟨gb, hgb⟩ : ∃ gb, gb = w.heap.size := ⟨_, rfl⟩
    obtain ⟨gq, hgq⟩ : ∃ gq, gq = w2.heap.size := ⟨_, rfl⟩
    rw [← hgb] at HCB3 hgbr ⊢
    rw [← hgq] at HUQ hlt3 hgrl ⊢
    have hbw : w.heap.size ≤ gb := by omega
    clear hgb hgq hb2s hg
    have hs1 : IntKind.i64.wrap ((n' : Int) - 1) = (j : Int) := by rw [IntWalk.i64_in _ (by have := HJ.out; omega)]; have := HJ.out; omega
    have hj0 : (0 : Int) ≤ (j : Int) := by omega
    have hj1 : (j : Int) < (n' : Int) := by omega
    have hcb := HCB3.out
    have hct := HCT3.out
    have hT3 := (hT.below HB3.out).drew
    have HBT := Lib.hid (show (adt.add j).block < W3.heap.size by rw [add_blk]; exact Nat.lt_of_lt_of_le hbt HB3.out.size)
    go_region_held3 (fun w' => w'.cell? ⟨gb, 0, none⟩ = some (.int .u64 p) ∧ w'.cell? (adt.add j) = some (.int .u32 tp)) (go_keep)
      (first
        | (go_at_call 53; refine (finv_any p tp HP.out hp htl HTP.out _ hT3).mono ?_; rintro _ w4 ⟨iv, rfl, hiv, hivz, hb4⟩; have hcb4 := (hb4.cell (p := ⟨gb, 0, none⟩) (Nat.lt_trans hgbr (Nat.lt_trans hgrl hlt3))).trans hcb; have hct4 := (hb4.cell (p := adt.add j) HBT.out).trans hct))
    have HIV := Lib.hid (show Pm.cz p ((iv : Int) * Pm.co L' (L'.length - 1)) 1 by
      unfold Pm.co; rw [HLEN'.out, ← HJ.out, ← ETP.out]; exact hivz.out)
    have HB4 := Lib.hid (HB3.out.drew.trans (hb4.mono HB3.out.size))
    have HUQ4 := Lib.hid ((HUQ.out.drewN 1).below hb4 hlt3)
    have HUP4 := Lib.hid ((HUP.out.drewN 1).below hb4 (Nat.lt_trans hgrl hlt3))
    have HS0 := Lib.hid (show Pm.Ds p (Pm.co L) (Pm.co L') (Pm.co (List.replicate (e + 1) 0)) (Pm.co L) (e + 1) (L'.length - 1) from
      (Pm.Ds.start ((Pm.co_up L).mono (by rw [HLEN.out, HLEN'.out]; have := HE.out; omega))).cg fun k => Pm.cz.of_eq (Pm.co_zeros _ k))
    have HWD := Lib.hid h.wd
    clear hcb hct hT3 HCB3 HCT3 HUQ HUP HB3 hb4 hct4 hs1 hivz HBT hlt3
    have HCB4 := Lib.hid hcb4
    clear hcb4
    go_wp2_with fail
    go_loopw [11] (fun iv' wr => ∃ (J : Nat) (Q R : List Nat), iv' = .int .i64 ((J : Int) - 1) ∧ J ≤ e + 1 ∧ UB wr gq Q ∧ UP wr gr R ∧ wr.cell? ⟨gb, 0, none⟩ = some (.int .u64 p) ∧
      Hid (Q.length = e + 1 ∧ Lt p Q ∧ R.length = n ∧ Lt p R ∧ Pm.Ds p (Pm.co L) (Pm.co L') (Pm.co Q) (Pm.co R) J (L'.length - 1) ∧ ∀ x, x < J → Dg.ld Q x = 0) ∧ Below w.heap.size w wr) (fun iv' _ => (intOf iv' + 1).toNat)
    case atStart =>
      refine ⟨e + 1, _, L, ?_, Nat.le_refl _, HUQ4.out, HUP4.out, HCB4.out, Lib.hid ⟨by simp, Lt.zeros h0 _, HLEN.out, HL.out.2, HS0.out, fun x _ => Dg.ld_replicate _ _⟩, HB4.out⟩
      exact int_i (by omega)
    case round =>
      clear HUQ4 HUP4 HCB4 HB4
      obtain ⟨J, Q, R, rfl, hJ, hUQ, hUP, hc, hI, hB⟩ := hrel
      rcases Nat.eq_zero_or_pos J with hJ0 | hJ0
      · subst hJ0
        have hpq := hUQ.po (hI.out.2.1.wd hp) (b := w.heap.size) (by omega) (k := e + 1) (c := e + 1) (by rw [hI.out.1]; exact Nat.le_refl _) (Nat.le_refl _) (by unfold maxLen; omega)
        rw [List.take_of_length_le (by rw [hI.out.1]; exact Nat.le_refl _)] at hpq
        have hpr := hUP.po (hI.out.2.2.2.1.wd hp) (b := w.heap.size) (by omega) (k := n) (c := c2) (by rw [hI.out.2.2.1]; exact Nat.le_refl _) hc2 hc3
        rw [List.take_of_length_le (by rw [hI.out.2.2.1]; exact Nat.le_refl _)] at hpr
        have hrq := hpq.rd
        have hrr := hpr.rd
        go_wp2_with fail
        refine (mtrim_any hrq (by omega)).mono ?_
        rintro _ _ ⟨k1, rfl, hk1, rfl⟩
        go_wp2_with fail
        refine (mtrim_any hrr (by omega)).mono ?_
        rintro _ _ ⟨k2, rfl, hk2, rfl⟩
        have hd := hI.out.2.2.2.2.1.done
        have hq1 := cut_pn hI.out.2.1 (Pm.Cg.refl (p := p) (Pm.co Q)) hk1.out
        have hq2 := cut_pn hI.out.2.2.2.1 (Pm.Cg.refl (p := p) (Pm.co R)) hk2.out
        have hdv : Pm.Dv p (Pm.co L) (Pm.co L') (Pm.co (Q.take k1)) (Pm.co (R.take k2)) (L'.length - 1) :=
          ⟨fun x => (hd.1 x).trans ((Pm.Cg.cv hq1.2.symm (Pm.Cg.refl _) x).add (hq2.2 x).symm), hd.2.cg hq2.2⟩
        have hk1l : k1 ≤ e + 1 := by have := hk1.out.1; rwa [hI.out.1] at this
        have hk2l : k2 ≤ n := by have := hk2.out.1; rwa [hI.out.2.2.1] at this
        have HF := Lib.hid (show Pm.Pn p (Q.take k1) ∧ Pm.Pn p (R.take k2) ∧ Pm.Dv p (Pm.co L) (Pm.co L') (Pm.co (Q.take k1)) (Pm.co (R.take k2)) (L'.length - 1) ∧ (Q.take k1).length ≤ L.length + 1 - L'.length ∧ (R.take k2).length ≤ L.length from
          ⟨hq1.1, hq2.1, hdv, by rw [List.length_take, HLEN.out, HLEN'.out]; have := HE.out; omega, by rw [List.length_take, HLEN.out]; omega⟩)
        have hP1 := hpq.take hk1l
        have hP2 := hpr.take hk2l
        clear hd hq1 hq2 hdv
        go_wp2
        go_ret2
        exact ⟨_, _, k1, e + 1, k2, c2, _, _, rfl, hP1, hP2, HF, hB⟩
      · obtain ⟨i, rfl⟩ : ∃ i, J = i + 1 := ⟨J - 1, by omega⟩
        rw [show (((i + 1 : Nat) : Int) - 1) = (i : Int) by omega]
        obtain ⟨t1, ht1⟩ : ∃ t, t = i + n' := ⟨_, rfl⟩
        obtain ⟨t, ht⟩ : ∃ t, t = i + j := ⟨_, rfl⟩
        have htn : t < n := by have := HE.out; have := HJ.out; omega
        have hs1 : IntKind.i64.wrap ((i : Int) + n') = (t1 : Int) := by rw [IntWalk.i64_in _ (by omega)]; omega
        have hs2 : IntKind.i64.wrap ((t1 : Int) - 1) = (t : Int) := by have := HJ.out; rw [IntWalk.i64_in _ (by omega)]; omega
        have htb0 : (0 : Int) ≤ (t : Int) := by omega
        have htb1 : (t : Int) < (n : Int) := by omega
        have hib0 : (0 : Int) ≤ (i : Int) := by omega
        have hib1 : (i : Int) < ((e + 1 : Nat) : Int) := by omega
        have hib2 : (i : Int) < (e : Int) + 1 := by omega
        have hcr := hUP.cell (Dg.get_of_ld (L := R) (i := t) (by rw [hI.out.2.2.1]; exact htn))
        have hrt := hI.out.2.2.2.1.ld h0 t
        obtain ⟨rt, ert⟩ : ∃ x, x = Dg.ld R t := ⟨_, rfl⟩
        rw [← ert] at hcr hrt
        have HT := Lib.hid ht
        have ERT := Lib.hid ert
        have hgq := hUQ.lt
        have hgrw := hUP.lt
        have hne1 : gb ≠ gq := by omega
        have hne2 : gr ≠ gq := by omega
        have hne1' : gq ≠ gb := by omega
        have hne2' : gq ≠ gr := by omega
        have hne3 : gr ≠ gb := by omega
        clear ht ht1 ert
        have HCO := Lib.hid (show ∀ w1 : World, UB w1 gq Q → ∃ o : Int, w1.cell? ⟨gq, i, none⟩ = some (.int .u32 o) from fun w1 hu => ⟨_, hu.cell (Dg.get_of_ld (L := Q) (i := i) (by rw [hI.out.1]; omega))⟩)
        obtain ⟨wo, rfl⟩ : ∃ wo : World, wo = wr := ⟨_, rfl⟩
        go_wp2_with fail
        go_region_held3 (fun w' => w'.cell? ⟨gb, 0, none⟩ = some (.int .u64 p) ∧ w'.cell? ⟨gr, t, none⟩ = some (.int .u32 rt)) (go_keep)
          (first
            | (go_at_call 55; refine (fmul_any p rt iv h0 hp (by omega) (by omega) _).mono ?_; rintro _ w5 ⟨v, rfl, hv, hvz, hb5⟩; have hc5 := (hb5.cell (p := ⟨gb, 0, none⟩) (Nat.lt_trans hgbr hgrw)).trans hc; have hcr5 := (hb5.cell (p := ⟨gr, t, none⟩) hgrw).trans hcr; have hfz5 := ((hUQ.drewN 1).below hb5 hgq).frozen i; obtain ⟨o5, hco5⟩ := HCO.out _ ((hUQ.drewN 1).below hb5 hgq)))
        have hU5 := ((hUQ.drewN 1).below hb5 hgq).set i v
        have hP5 := ((hUP.drewN 1).below hb5 hgrw).far (p := ⟨gq, i, none⟩) hne2 (.int .u32 (v : Int))
        have hB5 := (hB.drew.trans (hb5.mono hB.size)).setCell (p := ⟨gq, i, none⟩) (by simp; omega) (.int .u32 (v : Int))
        have hc6 : (w5.setCell ⟨gq, i, none⟩ (.int .u32 (v : Int))).cell? ⟨gb, 0, none⟩ = some (.int .u64 p) := by simp [*]
        have HT' := Lib.hid (show ∀ x : Nat, x < i + n' → x < n from fun x hx => by have := HE.out; omega)
        generalize w5.setCell ⟨gq, i, none⟩ (.int .u32 (v : Int)) = W5 at hU5 hP5 hB5 hc6 ⊢
        clear hco5 hfz5 hcr5 hc5 hb5 hB hUP hUQ hc hcr hs1 hs2 hgq hgrw
        have HQ1 := Lib.hid (show (Q.set i v)[i]? = some v by rw [List.getElem?_set_self (by rw [hI.out.1]; omega)])
        have HC6 := Lib.hid hc6
        clear hc6
        go_wp2_with fail
        go_loopw [60] (fun kv wr => ∃ (k : Nat) (O : List Nat), kv = .int .i64 k ∧ k ≤ n' ∧ UB wr gq (Q.set i v) ∧ UP wr gr O ∧ wr.cell? ⟨gb, 0, none⟩ = some (.int .u64 p) ∧ Hid (O.length = n ∧ Lt p O ∧ AllC p O (Pm.sb (Pm.co R) (Pm.co L') v i k)) ∧ Below w.heap.size w wr) (fun kv _ => n' - (intOf kv).toNat)
        case atStart => exact ⟨0, R, rfl, Nat.zero_le _, hU5, hP5, HC6.out, Lib.hid ⟨hI.out.2.2.1, hI.out.2.2.2.1, fun x _ => by rw [Pm.sb_zero]; exact Pm.cz.refl _⟩, hB5⟩
        case round =>
          clear hU5 hP5 hB5 HC6
          obtain ⟨k, O, rfl, hk, hUQ, hUP, hc, hO, hB⟩ := hrel
          by_cases hkn : k < n'
          · obtain ⟨hy, ad', had', hby, hcy⟩ := h'.at_ k _ (Dg.get_of_ld (by rw [HLEN'.out]; exact hkn))
            injection had' with had'
            subst had'
            have hcy := (hB.cell (p := adt.add k) (by rw [add_blk]; exact hby)).trans hcy
            obtain ⟨y, ey⟩ : ∃ y, y = Dg.ld L' k := ⟨_, rfl⟩
            rw [← ey] at hy hcy
            have EY := Lib.hid ey
            clear ey
            obtain ⟨x, hx⟩ : ∃ x, x = i + k := ⟨_, rfl⟩
            have hxn : x < n := HT'.out x (by omega)
            have hs1 : IntKind.i64.wrap ((i : Int) + k) = (x : Int) := by rw [IntWalk.i64_in _ (by omega)]; omega
            have hx0 : (0 : Int) ≤ (x : Int) := by omega
            have hx1 : (x : Int) < (n : Int) := by omega
            have hcr := hUP.cell (Dg.get_of_ld (L := O) (i := x) (by rw [hO.out.1]; exact hxn))
            have hol := hO.out.2.1.ld h0 x
            obtain ⟨o, eo⟩ : ∃ o, o = Dg.ld O x := ⟨_, rfl⟩
            rw [← eo] at hcr hol
            have EO := Lib.hid eo
            have HX0 := Lib.hid hx
            have hcq := hUQ.cell HQ1.out
            have hgqw := hUQ.lt
            have hgrw := hUP.lt
            clear eo hx
            go_wp2_with fail
            go_region_with
              (first
                | (go_at_call 55; refine (fmul_any p v y h0 hp (by omega) hy _).mono ?_; rintro _ w1 ⟨z, rfl, hz, hzz, hb1⟩; have hc1 := (hb1.cell (p := ⟨gb, 0, none⟩) (Nat.lt_trans hgbr hgrw)).trans hc; have hcr1 := (hb1.cell (p := ⟨gr, x, none⟩) hgrw).trans hcr; have hcq1 := (hb1.cell (p := ⟨gq, i, none⟩) hgqw).trans hcq)
                | (go_at_call 36; refine (fsub_any p o z h0 hp (by omega) (by omega) _).mono ?_; rintro _ w2 ⟨u, rfl, hu, huz, hb2⟩; have hcr2 := (hb2.cell (p := ⟨gr, x, none⟩) (Nat.lt_of_lt_of_le hgrw hb1.size)).trans hcr1; have hfz2 := ((hUP.drewN 1).below hb1 hgrw |>.below hb2 (Nat.lt_of_lt_of_le hgrw hb1.size)).frozen x))
            all_goals
              have hbb2 := hb1.trans (hb2.mono hb1.size)
              have hP2 := ((hUP.drewN 1).below hbb2 hgrw).set x u
              have hU2 := ((hUQ.drewN 1).below hbb2 hgqw).far (p := ⟨gr, x, none⟩) hne2' (.int .u32 (u : Int))
              have hB2 := (hB.drew.trans (hbb2.mono hB.size)).setCell (p := ⟨gr, x, none⟩) (by simp; omega) (.int .u32 (u : Int))
              have hc2' := (hbb2.cell (p := ⟨gb, 0, none⟩) (Nat.lt_trans hgbr hgrw)).trans hc
              have hc3' : (w2.setCell ⟨gr, x, none⟩ (.int .u32 (u : Int))).cell? ⟨gb, 0, none⟩ = some (.int .u64 p) := by simp [hc2', hne3, World.cell?_setCell_far]
              have HX := Lib.hid (And.intro hU2 (And.intro hP2 (And.intro hB2 hc3')))
              clear hU2 hP2 hB2 hc3' hc2' hbb2
              go_wp2
              go_roundw
              case rel => exact ⟨k + 1, O.set x u, by go_num, hkn, HX.out.1, HX.out.2.1, HX.out.2.2.2, Lib.hid ⟨by rw [List.length_set]; exact hO.out.1, hO.out.2.1.set x hu, hO.out.2.2.set (by rw [hO.out.1]; exact hxn) (sub_step HX0.out EY.out EO.out (by rw [hO.out.1]; exact hxn) hO.out.2.2 hzz.out huz.out) (fun q hq => Pm.sb_other (by rw [← HX0.out]; exact hq))⟩, HX.out.2.2.1⟩
              case measure => simp [intOf]; omega
          · obtain rfl : k = n' := by omega
            have hil : i < Q.length := by rw [hI.out.1]; omega
            have HD := Lib.hid (show Pm.Ds p (Pm.co L) (Pm.co L') (Pm.co (Q.set i v)) (Pm.co O) i (L'.length - 1) from
              hI.out.2.2.2.2.1.step (v := v) (s := iv) ((Pm.co_up L').mono (by omega)) HIV.out (by
                have e1 : Pm.co R (i + (L'.length - 1)) = (rt : Int) := by unfold Pm.co; rw [HLEN'.out, ← HJ.out, ← HT.out, ← ERT.out]
                rw [e1]; exact hvz.out)
                (fun x => Pm.cz.of_eq (Pm.co_set hil (hI.out.2.2.2.2.2 i (Nat.lt_succ_self i)) x))
                (sub_all hO.out.1 hI.out.2.2.1 (by rw [HLEN'.out]; have := HE.out; omega) (by rw [HLEN'.out]; exact hO.out.2.2)))
            go_wp2
            go_roundw
            case rel => exact ⟨i, Q.set i v, O, rfl, by omega, hUQ, hUP, hc, Lib.hid ⟨by rw [List.length_set]; exact hI.out.1, hI.out.2.1.set i hv, hO.out.1, hO.out.2.1, HD.out, fun x hx => by rw [Dg.ld_set_other v (by omega)]; exact hI.out.2.2.2.2.2 x (by omega)⟩, hB⟩
            case measure => simp [intOf]
end Go.Proofs.YtmgacikdgbedfaaGreatDoor
