/- modpoly: the rest, the greatest common divisor. -/
import Derived.Test.YtmgacikdgbedfaaGreatDoorM7
namespace Go.Proofs.YtmgacikdgbedfaaGreatDoor
open Go.RowKit Go.IntWalk

theorem rm_of {p : Nat} {L L' Q R : List Nat} (h : Pm.Pn p Q ∧ Pm.Pn p R ∧ Pm.Dv p (Pm.co L) (Pm.co L') (Pm.co Q) (Pm.co R) (L'.length - 1) ∧ Q.length ≤ L.length + 1 - L'.length ∧ R.length ≤ L.length) : Pm.Rm p L L' R ∧ R.length ≤ L.length :=
  ⟨⟨h.2.1, Pm.co Q, Pm.Fn.co Q, h.2.2.1⟩, h.2.2.2.2⟩
set_option maxRecDepth 100000 in
set_option maxHeartbeats 1000000 in
theorem mrest_any {A A' : Option Addr} {n c n' c' : Nat} {L L' : List Nat} {w : World} (p : Nat) (hpr : Nt.Pr p) (hp : p < 4294967296)
    (h : RdU w w.heap.size A n c L) (h' : RdU w w.heap.size A' n' c' L') (hn : n ≤ 4398046511104) (hn' : n' ≤ 4398046511104) (hL : Pm.Pn p L) (hL' : Pm.Pn p L') (hne : 0 < n') (hT : Tabs w) :
    Calls Tryz.prog 62 #[.agg #[.int .u64 p], .slice A n c, .slice A' n' c'] w (RetQ (fun R => Pm.Rm p L L' R ∧ R.length ≤ L.length) w) := by
  have HP := Lib.hid hpr
  have HL := Lib.hid hL
  have HL' := Lib.hid hL'
  clear hpr hL hL'
  have hB0 := below1 w (.cells #[.int .u64 p] 51)
  have hR0 := h.next hB0
  have hR0' := h'.next hB0
  have hT0 := hT.below hB0
  go_enter Tryz.func62, Tryz.ntmps62
  go_wp2_with fail
  generalize w.alloc (.cells #[.int .u64 p] 51) = W1 at hR0 hR0' hB0 hT0 ⊢
  refine (mdiv_any p HP.out hp hR0 hR0' hn hn' HL.out HL'.out hne hT0).mono ?_
  rintro _ w2 ⟨A1, A2, n1, c1, n2, c2, Q, R, rfl, hq, hr, hd, hb⟩
  have HB := Lib.hid (hB0.trans (hb.mono hB0.size))
  have HR := Lib.hid (hr.base hB0.size)
  go_wp2
  go_ret
  exact ⟨A2, n2, c2, R, rfl, HR.out, Lib.hid (rm_of hd.out), HB.out⟩

set_option maxRecDepth 100000 in
set_option maxHeartbeats 2000000 in
theorem mgcd_any {A A' : Option Addr} {n c n' c' : Nat} {L L' : List Nat} {w : World} (p : Nat) (hpr : Nt.Pr p) (hp : p < 4294967296)
    (h : RdU w w.heap.size A n c L) (h' : RdU w w.heap.size A' n' c' L') (hn : n ≤ 4398046511104) (hn' : n' ≤ 4398046511104) (hL : Pm.Pn p L) (hL' : Pm.Pn p L') (hT : Tabs w) :
    Calls Tryz.prog 47 #[.agg #[.int .u64 p], .slice A n c, .slice A' n' c'] w (RetQ (fun G => Pm.Gc p L L' G) w) := by
  have HP := Lib.hid hpr
  have HL := Lib.hid hL
  have HL' := Lib.hid hL'
  have HLEN' := Lib.hid h'.len
  clear hpr hL hL'
  have hB0 := below1 w (.cells #[.int .u64 p] 51)
  have hR0 := h.next hB0
  have hR0' := h'.next hB0
  have hT0 := hT.below hB0
  have hcb : (w.alloc (.cells #[.int .u64 p] 51)).cell? ⟨w.heap.size, 0, none⟩ = some (.int .u64 p) := by go_simp
  have hsz : w.heap.size < (w.alloc (.cells #[.int .u64 p] 51)).heap.size := by simp
  have HCB := Lib.hid hcb
  clear hcb
  go_enter Tryz.func47, Tryz.ntmps47
  go_wp2_with fail
  generalize w.alloc (.cells #[.int .u64 p] 51) = W1 at HCB hsz hR0 hR0' hB0 hT0 ⊢
  obtain ⟨gb, hgb⟩ : ∃ gb, gb = w.heap.size := ⟨_, rfl⟩
  rw [← hgb] at HCB hsz ⊢
  have hgw : w.heap.size ≤ gb := by omega
  clear hgb
  go_step3
  go_wp2_with fail
  go_step3
  go_wp2_with fail
  go_loopw [1, 2] (fun av bv wr => ∃ (A A' : Option Addr) (m c m' c' : Nat) (M M' : List Nat), av = .slice A m c ∧ bv = .slice A' m' c' ∧ RdU wr wr.heap.size A m c M ∧ RdU wr wr.heap.size A' m' c' M' ∧ m ≤ 4398046511104 ∧ m' ≤ 4398046511104 ∧
    Hid (Pm.Pn p M ∧ Pm.Pn p M' ∧ ∀ G, Pm.Gc p M M' G → Pm.Gc p L L' G) ∧ wr.cell? ⟨gb, 0, none⟩ = some (.int .u64 p) ∧ Tabs wr ∧ gb < wr.heap.size ∧ Below w.heap.size w wr) (fun _ bv _ => slLen bv)
  case atStart => exact ⟨A, A', n, c, n', c', L, L', rfl, rfl, hR0, hR0', hn, hn', Lib.hid ⟨HL.out, HL'.out, fun G hG => hG⟩, HCB.out, hT0, hsz, hB0⟩
  case round =>
    clear hR0 hR0' hB0 hT0 HCB hsz h h' HLEN' hT
    obtain ⟨A, A', m, c, m', c', M, M', rfl, rfl, hR, hR', hm, hm', hI, hc, hT, hgl, hB⟩ := hrel
    have HLM := Lib.hid hR'.len
    rcases Nat.eq_zero_or_pos m' with h0 | h0
    · have hM0 : M' = [] := List.eq_nil_of_length_eq_zero (by rw [HLM.out, h0])
      subst h0 hM0
      have hmo := mmonic_any p HP.out hp hR (by omega) hI.out.1 hT
      have HMO := Lib.hid hmo
      clear hmo
      go_wp2_with (go_at_call 33; refine HMO.out.mono ?_; rintro _ w3 ⟨A3, n3, c3, G, rfl, hpo, hG, hb3⟩)
      rw [Exit.noGoto_ret]
      go_ret
      exact ⟨A3, n3, c3, G, rfl, hpo.base hB.size, Lib.hid (hI.out.2.2 G (Pm.Gc.done hG.out)), hB.trans (hb3.mono hB.size)⟩
    · have h1 : ((m' : Int) == 0) = false := by simp; omega
      go_wp2_with fail
      refine (mrest_any p HP.out hp hR hR' hm hm' hI.out.1 hI.out.2.1 h0 hT).mono ?_
      rintro _ w3 ⟨A3, n3, c3, R, rfl, hpo, hRm, hb3⟩
      have hlt : n3 < m' := by
        have e1 := hRm.out.1.short HP.out (by rw [HLM.out]; exact h0)
        rw [hpo.len, HLM.out] at e1
        exact e1
      have hr2 := hR'.next hb3
      have hr3 := hpo.rd
      have hc3 := (hb3.cell (p := ⟨gb, 0, none⟩) hgl).trans hc
      have HX := Lib.hid (And.intro hr2 (And.intro hr3 (And.intro hc3 (And.intro (hT.below hb3) (And.intro (Nat.lt_of_lt_of_le hgl hb3.size) (hB.trans (hb3.mono hB.size)))))))
      clear hr2 hr3 hc3
      go_wp2
      go_roundw
      case rel => exact ⟨A', A3, m', c', n3, c3, M', R, rfl, rfl, HX.out.1, HX.out.2.1, hm', by omega, Lib.hid ⟨hI.out.2.1, hRm.out.1.1, fun G hG => hI.out.2.2 G (Pm.Gc.step (by rw [HLM.out]; exact h0) hRm.out.1 hG)⟩, HX.out.2.2.1, HX.out.2.2.2.1, HX.out.2.2.2.2.1, HX.out.2.2.2.2.2⟩
      case measure => simp [slLen]; exact hlt
end Go.Proofs.YtmgacikdgbedfaaGreatDoor
