/- qpoly.norms at api.Rat. -/
import Derived.Test.YtipbpdiahemmpaaGreatQ37
import Derived.Test.YtipbpdiahemmpaaGreatQ32
import Derived.Test.YtipbpdiahemmpaaGreatQ33
import Derived.Test.YtipbpdiahemmpaaGreatQ30
import Derived.Test.YtipbpdiahemmpaaGreatQ31
namespace Go.Proofs.YtipbpdiahemmpaaGreat
open Go.RowKit Go.IntWalk
attribute [local go_sem ↓] Go.wp_at_zero Go.wp_at_succ

theorem QC.grown {w w1 : World} {g b : Nat} {s s' : Bool} {A A' : Option Addr} {n c n' c' m : Nat} {xs : List Value} {v : Value} {k : Nat} (h : QC w g s A n c s' A' n' c') (hE : w.ownsRow b 38 k v m xs) (hg : w.grownBy w1 v.ownBlock) : QC w1 g s A n c s' A' n' c' := heap_grown hE hg h (by decide)
/-- A fraction and an error's number come back. -/
def RetQcE (b : Nat) (Φ : Rat → Int → Prop) (w : World) (e : Ending) (w' : World) : Prop :=
  ∃ (s : Bool) (A : Option Addr) (n c : Nat) (s' : Bool) (A' : Option Addr) (n' c' : Nat) (x : Rat) (kk : Int), e = .returned (.tuple #[.agg #[.bool s, .slice A n c, .bool s', .slice A' n' c'], .int .i64 kk]) ∧ OwQ w' b s A n c s' A' n' c' x ∧ Hid (Φ x kk) ∧ Below w.heap.size w w'

set_option maxRecDepth 100000 in
set_option maxHeartbeats 8000000 in
theorem norms_rat {f N K : Nat} {A : Option Addr} {n c : Nat} {LL : List (List (Int × Int))} {w : World} {Φ : Rat → Int → Prop} (h : RdPs w w.heap.size N K A n c LL) (hn : n ≤ 1048576) (hK : K ≤ 1048576) (hN : N ≤ 1000000000000) (h1N : 1 ≤ N) (heg : ∀ args w, (callFunc f args).run Tryz.prog w = .ok (.enter f args) w)
    (hdo : (∀ L ∈ LL, ∀ p ∈ L, p.2 ≠ 0) → ∀ (W : World) (A' : Option Addr) (c' : Nat), Below w.heap.size w W → OwPs W w.heap.size A' n c' (LL.map nq) → Calls Tryz.prog f #[.slice A' n c'] W (RetQcE w.heap.size Φ W)) :
    Calls Tryz.prog 139 #[.slice A n c, .func (.func f) #[] #[]] w (fun e w' => ((∀ L ∈ LL, ∀ p ∈ L, p.2 ≠ 0) ∧ RetQcE w.heap.size Φ w e w') ∨ ((∃ L ∈ LL, ∃ p ∈ L, p.2 = 0) ∧ e = .returned (.tuple #[.agg #[.bool false, .slice none 0 0, .bool false, .slice none 0 0], .int .i64 6]) ∧ Below w.heap.size w w')) := by
  have HD := Lib.hid hdo
  have HLEN := Lib.hid h.len
  obtain ⟨i0, hi, hz0, hz1, hz2⟩ := info_parts infoPoly
  have hb1 : Below w.heap.size w ((w.alloc (.cells #[.bool false, .slice none 0 0, .bool false, .slice none 0 0] 56)).alloc (.cells #[.bool false, .slice none 0 0, .bool false, .slice none 0 0] 56)) := ((Below.refl _ _).alloc (Nat.le_refl _) _).alloc (by simp) _
  have hR0 : QC ((w.alloc (.cells #[.bool false, .slice none 0 0, .bool false, .slice none 0 0] 56)).alloc (.cells #[.bool false, .slice none 0 0, .bool false, .slice none 0 0] 56)) w.heap.size false none 0 0 false none 0 0 := (QC.new w false none 0 0 false none 0 0).next ((Below.refl _ _).alloc (Nat.le_refl _) _)
  have hZ0 : QC ((w.alloc (.cells #[.bool false, .slice none 0 0, .bool false, .slice none 0 0] 56)).alloc (.cells #[.bool false, .slice none 0 0, .bool false, .slice none 0 0] 56)) (w.heap.size + 1) false none 0 0 false none 0 0 := by have := QC.new (w.alloc (.cells #[.bool false, .slice none 0 0, .bool false, .slice none 0 0] 56)) false none 0 0 false none 0 0; simpa using this
  have HR0 := Lib.hid (And.intro hb1 (And.intro hR0 hZ0))
  clear hdo hb1 hR0 hZ0
  go_enter Tryz.func139, Tryz.ntmps139
  go_wp2_with fail
  generalize (w.alloc (.cells #[.bool false, .slice none 0 0, .bool false, .slice none 0 0] 56)).alloc (.cells #[.bool false, .slice none 0 0, .bool false, .slice none 0 0] 56) = W1 at *
  obtain ⟨gz, hgz⟩ : ∃ g, g = w.heap.size + 1 := ⟨_, rfl⟩
  rw [← hgz] at HR0 ⊢
  have HGZ := Lib.hid hgz
  clear hgz
  go_loopw [7, 14] (fun ov iv wr => ∃ (j c' : Nat) (A' : Option Addr) (M : List (List Rat)), ov = .slice A' j c' ∧ iv = .int .i64 j ∧ j ≤ n ∧ OwPs wr w.heap.size A' j c' M ∧ Hid (M = (LL.take j).map nq) ∧ Hid (∀ (i : Nat) (L : List (Int × Int)), i < j → LL[i]? = some L → ∀ p ∈ L, p.2 ≠ 0) ∧ Hid (QC wr w.heap.size false none 0 0 false none 0 0 ∧ QC wr gz false none 0 0 false none 0 0) ∧ Below w.heap.size w wr) (fun _ iv _ => n - (intOf iv).toNat)
  case atStart => exact ⟨0, 0, none, [], rfl, rfl, Nat.zero_le _, OwPs.nil _ _, Lib.hid rfl, Lib.hid fun i p hi => absurd hi (Nat.not_lt_zero _), Lib.hid HR0.out.2, HR0.out.1⟩
  case round =>
    obtain ⟨j, c', A', M, rfl, rfl, hj, ho, hM, hne, HX, hB⟩ := hrel
    by_cases hjn : j = n
    · subst hjn
      have HALL := Lib.hid (show ∀ L ∈ LL, ∀ p ∈ L, p.2 ≠ 0 from fun L hp => by
        obtain ⟨i, hi, e⟩ := List.mem_iff_getElem.1 hp
        exact hne.out i L (by rw [← HLEN.out]; exact hi) (by rw [List.getElem?_eq_getElem hi, e]))
      have HO := Lib.hid (show OwPs wr w.heap.size A' j c' (LL.map nq) by rw [← List.take_of_length_le (l := LL) (by rw [HLEN.out]; exact Nat.le_refl _), ← hM.out]; exact ho)
      have HB := Lib.hid hB
      clear ho hB hM hne
      go_wp2_with fail
      refine (HD.out HALL.out wr A' c' HB.out HO.out).mono ?_
      rintro _ W5 ⟨s1, A5, n5, c5, s2, A6, n6, c6, x, kk, rfl, ho5, hy, hb5⟩
      have hR := HX.out.1.next hb5
      have r0 := hR.c0
      have r1 := hR.c1
      have r2 := hR.c2
      have r3 := hR.c3
      have f0 := hR.fz 0
      have f1 := hR.fz 1
      have f2 := hR.fz 2
      have f3 := hR.fz 3
      have HS := Lib.hid (hR.store s1 A5 n5 c5 s2 A6 n6 c6)
      have HK := Lib.hid (ho5.keep (keep_putQ hR s1 A5 n5 c5 s2 A6 n6 c6))
      have HBF := Lib.hid (below_putQ (HB.out.trans (hb5.mono HB.out.size)) (Nat.le_refl _) s1 A5 n5 c5 s2 A6 n6 c6)
      have z0 := HS.out.c0
      have z1 := HS.out.c1
      have z2 := HS.out.c2
      have z3 := HS.out.c3
      unfold putQ at HS HK HBF z0 z1 z2 z3
      clear hR ho5 hb5
      go_wp2_with fail
      exact bodyPost_ret (by simp [results, Tryz.results139, go_sem, z0, z1, z2, z3]) rfl (.inl ⟨HALL.out, s1, A5, n5, c5, s2, A6, n6, c6, x, kk, rfl, HK.out, hy, HBF.out⟩)
    · have hjl : j < n := by omega
      clear hjn
      have hjli : (j : Int) < (n : Int) := by omega
      obtain ⟨ad, A1, n1, c1, L, rfl, hbk, hx, hr, hn1, hp⟩ := ps_at h hjl
      have hy := (hB.cell (p := ad.add j) (by rw [add_blk]; exact hbk)).trans hx
      have HR := Lib.hid (hr.next hB)
      have HO := Lib.hid ho
      clear hx hr ho
      go_wp2_with fail
      clear hy
      refine (qpnorm_any HR.out (by omega) hN h1N).mono ?_
      rintro _ W3 (⟨hall', A4, n4, c4, M4, rfl, ho4, hM4, hb3⟩ | ⟨hex, rfl, hb3⟩)
      · have HALL := Lib.hid hall'
        have hB3 := hB.trans (hb3.mono hB.size)
        obtain ⟨E, hE, hEl, hEn⟩ := HO.out.next hb3
        have HX3 := Lib.hid (show ∀ o, (QC (W3.alloc o) w.heap.size false none 0 0 false none 0 0) ∧ QC (W3.alloc o) gz false none 0 0 false none 0 0 from fun o => ⟨(HX.out.1.next hb3).next ((Below.refl _ _).alloc (Nat.le_refl _) _), (HX.out.2.next hb3).next ((Below.refl _ _).alloc (Nat.le_refl _) _)⟩)
        have HO4 := Lib.hid (ho4.base hB.size)
        have HE := Lib.hid hE
        have HEN := Lib.hid (And.intro hEl (hEn.next ((Below.refl _ _).alloc (Nat.le_refl _) (.cells #[.slice A4 n4 c4] 38))))
        have HM2 := Lib.hid (show M ++ [M4] = (LL.take (j + 1)).map nq by rw [hM.out, hM4.out]; exact mapn_snoc hp.out)
        have HNE2 := Lib.hid (show ∀ (i : Nat) (L : List (Int × Int)), i < j + 1 → LL[i]? = some L → ∀ p ∈ L, p.2 ≠ 0 from fun i L' hi hq => by
          rcases Nat.lt_or_ge i j with h1 | h1
          · exact hne.out i L' h1 hq
          · rw [show i = j by omega, hp.out] at hq
            injection hq with hq
            rw [← hq]
            exact HALL.out)
        have HB3 := Lib.hid hB3
        clear hE hEl hEn hb3 ho4 hB3 hB hM4 HO hne hM hall'
        go_wp2_with (at_builtin; refine wpList_append_own _ rfl _ _ 68 rfl w.heap.size 38 i0 (.slice none 0 0) 1 24 Tryz.underlying68 hi hz0 hz1 hz2 rfl (by decide) _ _ _ rfl (HE.out.alloc _) ⟨W3.heap.size, 0, none⟩ 1 1 [.slice A4 n4 c4] rfl rfl (pcell_new _ _ _) (by simp [Value.oneCell']) (by unfold maxLen; omega) (by omega) (by have := HB3.out.size; simp; omega) ?_; intro v' w1 hown' hgrow _)
        have hmore := ps_more (e := (A4, n4, c4)) (L := M4) HO4.out rfl (HE.out.alloc _) HEN.out.1 HEN.out.2 hown' hgrow
        have HB5 := Lib.hid ((HB3.out.alloc HB3.out.size (.cells #[.slice A4 n4 c4] 38)).grown hgrow (by have := HB3.out.size; simp; omega) (own_block HE.out))
        have HX5 := Lib.hid (And.intro (QC.grown (HX3.out _).1 (HE.out.alloc _) hgrow) (QC.grown (HX3.out _).2 (HE.out.alloc _) hgrow))
        obtain ⟨A5, c5, rfl, ho5⟩ := hmore
        clear hown' hgrow HE HEN HO4
        go_wp2
        go_roundw
        case rel => exact ⟨j + 1, c5, A5, M ++ [M4], rfl, by go_num, by omega, ho5, HM2, HNE2, HX5, HB5.out⟩
        case measure => simp [intOf]; omega
      · have HEX := Lib.hid (show ∃ L ∈ LL, ∃ p ∈ L, p.2 = 0 from ⟨L, List.mem_of_getElem? hp.out, hex⟩)
        have hR := HX.out.1.next hb3
        have hZ := HX.out.2.next hb3
        have hB3 := hB.trans (hb3.mono hB.size)
        have r0 := hR.c0
        have r1 := hR.c1
        have r2 := hR.c2
        have r3 := hR.c3
        have f0 := hR.fz 0
        have f1 := hR.fz 1
        have f2 := hR.fz 2
        have f3 := hR.fz 3
        have q0 := hZ.c0
        have q1 := hZ.c1
        have q2 := hZ.c2
        have q3 := hZ.c3
        have HS := Lib.hid (hR.store false none 0 0 false none 0 0)
        have HBF := Lib.hid (below_putQ hB3 (Nat.le_refl _) false none 0 0 false none 0 0)
        have z0 := HS.out.c0
        have z1 := HS.out.c1
        have z2 := HS.out.c2
        have z3 := HS.out.c3
        unfold putQ at HS HBF z0 z1 z2 z3
        clear hR hZ hB3 hB hb3
        go_wp2_with fail
        exact bodyPost_ret (by simp [results, Tryz.results139, go_sem, z0, z1, z2, z3]) rfl (.inr ⟨HEX.out, rfl, HBF.out⟩)
end Go.Proofs.YtipbpdiahemmpaaGreat

/- qpoly: Add, Sub, Derive, Monic as exported. -/
namespace Go.Proofs.YtipbpdiahemmpaaGreat
open Go.RowKit Go.IntWalk
attribute [local go_sem ↓] Go.wp_at_zero Go.wp_at_succ

/-- All denominators are not nought. -/
abbrev okD (L : List (Int × Int)) : Prop := ∀ p ∈ L, p.2 ≠ 0
/-- An exported function's answer: the polynomial with coefficients f, or error 6. -/
def RetOp (ok : Prop) (f : Nat → Rat) (w : World) (e : Ending) (w' : World) : Prop :=
  (ok ∧ RetPqE w.heap.size (fun M kk => Pq.IsP f M ∧ kk = 0) w e w') ∨ (¬ok ∧ e = .returned (.tuple #[.slice none 0 0, .int .i64 6]) ∧ Below w.heap.size w w')
theorem co_nq (L : List (Int × Int)) (i : Nat) : Pq.co (nq L) i = Pq.co (L.map qval) i := Pq.co_nrm _ i
theorem nq_len (L : List (Int × Int)) : (nq L).length ≤ L.length := Nat.le_trans (Pq.nrm_len _) (Nat.le_of_eq (List.length_map ..))
theorem nq_qs {w : World} {B N : Nat} {A : Option Addr} {n c : Nat} {L : List (Int × Int)} (h : RdQs w B N A n c L) (hd : okD L) (hN : 1 ≤ N) : ∀ x ∈ nq L, Qs N x := fun x hx => by
  obtain ⟨i, _, rfl⟩ := Pq.mem_co hx
  rw [co_nq]
  exact h.sz hd hN i

set_option maxRecDepth 100000 in
set_option maxHeartbeats 4000000 in
theorem qAddIn_any {b N c : Nat} {A : Option Addr} {P Q : List Rat} {w : World} (h : OwPs w b A 2 c [P, Q]) (hP : ∀ x ∈ P, Qs N x) (hQ : ∀ x ∈ Q, Qs N x) (hp : P.length ≤ 1048576) (hq : Q.length ≤ 1048576) (hN : N ≤ 200000000000) (h1N : 1 ≤ N) :
    Calls Tryz.prog 132 #[.slice A 2 c] w (RetPqE w.heap.size (fun M kk => Pq.IsP (fun i => Pq.co P i + Pq.co Q i) M ∧ kk = 0) w) := by
  obtain ⟨g, A1, n1, c1, L1, rfl, hbk, hx, ho1, hL1⟩ := opl_at h (show 0 < 2 by decide)
  obtain ⟨g', A2, n2, c2, L2, e, _, hy, ho2, hL2⟩ := opl_at h (show 1 < 2 by decide)
  injection e with e
  injection e with e
  subst e
  obtain rfl : P = L1 := by simpa using hL1.out
  obtain rfl : Q = L2 := by simpa using hL2.out
  have hn1 : n1 ≤ 1048576 := by rw [← ho1.len]; exact hp
  have hn2 : n2 ≤ 1048576 := by rw [← ho2.len]; exact hq
  have HX := Lib.hid (show ∀ W, Below w.heap.size w W → (W.cell? ⟨g, 0, none⟩ = some (.slice A1 n1 c1) ∧ W.cell? ⟨g, 1, none⟩ = some (.slice A2 n2 c2)) ∧ RdQs W W.heap.size N A1 n1 c1 (P.map pr) ∧ RdQs W W.heap.size N A2 n2 c2 (Q.map pr) from fun W hb => ⟨⟨(hb.cell (p := ⟨g, 0, none⟩) hbk).trans hx, (hb.cell (p := ⟨g, 1, none⟩) hbk).trans hy⟩, (ho1.next hb).rd hP, (ho2.next hb).rd hQ⟩)
  have HBD := Lib.hid (Below.refl w.heap.size w).drew
  have HCX := Lib.hid (show ∀ W, Below w.heap.size w W → _ from fun W hb => (HX.out W hb).1)
  clear h hL1 hL2 ho1 ho2 hP hQ
  go_enter Tryz.func132, Tryz.ntmps132
  go_wp2_with fail
  go_region_held3 (fun w' => w'.cell? ⟨g, 0, none⟩ = some (.slice A1 n1 c1) ∧ w'.cell? ⟨g, 1, none⟩ = some (.slice A2 n2 c2))
    (first | exact HCX.out _ HB3.out | exact HCX.out _ HBD.out)
    (first
      | (go_at_call 133; refine (qadd_poly (HX.out _ HBD.out).2.1 (HX.out _ HBD.out).2.2 hn1 hn2 hN h1N).mono ?_; rintro _ W3 ⟨A3, n3, c3, M3, rfl, ho3, hM3, hb3⟩; have HB3 := Lib.hid (HBD.out.trans (hb3.mono HBD.out.size))))
  all_goals
    have HO := Lib.hid (ho3.base (b' := w.heap.size) HBD.out.size)
    go_wp2
    go_ret2
    exact ⟨_, _, _, M3, 0, rfl, HO.out, Lib.hid ⟨hM3.out, rfl⟩, HB3.out⟩

set_option maxRecDepth 100000 in
set_option maxHeartbeats 4000000 in
theorem qAdd_any {N : Nat} {A A' : Option Addr} {n c n' c' : Nat} {L L' : List (Int × Int)} {w : World} (h : RdQs w w.heap.size N A n c L) (h' : RdQs w w.heap.size N A' n' c' L') (hn : n ≤ 1048576) (hn' : n' ≤ 1048576) (hN : N ≤ 200000000000) (h1N : 1 ≤ N) :
    Calls Tryz.prog 46 #[.slice A n c, .slice A' n' c'] w (RetOp (okD L ∧ okD L') (fun i => Pq.co (L.map qval) i + Pq.co (L'.map qval) i) w) := by
  have HEG := Lib.hid (enters_of Tryz.func132 (by kernel_rfl) rfl)
  have HH := Lib.hid (And.intro h h')
  obtain ⟨W2, HW2⟩ : ∃ W, W = w.alloc (.cells #[.slice A n c, .slice A' n' c'] 38) := ⟨_, rfl⟩
  have hps := Lib.hid (ps_two (K := 1048576) h h' hn hn' HW2)
  have HB2 := Lib.hid (show Below w.heap.size w W2 by rw [HW2]; exact (Below.refl _ _).alloc (Nat.le_refl _) _)
  have HW2 := Lib.hid HW2
  clear h h'
  go_enter Tryz.func46, Tryz.ntmps46
  go_wp2_with fail
  rw [← HW2.out]
  clear HW2
  clear HW2
  refine (norms_poly (f := 132) (Φ := fun M kk => Pq.IsP (fun i => Pq.co (L.map qval) i + Pq.co (L'.map qval) i) M ∧ kk = 0) hps.out (by decide) (by decide) (by omega) h1N HEG.out (fun hall W A' c' hb ho => (qAddIn_any (N := N) (P := nq L) (Q := nq L') ho (nq_qs HH.out.1 (hall L (by simp)) h1N) (nq_qs HH.out.2 (hall L' (by simp)) h1N) (Nat.le_trans (nq_len L) (by rw [HH.out.1.len]; exact hn)) (Nat.le_trans (nq_len L') (by rw [HH.out.2.len]; exact hn')) hN h1N).mono fun e w' ⟨A2, n2, c2, M2, kk, h1, h2, h3, h4⟩ => ⟨A2, n2, c2, M2, kk, h1, h2.base hb.size, Lib.hid ⟨h3.out.1.congr fun i => by simp only [co_nq], h3.out.2⟩, h4⟩)).mono ?_
  intro e W3 hpost
  rcases hpost with ⟨hall, A2, n2, c2, M2, kk, rfl, ho2, hM2, hb2⟩ | ⟨hex, rfl, hb2⟩
  · have HOK := Lib.hid (show okD L ∧ okD L' from ⟨hall L (by simp), hall L' (by simp)⟩)
    have HO := Lib.hid (ho2.base (b' := w.heap.size) HB2.out.size)
    have HB3 := Lib.hid (HB2.out.trans (hb2.mono HB2.out.size))
    clear hall ho2 hb2
    go_wp2
    go_ret2
    exact .inl ⟨HOK.out, _, _, _, M2, kk, rfl, HO.out, hM2, HB3.out⟩
  · have HOK := Lib.hid (show ¬(okD L ∧ okD L') from fun ⟨h1, h2⟩ => by
      obtain ⟨L0, hL0, p, hp, hp0⟩ := hex
      rcases List.mem_cons.1 hL0 with rfl | h3
      · exact h1 p hp hp0
      · obtain rfl := List.mem_singleton.1 h3
        exact h2 p hp hp0)
    have HB3 := Lib.hid (HB2.out.trans (hb2.mono HB2.out.size))
    clear hex hb2
    go_wp2
    go_ret2
    exact .inr ⟨HOK.out, rfl, HB3.out⟩

set_option maxRecDepth 100000 in
set_option maxHeartbeats 4000000 in
theorem qSubIn_any {b N c : Nat} {A : Option Addr} {P Q : List Rat} {w : World} (h : OwPs w b A 2 c [P, Q]) (hP : ∀ x ∈ P, Qs N x) (hQ : ∀ x ∈ Q, Qs N x) (hp : P.length ≤ 1048576) (hq : Q.length ≤ 1048576) (hN : N ≤ 200000000000) (h1N : 1 ≤ N) :
    Calls Tryz.prog 134 #[.slice A 2 c] w (RetPqE w.heap.size (fun M kk => Pq.IsP (fun i => Pq.co P i - Pq.co Q i) M ∧ kk = 0) w) := by
  obtain ⟨g, A1, n1, c1, L1, rfl, hbk, hx, ho1, hL1⟩ := opl_at h (show 0 < 2 by decide)
  obtain ⟨g', A2, n2, c2, L2, e, _, hy, ho2, hL2⟩ := opl_at h (show 1 < 2 by decide)
  injection e with e
  injection e with e
  subst e
  obtain rfl : P = L1 := by simpa using hL1.out
  obtain rfl : Q = L2 := by simpa using hL2.out
  have hn1 : n1 ≤ 1048576 := by rw [← ho1.len]; exact hp
  have hn2 : n2 ≤ 1048576 := by rw [← ho2.len]; exact hq
  have HX := Lib.hid (show ∀ W, Below w.heap.size w W → (W.cell? ⟨g, 0, none⟩ = some (.slice A1 n1 c1) ∧ W.cell? ⟨g, 1, none⟩ = some (.slice A2 n2 c2)) ∧ RdQs W W.heap.size N A1 n1 c1 (P.map pr) ∧ RdQs W W.heap.size N A2 n2 c2 (Q.map pr) from fun W hb => ⟨⟨(hb.cell (p := ⟨g, 0, none⟩) hbk).trans hx, (hb.cell (p := ⟨g, 1, none⟩) hbk).trans hy⟩, (ho1.next hb).rd hP, (ho2.next hb).rd hQ⟩)
  have HBD := Lib.hid (Below.refl w.heap.size w).drew
  have HCX := Lib.hid (show ∀ W, Below w.heap.size w W → _ from fun W hb => (HX.out W hb).1)
  clear h hL1 hL2 ho1 ho2 hP hQ
  go_enter Tryz.func134, Tryz.ntmps134
  go_wp2_with fail
  go_region_held3 (fun w' => w'.cell? ⟨g, 0, none⟩ = some (.slice A1 n1 c1) ∧ w'.cell? ⟨g, 1, none⟩ = some (.slice A2 n2 c2))
    (first | exact HCX.out _ HB3.out | exact HCX.out _ HBD.out)
    (first
      | (go_at_call 135; refine (qsub_poly (HX.out _ HBD.out).2.1 (HX.out _ HBD.out).2.2 hn1 hn2 hN h1N).mono ?_; rintro _ W3 ⟨A3, n3, c3, M3, rfl, ho3, hM3, hb3⟩; have HB3 := Lib.hid (HBD.out.trans (hb3.mono HBD.out.size))))
  all_goals
    have HO := Lib.hid (ho3.base (b' := w.heap.size) HBD.out.size)
    go_wp2
    go_ret2
    exact ⟨_, _, _, M3, 0, rfl, HO.out, Lib.hid ⟨hM3.out, rfl⟩, HB3.out⟩

set_option maxRecDepth 100000 in
set_option maxHeartbeats 4000000 in
theorem qSub_any {N : Nat} {A A' : Option Addr} {n c n' c' : Nat} {L L' : List (Int × Int)} {w : World} (h : RdQs w w.heap.size N A n c L) (h' : RdQs w w.heap.size N A' n' c' L') (hn : n ≤ 1048576) (hn' : n' ≤ 1048576) (hN : N ≤ 200000000000) (h1N : 1 ≤ N) :
    Calls Tryz.prog 47 #[.slice A n c, .slice A' n' c'] w (RetOp (okD L ∧ okD L') (fun i => Pq.co (L.map qval) i - Pq.co (L'.map qval) i) w) := by
  have HEG := Lib.hid (enters_of Tryz.func134 (by kernel_rfl) rfl)
  have HH := Lib.hid (And.intro h h')
  obtain ⟨W2, HW2⟩ : ∃ W, W = w.alloc (.cells #[.slice A n c, .slice A' n' c'] 38) := ⟨_, rfl⟩
  have hps := Lib.hid (ps_two (K := 1048576) h h' hn hn' HW2)
  have HB2 := Lib.hid (show Below w.heap.size w W2 by rw [HW2]; exact (Below.refl _ _).alloc (Nat.le_refl _) _)
  have HW2 := Lib.hid HW2
  clear h h'
  go_enter Tryz.func47, Tryz.ntmps47
  go_wp2_with fail
  rw [← HW2.out]
  clear HW2
  clear HW2
  refine (norms_poly (f := 134) (Φ := fun M kk => Pq.IsP (fun i => Pq.co (L.map qval) i - Pq.co (L'.map qval) i) M ∧ kk = 0) hps.out (by decide) (by decide) (by omega) h1N HEG.out (fun hall W A' c' hb ho => (qSubIn_any (N := N) (P := nq L) (Q := nq L') ho (nq_qs HH.out.1 (hall L (by simp)) h1N) (nq_qs HH.out.2 (hall L' (by simp)) h1N) (Nat.le_trans (nq_len L) (by rw [HH.out.1.len]; exact hn)) (Nat.le_trans (nq_len L') (by rw [HH.out.2.len]; exact hn')) hN h1N).mono fun e w' ⟨A2, n2, c2, M2, kk, h1, h2, h3, h4⟩ => ⟨A2, n2, c2, M2, kk, h1, h2.base hb.size, Lib.hid ⟨h3.out.1.congr fun i => by simp only [co_nq], h3.out.2⟩, h4⟩)).mono ?_
  intro e W3 hpost
  rcases hpost with ⟨hall, A2, n2, c2, M2, kk, rfl, ho2, hM2, hb2⟩ | ⟨hex, rfl, hb2⟩
  · have HOK := Lib.hid (show okD L ∧ okD L' from ⟨hall L (by simp), hall L' (by simp)⟩)
    have HO := Lib.hid (ho2.base (b' := w.heap.size) HB2.out.size)
    have HB3 := Lib.hid (HB2.out.trans (hb2.mono HB2.out.size))
    clear hall ho2 hb2
    go_wp2
    go_ret2
    exact .inl ⟨HOK.out, _, _, _, M2, kk, rfl, HO.out, hM2, HB3.out⟩
  · have HOK := Lib.hid (show ¬(okD L ∧ okD L') from fun ⟨h1, h2⟩ => by
      obtain ⟨L0, hL0, p, hp, hp0⟩ := hex
      rcases List.mem_cons.1 hL0 with rfl | h3
      · exact h1 p hp hp0
      · obtain rfl := List.mem_singleton.1 h3
        exact h2 p hp hp0)
    have HB3 := Lib.hid (HB2.out.trans (hb2.mono HB2.out.size))
    clear hex hb2
    go_wp2
    go_ret2
    exact .inr ⟨HOK.out, rfl, HB3.out⟩

set_option maxRecDepth 100000 in
set_option maxHeartbeats 4000000 in
theorem qDeriveIn_any {b N c : Nat} {A : Option Addr} {P : List Rat} {w : World} (h : OwPs w b A 1 c [P]) (hP : ∀ x ∈ P, Qs N x) (hp : P.length ≤ 1048576) (hN : N ≤ 200000000000) (h1N : 1 ≤ N) :
    Calls Tryz.prog 144 #[.slice A 1 c] w (RetPqE w.heap.size (fun M kk => Pq.IsP (fun i => Pq.co P (i + 1) * (((i + 1 : Nat) : Int) : Rat)) M ∧ kk = 0) w) := by
  obtain ⟨g, A1, n1, c1, L1, rfl, hbk, hx, ho1, hL1⟩ := opl_at h (show 0 < 1 by decide)
  obtain rfl : P = L1 := by simpa using hL1.out
  have hn1 : n1 ≤ 1048576 := by rw [← ho1.len]; exact hp
  have HR := Lib.hid (ho1.rd hP)
  clear h hL1 ho1 hP
  go_enter Tryz.func144, Tryz.ntmps144
  go_wp2_with fail
  refine (qderive_any HR.out hn1 hN h1N).mono ?_
  rintro _ W3 ⟨A3, n3, c3, M3, rfl, ho3, hM3, hb3⟩
  go_wp2
  go_ret2
  exact ⟨_, _, _, M3, 0, rfl, ho3, Lib.hid ⟨hM3.out, rfl⟩, hb3⟩

set_option maxRecDepth 100000 in
set_option maxHeartbeats 4000000 in
theorem qDerive_any {N : Nat} {A : Option Addr} {n c : Nat} {L : List (Int × Int)} {w : World} (h : RdQs w w.heap.size N A n c L) (hn : n ≤ 1048576) (hN : N ≤ 200000000000) (h1N : 1 ≤ N) :
    Calls Tryz.prog 50 #[.slice A n c] w (RetOp (okD L) (fun i => Pq.co (L.map qval) (i + 1) * (((i + 1 : Nat) : Int) : Rat)) w) := by
  have HEG := Lib.hid (enters_of Tryz.func144 (by kernel_rfl) rfl)
  have HH := Lib.hid h
  obtain ⟨W2, HW2⟩ : ∃ W, W = w.alloc (.cells #[.slice A n c] 38) := ⟨_, rfl⟩
  have hps := Lib.hid (ps_one (K := 1048576) h hn HW2)
  have HB2 := Lib.hid (show Below w.heap.size w W2 by rw [HW2]; exact (Below.refl _ _).alloc (Nat.le_refl _) _)
  have HW2 := Lib.hid HW2
  clear h
  go_enter Tryz.func50, Tryz.ntmps50
  go_wp2_with fail
  rw [← HW2.out]
  clear HW2
  clear HW2
  refine (norms_poly (f := 144) (Φ := fun M kk => Pq.IsP (fun i => Pq.co (L.map qval) (i + 1) * (((i + 1 : Nat) : Int) : Rat)) M ∧ kk = 0) hps.out (by decide) (by decide) (by omega) h1N HEG.out (fun hall W A' c' hb ho => (qDeriveIn_any (N := N) (P := nq L) ho (nq_qs HH.out (hall L (by simp)) h1N) (Nat.le_trans (nq_len L) (by rw [HH.out.len]; exact hn)) hN h1N).mono fun e w' ⟨A2, n2, c2, M2, kk, h1, h2, h3, h4⟩ => ⟨A2, n2, c2, M2, kk, h1, h2.base hb.size, Lib.hid ⟨h3.out.1.congr fun i => by simp only [co_nq], h3.out.2⟩, h4⟩)).mono ?_
  intro e W3 hpost
  rcases hpost with ⟨hall, A2, n2, c2, M2, kk, rfl, ho2, hM2, hb2⟩ | ⟨hex, rfl, hb2⟩
  · have HOK := Lib.hid (show okD L from hall L (by simp))
    have HO := Lib.hid (ho2.base (b' := w.heap.size) HB2.out.size)
    have HB3 := Lib.hid (HB2.out.trans (hb2.mono HB2.out.size))
    clear hall ho2 hb2
    go_wp2
    go_ret2
    exact .inl ⟨HOK.out, _, _, _, M2, kk, rfl, HO.out, hM2, HB3.out⟩
  · have HOK := Lib.hid (show ¬okD L from fun h1 => by
      obtain ⟨L0, hL0, p, hp, hp0⟩ := hex
      obtain rfl := List.mem_singleton.1 hL0
      exact h1 p hp hp0)
    have HB3 := Lib.hid (HB2.out.trans (hb2.mono HB2.out.size))
    clear hex hb2
    go_wp2
    go_ret2
    exact .inr ⟨HOK.out, rfl, HB3.out⟩

set_option maxRecDepth 100000 in
set_option maxHeartbeats 4000000 in
theorem qMonicIn_any {b N c : Nat} {A : Option Addr} {P : List Rat} {w : World} (h : OwPs w b A 1 c [P]) (hP : ∀ x ∈ P, Qs N x) (hz : Pq.Nz P) (hp : P.length ≤ 1048576) (hN : N ≤ 200000000000) (h1N : 1 ≤ N) :
    Calls Tryz.prog 124 #[.slice A 1 c] w (RetPqE w.heap.size (fun M kk => Pq.IsP (fun i => Pq.co P i * (Pq.co P (P.length - 1))⁻¹) M ∧ kk = 0) w) := by
  obtain ⟨g, A1, n1, c1, L1, rfl, hbk, hx, ho1, hL1⟩ := opl_at h (show 0 < 1 by decide)
  obtain rfl : P = L1 := by simpa using hL1.out
  have hn1 : n1 ≤ 1048576 := by rw [← ho1.len]; exact hp
  have HR := Lib.hid (ho1.rd hP)
  clear h hL1 ho1 hP
  go_enter Tryz.func124, Tryz.ntmps124
  go_wp2_with fail
  refine (qmonic_any HR.out hz hn1 hN h1N).mono ?_
  rintro _ W3 ⟨A3, n3, c3, M3, rfl, ho3, hM3, hb3⟩
  go_wp2
  go_ret2
  exact ⟨_, _, _, M3, 0, rfl, ho3, Lib.hid ⟨hM3.out, rfl⟩, hb3⟩

set_option maxRecDepth 100000 in
set_option maxHeartbeats 4000000 in
theorem qMonic_any {N : Nat} {A : Option Addr} {n c : Nat} {L : List (Int × Int)} {w : World} (h : RdQs w w.heap.size N A n c L) (hn : n ≤ 1048576) (hN : N ≤ 200000000000) (h1N : 1 ≤ N) :
    Calls Tryz.prog 41 #[.slice A n c] w (RetOp (okD L) (fun i => Pq.co (L.map qval) i * (Pq.co (L.map qval) ((nq L).length - 1))⁻¹) w) := by
  have HEG := Lib.hid (enters_of Tryz.func124 (by kernel_rfl) rfl)
  have HH := Lib.hid h
  obtain ⟨W2, HW2⟩ : ∃ W, W = w.alloc (.cells #[.slice A n c] 38) := ⟨_, rfl⟩
  have hps := Lib.hid (ps_one (K := 1048576) h hn HW2)
  have HB2 := Lib.hid (show Below w.heap.size w W2 by rw [HW2]; exact (Below.refl _ _).alloc (Nat.le_refl _) _)
  have HW2 := Lib.hid HW2
  clear h
  go_enter Tryz.func41, Tryz.ntmps41
  go_wp2_with fail
  rw [← HW2.out]
  clear HW2
  clear HW2
  refine (norms_poly (f := 124) (Φ := fun M kk => Pq.IsP (fun i => Pq.co (L.map qval) i * (Pq.co (L.map qval) ((nq L).length - 1))⁻¹) M ∧ kk = 0) hps.out (by decide) (by decide) (by omega) h1N HEG.out (fun hall W A' c' hb ho => (qMonicIn_any (N := N) (P := nq L) ho (nq_qs HH.out (hall L (by simp)) h1N) (Pq.nz_nrm _) (Nat.le_trans (nq_len L) (by rw [HH.out.len]; exact hn)) hN h1N).mono fun e w' ⟨A2, n2, c2, M2, kk, h1, h2, h3, h4⟩ => ⟨A2, n2, c2, M2, kk, h1, h2.base hb.size, Lib.hid ⟨h3.out.1.congr fun i => by simp only [co_nq], h3.out.2⟩, h4⟩)).mono ?_
  intro e W3 hpost
  rcases hpost with ⟨hall, A2, n2, c2, M2, kk, rfl, ho2, hM2, hb2⟩ | ⟨hex, rfl, hb2⟩
  · have HOK := Lib.hid (show okD L from hall L (by simp))
    have HO := Lib.hid (ho2.base (b' := w.heap.size) HB2.out.size)
    have HB3 := Lib.hid (HB2.out.trans (hb2.mono HB2.out.size))
    clear hall ho2 hb2
    go_wp2
    go_ret2
    exact .inl ⟨HOK.out, _, _, _, M2, kk, rfl, HO.out, hM2, HB3.out⟩
  · have HOK := Lib.hid (show ¬okD L from fun h1 => by
      obtain ⟨L0, hL0, p, hp, hp0⟩ := hex
      obtain rfl := List.mem_singleton.1 hL0
      exact h1 p hp hp0)
    have HB3 := Lib.hid (HB2.out.trans (hb2.mono HB2.out.size))
    clear hex hb2
    go_wp2
    go_ret2
    exact .inr ⟨HOK.out, rfl, HB3.out⟩
end Go.Proofs.YtipbpdiahemmpaaGreat

/- qpoly.Scale as exported; a coefficient of a list of the call's own. -/
namespace Go.Proofs.YtipbpdiahemmpaaGreat
open Go.RowKit Go.IntWalk
attribute [local go_sem ↓] Go.wp_at_zero Go.wp_at_succ

/-- One fraction in a new row. -/
theorem qs_one {w : World} {N : Nat} {s s' : Bool} {A A' : Option Addr} {n c n' c' : Nat} {z d : Int} (h : RdZ w w.heap.size s A n c z) (h' : RdZ w w.heap.size s' A' n' c' d) (hn : n ≤ N) (hn' : n' ≤ N) {w1 : World} (hw : w1 = w.alloc (.cells #[.bool s, .slice A n c, .bool s', .slice A' n' c'] 56)) :
    RdQs w1 w1.heap.size N (some ⟨w.heap.size, 0, none⟩) 1 1 [(z, d)] := by
  have hb : Below w.heap.size w w1 := by rw [hw]; exact (Below.refl _ _).alloc (Nat.le_refl _) _
  have hq : QC w1 w.heap.size s A n c s' A' n' c' := by rw [hw]; exact QC.new w s A n c s' A' n' c'
  refine ⟨rfl, Nat.le_refl _, by unfold maxLen; omega, fun j p hp => ?_⟩
  match j, hp with
  | 0, hp =>
    simp at hp
    subst hp
    exact ⟨_, s, A, n, c, s', A', n', c', rfl, hq.lt, hq.c0, hq.c1, hq.c2, hq.c3, h.next hb, h'.next hb, hn, hn'⟩
  | j + 1, hp => simp at hp
set_option maxRecDepth 100000 in
set_option maxHeartbeats 4000000 in
theorem qScaleIn_any {b N c : Nat} {A : Option Addr} {P Q : List Rat} {w : World} (h : OwPs w b A 2 c [P, Q]) (hP : ∀ x ∈ P, Qs N x) (hQ : ∀ x ∈ Q, Qs N x) (hp : P.length ≤ 1048576) (hN : N ≤ 200000000000) (h1N : 1 ≤ N) :
    Calls Tryz.prog 136 #[.slice A 2 c] w (RetPqE w.heap.size (fun M kk => Pq.IsP (fun i => Pq.co P i * Pq.co Q 0) M ∧ kk = 0) w) := by
  obtain ⟨g, A1, n1, c1, L1, rfl, hbk, hx, ho1, hL1⟩ := opl_at h (show 0 < 2 by decide)
  obtain ⟨g', A2, n2, c2, L2, e, _, hy, ho2, hL2⟩ := opl_at h (show 1 < 2 by decide)
  injection e with e
  injection e with e
  subst e
  obtain rfl : P = L1 := by simpa using hL1.out
  obtain rfl : Q = L2 := by simpa using hL2.out
  have hn1 : n1 ≤ 1048576 := by rw [← ho1.len]; exact hp
  have HX := Lib.hid (show ∀ W, Below w.heap.size w W → (W.cell? ⟨g, 0, none⟩ = some (.slice A1 n1 c1) ∧ W.cell? ⟨g, 1, none⟩ = some (.slice A2 n2 c2)) ∧ RdQs W W.heap.size N A1 n1 c1 (P.map pr) ∧ RdQs W W.heap.size N A2 n2 c2 (Q.map pr) from fun W hb => ⟨⟨(hb.cell (p := ⟨g, 0, none⟩) hbk).trans hx, (hb.cell (p := ⟨g, 1, none⟩) hbk).trans hy⟩, (ho1.next hb).rd hP, (ho2.next hb).rd hQ⟩)
  have HBD := Lib.hid (Below.refl w.heap.size w).drew
  have HCX := Lib.hid (show ∀ W, Below w.heap.size w W → _ from fun W hb => (HX.out W hb).1)
  clear h hL1 hL2 ho1 ho2 hP hQ
  go_enter Tryz.func136, Tryz.ntmps136
  go_wp2_with fail
  go_region_held3 (fun w' => w'.cell? ⟨g, 0, none⟩ = some (.slice A1 n1 c1) ∧ w'.cell? ⟨g, 1, none⟩ = some (.slice A2 n2 c2))
    (first | exact HCX.out _ HB3.out | exact HCX.out _ HB2.out | exact HCX.out _ HBD.out)
    (first
      | (go_at_call 138; refine (qat_any 0 (HX.out _ HBD.out).2.2 h1N).mono ?_; rintro _ W2 ⟨s5, A5, n5, c5, s6, A6, n6, c6, rfl, h5, h6, hn5, hn6, hb2⟩; have HB2 := Lib.hid (HBD.out.trans (hb2.mono HBD.out.size)))
      | (go_at_call 137; refine (qscale_any (HX.out _ HB2.out).2.1 h5 h6 hn5 hn6 hn1 hN h1N).mono ?_; rintro _ W3 ⟨A3, n3, c3, M3, rfl, ho3, hM3, hb3⟩; have HB3 := Lib.hid (HB2.out.trans (hb3.mono HB2.out.size))))
  all_goals
    have HO := Lib.hid (ho3.base (b' := w.heap.size) HB2.out.size)
    go_wp2
    go_ret2
    exact ⟨_, _, _, M3, 0, rfl, HO.out, Lib.hid ⟨hM3.out, rfl⟩, HB3.out⟩

set_option maxRecDepth 100000 in
set_option maxHeartbeats 4000000 in
theorem qScale_any {N : Nat} {A A' A'' : Option Addr} {n c n' c' n'' c'' : Nat} {s s' : Bool} {L : List (Int × Int)} {z d : Int} {w : World} (h : RdQs w w.heap.size N A n c L) (h' : RdZ w w.heap.size s A' n' c' z) (h'' : RdZ w w.heap.size s' A'' n'' c'' d) (hn : n ≤ 1048576) (hn' : n' ≤ N) (hn'' : n'' ≤ N) (hN : N ≤ 200000000000) (h1N : 1 ≤ N) :
    Calls Tryz.prog 48 #[.slice A n c, .agg #[.bool s, .slice A' n' c', .bool s', .slice A'' n'' c'']] w (RetOp (okD L ∧ d ≠ 0) (fun i => Pq.co (L.map qval) i * Rat.divInt z d) w) := by
  have HEG := Lib.hid (enters_of Tryz.func136 (by kernel_rfl) rfl)
  obtain ⟨W1, HW1⟩ : ∃ W, W = w.alloc (.cells #[.bool s, .slice A' n' c', .bool s', .slice A'' n'' c''] 56) := ⟨_, rfl⟩
  have hb1 : Below w.heap.size w W1 := by rw [HW1]; exact (Below.refl _ _).alloc (Nat.le_refl _) _
  have hR : QC W1 w.heap.size s A' n' c' s' A'' n'' c'' := by rw [HW1]; exact QC.new w s A' n' c' s' A'' n'' c''
  obtain ⟨W2, HW2⟩ : ∃ W, W = W1.alloc (.cells #[.bool s, .slice A' n' c', .bool s', .slice A'' n'' c''] 56) := ⟨_, rfl⟩
  have hb2 : Below W1.heap.size W1 W2 := by rw [HW2]; exact (Below.refl _ _).alloc (Nat.le_refl _) _
  obtain ⟨W3, HW3⟩ : ∃ W, W = W2.alloc (.cells #[.slice A n c, .slice (some ⟨W1.heap.size, 0, none⟩) 1 1] 38) := ⟨_, rfl⟩
  have hb3 : Below W2.heap.size W2 W3 := by rw [HW3]; exact (Below.refl _ _).alloc (Nat.le_refl _) _
  have hr := (h.next hb1).next hb2
  have hq := qs_one (h'.next hb1) (h''.next hb1) hn' hn'' HW2
  have HRQ := Lib.hid (And.intro hr hq)
  have hps := Lib.hid (ps_two (K := 1048576) hr hq hn (by decide) HW3)
  have HB3 := Lib.hid ((hb1.trans (hb2.mono hb1.size)).trans (hb3.mono (Nat.le_trans hb1.size hb2.size)))
  have a0 := hR.c0
  have a1 := hR.c1
  have a2 := hR.c2
  have a3 := hR.c3
  have HW := Lib.hid (And.intro HW1 (And.intro HW2 HW3))
  have e1 : W1.heap.size = w.heap.size + 1 := by rw [HW1]; simp
  have e2 : W2.heap.size = w.heap.size + 1 + 1 := by rw [HW2]; simp [e1]
  have HE := Lib.hid (And.intro e1 e2)
  rw [HW1] at a0 a1 a2 a3
  clear h h' h'' hr hq hb1 hb2 hb3 hR HW1 HW2 HW3 e1 e2
  go_enter Tryz.func48, Tryz.ntmps48
  go_wp2_with fail
  rw [← HE.out.2, ← HE.out.1, ← HW.out.1, ← HW.out.2.1, ← HW.out.2.2]
  clear a0 a1 a2 a3 HW
  refine (norms_poly (f := 136) (Φ := fun M kk => Pq.IsP (fun i => Pq.co (L.map qval) i * Rat.divInt z d) M ∧ kk = 0) hps.out (by decide) (by decide) (by omega) h1N HEG.out (fun hall W A' c' hb ho => (qScaleIn_any (N := N) (P := nq L) (Q := nq [(z, d)]) ho (nq_qs HRQ.out.1 (hall L (by simp)) h1N) (nq_qs HRQ.out.2 (hall [(z, d)] (by simp)) h1N) (Nat.le_trans (nq_len L) (by rw [HRQ.out.1.len]; exact hn)) hN h1N).mono fun e w' ⟨A2, n2, c2, M2, kk, h1, h2, h3, h4⟩ => ⟨A2, n2, c2, M2, kk, h1, h2.base hb.size, Lib.hid ⟨h3.out.1.congr fun i => by simp only [co_nq]; rfl, h3.out.2⟩, h4⟩)).mono ?_
  intro e W4 hpost
  rcases hpost with ⟨hall, A2, n2, c2, M2, kk, rfl, ho2, hM2, hb2⟩ | ⟨hex, rfl, hb2⟩
  · have HOK := Lib.hid (show okD L ∧ d ≠ 0 from ⟨hall L (by simp), hall [(z, d)] (by simp) (z, d) (by simp)⟩)
    have HO := Lib.hid (ho2.base (b' := w.heap.size) HB3.out.size)
    have HB4 := Lib.hid (HB3.out.trans (hb2.mono HB3.out.size))
    clear hall ho2 hb2
    go_wp2
    go_ret2
    exact .inl ⟨HOK.out, _, _, _, M2, kk, rfl, HO.out, hM2, HB4.out⟩
  · have HOK := Lib.hid (show ¬(okD L ∧ d ≠ 0) from fun ⟨h1, h2⟩ => by
      obtain ⟨L0, hL0, p, hp, hp0⟩ := hex
      rcases List.mem_cons.1 hL0 with rfl | h3
      · exact h1 p hp hp0
      · obtain rfl := List.mem_singleton.1 h3
        obtain rfl := List.mem_singleton.1 hp
        exact h2 hp0)
    have HB4 := Lib.hid (HB3.out.trans (hb2.mono HB3.out.size))
    clear hex hb2
    go_wp2
    go_ret2
    exact .inr ⟨HOK.out, rfl, HB4.out⟩
end Go.Proofs.YtipbpdiahemmpaaGreat
