/- qpoly.div of what is shorter; of any two. -/
import Derived.Test.YtipbpdiahemmpaaGreatQ34
import Derived.Test.YtipbpdiahemmpaaGreatQ13
import Derived.Test.YtipbpdiahemmpaaGreatQ42
import Derived.Test.YtipbpdiahemmpaaGreatQCa
import Derived.Test.YtipbpdiahemmpaaGreatQCc
namespace Go.Proofs.YtipbpdiahemmpaaGreat
open Go.RowKit Go.IntWalk
attribute [local go_sem ↓] Go.wp_at_zero Go.wp_at_succ

theorem wpList_append_sl {P : Program} {w : World} {ops : Array Oper} {rest : List Oper} {o : Oper} {a : Act} {Q : Exit → Act → World → Prop} (hgd : o.guard = none) (s x : Operand) (t : TypeId)
    (ho : o.op = .call { callee := .builtin .append, args := #[s, x], argTypes := #[t, t] })
    (base : Nat) (e : TypeId) (i : TypeInfo) (z : Value) (size bytes : Nat) (ht : P.underlying t = some (.slice e)) (hi : P.info? e = some i) (hz : i.zero = some z)
    (hsize : i.size = size) (hby : i.bytes = bytes) (hzs : z.cells.size = size) (hsz : 0 < size)
    (v : Value) (n : Nat) (xs : List Value) (hs : a.eval s = v) (hown : w.ownsRow base e size v n xs)
    (X : Option Addr) (m c : Nat) (news : List Value) (hx : a.eval x = .slice X m c) (hl : news.length = m * size) (hnil : X = none → m = 0) (hnews : ∀ ad, X = some ad → ∀ j u, news[j]? = some u → w.cell? (ad.add j) = some u) (h1 : ∀ u ∈ news, u.oneCell' = true)
    (h63 : n + m ≤ maxLen) (hbytes : (n + m) * bytes ≤ 140737488355328) (hbase : base ≤ w.heap.size)
    (h : ∀ A' c' w', w'.ownsRow base e size (.slice A' (n + m) c') (n + m) (xs ++ news) → w.grownBy w' v.ownBlock → wpList P ops Q rest (a.put o.dst (.slice A' (n + m) c')) w') : wpList P ops Q (o :: rest) a w :=
  wpList_plain hgd fun _ hK => wp_append_sl s x t ho base e i z size bytes ht hi hz hsize hby hzs hsz v n xs hs hown X m c news hx hl hnil hnews h1 h63 hbytes hbase fun A' c' w' h2 h3 => hK _ _ (h A' c' w' h2 h3)
/-- As an append reads it. -/
theorem OwQp.news {w : World} {b : Nat} {A : Option Addr} {n c : Nat} {L : List Rat} (h : OwQp w b A n c L) : ∃ E : List (Ent × Ent), E.length = n ∧ EntQ w b E L ∧ (qcs E).length = n * 4 ∧ (A = none → n = 0) ∧ ∀ ad, A = some ad → ∀ j u, (qcs E)[j]? = some u → w.cell? (ad.add j) = some u := by
  obtain ⟨E, h1, h2, h3, h4, h5⟩ := h
  refine ⟨E, h1, h2, by rw [qcs_len, h1], ?_, ?_⟩
  · intro e
    rcases h5 with h5 | ⟨g, cs, e2, _⟩
    · exact h5
    · rw [e] at e2; cases e2
  · intro ad e j u hu
    rcases h5 with h5 | ⟨g, cs, e2, k2, k3, k4⟩
    · rw [List.eq_nil_of_length_eq_zero (h1.trans h5)] at hu
      simp [qcs] at hu
    · rw [e] at e2
      injection e2 with e2
      subst e2
      rw [add_base, cell_of_row w g j _ _ _ k3]
      exact k4 j u hu

set_option maxRecDepth 100000 in
set_option maxHeartbeats 4000000 in
theorem qdiv_lt {b N : Nat} {A A' : Option Addr} {n c n' c' : Nat} {La Lb : List Rat} {w : World} (h : OwQp w b A n c La) (h' : RdQs w w.heap.size N A' n' c' (Lb.map pr)) (hza : Pq.Nz La) (hlt : La.length < Lb.length) (hb : b ≤ w.heap.size) (hS : ∀ x ∈ La, Qs N x) (hn : n ≤ 1048576) (hN : N ≤ 60000000000) :
    Calls Tryz.prog 104 #[.slice A n c, .slice A' n' c'] w (RetDv b La Lb w) := by
  have hla : La.length = n := h.len
  have hlb : Lb.length = n' := h'.lenp
  have hnn : (n : Int) < (n' : Int) := by omega
  obtain ⟨E, hE, hEn, hEl, hnil, hcell⟩ := h.news
  have HEN := Lib.hid (And.intro hEn (And.intro hEl (And.intro hnil hcell)))
  have HE := Lib.hid hE
  have HS := Lib.hid hS
  have HLT := Lib.hid (And.intro hza (And.intro hlt hb))
  obtain ⟨i0, hi0, hz0, hz1, hz2⟩ := info_parts infoQ
  clear h h' hEn hE hEl hnil hcell hS hza hlt hb
  go_enter Tryz.func104, Tryz.ntmps104
  go_wp2_with (at_builtin; refine wpList_append_sl rfl _ _ 38 rfl w.heap.size 56 i0 (.agg #[.bool false, .slice none 0 0, .bool false, .slice none 0 0]) 4 64 Tryz.underlying38 hi0 hz0 hz1 hz2 rfl (by decide) (.slice none 0 0) 0 [] rfl (World.ownsRow_nil _ _ _ _) A n c (qcs E) rfl HEN.out.2.1 HEN.out.2.2.1 HEN.out.2.2.2 (qcs_one' E) (by unfold maxLen; omega) (by omega) (Nat.le_refl _) ?_; intro A1 c1 w1 hown1 hgrow)
  have hb1 : Below w.heap.size w w1 := (Below.refl _ _).grown hgrow (Nat.le_refl _) (fun k hk => by cases hk)
  have hO1 : OwQs w1 b A1 n c1 La := ⟨E, by have h1 := row_base hown1 HLT.out.2.2; rw [Nat.zero_add, List.nil_append] at h1; exact h1, HE.out, HEN.out.1.next hb1⟩
  have HO := Lib.hid hO1.p
  have HB1 := Lib.hid hb1
  clear hown1 hgrow hO1 hb1
  go_loopw [0] (fun av wr => av = .slice A1 n c1 ∧ wr = w1) (fun av _ => lenOf av)
  case atStart => exact ⟨rfl, rfl⟩
  case round =>
    obtain ⟨rfl, rfl⟩ := hrel
    go_wp2_with fail
    refine (qtrim_any (b := b) (N := N) (OwQp.nil _ _ none) (fun x hx => by cases hx) (by decide) (by omega)).mono ?_
    rintro _ W2 ⟨A2, n2, c2, M2, rfl, ho2, hM2, hb2⟩
    have HO2 := Lib.hid (HO.out.next hb2)
    go_wp2_with fail
    refine (qtrim_any (b := b) (N := N) HO2.out HS.out (by omega) (by omega)).mono ?_
    rintro _ W3 ⟨A3, n3, c3, M3, rfl, ho3, hM3, hb3⟩
    have ho2 := ho2.next hb3
    have HB3 := Lib.hid (HB1.out.trans ((hb2.trans (hb3.mono hb2.size)).mono HB1.out.size))
    have HM := Lib.hid (show Pq.IsD La Lb M2 M3 from by
      have e2 : M2 = [] := hM2.out.unique (Pq.IsP.self Pq.nz_nil)
      have e3 : M3 = La := hM3.out.unique (Pq.IsP.self HLT.out.1)
      rw [e2, e3]
      exact ⟨Pq.nz_nil, HLT.out.1, HLT.out.2.1, fun i => by rw [show Pq.co [] = fun _ => 0 from funext Pq.co_nil, Pq.cv_zero_left, Rat.zero_add]⟩)
    clear hb2 hb3
    go_wp2
    go_ret2
    exact ⟨_, _, _, M2, _, _, _, M3, rfl, ho2, ho3, HM, HB3.out⟩

/-- Of any two, the second not nought. -/
theorem qdiv_all {b N : Nat} {A A' : Option Addr} {n c n' c' : Nat} {La Lb : List Rat} {w : World} (h : OwQp w b A n c La) (h' : RdQs w w.heap.size N A' n' c' (Lb.map pr)) (hza : Pq.Nz La) (hzb : Pq.Nz Lb) (h0 : 0 < Lb.length) (hb : b ≤ w.heap.size) (hS : ∀ j, SzQ N (Pq.drest Lb j La)) (hn : n ≤ 1048576) (hN : N ≤ 60000000000) (h1N : 1 ≤ N) :
    Calls Tryz.prog 104 #[.slice A n c, .slice A' n' c'] w (RetDv b La Lb w) := by
  rcases Nat.lt_or_ge La.length Lb.length with hlt | hge
  · exact qdiv_lt h h' hza hlt hb (hS 0).mem hn hN
  · exact qdiv_run h h' hza hzb h0 hge hb hS hn hN h1N
end Go.Proofs.YtipbpdiahemmpaaGreat

/- Reference 05: the quotient; reference 09: times a power of x. -/
namespace Go.Proofs.YtipbpdiahemmpaaGreat
open Go.RowKit Go.IntWalk
attribute [local go_sem ↓] Go.wp_at_zero Go.wp_at_succ

set_option maxRecDepth 100000 in
set_option maxHeartbeats 4000000 in
theorem rQQuo_any {N : Nat} {s1 s2 s3 s4 : Bool} {A1 A2 A3 A4 : Option Addr} {n1 c1 n2 c2 n3 c3 n4 c4 : Nat} {x y : Rat} {w : World} (h1 : RdZ w w.heap.size s1 A1 n1 c1 x.num) (h2 : RdZ w w.heap.size s2 A2 n2 c2 (x.den : Int)) (h3 : RdZ w w.heap.size s3 A3 n3 c3 y.num) (h4 : RdZ w w.heap.size s4 A4 n4 c4 (y.den : Int)) (hn : n1 ≤ N ∧ n2 ≤ N ∧ n3 ≤ N ∧ n4 ≤ N) (hN : N ≤ 200000000000) (h0 : y ≠ 0) :
    Calls Tryz.prog 112 #[.agg #[.bool s1, .slice A1 n1 c1, .bool s2, .slice A2 n2 c2], .agg #[.bool s3, .slice A3 n3 c3, .bool s4, .slice A4 n4 c4]] w (RetV4 (x / y) w) := by
  obtain ⟨W1, HW1⟩ : ∃ W, W = ((w.alloc (.cells #[.bool s1, .slice A1 n1 c1, .bool s2, .slice A2 n2 c2] 56)).alloc (.cells #[.bool s3, .slice A3 n3 c3, .bool s4, .slice A4 n4 c4] 56)).alloc (.cells #[.bool false, .slice none 0 0, .bool false, .slice none 0 0] 56) := ⟨_, rfl⟩
  obtain ⟨hX, hY, hR, hB⟩ := q_boxes2 w s1 s2 s3 s4 A1 A2 A3 A4 n1 c1 n2 c2 n3 c3 n4 c4 W1 HW1
  have hlr := hR.lt
  have HCE := Lib.hid (show ∀ W : World, Below (w.heap.size + 1 + 1) W1 W → (W.cell? ⟨w.heap.size, 0, none⟩ = some (.bool s1) ∧ W.cell? ⟨w.heap.size, 1, none⟩ = some (.slice A1 n1 c1) ∧ W.cell? ⟨w.heap.size, 2, none⟩ = some (.bool s2) ∧ W.cell? ⟨w.heap.size, 3, none⟩ = some (.slice A2 n2 c2)) ∧ (W.cell? ⟨w.heap.size + 1, 0, none⟩ = some (.bool s3) ∧ W.cell? ⟨w.heap.size + 1, 1, none⟩ = some (.slice A3 n3 c3) ∧ W.cell? ⟨w.heap.size + 1, 2, none⟩ = some (.bool s4) ∧ W.cell? ⟨w.heap.size + 1, 3, none⟩ = some (.slice A4 n4 c4)) from fun W hb => ⟨⟨(hb.cell (p := ⟨w.heap.size, 0, none⟩) (by simp; omega)).trans hX.c0, (hb.cell (p := ⟨w.heap.size, 1, none⟩) (by simp; omega)).trans hX.c1, (hb.cell (p := ⟨w.heap.size, 2, none⟩) (by simp; omega)).trans hX.c2, (hb.cell (p := ⟨w.heap.size, 3, none⟩) (by simp; omega)).trans hX.c3⟩, (hb.cell (p := ⟨w.heap.size + 1, 0, none⟩) (by simp)).trans hY.c0, (hb.cell (p := ⟨w.heap.size + 1, 1, none⟩) (by simp)).trans hY.c1, (hb.cell (p := ⟨w.heap.size + 1, 2, none⟩) (by simp)).trans hY.c2, (hb.cell (p := ⟨w.heap.size + 1, 3, none⟩) (by simp)).trans hY.c3⟩)
  have HZ := Lib.hid (show ∀ W : World, Below W1.heap.size W1 W → RdZ W W.heap.size s1 A1 n1 c1 x.num ∧ RdZ W W.heap.size s2 A2 n2 c2 (x.den : Int) ∧ RdZ W W.heap.size s3 A3 n3 c3 y.num ∧ RdZ W W.heap.size s4 A4 n4 c4 (y.den : Int) from fun W hb => ⟨(h1.next hB).next hb, (h2.next hB).next hb, (h3.next hB).next hb, (h4.next hB).next hb⟩)
  have HYS := Lib.hid (show Qs N y from ⟨Nat.le_trans h3.len hn.2.2.1, Nat.le_trans h4.len hn.2.2.2⟩)
  have HR := Lib.hid (And.intro hR hB)
  have hle : w.heap.size + 1 + 1 ≤ W1.heap.size := Nat.le_of_lt hlr
  have HW1 := Lib.hid HW1
  clear hX hY hR hB h1 h2 h3 h4
  go_enter Tryz.func112, Tryz.ntmps112
  go_upto_region 1 with fail
  rw [← HW1.out]
  clear HW1
  clear HW1
  have HBD := Lib.hid (Below.refl W1.heap.size W1).drew
  obtain ⟨⟨a0, a1, a2, a3⟩, b0, b1, b2, b3⟩ := HCE.out W1 (Below.refl _ _)
  go_region_held3 (fun w' => (w'.cell? ⟨w.heap.size, 0, none⟩ = some (.bool s1) ∧ w'.cell? ⟨w.heap.size, 1, none⟩ = some (.slice A1 n1 c1) ∧ w'.cell? ⟨w.heap.size, 2, none⟩ = some (.bool s2) ∧ w'.cell? ⟨w.heap.size, 3, none⟩ = some (.slice A2 n2 c2)) ∧ (w'.cell? ⟨w.heap.size + 1, 0, none⟩ = some (.bool s3) ∧ w'.cell? ⟨w.heap.size + 1, 1, none⟩ = some (.slice A3 n3 c3) ∧ w'.cell? ⟨w.heap.size + 1, 2, none⟩ = some (.bool s4) ∧ w'.cell? ⟨w.heap.size + 1, 3, none⟩ = some (.slice A4 n4 c4)))
    (first | exact HCE.out _ (HB3.out.mono hle) | exact HCE.out _ (HB2.out.mono hle) | exact HCE.out _ (HBD.out.mono hle) | exact HCE.out _ (below_put4 (HB3.out.mono hle) (Nat.le_refl _) _ _ _ _))
    (first
      | (go_at_call 79; refine (rQMul_any (N := N) (HZ.out _ HB2.out).1 (HZ.out _ HB2.out).2.1 ho2.num.rd ho2.den.rd ⟨hn.1, hn.2.1, HIN.out.1, HIN.out.2⟩ hN (by simpa using x.den_nz) (by simpa using i.den_nz)).mono ?_; rintro _ W3 ⟨s7, A7, n7, c7, s8, A8, n8, c8, q, rfl, ho3, hq, hb3⟩; have HB3 := Lib.hid (HB2.out.trans (hb3.mono HB2.out.size)); have HR3 := Lib.hid (HR.out.1.next HB3.out); have r0 := HR3.out.c0; have r1 := HR3.out.c1; have r2 := HR3.out.c2; have r3 := HR3.out.c3; have f0 := HR3.out.fz 0; have f1 := HR3.out.fz 1; have f2 := HR3.out.fz 2; have f3 := HR3.out.fz 3)
      | (go_at_call 131; refine (rQInv_any (HZ.out _ HBD.out).2.2.1 (HZ.out _ HBD.out).2.2.2 (by omega) (by omega) h0).mono ?_; rintro _ W2 ⟨s5, A5, n5, c5, s6, A6, n6, c6, i, rfl, ho2, hi, hb2⟩; have HB2 := Lib.hid (HBD.out.trans hb2); have HIN := Lib.hid (show n5 ≤ N ∧ n6 ≤ N from by { have h9 : Qs N i := by { rw [hi.out]; exact HYS.out.inv h0 }; exact ⟨by { rw [ho2.num.len]; exact h9.1 }, by { rw [ho2.den.len]; exact h9.2 }⟩ })))
  all_goals
    have HV := Lib.hid (show q = x / y by rw [hq.out, Rat.num_divInt_den, Rat.num_divInt_den, hi.out, Rat.div_def])
    have HR9 := Lib.hid (HR3.out.store s7 A7 n7 c7 s8 A8 n8 c8)
    have HO9 := Lib.hid ((ho3.base (b' := w.heap.size) (Nat.le_trans HR.out.2.size HB2.out.size)).keep (keep_putQ HR3.out s7 A7 n7 c7 s8 A8 n8 c8))
    have HB9 := Lib.hid (below_putQ (HR.out.2.trans (HB3.out.mono HR.out.2.size)) (show w.heap.size ≤ w.heap.size + 1 + 1 by omega) s7 A7 n7 c7 s8 A8 n8 c8)
    unfold putQ at HR9 HO9 HB9
    clear a0 a1 a2 a3 b0 b1 b2 b3 r0 r1 r2 r3 f0 f1 f2 f3 hb2 hb3 ho2 ho3
    go_wp2_with fail
    generalize (((W3.setCell ⟨w.heap.size + 1 + 1, 0, none⟩ (.bool s7)).setCell ⟨w.heap.size + 1 + 1, 1, none⟩ (.slice A7 n7 c7)).setCell ⟨w.heap.size + 1 + 1, 2, none⟩ (.bool s8)).setCell ⟨w.heap.size + 1 + 1, 3, none⟩ (.slice A8 n8 c8) = W9 at *
    have z0 := HR9.out.c0
    have z1 := HR9.out.c1
    have z2 := HR9.out.c2
    have z3 := HR9.out.c3
    exact bodyPost_ret (by simp [results, Tryz.results112, go_sem, z0, z1, z2, z3]) rfl ⟨_, _, _, _, _, _, _, _, q, rfl, HO9.out, HV, HB9.out⟩

theorem co_shiftq (k : Nat) (L : List Rat) (i : Nat) : Pq.co (List.replicate k 0 ++ L) i = if i < k then 0 else Pq.co L (i - k) := by
  unfold Pq.co
  rw [List.getD_eq_getElem?_getD]
  split
  · rw [List.getElem?_append_left (by simpa using ‹i < k›)]
    simp [‹i < k›]
  · rw [List.getElem?_append_right (by simp; omega), List.length_replicate, List.getD_eq_getElem?_getD]

set_option maxRecDepth 100000 in
set_option maxHeartbeats 4000000 in
theorem rqshift_any {b N : Nat} {A : Option Addr} {n c : Nat} {L : List Rat} {w : World} (k : Nat) (h : OwQp w b A n c L) (hb : b ≤ w.heap.size) (hS : ∀ x ∈ L, Qs N x) (hn : n ≤ 1048576) (hk : n + k ≤ 1048576) (hN : N ≤ 1000000000000) (h1N : 1 ≤ N) :
    Calls Tryz.prog 114 #[.slice A n c, .int .i64 k] w (RetPq (fun i => if i < k then 0 else Pq.co L (i - k)) w) := by
  obtain ⟨i0, hi0, hz0, hz1, hz2⟩ := info_parts infoQ
  have hmk := make_qs Tryz.underlying38 k (by omega)
  have hZ0 := QB.made w k
  have hB0 := (Below.refl w.heap.size w).alloc (Nat.le_refl _) (.cells (qcs (List.replicate k zq)).toArray 56)
  have HA := Lib.hid (And.intro h (And.intro hS hb))
  have hkb : k ≤ 1048576 := by omega
  clear h hS hb
  go_enter Tryz.func114, Tryz.ntmps114
  go_wp2_with fail
  generalize w.alloc (.cells (qcs (List.replicate k zq)).toArray 56) = W1 at *
  obtain ⟨gq, hgq⟩ : ∃ g, g = w.heap.size := ⟨_, rfl⟩
  rw [← hgq] at hZ0 ⊢
  have HGQ := Lib.hid hgq
  clear hmk hgq
  go_loopw [11] (fun iv wr => ∃ (j : Nat) (E : List (Ent × Ent)), iv = .int .i64 j ∧ j ≤ k ∧ QB wr gq E ∧ Hid (E.length = k) ∧ EntJ wr b E (fun _ => 0) j ∧ Below w.heap.size w wr) (fun iv _ => k - (intOf iv).toNat)
  case atStart => exact ⟨0, _, rfl, Nat.zero_le _, hZ0, Lib.hid (by simp), EntJ.zero _ _ _ _, hB0⟩
  case round =>
    clear hZ0 hB0
    obtain ⟨j, E, rfl, hj, hZ, hEl, hE, hB⟩ := hrel
    by_cases hjk : j = k
    · have hkj := hjk.symm
      subst hkj
      clear hjk
      obtain ⟨E0, hE0, hEn, hEl0, hnil, hcell⟩ := (HA.out.1.next hB).news
      have HEN := Lib.hid (And.intro hEn (And.intro hEl0 (And.intro hnil hcell)))
      have HRW := Lib.hid (show wr.ownsRow b 56 4 (.slice (some ⟨gq, 0, none⟩) k k) k (qcs E) from
        ⟨by rw [qcs_len, hEl.out], .inr ⟨gq, k, _, rfl, by rw [HGQ.out]; exact HA.out.2.2, hZ, Nat.le_refl _, by unfold maxLen; omega, by rw [List.size_toArray, qcs_len, hEl.out], by rw [List.take_of_length_le (by simp [qcs_len, hEl.out])]⟩⟩)
      have HE := Lib.hid (show EntQ wr b E (List.replicate k 0) from ⟨by rw [hEl.out, List.length_replicate], fun t e x he hx => by
        have ht : t < k := by
          rcases Nat.lt_or_ge t k with h1 | h1
          · exact h1
          · rw [List.getElem?_eq_none (by rw [hEl.out]; exact h1)] at he; cases he
        rw [List.eq_of_mem_replicate (List.mem_of_getElem? hx)]
        exact hE t e he ht⟩)
      have HB := Lib.hid hB
      clear hZ hE hB hEn hEl0 hnil hcell
      have hbw : b ≤ wr.heap.size := Nat.le_trans HA.out.2.2 HB.out.size
      go_wp2_with (at_builtin; refine wpList_append_sl rfl _ _ 38 rfl b 56 i0 (.agg #[.bool false, .slice none 0 0, .bool false, .slice none 0 0]) 4 64 Tryz.underlying38 hi0 hz0 hz1 hz2 rfl (by decide) _ _ _ rfl HRW.out A n c (qcs E0) rfl HEN.out.2.1 HEN.out.2.2.1 HEN.out.2.2.2 (qcs_one' E0) (by unfold maxLen; omega) (by omega) hbw ?_; intro A1 c1 w1 hown1 hgrow)
      have hb1 : Below w.heap.size w w1 := HB.out.grown hgrow HB.out.size (fun t e => by cases e; exact Nat.le_of_eq HGQ.out.symm)
      have hkT : KeepT wr w1 := KeepT.grown HRW.out (by decide) hgrow
      have hent : EntQ w1 b (E ++ E0) (List.replicate k 0 ++ L) := by
        refine ⟨by rw [List.length_append, List.length_append, HE.out.1, HEN.out.1.1], fun t e x he hx => ?_⟩
        have hl1 : (List.replicate k (0 : Rat)).length = E.length := by rw [List.length_replicate, hEl.out]
        rcases Nat.lt_or_ge t E.length with h1 | h1
        · rw [List.getElem?_append_left h1] at he
          rw [List.getElem?_append_left (by rw [hl1]; exact h1)] at hx
          exact (HE.out.2 t e x he hx).keep hkT
        · rw [List.getElem?_append_right h1] at he
          rw [List.getElem?_append_right (by rw [hl1]; exact h1), hl1] at hx
          exact (HEN.out.1.2 _ e x he hx).keep hkT
      have hO1 : OwQs w1 b A1 (k + n) c1 (List.replicate k 0 ++ L) := ⟨E ++ E0, by rw [qcs_append]; exact hown1, by rw [List.length_append, hEl.out, hE0], hent⟩
      have HO := Lib.hid (hO1.p.rd (N := N) (fun x hx => by
        rcases List.mem_append.1 hx with h1 | h1
        · rw [List.eq_of_mem_replicate h1]; exact Qs.zero h1N
        · exact HA.out.2.1 x h1))
      have HB1 := Lib.hid hb1
      clear hown1 hgrow hO1 hb1 hent hkT
      refine (rqnorm_own HO.out (by omega) hN).mono ?_
      rintro _ W4 ⟨A4, n4, c4, M4, rfl, ho4, hM4, hb4⟩
      go_wp2
      go_ret
      exact ⟨_, _, _, M4, rfl, ho4.base HB1.out.size, Lib.hid (hM4.out.congr fun i => co_shiftq k L i), HB1.out.trans (hb4.mono HB1.out.size)⟩
    · have hjl : j < k := by omega
      have hjli : (j : Int) < (k : Int) := by omega
      clear hjk
      have HZ := Lib.hid hZ
      have HE := Lib.hid hE
      clear hZ hE
      go_wp2_with fail
      refine (rQOf_any 0 (by decide) (by decide) wr).mono ?_
      rintro _ W2 ⟨s5, A5, n5, c5, s6, A6, n6, c6, q, rfl, ho5, hq, hb2⟩
      obtain rfl : q = 0 := hq.out
      have hB2 := hB.trans (hb2.mono hB.size)
      have hZ4 := HZ.out.next hb2
      obtain ⟨e, he⟩ : ∃ e, E[j]? = some e := ⟨E[j]'(by rw [hEl.out]; exact hjl), List.getElem?_eq_getElem _⟩
      obtain ⟨k0, k1, k2, k3⟩ := hZ4.cells he
      have f0 := hZ4.frozen (j * 4)
      have f1 := hZ4.frozen (j * 4 + 1)
      have f2 := hZ4.frozen (j * 4 + 2)
      have f3 := hZ4.frozen (j * 4 + 3)
      have HZ5 := Lib.hid (hZ4.store j ((s5, A5, n5, c5), (s6, A6, n6, c6)))
      have HE5 := Lib.hid ((HE.out.next hb2).store (e := ((s5, A5, n5, c5), (s6, A6, n6, c6))) hZ4 (ho5.base (b' := b) (Nat.le_trans HA.out.2.2 hB.size)))
      have HB5 := Lib.hid (below_setQ hB2 (Nat.le_of_eq HGQ.out.symm) j ((s5, A5, n5, c5), (s6, A6, n6, c6)))
      unfold setQ at HZ5 HE5 HB5
      clear hb2 hB hB2 hZ4 he ho5 hq
      go_wp2_with fail
      go_roundw
      case rel => exact ⟨j + 1, E.set j ((s5, A5, n5, c5), (s6, A6, n6, c6)), by go_num, by omega, HZ5.out, Lib.hid (by rw [List.length_set]; exact hEl.out), HE5.out, HB5.out⟩
      case measure => simp [intOf]; omega
/-- The lead of a list in normal form. -/
theorem rqLead_own {N : Nat} {A : Option Addr} {n c : Nat} {M : List Rat} {w : World} (h : RdQs w w.heap.size N A n c (M.map pr)) (hz : Pq.Nz M) (hn : n ≤ 1048576) (hN : N ≤ 1000000000000) (h0 : 0 < M.length) :
    Calls Tryz.prog 113 #[.slice A n c] w (RetV4 (Pq.co M (M.length - 1)) w) := by
  have e : nq (M.map pr) = M := by unfold nq; rw [map_qval_pr, Pq.nrm_id hz]
  have := rqLead_any h (fun p hp => by
    obtain ⟨x, _, rfl⟩ := List.mem_map.1 hp
    exact pr_ne x) hn hN (by rw [e]; exact h0)
  rwa [map_qval_pr, e] at this
theorem pr_ok (M : List Rat) : ∀ p ∈ M.map pr, p.2 ≠ 0 := fun p hp => by
  obtain ⟨x, _, rfl⟩ := List.mem_map.1 hp
  exact pr_ne x
end Go.Proofs.YtipbpdiahemmpaaGreat

/- Reference 09: the product, at a polynomial of the call's own. -/
namespace Pq
theorem pcv_up {a b : Nat → Rat} {q : Nat} (hb : Up b q) : ∀ j, Up (pcv a b j) (j - 1 + q)
  | 0 => fun _ _ => rfl
  | j + 1 => fun t ht => by
    rw [pcv_succ, pcv_up hb j t (by omega), Rat.zero_add]
    by_cases h : j ≤ t
    · rw [if_pos h, hb (t - j) (by omega), Rat.mul_zero]
    · rw [if_neg h]
end Pq
namespace Go.Proofs.YtipbpdiahemmpaaGreat
open Go.RowKit Go.IntWalk
attribute [local go_sem ↓] Go.wp_at_zero Go.wp_at_succ

theorem nq_up (L : List (Int × Int)) : Pq.Up (Pq.co (L.map qval)) (nq L).length := fun t ht => by rw [← co_nq]; exact Pq.co_ge ht

set_option maxRecDepth 100000 in
set_option maxHeartbeats 8000000 in
theorem rqMul_own {N S T : Nat} {A A' : Option Addr} {n c n' c' : Nat} {M : List Rat} {L' : List (Int × Int)} {w : World} {Z Y : Nat → Int} {D E : Int} (h : RdQs w w.heap.size N A n c (M.map pr)) (h' : RdQs w w.heap.size N A' n' c' L') (hd' : okD L') (hM : Com S (Pq.co M) Z D) (hC : Com T (Pq.co (L'.map qval)) Y E) (hST : S + T + 1 ≤ N) (hN : N ≤ 90000000000) (h1N : 1 ≤ N) (hn : n ≤ 1048576) (hn' : n' ≤ 1048576) (hl : M.length + (nq L').length ≤ 1048577) :
    Calls Tryz.prog 155 #[.slice A n c, .slice A' n' c'] w (RetPq (Pq.cv (Pq.co M) (Pq.co (L'.map qval))) w) := by
  have HLM := Lib.hid (show M.length = n from h.lenp)
  have HLQ := Lib.hid hl
  have HC := Lib.hid (And.intro hM hC)
  have HD := Lib.hid hd'
  have HSX := Lib.hid (h.szp h1N)
  have HA := Lib.hid (show ∀ W : World, Below w.heap.size w W → RdQs W W.heap.size N A n c (M.map pr) ∧ RdQs W W.heap.size N A' n' c' L' from fun W hb => ⟨h.next hb, h'.next hb⟩)
  clear h h' hd' hM hC hl
  go_enter Tryz.func155, Tryz.ntmps155
  go_wp2_with fail
  go_loopw [5, 10] (fun ov iv wr => ∃ (j : Nat) (A0 : Option Addr) (k0 c0 : Nat) (O : List Rat), ov = .slice A0 k0 c0 ∧ iv = .int .i64 (j : Int) ∧ j ≤ n ∧ OwQp wr w.heap.size A0 k0 c0 O ∧ Hid (Pq.IsP (Pq.pcv (Pq.co M) (Pq.co (L'.map qval)) j) O) ∧ Below w.heap.size w wr) (fun _ iv _ => n - (intOf iv).toNat)
  case atStart => exact ⟨0, none, 0, 0, [], rfl, rfl, Nat.zero_le _, OwQp.nil _ _ _, Lib.hid ⟨Pq.nz_nil, fun i => Pq.co_nil i⟩, Below.refl _ _⟩
  case round =>
    obtain ⟨j, A0, k0, c0, O, rfl, rfl, hj, ho, hO, hB⟩ := hrel
    have hk0 : k0 ≤ 1048576 := by
      rw [← ho.len]
      have h1 := hO.out.len (Pq.pcv_up (nq_up L') j)
      have h2 := HLQ.out
      have h3 := HLM.out
      by_cases h0 : j = 0
      · subst h0
        have := hO.out.len (k := 0) (fun _ _ => rfl)
        omega
      · omega
    have HOS := Lib.hid (show ∀ x ∈ O, Qs N x from fun x hx => by
      obtain ⟨t, _, rfl⟩ := Pq.mem_co hx
      rw [hO.out.2]
      exact ((com_pcv HC.out.1 HC.out.2 (n := j) (by omega)).mono hST).qs t)
    by_cases hjn : j = n
    · have hrd := ho.rd HOS.out
      have HJ := Lib.hid hjn
      subst hjn
      have HBW := Lib.hid hB
      clear ho hB
      go_wp2_with fail
      refine (rqnorm_own hrd hk0 (by omega)).mono ?_
      rintro _ W4 ⟨A4, n4, c4, M4, rfl, ho4, hM4, hb4⟩
      have HB4 := Lib.hid (HBW.out.trans (hb4.mono HBW.out.size))
      have HV := Lib.hid (show Pq.IsP (Pq.cv (Pq.co M) (Pq.co (L'.map qval))) M4 from hM4.out.congr fun t => by
        rw [hO.out.2]
        exact Pq.pcv_all _ (fun t ht => Pq.co_ge (by rw [HLM.out]; exact ht)) t)
      have HO4 := Lib.hid (ho4.base (b' := w.heap.size) HBW.out.size)
      clear hb4 hM4 ho4
      go_wp2
      go_ret
      exact ⟨_, _, _, M4, rfl, HO4.out, HV, HB4.out⟩
    · have hjl : j < n := by omega
      have hjli : (j : Int) < (n : Int) := by omega
      clear hjn
      obtain ⟨ad, s1, A1, n1, c1, s2, A2, n2, c2, x, rfl, hbk, hx0, hx1, hx2, hx3, hr1, hr2, hn1, hn2, hp⟩ := qp_at (HA.out wr hB).1 hjl
      have HXV := Lib.hid (show Pq.co M j = x from Pq.co_get hp.out)
      have HXS := Lib.hid (show Qs S x by rw [← HXV.out]; exact HC.out.1.qs j)
      have HO := Lib.hid ho
      have HBW := Lib.hid hB
      obtain ⟨W1, HW1⟩ : ∃ W, W = wr.alloc (.cells #[.bool s1, .slice A1 n1 c1, .bool s2, .slice A2 n2 c2] 56) := ⟨_, rfl⟩
      have hb1 : Below wr.heap.size wr W1 := by rw [HW1]; exact (Below.refl _ _).alloc (Nat.le_refl _) _
      have hQ1 : QC W1 wr.heap.size s1 A1 n1 c1 s2 A2 n2 c2 := by rw [HW1]; exact QC.new wr s1 A1 n1 c1 s2 A2 n2 c2
      have HX1 := Lib.hid (And.intro (hr1.next hb1) (hr2.next hb1))
      have HB1 := Lib.hid hb1
      have HW1 := Lib.hid HW1
      have hN' : N ≤ 200000000000 := by omega
      clear ho hB hr1 hr2 hb1 hp
      go_wp2_with fail
      rw [← HW1.out]
      clear HW1
      clear HW1
      clear hx0 hx1 hx2 hx3 hQ1
      have HBW1 := Lib.hid (HBW.out.trans (HB1.out.mono HBW.out.size))
      refine (rqScale_any (N := N) (HA.out _ HBW1.out).2 HX1.out.1 HX1.out.2 HD.out (qden_ne x) hn' hn1 hn2 hN' h1N).mono ?_
      rintro _ W2 ⟨A3, n3, c3, M3, rfl, ho3, hM3, hb2⟩
      have HM3 := Lib.hid (show ∀ t, Pq.co M3 t = Pq.co (L'.map qval) t * x from fun t => by
        rw [hM3.out.2]
        show Pq.co (L'.map qval) t * Rat.divInt _ _ = _
        rw [Rat.num_divInt_den])
      have HL3 := Lib.hid (show M3.length ≤ (nq L').length from Pq.nz_len hM3.out.1 fun t ht => by rw [HM3.out, nq_up L' t ht, Rat.zero_mul])
      have HS3 := Lib.hid (show ∀ y ∈ M3, Qs N y from fun y hy => by
        obtain ⟨t, _, rfl⟩ := Pq.mem_co hy
        rw [HM3.out]
        exact ((com_smul HC.out.2 HXS.out).mono (by omega)).qs t)
      have HB2 := Lib.hid (HBW1.out.trans (hb2.mono HBW1.out.size))
      have hl3 : n3 ≤ 1048576 := by have h1 := HLQ.out; have h2 := HLM.out; have h3 := HL3.out; rw [ho3.len] at h3; omega
      have hl4 : n3 + j ≤ 1048576 := by have h1 := HLQ.out; have h2 := HLM.out; have h3 := HL3.out; rw [ho3.len] at h3; omega
      have ho3 := ho3.base (b' := w.heap.size) HBW1.out.size
      have hws : w.heap.size ≤ W2.heap.size := HB2.out.size
      have HO2 := Lib.hid (HO.out.next (HB1.out.trans (hb2.mono HB1.out.size)))
      clear hb2 hM3
      go_wp2_with fail
      refine (rqshift_any (N := N) j ho3 hws HS3.out hl3 hl4 (by omega) h1N).mono ?_
      rintro _ W3 ⟨A4, n4, c4, M4, rfl, ho4, hM4, hb3⟩
      have HM4 := Lib.hid (show ∀ t, Pq.co M4 t = if j ≤ t then Pq.co M j * Pq.co (L'.map qval) (t - j) else 0 from fun t => by
        rw [hM4.out.2]
        show (if t < j then 0 else Pq.co M3 (t - j)) = _
        by_cases h0 : j ≤ t
        · rw [if_pos h0, if_neg (by omega), HM3.out, HXV.out, Rat.mul_comm]
        · rw [if_neg h0, if_pos (by omega)])
      have HS4 := Lib.hid (show ∀ y ∈ M4, Qs N y from fun y hy => by
        obtain ⟨t, _, rfl⟩ := Pq.mem_co hy
        rw [HM4.out]
        split
        · rw [Rat.mul_comm, HXV.out]
          exact ((com_smul HC.out.2 HXS.out).mono (by omega)).qs (t - j)
        · exact Qs.zero h1N)
      have HL4 := Lib.hid (show n4 ≤ 1048576 by
        rw [← ho4.len]
        refine Nat.le_trans (Pq.nz_len hM4.out.1 (k := n3 + j) fun t ht => ?_) hl4
        rw [hM4.out.2]
        show (if t < j then 0 else Pq.co M3 (t - j)) = 0
        rw [if_neg (by omega), Pq.co_ge (by rw [ho3.len]; omega)])
      have hrd4 := ho4.rd HS4.out
      have hrd0 := (HO2.out.next hb3).rd HOS.out
      have HB3 := Lib.hid (HB2.out.trans (hb3.mono HB2.out.size))
      clear ho3 ho4 hb3 hM4
      go_wp2_with fail
      refine (rqAdd_any (N := N) hrd0 hrd4 (fun p hp => by obtain ⟨y, _, rfl⟩ := List.mem_map.1 hp; exact pr_ne y) (fun p hp => by obtain ⟨y, _, rfl⟩ := List.mem_map.1 hp; exact pr_ne y) hk0 HL4.out (by omega) h1N).mono ?_
      rintro _ W5 ⟨A5, n5, c5, M5, rfl, ho5, hM5, hb5⟩
      have HF := Lib.hid (show OwQp W5 w.heap.size A5 n5 c5 M5 ∧ Pq.IsP (Pq.pcv (Pq.co M) (Pq.co (L'.map qval)) (j + 1)) M5 ∧ Below w.heap.size w W5 from ⟨ho5.base HB3.out.size, hM5.out.congr fun t => by rw [map_qval_pr, map_qval_pr, hO.out.2, HM4.out, Pq.pcv_succ], HB3.out.trans (hb5.mono HB3.out.size)⟩)
      clear ho5 hM5 hb5 hrd4 hrd0
      go_wp2
      go_roundw
      case rel => exact ⟨j + 1, A5, n5, c5, M5, rfl, by go_num, by omega, HF.out.1, Lib.hid HF.out.2.1, HF.out.2.2⟩
      case measure => simp [intOf]; omega
end Go.Proofs.YtipbpdiahemmpaaGreat

/- Reference 09: one polynomial put into another. -/
namespace Pq
/-- The powers of a polynomial. -/
def pw (b : Nat → Rat) : Nat → Nat → Rat
  | 0, i => if i = 0 then 1 else 0
  | k + 1, i => cv (pw b k) b i
theorem pw_succ (b : Nat → Rat) (k i : Nat) : pw b (k + 1) i = cv (pw b k) b i := rfl
/-- The sum of powers, each by its coefficient. -/
def sm (b a : Nat → Rat) : Nat → Nat → Rat
  | 0, _ => 0
  | k + 1, i => sm b a k i + pw b k i * a k
theorem sm_succ (b a : Nat → Rat) (k i : Nat) : sm b a (k + 1) i = sm b a k i + pw b k i * a k := rfl
theorem sm_shift (b : Nat → Rat) (x : Rat) (L : List Rat) (t : Nat) : ∀ k, sm b (co (x :: L)) (k + 1) t = cv (sm b (co L) k) b t + (if t = 0 then x else 0)
  | 0 => by
    rw [sm_succ, show sm b (co (x :: L)) 0 t = 0 from rfl, show sm b (co L) 0 = fun _ => 0 from rfl, cv_zero_left, Rat.zero_add, Rat.zero_add]
    show (if t = 0 then (1 : Rat) else 0) * x = _
    by_cases h : t = 0
    · rw [if_pos h, if_pos h, Rat.one_mul]
    · rw [if_neg h, if_neg h, Rat.zero_mul]
  | k + 1 => by
    rw [sm_succ, sm_shift b x L t k, pw_succ]
    have e : sm b (co L) (k + 1) = fun i => sm b (co L) k i + co L k * pw b k i := by
      funext i
      rw [sm_succ, Rat.mul_comm (pw b k i)]
    rw [e, cv_add_left, cv_smul_left, show co (x :: L) (k + 1) = co L k from rfl]
    grind
theorem sm_hor (b : Nat → Rat) : ∀ (L : List Rat) (t : Nat), sm b (co L) L.length t = horL b L t
  | [], _ => rfl
  | x :: L, t => by
    rw [List.length_cons, sm_shift, horL_cons]
    congr 1
    exact cv_congr (fun j _ => sm_hor b L j) (fun _ _ => rfl)
theorem pw_up {b : Nat → Rat} {m : Nat} (hb : Up b m) : ∀ k, Up (pw b k) (k * (m - 1) + 1)
  | 0 => fun i hi => if_neg (by omega)
  | k + 1 => fun i hi => by
    rw [Nat.succ_mul] at hi
    rw [pw_succ]
    exact cv_up (pw_up hb k) hb i (by omega)
theorem sm_up {b : Nat → Rat} {m : Nat} (hb : Up b m) (a : Nat → Rat) : ∀ k, Up (sm b a k) (k * (m - 1) + 1)
  | 0 => fun _ _ => rfl
  | k + 1 => fun i hi => by
    rw [Nat.succ_mul] at hi
    rw [sm_succ, sm_up hb a k i (by omega), pw_up hb k i (by omega), Rat.zero_mul, Rat.zero_add]
end Pq
namespace Go.Proofs.YtipbpdiahemmpaaGreat
open Go.RowKit Go.IntWalk
attribute [local go_sem ↓] Go.wp_at_zero Go.wp_at_succ

theorem com_pw {T m : Nat} {b : Nat → Rat} {Y : Nat → Int} {E : Int} (h : Com T b Y E) (hm : Pq.Up b m) : ∀ k, k * (m - 1) + 1 < 4294967295 → ∃ Z D, Com (2 + k * (T + 1)) (Pq.pw b k) Z D
  | 0, _ => ⟨_, _, (com_const (N := 1) (x := 1) ⟨Zz.zl_small (by decide), Zz.zl_small (by decide)⟩).mono (by omega)⟩
  | k + 1, hl => by
    rw [Nat.succ_mul] at hl
    obtain ⟨Z, D, hZ⟩ := com_pw h hm k (by omega)
    refine ⟨_, _, (com_cv hZ h (n := k * (m - 1) + 1) (by omega) (Pq.pw_up hm k)).mono ?_⟩
    rw [Nat.succ_mul]
    omega
theorem com_sm {T N m K : Nat} {b a : Nat → Rat} {Y : Nat → Int} {E : Int} (h : Com T b Y E) (hm : Pq.Up b m) (ha : ∀ i, Qs N (a i)) : ∀ k, k ≤ K → k * (m - 1) + 1 < 4294967295 → ∃ Z D, Com (1 + k * (3 + K * (T + 1) + N)) (Pq.sm b a k) Z D
  | 0, _, _ => ⟨_, _, com_zero.mono (by omega)⟩
  | k + 1, hK, hl => by
    rw [Nat.succ_mul] at hl
    obtain ⟨Z, D, hZ⟩ := com_sm (K := K) h hm ha k (by omega) (by omega)
    obtain ⟨X, F, hX⟩ := com_pw h hm k (by omega)
    refine ⟨_, _, (com_add hZ (com_smul hX (ha k))).mono ?_⟩
    have h1 : k * (T + 1) ≤ K * (T + 1) := Nat.mul_le_mul_right _ (by omega)
    rw [Nat.succ_mul]
    omega
/-- The bound along the powers. -/
abbrev BP (T N : Nat) : Nat := 1 + 61 * (3 + 62 * (T + 1) + N)
/-- A round's polynomials and their sizes. -/
structure PwR (T N q k : Nat) (b a : Nat → Rat) : Prop where
  p : ∃ Z D, Com (2 + 61 * (T + 1)) (Pq.pw b k) Z D
  s : ∀ t, Qs (BP T N) (Pq.sm b a k t)
  c : ∀ t, Qs (BP T N) (Pq.pw b k t * a k)
  len : k * (q - 1) + 1 ≤ 1048576
  two : k * (q - 1) + 1 + q ≤ 1048577
theorem PwR.of {T N n q k : Nat} {b a : Nat → Rat} {Y : Nat → Int} {E : Int} (h : Com T b Y E) (hq : Pq.Up b q) (ha : ∀ i, Qs N (a i)) (hn : n ≤ 61) (hk : k < n) (hb : ¬BigC n q) (hq' : q ≤ 1048576) : PwR T N q k b a := by
  have hr := comp_room (r := k) hb (by omega) hn hq'
  have hr' := room_up hr
  obtain ⟨Z, D, hZ⟩ := com_pw h hq k (by omega)
  obtain ⟨X, F, hX⟩ := com_sm (K := 61) h hq ha k (by omega) (by omega)
  have h1 : k * (T + 1) ≤ 61 * (T + 1) := Nat.mul_le_mul_right _ (by omega)
  have h2 : k * (3 + 61 * (T + 1) + N) ≤ 61 * (3 + 61 * (T + 1) + N) := Nat.mul_le_mul_right _ (by omega)
  refine ⟨⟨Z, D, hZ.mono (by omega)⟩, fun t => (hX.mono (by unfold BP; omega)).qs t, fun t => ((com_smul hZ (ha k)).mono (by unfold BP; omega)).qs t, hr', ?_⟩
  by_cases h0 : k = 0
  · subst h0; omega
  · rw [if_neg h0] at hr; omega
end Go.Proofs.YtipbpdiahemmpaaGreat
