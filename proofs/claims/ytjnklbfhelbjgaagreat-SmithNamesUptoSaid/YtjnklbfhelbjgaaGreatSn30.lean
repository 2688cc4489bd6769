/- smith: the example's two matrices, to their Smith forms (plain). -/
import Derived.Test.YtjnklbfhelbjgaaGreatSn29
import Derived.Test.YtjnklbfhelbjgaaGreatSn26
import Derived.Test.YtjnklbfhelbjgaaGreatSn27
import Derived.Deep.AppendLies
namespace Go.Proofs.YtjnklbfhelbjgaaGreat
open Go.RowKit Go.IntWalk
theorem isD_of {a b Q R : List Rat} (h1 : Pq.nrm Q = Q) (h2 : Pq.nrm R = R) (h3 : R.length < b.length) (h4 : ∀ i, i < a.length + Q.length + b.length + R.length → Pq.co a i = Pq.cv (Pq.co Q) (Pq.co b) i + Pq.co R i) : Pq.IsD a b Q R := by
 refine ⟨by rw [← h1]; exact Pq.nz_nrm _, by rw [← h2]; exact Pq.nz_nrm _, h3, fun i => ?_⟩
 rcases Nat.lt_or_ge i (a.length + Q.length + b.length + R.length) with h | h
 ·exact h4 i h
 ·rw [Pq.co_ge (by omega), Pq.cv_up (Pq.up_co Q) (Pq.up_co b) i (by omega), Pq.co_ge (by omega), Rat.add_zero]
theorem ldOK_of {L : List Rat} (h1 : Tiny L) (h2 : L ≠ []) (h3 : ((lead L)⁻¹).num.natAbs < 4294967296 ∧ ((lead L)⁻¹).den < 4294967296) : LdOK L := ⟨h1, h2, Zz.zl_small h3.1, Zz.zl_small (by simpa using h3.2)⟩
theorem addOK1 {M : M2} {f : List Rat} (h1 : M.tiny) (h2 : Tiny f) (h3 : Tiny (pmul f M.a)) (h4 : Tiny (pmul f M.b)) : M.addOK 1 f := ⟨h1, h2, fun h => absurd h (by decide), fun _ => ⟨h3, h4⟩⟩
theorem addOK0 {M : M2} {f : List Rat} (h1 : M.tiny) (h2 : Tiny f) (h3 : Tiny (pmul f M.c)) (h4 : Tiny (pmul f M.d)) : M.addOK 0 f := ⟨h1, h2, fun _ => ⟨h3, h4⟩, fun h => absurd h (by decide)⟩
abbrev xA : M2 := ⟨[-2, 1], [], [], [-2, 1]⟩
abbrev xB : M2 := ⟨[-2, 1], [], [], [-3, 1]⟩
abbrev xB1 : M2 := ⟨[-2, 1], [-3, 1], [], [-3, 1]⟩
abbrev xB2 : M2 := ⟨[-2, 1], [-1], [], [-3, 1]⟩
abbrev xB3 : M2 := ⟨[-1], [-2, 1], [-3, 1], []⟩
abbrev xB4 : M2 := ⟨[-1], [], [], [6, -5, 1]⟩
abbrev xE : M2 := ⟨[1], [], [], [6, -5, 1]⟩
theorem clA : ClOK xA [] [] [] [] := ⟨by decide +kernel, by decide +kernel, isD_of (by decide +kernel) (by decide +kernel) (by decide +kernel) (by decide +kernel), by decide +kernel, addOK1 (by decide +kernel) (by decide +kernel) (by decide +kernel) (by decide +kernel), by decide +kernel, by decide +kernel, isD_of (by decide +kernel) (by decide +kernel) (by decide +kernel) (by decide +kernel), by decide +kernel, addOK1 (by decide +kernel) (by decide +kernel) (by decide +kernel) (by decide +kernel)⟩
theorem rdA : RdOK xA xA [] [] [] [] [1] [] := ⟨clA, by decide +kernel, by decide +kernel, by decide +kernel, by decide +kernel, by decide +kernel, isD_of (by decide +kernel) (by decide +kernel) (by decide +kernel) (by decide +kernel)⟩
theorem ldA : LdOK [-2, 1] := ldOK_of (by decide +kernel) (by decide +kernel) (by decide +kernel)
theorem clB0 : ClOK xB [] [] [] [] := ⟨by decide +kernel, by decide +kernel, isD_of (by decide +kernel) (by decide +kernel) (by decide +kernel) (by decide +kernel), by decide +kernel, addOK1 (by decide +kernel) (by decide +kernel) (by decide +kernel) (by decide +kernel), by decide +kernel, by decide +kernel, isD_of (by decide +kernel) (by decide +kernel) (by decide +kernel) (by decide +kernel), by decide +kernel, addOK1 (by decide +kernel) (by decide +kernel) (by decide +kernel) (by decide +kernel)⟩
theorem rdB0 : RdOK xB xB [] [] [] [] [1] [-1] := ⟨clB0, by decide +kernel, by decide +kernel, by decide +kernel, by decide +kernel, by decide +kernel, isD_of (by decide +kernel) (by decide +kernel) (by decide +kernel) (by decide +kernel)⟩
theorem clB1 : ClOK xB1 [] [] [1] [-1] := ⟨by decide +kernel, by decide +kernel, isD_of (by decide +kernel) (by decide +kernel) (by decide +kernel) (by decide +kernel), by decide +kernel, addOK1 (by decide +kernel) (by decide +kernel) (by decide +kernel) (by decide +kernel), by decide +kernel, by decide +kernel, isD_of (by decide +kernel) (by decide +kernel) (by decide +kernel) (by decide +kernel), by decide +kernel, addOK1 (by decide +kernel) (by decide +kernel) (by decide +kernel) (by decide +kernel)⟩
theorem clB3 : ClOK xB3 [3, -1] [] [2, -1] [] := ⟨by decide +kernel, by decide +kernel, isD_of (by decide +kernel) (by decide +kernel) (by decide +kernel) (by decide +kernel), by decide +kernel, addOK1 (by decide +kernel) (by decide +kernel) (by decide +kernel) (by decide +kernel), by decide +kernel, by decide +kernel, isD_of (by decide +kernel) (by decide +kernel) (by decide +kernel) (by decide +kernel), by decide +kernel, addOK1 (by decide +kernel) (by decide +kernel) (by decide +kernel) (by decide +kernel)⟩
theorem rdB3 : RdOK xB3 xB4 [3, -1] [] [2, -1] [] [-6, 5, -1] [] := ⟨clB3, by decide +kernel, by decide +kernel, by decide +kernel, by decide +kernel, by decide +kernel, isD_of (by decide +kernel) (by decide +kernel) (by decide +kernel) (by decide +kernel)⟩
theorem ldB4 : LdOK [-1] := ldOK_of (by decide +kernel) (by decide +kernel) (by decide +kernel)
theorem ldE : LdOK [6, -5, 1] := ldOK_of (by decide +kernel) (by decide +kernel) (by decide +kernel)
theorem run_A (b gw : Nat) (w : World) (h : Wk w b gw xA) (hb : b ≤ w.heap.size) : Calls Tryz.prog 163 #[.pointer (some ⟨gw, 0, none⟩)] w (RetRn b gw xA w) :=
 run_one h hb rfl rfl rfl rfl rdA ldA (K := xA) (by decide +kernel) (by decide +kernel) ldA (by decide +kernel)
theorem run_B (b gw : Nat) (w : World) (h : Wk w b gw xB) (hb : b ≤ w.heap.size) : Calls Tryz.prog 163 #[.pointer (some ⟨gw, 0, none⟩)] w (RetRn b gw xE w) :=
 run_two (N1 := xB1) (N2 := xB2) (N3 := xB3) h hb rfl rfl rfl rfl rdB0 (by decide +kernel) (addOK0 (by decide +kernel) (by decide +kernel) (by decide +kernel) (by decide +kernel)) (by decide +kernel) clB1 (by decide +kernel) rfl rfl rfl rfl (by decide +kernel) rdB3 ldB4 (K := xE) (by decide +kernel) (by decide +kernel) ldE (by decide +kernel)
end Go.Proofs.YtjnklbfhelbjgaaGreat

/- slices.Clone of a row of two polynomials. -/
namespace Go.Proofs.YtjnklbfhelbjgaaGreat
open Go.RowKit Go.IntWalk
attribute [local go_sem ↓] Go.wp_at_zero Go.wp_at_succ
def RetC2 (x y : Pe) (w : World) (e : Ending) (w' : World) : Prop := ∃ g c, e = .returned (.slice (some ⟨g, 0, none⟩) 2 c) ∧ w.heap.size ≤ g ∧ PX w' g 73 [psl x, psl y] ∧ 2 ≤ c ∧ c ≤ maxLen ∧ Below w.heap.size w w'
set_option maxRecDepth 100000 in
set_option maxHeartbeats 2000000 in
theorem pclone_any {g0 c : Nat} {x y : Pe} {w : World} (h : PX w g0 73 [psl x, psl y]) :
  Calls Tryz.prog 201 #[.slice (some ⟨g0, 0, none⟩) 2 c] w (RetC2 x y w) := by
 obtain ⟨i0, hi, hz0, hz1, hz2⟩ := info_parts infoPoly
 have heq := fun (W : World) => Lib.run_eql_slice_nil (P := Tryz.prog) W 30 73 (some ⟨g0, 0, none⟩) 2 c 0 0 Tryz.underlying30
 have hB0 : Below w.heap.size w (w.alloc (.cells #[] 73)) := (Below.refl _ _).alloc (Nat.le_refl _) _
 have HSRC := Lib.hid (show ∀ (j : Nat) v, [psl x, psl y][j]? = some v → (w.alloc (.cells #[] 73)).cell? ((⟨g0, 0, none⟩ : Addr).add j) = some v from fun j v hv => by
  rw [add_base]
  exact (h.next hB0).cell hv)
 have hown : (w.alloc (.cells #[] 73)).ownsRow w.heap.size 73 1 (.slice (some ⟨w.heap.size, 0, none⟩) 0 0) 0 [] :=
  ⟨rfl, .inr ⟨w.heap.size, 0, #[], rfl, Nat.le_refl _, heap_alloc_new w _, Nat.le_refl _, Nat.zero_le _, rfl, rfl⟩⟩
 have HB0 := Lib.hid hB0
 clear h hB0
 go_enter Tryz.func201, Tryz.ntmps201
 go_wp2_with (at_builtin; refine wpList_append_own _ rfl _ _ 30 rfl w.heap.size 73 i0 (.slice none 0 0) 1 24 Tryz.underlying30 hi hz0 hz1 hz2 rfl (by decide) _ _ _ rfl hown ⟨g0, 0, none⟩ 2 c [psl x, psl y] rfl rfl HSRC.out (by simp [psl, Value.oneCell']) (by decide) (by decide) (by simp) ?_; intro v' w1 hown' hgrow _)
 have hB1 := HB0.out.grown hgrow (by simp) (fun k e => by cases e; exact Nat.le_refl _)
 rw [Nat.zero_add, List.nil_append] at hown'
 obtain ⟨A', c', rfl⟩ := row_sl hown'
 obtain ⟨g, rfl, h1, h2, h3, h4⟩ := own_px hown' (by decide)
 go_ret
 exact ⟨g, c', rfl, h1, h2, h3, h4, hB1⟩
end Go.Proofs.YtjnklbfhelbjgaaGreat

/- smith: a table in new memory. -/
namespace Go.Proofs.YtjnklbfhelbjgaaGreat
open Go.RowKit Go.IntWalk
attribute [local go_sem ↓] Go.wp_at_zero Go.wp_at_succ
set_option maxRecDepth 100000 in
set_option maxHeartbeats 8000000 in
theorem copied_any {b t : Nat} {M : M2} {w : World} (h : Tb w b t M) (hb : b ≤ w.heap.size) : Calls Tryz.prog 162 #[.pointer (some ⟨t, 0, none⟩)] w (RetTb b M w) := by
 obtain ⟨gr, cr, g0, c0, g1, c1, ⟨xa, xn, xc⟩, ⟨ya, yn, yc⟩, ⟨za, zn, zc⟩, ⟨ua, un, uc⟩, h⟩ := h
 obtain ⟨i1, hjf, hy0, hy1, hy2⟩ := info_parts infoRow
 have HBB := Lib.hid hb
 have HT := Lib.hid (show ∀ V, Below w.heap.size w V → T2 V b t gr cr g0 c0 g1 c1 (xa, xn, xc) (ya, yn, yc) (za, zn, zc) (ua, un, uc) M from fun V hb => h.next hb)
 have k1 := h.hd.cell (i := 1) rfl
 obtain ⟨W1, HW1⟩ : ∃ W, W = w.alloc (.cells #[.slice none 0 0, .int .i64 2] 102) := ⟨_, rfl⟩
 have hb1 : Below w.heap.size w W1 := by rw [HW1]; exact (Below.refl _ _).alloc (Nat.le_refl _) _
 have k0' : (w.alloc (.cells #[.slice none 0 0, .int .i64 2] 102)).cell? ⟨t, 0, none⟩ = some (.slice (some ⟨gr, 0, none⟩) 2 cr) := by rw [← HW1]; exact (HT.out _ hb1).hd.cell rfl
 obtain ⟨go, hgo⟩ : ∃ g, g = w.heap.size := ⟨_, rfl⟩
 have HN0 := Lib.hid (show PX W1 go 102 [.slice none 0 0, .int .i64 2] by rw [HW1, hgo]; exact PX.new w _ [.slice none 0 0, .int .i64 2])
 have HGW := Lib.hid (show w.heap.size ≤ go by rw [hgo]; exact Nat.le_refl _)
 have HB0 := Lib.hid hb1
 have HW1 := Lib.hid HW1
 clear h hb hb1
 go_enter Tryz.func162, Tryz.ntmps162
 go_wp2_with fail
 rw [← HW1.out, ← hgo]
 clear HW1 hgo
 clear HW1 k1 k0'
 refine wp_loop_rounds 3 ?_
 rw [rounds_succ]
 have k3 := (HT.out _ HB0.out).rw.cell (i := 0) rfl
 go_upto_region 5 with fail
 have HS0 := Lib.hid (show ∀ W, Below W1.heap.size W1 W → W.cell? ⟨go, 0, none⟩ = some (.slice none 0 0) from fun W hb => (HN0.out.next hb).cell rfl)
 have HCD := Lib.hid (Below.refl W1.heap.size W1).drew
 clear k3
 refine WA.begin [11] (S := fun W => W.cell? ⟨go, 0, none⟩ = some (.slice none 0 0)) (by kernel_rfl) (HS0.out _ HCD.out) (fun hHeld => ?_)
 refine WA.take (i := 0) 40 (v := ?_) rfl (by kernel_rfl) (by kernel_rfl) (by kernel_rfl) (by kernel_rfl) (by kernel_rfl) (fun _ _ _ h => h) (Or.inl ⟨by kernel_rfl, ?_⟩) (by assumption) ?_
 rotate_left
 ·intro w hSw
  (try dsimp only at hSw)
  go_simp
  try with_reducible rfl
 (try simp only [Act.put, List.setIfInBounds_toArray])
 refine WA.take (i := 1) 40 (v := ?_) rfl (by kernel_rfl) (by kernel_rfl) (by kernel_rfl) (by kernel_rfl) (by kernel_rfl) (fun _ _ _ h => h) (Or.inl ⟨by kernel_rfl, ?_⟩) (by assumption) ?_
 rotate_left
 ·intro w hSw
  (try dsimp only at hSw)
  go_simp
  try with_reducible rfl
 (try simp only [Act.put])
 refine WA.take (i := 2) 40 (v := ?_) rfl (by kernel_rfl) (by kernel_rfl) (by kernel_rfl) (by kernel_rfl) (by kernel_rfl) (fun _ _ _ h => h) (Or.inl ⟨by kernel_rfl, ?_⟩) (by assumption) ?_
 rotate_left
 ·intro w hSw
  (try dsimp only at hSw)
  go_simp
  try with_reducible rfl
 (try simp only [Act.put])
 refine WA.take (i := 3) 40 (v := ?_) rfl (by kernel_rfl) (by kernel_rfl) (by kernel_rfl) (by kernel_rfl) (by kernel_rfl) (fun _ _ _ h => h) (Or.inl ⟨by kernel_rfl, ?_⟩) (by assumption) ?_
 rotate_left
 ·intro w hSw
  (try dsimp only at hSw)
  go_simp
  try with_reducible rfl
 (try simp only [Act.put])
 refine WA.take (i := 4) 40 (v := ?_) rfl (by kernel_rfl) (by kernel_rfl) (by kernel_rfl) (by kernel_rfl) (by kernel_rfl) (fun _ _ _ h => h) (Or.inl ⟨by kernel_rfl, ?_⟩) (by assumption) ?_
 rotate_left
 ·intro w hSw
  (try dsimp only at hSw)
  go_simp
  try with_reducible rfl
 (try simp only [Act.put])
 refine WA.take (i := 5) 40 (v := ?_) rfl (by kernel_rfl) (by kernel_rfl) (by kernel_rfl) (by kernel_rfl) (by kernel_rfl) (fun _ _ _ h => h) (Or.inl ⟨by kernel_rfl, ?_⟩) (by assumption) ?_
 rotate_left
 ·intro w hSw
  (try dsimp only at hSw)
  go_simp
  try with_reducible rfl
 (try simp only [Act.put])
 refine WA.one (i := 6) (by kernel_rfl) rfl (fun K hK => ?_)
 rw [if_pos (by kernel_rfl)]
 go_simp
 refine (pclone_any (x := (xa, xn, xc)) (y := (ya, yn, yc)) (HT.out _ (HB0.out.trans (HCD.out.mono HB0.out.size))).r0).mono ?_
 rintro _ P0 ⟨n0, m0, rfl, hg0, hp0, hm0, hx0, hb0⟩
 have HE0 : Hid (Below W1.heap.size W1 P0) := Lib.hid (HCD.out.trans (hb0.mono HCD.out.size))
 have HP0 := Lib.hid hp0
 have HG0 := Lib.hid (show w.heap.size ≤ n0 ∧ 2 ≤ m0 ∧ m0 ≤ maxLen from ⟨by have h1 := HB0.out.size; have h2 := HCD.out.size; omega, hm0, hx0⟩)
 skip
 clear hg0 hp0 hm0 hx0 hb0
 go_wp2_with fail
 refine hK.out _ _ (fun _ => (HS0.out _ HE0.out)) ?_
 have hHeld := (HS0.out _ HE0.out)
 clear hK K
 (try simp only [Act.put, List.setIfInBounds_toArray, List.set_cons_zero, List.set_cons_succ])
 have HA0 := Lib.hid (show Below W1.heap.size W1 (P0.alloc (.cells #[.slice (some ⟨n0, 0, none⟩) 2 m0] 30)) from HE0.out.alloc HE0.out.size _)
 refine WA.one (i := 7) (by kernel_rfl) rfl (fun K hK => ?_)
 rw [if_pos (by kernel_rfl)]
 go_simp
 refine hK.out _ _ (fun _ => (HS0.out _ HA0.out)) ?_
 have hHeld := (HS0.out _ HA0.out)
 clear hK K
 (try simp only [Act.put, List.setIfInBounds_toArray, List.set_cons_zero, List.set_cons_succ])
 refine WA.one (i := 8) (by kernel_rfl) rfl (fun K hK => ?_)
 rw [if_pos (by kernel_rfl)]
 refine wp_append_lies _ _ _ _ (by rfl) w.heap.size 30 i1 (.slice none 0 0) 1 24 Tryz.underlying45 hjf hy0 hy1 hy2 rfl (by decide) (.slice none 0 0) 0 _ (by rfl) (World.ownsRow_nil _ _ _ _) ⟨P0.heap.size, 0, none⟩ 1 1 [.slice (some ⟨n0, 0, none⟩) 2 m0] (by rfl) rfl (tcell_new P0 (.slice (some ⟨n0, 0, none⟩) 2 m0) 30) (by simp [Value.oneCell']) (by decide) (by decide) (by decide) (by have h1 := HB0.out.size; have h2 := HA0.out.size; omega) _ rfl ?_
 intro gA cA V0 hown' hgrow _ _
 obtain ⟨A0, q0, ev, e1, e2, hU⟩ := U1.first (x := (xa, xn, xc)) (y := (ya, yn, yc)) (HN0.out.next HE0.out) HGW.out HP0.out HG0.out.1 HG0.out.2 ((HT.out _ (HB0.out.trans (HE0.out.mono HB0.out.size))).ea) ((HT.out _ (HB0.out.trans (HE0.out.mono HB0.out.size))).eb) hown' hgrow
 have HV0 := Lib.hid (show Below w.heap.size w V0 from (HB0.out.trans (HA0.out.mono HB0.out.size)).grown hgrow (by have h1 := HB0.out.size; have h2 := HA0.out.size; omega) (own_block (World.ownsRow_nil w w.heap.size 30 1)))
 rw [ev] at hU
 have HU := Lib.hid hU
 rw [ev]
 clear hU hown' hgrow ev
 refine hK.out _ _ (fun _ => e1) ?_
 have hHeld := e1
 clear hK K
 (try simp only [Act.put, List.setIfInBounds_toArray])
 refine WA.take (i := 9) 40 (v := ?_) rfl (by kernel_rfl) (by kernel_rfl) (by kernel_rfl) (by kernel_rfl) (by kernel_rfl) (fun _ _ _ h => h) (Or.inl ⟨by kernel_rfl, ?_⟩) (by assumption) ?_
 rotate_left
 ·intro w hSw
  (try dsimp only at hSw)
  go_simp
  try with_reducible rfl
 (try simp only [Act.put])
 refine WA.take (i := 10) 40 (v := ?_) rfl (by kernel_rfl) (by kernel_rfl) (by kernel_rfl) (by kernel_rfl) (by kernel_rfl) (fun _ _ _ h => h) (Or.inl ⟨by kernel_rfl, ?_⟩) (by assumption) ?_
 rotate_left
 ·intro w hSw
  (try dsimp only at hSw)
  go_simp
  try with_reducible rfl
 (try simp only [Act.put])
 refine WA.one (i := 11) (by kernel_rfl) rfl (fun K hK => ?_)
 rw [if_pos (by kernel_rfl)]
 go_simp
 refine hK.out _ _ (fun h => Bool.noConfusion ((show _ = true by kernel_rfl).symm.trans (h 11 (List.mem_singleton.2 rfl)))) ?_
 clear hK K
 (try simp only [Act.put, List.setIfInBounds_toArray, List.set_cons_zero, List.set_cons_succ])
 refine WA.done (by kernel_rfl) ?_ _
 obtain ⟨X0, HX0⟩ : ∃ W, W = V0.setCell ⟨go, 0, none⟩ (.slice A0 1 q0) := ⟨_, rfl⟩
 have hU := HU.out
 rw [← HX0] at hU
 have HU0 := Lib.hid hU
 have HB1 := Lib.hid (show Below w.heap.size w X0 by rw [HX0]; exact HV0.out.setCell (p := ⟨go, 0, none⟩) HGW.out _)
 rw [← HX0]
 clear hU HX0 hHeld e1 e2
 clear HU
 have HN1 := Lib.hid HU0.out.hd
 go_wp2_with fail
 rw [rounds_succ]
 have k3 := (HT.out _ HB1.out).rw.cell (i := 1) rfl
 go_upto_region 5 with fail
 have HS1 := Lib.hid (show ∀ W, Below X0.heap.size X0 W → W.cell? ⟨go, 0, none⟩ = some (.slice A0 1 q0) from fun W hb => (HN1.out.next hb).cell rfl)
 have HCD := Lib.hid (Below.refl X0.heap.size X0).drew
 clear k3
 refine WA.begin [11] (S := fun W => W.cell? ⟨go, 0, none⟩ = some (.slice A0 1 q0)) (by kernel_rfl) (HS1.out _ HCD.out) (fun hHeld => ?_)
 refine WA.take (i := 0) 40 (v := ?_) rfl (by kernel_rfl) (by kernel_rfl) (by kernel_rfl) (by kernel_rfl) (by kernel_rfl) (fun _ _ _ h => h) (Or.inl ⟨by kernel_rfl, ?_⟩) (by assumption) ?_
 rotate_left
 ·intro w hSw
  (try dsimp only at hSw)
  go_simp
  try with_reducible rfl
 (try simp only [Act.put, List.setIfInBounds_toArray])
 refine WA.take (i := 1) 40 (v := ?_) rfl (by kernel_rfl) (by kernel_rfl) (by kernel_rfl) (by kernel_rfl) (by kernel_rfl) (fun _ _ _ h => h) (Or.inl ⟨by kernel_rfl, ?_⟩) (by assumption) ?_
 rotate_left
 ·intro w hSw
  (try dsimp only at hSw)
  go_simp
  try with_reducible rfl
 (try simp only [Act.put])
 refine WA.take (i := 2) 40 (v := ?_) rfl (by kernel_rfl) (by kernel_rfl) (by kernel_rfl) (by kernel_rfl) (by kernel_rfl) (fun _ _ _ h => h) (Or.inl ⟨by kernel_rfl, ?_⟩) (by assumption) ?_
 rotate_left
 ·intro w hSw
  (try dsimp only at hSw)
  go_simp
  try with_reducible rfl
 (try simp only [Act.put])
 refine WA.take (i := 3) 40 (v := ?_) rfl (by kernel_rfl) (by kernel_rfl) (by kernel_rfl) (by kernel_rfl) (by kernel_rfl) (fun _ _ _ h => h) (Or.inl ⟨by kernel_rfl, ?_⟩) (by assumption) ?_
 rotate_left
 ·intro w hSw
  (try dsimp only at hSw)
  go_simp
  try with_reducible rfl
 (try simp only [Act.put])
 refine WA.take (i := 4) 40 (v := ?_) rfl (by kernel_rfl) (by kernel_rfl) (by kernel_rfl) (by kernel_rfl) (by kernel_rfl) (fun _ _ _ h => h) (Or.inl ⟨by kernel_rfl, ?_⟩) (by assumption) ?_
 rotate_left
 ·intro w hSw
  (try dsimp only at hSw)
  go_simp
  try with_reducible rfl
 (try simp only [Act.put])
 refine WA.take (i := 5) 40 (v := ?_) rfl (by kernel_rfl) (by kernel_rfl) (by kernel_rfl) (by kernel_rfl) (by kernel_rfl) (fun _ _ _ h => h) (Or.inl ⟨by kernel_rfl, ?_⟩) (by assumption) ?_
 rotate_left
 ·intro w hSw
  (try dsimp only at hSw)
  go_simp
  try with_reducible rfl
 (try simp only [Act.put])
 refine WA.one (i := 6) (by kernel_rfl) rfl (fun K hK => ?_)
 rw [if_pos (by kernel_rfl)]
 go_simp
 refine (pclone_any (x := (za, zn, zc)) (y := (ua, un, uc)) (HT.out _ (HB1.out.trans (HCD.out.mono HB1.out.size))).r1).mono ?_
 rintro _ P1 ⟨n1, m1, rfl, hg1, hp1, hm1, hx1, hb1⟩
 have HE1 : Hid (Below X0.heap.size X0 P1) := Lib.hid (HCD.out.trans (hb1.mono HCD.out.size))
 have HP1 := Lib.hid hp1
 have HG1 := Lib.hid (show w.heap.size ≤ n1 ∧ 2 ≤ m1 ∧ m1 ≤ maxLen from ⟨by have h1 := HB1.out.size; have h2 := HCD.out.size; omega, hm1, hx1⟩)
 have HNE := Lib.hid (show n0 ≠ n1 by have h1 := HU0.out.r0.lt; have h2 := HCD.out.size; omega)
 clear hg1 hp1 hm1 hx1 hb1
 go_wp2_with fail
 refine hK.out _ _ (fun _ => (HS1.out _ HE1.out)) ?_
 have hHeld := (HS1.out _ HE1.out)
 clear hK K
 (try simp only [Act.put, List.setIfInBounds_toArray, List.set_cons_zero, List.set_cons_succ])
 have HA1 := Lib.hid (show Below X0.heap.size X0 (P1.alloc (.cells #[.slice (some ⟨n1, 0, none⟩) 2 m1] 30)) from HE1.out.alloc HE1.out.size _)
 refine WA.one (i := 7) (by kernel_rfl) rfl (fun K hK => ?_)
 rw [if_pos (by kernel_rfl)]
 go_simp
 refine hK.out _ _ (fun _ => (HS1.out _ HA1.out)) ?_
 have hHeld := (HS1.out _ HA1.out)
 clear hK K
 (try simp only [Act.put, List.setIfInBounds_toArray, List.set_cons_zero, List.set_cons_succ])
 refine WA.one (i := 8) (by kernel_rfl) rfl (fun K hK => ?_)
 rw [if_pos (by kernel_rfl)]
 refine wp_append_lies _ _ _ _ (by rfl) w.heap.size 30 i1 (.slice none 0 0) 1 24 Tryz.underlying45 hjf hy0 hy1 hy2 rfl (by decide) (.slice A0 1 q0) 1 _ (by rfl) (row_next (HU0.out.next HE1.out).own ((Below.refl _ _).alloc (Nat.le_refl _) _)) ⟨P1.heap.size, 0, none⟩ 1 1 [.slice (some ⟨n1, 0, none⟩) 2 m1] (by rfl) rfl (tcell_new P1 (.slice (some ⟨n1, 0, none⟩) 2 m1) 30) (by simp [Value.oneCell']) (by decide) (by decide) (by decide) (by have h1 := HB1.out.size; have h2 := HA1.out.size; omega) _ rfl ?_
 intro gA cA V1 hown' hgrow _ _
 obtain ⟨A1, q1, ev, e1, e2, hU⟩ := (HU0.out.next HE1.out).second (z := (za, zn, zc)) (u := (ua, un, uc)) HP1.out HNE.out HG1.out.1 HBB.out HG1.out.2 ((HT.out _ (HB1.out.trans (HE1.out.mono HB1.out.size))).ec) ((HT.out _ (HB1.out.trans (HE1.out.mono HB1.out.size))).ed) hown' hgrow
 have HV1 := Lib.hid (show Below w.heap.size w V1 from (HB1.out.trans (HA1.out.mono HB1.out.size)).grown hgrow (by have h1 := HB1.out.size; have h2 := HA1.out.size; omega) (own_block (HU0.out.next HE1.out).own))
 rw [ev] at hU
 have HU := Lib.hid hU
 rw [ev]
 clear hU hown' hgrow ev
 refine hK.out _ _ (fun _ => e1) ?_
 have hHeld := e1
 clear hK K
 (try simp only [Act.put, List.setIfInBounds_toArray])
 refine WA.take (i := 9) 40 (v := ?_) rfl (by kernel_rfl) (by kernel_rfl) (by kernel_rfl) (by kernel_rfl) (by kernel_rfl) (fun _ _ _ h => h) (Or.inl ⟨by kernel_rfl, ?_⟩) (by assumption) ?_
 rotate_left
 ·intro w hSw
  (try dsimp only at hSw)
  go_simp
  try with_reducible rfl
 (try simp only [Act.put])
 refine WA.take (i := 10) 40 (v := ?_) rfl (by kernel_rfl) (by kernel_rfl) (by kernel_rfl) (by kernel_rfl) (by kernel_rfl) (fun _ _ _ h => h) (Or.inl ⟨by kernel_rfl, ?_⟩) (by assumption) ?_
 rotate_left
 ·intro w hSw
  (try dsimp only at hSw)
  go_simp
  try with_reducible rfl
 (try simp only [Act.put])
 refine WA.one (i := 11) (by kernel_rfl) rfl (fun K hK => ?_)
 rw [if_pos (by kernel_rfl)]
 go_simp
 refine hK.out _ _ (fun h => Bool.noConfusion ((show _ = true by kernel_rfl).symm.trans (h 11 (List.mem_singleton.2 rfl)))) ?_
 clear hK K
 (try simp only [Act.put, List.setIfInBounds_toArray, List.set_cons_zero, List.set_cons_succ])
 refine WA.done (by kernel_rfl) ?_ _
 obtain ⟨X1, HX1⟩ : ∃ W, W = V1.setCell ⟨go, 0, none⟩ (.slice A1 2 q1) := ⟨_, rfl⟩
 have hU := HU.out
 rw [← HX1] at hU
 have HU1 := Lib.hid hU
 have HB2 := Lib.hid (show Below w.heap.size w X1 by rw [HX1]; exact HV1.out.setCell (p := ⟨go, 0, none⟩) HGW.out _)
 rw [← HX1]
 clear hU HX1 hHeld e1 e2
 clear HU
 go_wp2_with fail
 rw [rounds_succ]
 go_wp2
 go_ret
 exact ⟨_, rfl, HU1.out, HB2.out⟩
end Go.Proofs.YtjnklbfhelbjgaaGreat

/- smith: the diagonal. -/
namespace Go.Proofs.YtjnklbfhelbjgaaGreat
open Go.RowKit Go.IntWalk
attribute [local go_sem ↓] Go.wp_at_zero Go.wp_at_succ
theorem pnorm_any {b n c : Nat} {A : Option Addr} {P : List Rat} {w : World} (h : OwQp w b A n c P) (hP : Tiny P) : Calls Tryz.prog 110 #[.slice A n c] w (RetPe P w) := by
 refine (qpnorm_any (h.rd hP.qs) (h.small hP) (by decide) (by decide)).mono ?_
 rintro e w' (⟨_, A', n', c', M, rfl, ho, hM, hb⟩ | ⟨⟨p, hp, hp0⟩, _⟩)
 ·have e0 := hM.out
  rw [pr_map, hP.1] at e0
  subst e0
  exact ⟨A', n', c', rfl, ho, hb⟩
 ·exact absurd hp0 (pr_okD _ p hp)
def RetPl2 (b : Nat) (LL : List (List Rat)) (w : World) (e : Ending) (w' : World) : Prop := ∃ (A : Option Addr) (n c : Nat), e = .returned (.slice A n c) ∧ OwPs w' b A n c LL ∧ Below b w w'
set_option maxRecDepth 100000 in
set_option maxHeartbeats 8000000 in
theorem diagonal_any {b t : Nat} {M E : M2} {w : World} (h : Tb w b t M) (hb : b ≤ w.heap.size) (ta : Tiny E.a) (td : Tiny E.d)
  (hrun : ∀ (b gw : Nat) (W : World), Wk W b gw M → b ≤ W.heap.size → Calls Tryz.prog 163 #[.pointer (some ⟨gw, 0, none⟩)] W (RetRn b gw E W)) :
  Calls Tryz.prog 108 #[.pointer (some ⟨t, 0, none⟩)] w (RetPl2 b [E.a, E.d] w) := by
 obtain ⟨i1, hjf, hy0, hy1, hy2⟩ := info_parts infoPoly
 have HT := Lib.hid h
 have HBB := Lib.hid hb
 have HE := Lib.hid (And.intro ta td)
 have HRUN := Lib.hid hrun
 clear h hb ta td hrun
 go_enter Tryz.func108, Tryz.ntmps108
 go_wp2_with fail
 refine (copied_any HT.out HBB.out).mono ?_
 rintro _ W1 ⟨t1, rfl, ht1, hb1⟩
 obtain ⟨W2, HW2⟩ : ∃ W, W = W1.alloc (.cells #[.pointer (some ⟨t1, 0, none⟩), .pointer none, .pointer none] 191) := ⟨_, rfl⟩
 have hb2 : Below W1.heap.size W1 W2 := by rw [HW2]; exact (Below.refl _ _).alloc (Nat.le_refl _) _
 obtain ⟨gw, hgw⟩ : ∃ g, g = W1.heap.size := ⟨_, rfl⟩
 have HK := Lib.hid (show Wk W2 b gw M from ⟨t1, by rw [HW2, hgw]; exact PX.new W1 _ [.pointer (some ⟨t1, 0, none⟩), .pointer none, .pointer none], by rw [hgw]; exact Nat.le_trans HBB.out hb1.size, ht1.next hb2⟩)
 have HV2 := Lib.hid (show b ≤ W2.heap.size ∧ Below b w W2 from ⟨Nat.le_trans (Nat.le_trans HBB.out hb1.size) hb2.size, (hb1.mono HBB.out).trans (hb2.mono (Nat.le_trans HBB.out hb1.size))⟩)
 have HW2 := Lib.hid HW2
 clear ht1 hb1 hb2
 go_wp2_with fail
 rw [← HW2.out, ← hgw]
 clear HW2 hgw
 clear HW2
 refine (HRUN.out b gw W2 HK.out HV2.out.1).mono ?_
 rintro _ W3 ⟨rfl, hw3, hb3⟩
 have HK3 := Lib.hid hw3
 have HV3 := Lib.hid (show b ≤ W3.heap.size ∧ Below b w W3 from ⟨Nat.le_trans HV2.out.1 hb3.size, HV2.out.2.trans hb3⟩)
 clear hw3 hb3
 go_wp2_with fail
 refine wp_loop_rounds 3 ?_
 rw [rounds_succ]
 obtain ⟨t0, h1, _, gr0, cr0, ga0, ca0, gc0, cc0, ⟨xa0, xn0, xc0⟩, y0, z0, ⟨ua0, un0, uc0⟩, h⟩ := HK3.out
 have k0 := h1.cell (i := 0) rfl
 have k1 := h.hd.cell (i := 0) rfl
 have k3 := h.rw.cell (i := 0) rfl
 have k5 : W3.cell? ⟨ga0, 0, none⟩ = some (.slice xa0 xn0 xc0) := h.r0.cell rfl
 have HQ := Lib.hid (show OwQp W3 b xa0 xn0 xc0 E.a from h.ea)
 clear h1 h
 go_wp2_with fail
 refine (pnorm_any HQ.out HE.out.1).mono ?_
 rintro _ P0 ⟨A, n, c, rfl, ho, hb0⟩
 have HO := Lib.hid (ho.base (b' := b) HV3.out.1)
 have HK4 := Lib.hid (HK3.out.next hb0)
 have HX0 := Lib.hid (show b ≤ P0.heap.size ∧ Below b w P0 from ⟨Nat.le_trans HV3.out.1 hb0.size, HV3.out.2.trans (hb0.mono HV3.out.1)⟩)
 obtain ⟨EE, hE, hEl, hEn⟩ := (OwPs.nil P0 b)
 have HEE := Lib.hid (And.intro hE (And.intro hEl hEn))
 clear HQ ho hE hEl hEn hb0 k0 k1 k3 k5
 go_wp2_with (at_builtin; refine wpList_append_own _ rfl _ _ 30 rfl b 73 i1 (.slice none 0 0) 1 24 Tryz.underlying30 hjf hy0 hy1 hy2 rfl (by decide) _ _ _ rfl (HEE.out.1.alloc _) ⟨P0.heap.size, 0, none⟩ 1 1 [.slice A n c] rfl rfl (tcell_new P0 (.slice A n c) 73) (by simp [Value.oneCell']) (by decide) (by decide) (by have h1 := HX0.out.1; simp; omega) ?_; intro v' Z0 hown' hgrow _)
 have hba : Below P0.heap.size P0 (P0.alloc (.cells #[.slice A n c] 73)) := (Below.refl _ _).alloc (Nat.le_refl _) _
 obtain ⟨A0, q0, rfl, ho0⟩ := ps_more (e := (A, n, c)) HO.out rfl (HEE.out.1.alloc _) HEE.out.2.1 (HEE.out.2.2.next hba) hown' hgrow
 have HO0 := Lib.hid (show OwPs Z0 b A0 1 q0 [E.a] from ho0)
 have HV4 := Lib.hid (show b ≤ Z0.heap.size ∧ Below b w Z0 from by
  have h2 := (HX0.out.2.alloc HX0.out.1 (.cells #[.slice A n c] 73)).grown hgrow (by have h1 := HX0.out.1; simp; omega) (own_block HEE.out.1)
  exact ⟨Nat.le_trans HBB.out h2.size, h2⟩)
 have HK4' := Lib.hid (show Wk Z0 b gw E from (HK4.out.next hba).next ((Below.refl _ _).grown hgrow (Nat.le_refl _) (fun k hk => by cases hk)))
 clear HK4
 have HK4 := HK4'
 clear hown' hgrow ho0 hba HK4' HEE HO
 go_wp2_with fail
 rw [rounds_succ]
 obtain ⟨t1, h1, _, gr1, cr1, ga1, ca1, gc1, cc1, ⟨xa1, xn1, xc1⟩, y1, z1, ⟨ua1, un1, uc1⟩, h⟩ := HK4.out
 have k0 := h1.cell (i := 0) rfl
 have k1 := h.hd.cell (i := 0) rfl
 have k3 := h.rw.cell (i := 1) rfl
 have k5 : Z0.cell? ⟨gc1, 1, none⟩ = some (.slice ua1 un1 uc1) := h.r1.cell rfl
 have HQ := Lib.hid (show OwQp Z0 b ua1 un1 uc1 E.d from h.ed)
 clear h1 h
 go_wp2_with fail
 refine (pnorm_any HQ.out HE.out.2).mono ?_
 rintro _ P1 ⟨A, n, c, rfl, ho, hb1⟩
 have HO := Lib.hid (ho.base (b' := b) HV4.out.1)
 have HK5 := Lib.hid (HK4.out.next hb1)
 have HX1 := Lib.hid (show b ≤ P1.heap.size ∧ Below b w P1 from ⟨Nat.le_trans HV4.out.1 hb1.size, HV4.out.2.trans (hb1.mono HV4.out.1)⟩)
 obtain ⟨EE, hE, hEl, hEn⟩ := (HO0.out.next hb1)
 have HEE := Lib.hid (And.intro hE (And.intro hEl hEn))
 clear HQ ho hE hEl hEn hb1 k0 k1 k3 k5
 go_wp2_with (at_builtin; refine wpList_append_own _ rfl _ _ 30 rfl b 73 i1 (.slice none 0 0) 1 24 Tryz.underlying30 hjf hy0 hy1 hy2 rfl (by decide) _ _ _ rfl (HEE.out.1.alloc _) ⟨P1.heap.size, 0, none⟩ 1 1 [.slice A n c] rfl rfl (tcell_new P1 (.slice A n c) 73) (by simp [Value.oneCell']) (by decide) (by decide) (by have h1 := HX1.out.1; simp; omega) ?_; intro v' Z1 hown' hgrow _)
 have hba : Below P1.heap.size P1 (P1.alloc (.cells #[.slice A n c] 73)) := (Below.refl _ _).alloc (Nat.le_refl _) _
 obtain ⟨A1, q1, rfl, ho1⟩ := ps_more (e := (A, n, c)) HO.out rfl (HEE.out.1.alloc _) HEE.out.2.1 (HEE.out.2.2.next hba) hown' hgrow
 have HO1 := Lib.hid (show OwPs Z1 b A1 2 q1 [E.a, E.d] from ho1)
 have HV5 := Lib.hid (show b ≤ Z1.heap.size ∧ Below b w Z1 from by
  have h2 := (HX1.out.2.alloc HX1.out.1 (.cells #[.slice A n c] 73)).grown hgrow (by have h1 := HX1.out.1; simp; omega) (own_block HEE.out.1)
  exact ⟨Nat.le_trans HBB.out h2.size, h2⟩)
 clear hown' hgrow ho1 hba HEE HO HK5
 go_wp2_with fail
 rw [rounds_succ]
 go_wp2
 go_ret
 exact ⟨_, _, _, rfl, HO1.out, HV5.out.2⟩
end Go.Proofs.YtjnklbfhelbjgaaGreat
