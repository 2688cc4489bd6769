/- zpoly: a coefficient; two lists coefficient by coefficient; sum and difference; times a number. -/
import Derived.Test.YtipbpdiahemmpaaGreatQ11
import Derived.Deep.CutBlock
import Derived.Deep.CutRange
import Derived.Deep.RegionWith
import Derived.Test.YtipbpdiahemmpaaGreatQ06
namespace Go.Proofs.YtipbpdiahemmpaaGreat
open Go.RowKit Go.IntWalk
attribute [local go_sem ↓] Go.wp_at_zero Go.wp_at_succ

theorem EntF.congr {w : World} {b : Nat} {E : List Ent} {f g : Nat → Int} (h : EntF w b E f) (e : ∀ i, f i = g i) : EntF w b E g := fun i x hx => by rw [← e]; exact h i x hx
/-- An integer comes back that others hold too. -/
def RetS (z : Int) (N : Nat) (w : World) (e : Ending) (w' : World) : Prop :=
  ∃ (s : Bool) (A : Option Addr) (n c : Nat) (y : Int), e = .returned (.agg #[.bool s, .slice A n c]) ∧ RdZ w' w'.heap.size s A n c y ∧ n ≤ N ∧ Hid (y = z) ∧ Below w.heap.size w w'

set_option maxHeartbeats 1000000 in
theorem zat_any {N : Nat} {A : Option Addr} {n c : Nat} {L : List Int} {w : World} (i : Nat) (h : RdZs w w.heap.size N A n c L) :
    Calls Tryz.prog 277 #[.slice A n c, .int .i64 i] w (RetS (Pz.co L i) N w) := by
  have HLEN := Lib.hid h.len
  obtain ⟨W1, HW1⟩ : ∃ W, W = w.alloc (.cells #[.bool false, .slice none 0 0] 28) := ⟨_, rfl⟩
  have hR : ZC W1 w.heap.size false none 0 0 := by rw [HW1]; exact ZC.new w false none 0 0
  have hB : Below w.heap.size w W1 := by rw [HW1]; exact (Below.refl w.heap.size w).alloc (Nat.le_refl _) _
  have HS := Lib.hid hR.lt
  by_cases hin : i < n
  · obtain ⟨ad, s, A1, n1, c1, z, rfl, hbk, hx0, hx1, hr, hn1, hz⟩ := zs_at h hin
    have hini : (i : Int) < (n : Int) := by omega
    have hp := put_int hR hB (Nat.le_refl _) (OwZ.zero W1 W1.heap.size) HS.out
    have hZ2 := hR.store s A1 n1 c1
    have hB2 := (hB.setCell (p := ⟨w.heap.size, 0, none⟩) (Nat.le_refl _) (.bool s)).setCell (p := ⟨w.heap.size, 1, none⟩) (Nat.le_refl _) (.slice A1 n1 c1)
    have e0 : w.alloc (.cells #[.bool s, .slice A1 n1 c1] 28) = w.alloc (.cells #[.bool s, .slice A1 n1 c1] 28) := rfl
    have hZ3 := ZC.new w s A1 n1 c1
    have hB3 : Below w.heap.size w (w.alloc (.cells #[.bool s, .slice A1 n1 c1] 28)) := (Below.refl w.heap.size w).alloc (Nat.le_refl _) _
    have HR3 := Lib.hid (hr.next hB3)
    obtain ⟨hy0, hy1⟩ := zs_cells hB hbk hx0 hx1
    rw [HW1] at hy0 hy1
    clear hp hZ2 hB2 e0 hin hR HS
    clear HW1
    go_enter Tryz.func277, Tryz.ntmps277
    go_wp2
    generalize w.alloc (.cells #[.bool s, .slice A1 n1 c1] 28) = W3 at *
    exact bodyPost_ret (by simp [results, Tryz.results277, go_sem, hZ3.c0, hZ3.c1]) rfl ⟨_, _, _, _, _, rfl, HR3.out, hn1, Lib.hid (Pz.co_get hz.out).symm, hB3⟩
  · have hini : (n : Int) ≤ (i : Int) := by omega
    have HZ := Lib.hid (show Pz.co L i = 0 from Pz.co_ge (by rw [HLEN.out]; omega))
    have hZ3 := ZC.new w false none 0 0
    have hB3 : Below w.heap.size w (w.alloc (.cells #[.bool false, .slice none 0 0] 28)) := (Below.refl w.heap.size w).alloc (Nat.le_refl _) _
    clear hin HW1 hR
    go_enter Tryz.func277, Tryz.ntmps277
    go_wp2
    generalize w.alloc (.cells #[.bool false, .slice none 0 0] 28) = W3 at *
    exact bodyPost_ret (by simp [results, Tryz.results277, go_sem, hZ3.c0, hZ3.c1]) rfl ⟨false, none, 0, 0, 0, rfl, RdZ.zero _ _ _, Nat.zero_le _, Lib.hid HZ.out.symm, hB3⟩

theorem zl_co {w : World} {B N : Nat} {A : Option Addr} {n c : Nat} {L : List Int} (h : RdZs w B N A n c L) (i : Nat) : Zz.zl (Pz.co L i) ≤ N := by
  rcases Nat.lt_or_ge i n with hi | hi
  · obtain ⟨_, _, _, _, _, z, _, _, _, _, hr, hn, hz⟩ := zs_at h hi
    rw [Pz.co_get hz.out]
    exact Nat.le_trans hr.len hn
  · rw [Pz.co_ge (by rw [h.len]; exact hi), Zz.zl_zero]
    exact Nat.zero_le _

set_option maxRecDepth 100000 in
set_option maxHeartbeats 4000000 in
theorem both_any {f N N' N2 : Nat} (φ : Int → Int → Int) {A A' : Option Addr} {n c n' c' : Nat} {L L' : List Int} {w : World} (h : RdZs w w.heap.size N A n c L) (h' : RdZs w w.heap.size N' A' n' c' L') (hn : n ≤ 4398046511103) (hn' : n' ≤ 4398046511103) (hN2 : N2 ≤ 17592186044416)
    (heg : ∀ args w, (callFunc f args).run Tryz.prog w = .ok (.enter f args) w) (h0 : φ 0 0 = 0) (hsz : ∀ i, Zz.zl (φ (Pz.co L i) (Pz.co L' i)) ≤ N2)
    (hdo : ∀ (W : World) (s s' : Bool) (A A' : Option Addr) (m c m' c' : Nat) (z z' : Int), RdZ W W.heap.size s A m c z → RdZ W W.heap.size s' A' m' c' z' → m ≤ N → m' ≤ N' → Calls Tryz.prog f #[.agg #[.bool s, .slice A m c], .agg #[.bool s', .slice A' m' c']] W (RetI (φ z z') W)) :
    Calls Tryz.prog 246 #[.slice A n c, .slice A' n' c', .func (.func f) #[] #[]] w (RetP (fun i => φ (Pz.co L i) (Pz.co L' i)) w) := by
  have HD := Lib.hid hdo
  have HSZ := Lib.hid hsz
  have H0 := Lib.hid h0
  have HL := Lib.hid (And.intro h.len h'.len)
  clear hdo hsz h0
  obtain ⟨m, hm⟩ : ∃ m, m = max n n' := ⟨_, rfl⟩
  have hmx : m ≤ 4398046511103 := by omega
  have hmi : max (n : Int) n' = (m : Int) := by omega
  have hmk := make_zs m (by omega)
  have hZ0 := ZB.made w m
  have hE0 := EntF.zeros (w.alloc (.cells (zcs (List.replicate m (false, none, 0, 0))).toArray 28)) w.heap.size m
  have hB0 := (Below.refl w.heap.size w).alloc (Nat.le_refl _) (.cells (zcs (List.replicate m (false, none, 0, 0))).toArray 28)
  have HM := Lib.hid hm
  clear hm
  go_enter Tryz.func246, Tryz.ntmps246
  go_wp2_with fail
  generalize w.alloc (.cells (zcs (List.replicate m (false, none, 0, 0))).toArray 28) = W1 at *
  obtain ⟨g, hg⟩ : ∃ g, g = w.heap.size := ⟨_, rfl⟩
  rw [← hg] at hZ0 ⊢
  have HG := Lib.hid hg
  clear hmk hg
  go_loopw [17] (fun iv wr => ∃ (j : Nat) (E : List Ent), iv = .int .i64 j ∧ j ≤ m ∧ ZB wr g E ∧ Hid (E.length = m) ∧ EntF wr w.heap.size E (fun i => if i < j then φ (Pz.co L i) (Pz.co L' i) else 0) ∧ Below w.heap.size w wr) (fun iv _ => m - (intOf iv).toNat)
  case atStart => exact ⟨0, _, rfl, Nat.zero_le _, hZ0, Lib.hid (by simp), fun i e he => by simpa using hE0 i e he, hB0⟩
  case round =>
    clear hZ0 hE0 hB0
    obtain ⟨j, E, rfl, hj, hZ, hEl, hE, hB⟩ := hrel
    by_cases hjm : j = m
    · subst hjm
      have ho := (hZ.own hE (by rw [HG.out]; exact Nat.le_refl _) hEl.out (by unfold maxLen; omega))
      have hrd := ho.rd (N := N2) (fun z hz => by
        obtain ⟨i, hi, rfl⟩ := List.mem_map.1 hz
        split
        · exact HSZ.out i
        · rw [Zz.zl_zero]; exact Nat.zero_le _)
      go_wp2_with fail
      refine (znorm_any hrd (by omega) hN2).mono ?_
      rintro _ W4 ⟨A4, n4, c4, M4, rfl, ho4, hM4, hb4⟩
      go_wp2
      go_ret
      refine ⟨_, _, _, M4, rfl, ho4.base hB.size, Lib.hid (hM4.out.congr fun i => ?_), hB.trans (hb4.mono hB.size)⟩
      rcases Nat.lt_or_ge i j with hi | hi
      · rw [Pz.co_get (z := φ (Pz.co L i) (Pz.co L' i)) (by rw [List.getElem?_map, List.getElem?_range hi]; simp [hi])]
      · rw [Pz.co_ge (by simpa using hi), Pz.co_ge (by rw [HL.out.1]; have := HM.out; omega), Pz.co_ge (by rw [HL.out.2]; have := HM.out; omega), H0.out]
    · have hjl : j < m := by omega
      have hjli : (j : Int) < (m : Int) := by omega
      clear hjm
      have hfz0 := hZ.frozen (j * 2)
      go_wp2_with fail
      refine (zat_any j (h.next hB)).mono ?_
      rintro _ W2 ⟨s2, A2, n2, c2, z2, rfl, hr2, hn2, hz2, hb2⟩
      have hB2 := hB.trans (hb2.mono hB.size)
      go_wp2_with fail
      refine (zat_any j (h'.next hB2)).mono ?_
      rintro _ W3 ⟨s3, A3, n3, c3, z3, rfl, hr3, hn3, hz3, hb3⟩
      have hB3 := hB2.trans (hb3.mono hB2.size)
      go_wp2_with fail
      refine (HD.out W3 _ _ _ _ _ _ _ _ _ _ (hr2.next hb3) hr3 hn2 hn3).mono ?_
      rintro _ W4 ⟨s4, A4, n4, c4, z4, rfl, ho4, hz4, hb4⟩
      have hB4 := hB3.trans (hb4.mono hB3.size)
      have hb24 := hb2.trans ((hb3.trans (hb4.mono hb3.size)).mono hb2.size)
      have hZ4 := hZ.next hb24
      have hE4 := hE.next hb24
      obtain ⟨e, he⟩ : ∃ e, E[j]? = some e := ⟨E[j]'(by rw [hEl.out]; exact hjl), List.getElem?_eq_getElem _⟩
      obtain ⟨k0, k1⟩ := hZ4.cells he
      have f0 := hZ4.frozen (j * 2)
      have f1 := hZ4.frozen (j * 2 + 1)
      have hZ5 := hZ4.store j (s4, A4, n4, c4)
      have hE5 := hE4.store (j := j) (e := (s4, A4, n4, c4)) (z := z4) hZ4 (ho4.base hB3.size)
      have hB5 := (hB4.setCell (p := ⟨g, j * 2, none⟩) (by show w.heap.size ≤ g; have := HG.out; omega) (.bool s4)).setCell (p := ⟨g, j * 2 + 1, none⟩) (by show w.heap.size ≤ g; have := HG.out; omega) (.slice A4 n4 c4)
      have HF := Lib.hid (show z4 = φ (Pz.co L j) (Pz.co L' j) by rw [hz4.out, hz2.out, hz3.out])
      have HZ5 := Lib.hid hZ5
      have HE5 := Lib.hid hE5
      clear hZ5 hE5 hb24 hb2 hb3 hb4 hZ hE he
      go_wp2_with fail
      go_roundw
      case rel => exact ⟨j + 1, E.set j (s4, A4, n4, c4), by go_num, by omega, HZ5.out, Lib.hid (by rw [List.length_set]; exact hEl.out), HE5.out.congr fun i => (by
        by_cases e1 : i = j
        · subst e1; rw [if_pos rfl, if_pos (Nat.lt_succ_self _), HF.out]
        · rw [if_neg e1]
          by_cases e2 : i < j
          · rw [if_pos e2, if_pos (by omega)]
          · rw [if_neg e2, if_neg (by omega)]), hB5⟩
      case measure => simp [intOf]; omega

set_option maxHeartbeats 1000000 in
theorem zadd_any {N N' : Nat} {A A' : Option Addr} {n c n' c' : Nat} {L L' : List Int} {w : World} (h : RdZs w w.heap.size N A n c L) (h' : RdZs w w.heap.size N' A' n' c' L') (hn : n ≤ 4398046511103) (hn' : n' ≤ 4398046511103) (hN : N ≤ 8796093022207) (hN' : N' ≤ 8796093022207) :
    Calls Tryz.prog 197 #[.slice A n c, .slice A' n' c'] w (RetP (fun i => Pz.co L i + Pz.co L' i) w) := by
  have hEN := enters_of Tryz.func218 (by kernel_rfl) rfl
  have HC := Lib.hid (And.intro (zl_co h) (zl_co h'))
  go_enter Tryz.func197, Tryz.ntmps197
  go_wp2_with fail
  refine (both_any (N2 := max N N' + 1) (fun x y => x + y) h h' hn hn' (by omega) hEN (by decide) (fun i => by have e1 := Zz.zl_add (Pz.co L i) (Pz.co L' i); have e2 := HC.out.1 i; have e3 := HC.out.2 i; omega) (fun W s s' A A' m c m' c' z z' hr hr' hm hm' => add_any hr hr' (by omega) (by omega))).mono ?_
  rintro _ W2 ⟨A2, n2, c2, M2, rfl, ho2, hM2, hb2⟩
  go_wp2
  go_ret
  exact ⟨_, _, _, M2, rfl, ho2, hM2, hb2⟩

set_option maxHeartbeats 1000000 in
theorem zsub_any {N N' : Nat} {A A' : Option Addr} {n c n' c' : Nat} {L L' : List Int} {w : World} (h : RdZs w w.heap.size N A n c L) (h' : RdZs w w.heap.size N' A' n' c' L') (hn : n ≤ 4398046511103) (hn' : n' ≤ 4398046511103) (hN : N ≤ 8796093022207) (hN' : N' ≤ 8796093022207) :
    Calls Tryz.prog 200 #[.slice A n c, .slice A' n' c'] w (RetP (fun i => Pz.co L i - Pz.co L' i) w) := by
  have hEN := enters_of Tryz.func248 (by kernel_rfl) rfl
  have HC := Lib.hid (And.intro (zl_co h) (zl_co h'))
  go_enter Tryz.func200, Tryz.ntmps200
  go_wp2_with fail
  refine (both_any (N2 := max N N' + 1) (fun x y => x - y) h h' hn hn' (by omega) hEN (by decide) (fun i => by have e1 := Zz.zl_sub (Pz.co L i) (Pz.co L' i); have e2 := HC.out.1 i; have e3 := HC.out.2 i; omega) (fun W s s' A A' m c m' c' z z' hr hr' hm hm' => sub_any hr hr' (by omega) (by omega))).mono ?_
  rintro _ W2 ⟨A2, n2, c2, M2, rfl, ho2, hM2, hb2⟩
  go_wp2
  go_ret
  exact ⟨_, _, _, M2, rfl, ho2, hM2, hb2⟩

set_option maxHeartbeats 1000000 in
theorem scaleIn_any {B N N' : Nat} {s s' : Bool} {A A' : Option Addr} {n c n' c' : Nat} {z z' : Int} {w : World} (h : RdZ w w.heap.size s A n c z) (hC : ZC w B s' A' n' c') (h' : RdZ w w.heap.size s' A' n' c' z') (hn : n ≤ N) (hn' : n' ≤ N') (hN : N ≤ 4398046511103) (hN' : N' ≤ 4398046511103) :
    Calls Tryz.prog 247 #[.agg #[.bool s, .slice A n c], .pointer (some ⟨B, 0, none⟩)] w (RetI (z * z') w) := by
  obtain ⟨hZ, hR, hB⟩ := boxed1 w s A n c
  have h1 := h.next hB
  have h1' := h'.next hB
  have hC1 := hC.next hB
  have HSZ := Lib.hid (Nat.lt_trans (Nat.lt_succ_self _) hR.lt)
  have hc0 := hC1.c0
  have hc1 := hC1.c1
  go_enter Tryz.func247, Tryz.ntmps247
  go_wp2_with fail
  generalize (w.alloc (.cells #[.bool s, .slice A n c] 28)).alloc (.cells #[.bool false, .slice none 0 0] 28) = W1 at *
  refine (imul_any h1 h1' (by omega) (by omega)).mono ?_
  rintro _ W4 ⟨s4, A4, m4, c4, z4, rfl, ho4, hz4, hb4⟩
  have hR4 := hR.next hb4
  have hB4 := hB.trans (hb4.mono hB.size)
  have HS1 := Lib.hid hR.lt
  have hd0 := hR4.c0
  have hd1 := hR4.c1
  have hf0 := hR4.fz 0
  have hf1 := hR4.fz 1
  clear hb4 hZ hR hC1 hc0 hc1 hC
  go_wp2
  have hp := put_int hR4 hB4 (Nat.le_succ _) ho4 HS1.out
  generalize (W4.setCell ⟨w.heap.size + 1, 0, none⟩ (.bool s4)).setCell ⟨w.heap.size + 1, 1, none⟩ (.slice A4 m4 c4) = W5 at hp ⊢
  obtain ⟨hZ5, ho5, hB5⟩ := hp
  exact bodyPost_ret (by simp [results, Tryz.results247, go_sem, hZ5.c0, hZ5.c1]) rfl ⟨_, _, _, _, _, rfl, ho5.base (Nat.le_of_lt HSZ.out), hz4, hB5⟩

set_option maxHeartbeats 1000000 in
theorem zscale_any {N N' : Nat} {s : Bool} {A A' : Option Addr} {n c n' c' : Nat} {L : List Int} {z : Int} {w : World} (h : RdZs w w.heap.size N A n c L) (h' : RdZ w w.heap.size s A' n' c' z) (hn : n ≤ 4398046511103) (hn' : n' ≤ N') (hN : N ≤ 4398046511103) (hN' : N' ≤ 4398046511103) :
    Calls Tryz.prog 198 #[.slice A n c, .agg #[.bool s, .slice A' n' c']] w (RetP (fun i => Pz.co L i * z) w) := by
  have hEN := enters_of Tryz.func247 (by kernel_rfl) rfl
  have HC := Lib.hid (zl_co h)
  have HLN := Lib.hid h.len
  have HLZ := Lib.hid h'.len
  have hZ := ZC.new w s A' n' c'
  have hB : Below w.heap.size w (w.alloc (.cells #[.bool s, .slice A' n' c'] 28)) := (Below.refl w.heap.size w).alloc (Nat.le_refl _) _
  go_enter Tryz.func198, Tryz.ntmps198
  go_wp2_with fail
  generalize w.alloc (.cells #[.bool s, .slice A' n' c'] 28) = W1 at *
  refine (mapped_cap (N := N) (fun x => x * z) (h.next hB) hn hEN (fun W s2 A2 m c2 x hb hr hm => scaleIn_any (N := N) (N' := N') hr (hZ.next hb) ((h'.next hB).next hb) hm hn' hN hN')).mono ?_
  rintro _ W2 ⟨A2, n2, c2, M2, rfl, ho2, hM2, hb2⟩
  have hB2 := hB.trans (hb2.mono hB.size)
  have hrd := ho2.rd (N := N + N') (fun y hy => by
    rw [hM2.out] at hy
    obtain ⟨x, hx, rfl⟩ := List.mem_map.1 hy
    obtain ⟨i, hi, rfl⟩ := Pz.mem_co hx
    have e1 := Zz.zl_mul (Pz.co L i) z
    have e2 := HC.out i
    have e3 := HLZ.out
    omega)
  have hnn : n2 ≤ 4398046511103 := by
    have e := ho2.len
    rw [hM2.out, List.length_map, HLN.out] at e
    omega
  go_wp2_with fail
  refine (znorm_any hrd hnn (by omega)).mono ?_
  rintro _ W4 ⟨A4, n4, c4, M4, rfl, ho4, hM4, hb4⟩
  go_wp2
  go_ret
  exact ⟨_, _, _, M4, rfl, ho4.base hB2.size, Lib.hid (hM4.out.congr fun i => by rw [hM2.out]; exact Pz.co_map (by simp) L i), hB2.trans (hb4.mono hB2.size)⟩
end Go.Proofs.YtipbpdiahemmpaaGreat

/- Reference 07, first part: in normal form; a coefficient; sum; times a number. -/
namespace Go.Proofs.YtipbpdiahemmpaaGreat
open Go.RowKit Go.IntWalk
attribute [local go_sem ↓] Go.wp_at_zero Go.wp_at_succ

set_option maxRecDepth 100000 in
set_option maxHeartbeats 4000000 in
theorem rzNorm_any {N : Nat} {A : Option Addr} {n c : Nat} {L : List Int} {w : World} (h : RdZs w w.heap.size N A n c L) (hn : n ≤ 4398046511103) (hN : N ≤ 17592186044416) :
    Calls Tryz.prog 13 #[.slice A n c] w (RetP (Pz.co L) w) := by
  have HLEN := Lib.hid h.len
  have hle := h.le
  have hmx := h.mx
  go_enter Tryz.func13, Tryz.ntmps13
  go_upto_block 0 with fail
  go_cut [3] from 8 to 20 (fun kv wr => ∃ k : Nat, kv = .int .i64 k ∧ k ≤ n ∧ Hid (∀ i, k ≤ i → Pz.co L i = 0) ∧ Hid (k = 0 ∨ Pz.co L (k - 1) ≠ 0) ∧ Below w.heap.size w wr)
  case first =>
    go_wp2_with fail
    go_loopw [3] (fun kv wr => ∃ k : Nat, kv = .int .i64 k ∧ k ≤ n ∧ Hid (∀ i, k ≤ i → Pz.co L i = 0) ∧ Below w.heap.size w wr) (fun kv _ => (intOf kv).toNat)
    case atStart => exact ⟨n, rfl, Nat.le_refl _, Lib.hid fun i hi => Pz.co_ge (by rw [HLEN.out]; exact hi), Below.refl _ _⟩
    case round =>
      obtain ⟨k, rfl, hk, hZ, hB⟩ := hrel
      rcases Nat.eq_zero_or_pos k with h0 | h0
      · subst h0
        go_wp2
        go_meet
        exact ⟨0, rfl, Nat.zero_le _, hZ, Lib.hid (.inl rfl), hB⟩
      · obtain ⟨j, rfl⟩ : ∃ j, k = j + 1 := ⟨k - 1, by omega⟩
        obtain ⟨ad, s, A1, n1, c1, z, rfl, hbk, hx0, hx1, hr, hn1, hz⟩ := zs_at h (show j < n by omega)
        obtain ⟨hy0, hy1⟩ := zs_cells hB hbk hx0 hx1
        go_wp2_with fail
        refine (rISign_any (hr.next hB) (by omega)).mono ?_
        rintro _ W2 ⟨kz, rfl, hkz, hb2⟩
        have hB2 := hB.trans (hb2.mono hB.size)
        have HZ := Lib.hid (show kz = 0 ↔ Pz.co L j = 0 by rw [hkz.out, Int.sign_eq_zero_iff_zero, Pz.co_get hz.out])
        clear hb2 hy0 hy1
        by_cases hk0 : kz = 0
        · have HC := Lib.hid (HZ.out.1 hk0)
          subst hk0
          go_wp2
          go_roundw
          case rel => exact ⟨j, by go_num, by omega, Lib.hid fun i hi => by
            rcases Nat.lt_or_ge j i with h1 | h1
            · exact hZ.out i h1
            · rw [show i = j by omega]; exact HC.out, hB2⟩
          case measure => simp [intOf]
        · have HC := Lib.hid (mt HZ.out.2 hk0)
          have hkb : (kz == 0) = false := by simpa using hk0
          clear hk0
          go_wp2
          go_meet
          exact ⟨j + 1, by go_num, hk, hZ, Lib.hid (.inr HC.out), hB2⟩
  case rest =>
    obtain ⟨kk, rfl, hk, hZ, HKK, hB⟩ := hcut
    have hmk := make_zs (kk) (by omega)
    have hZ0 := ZB.made wc (kk)
    have hE0 := EntF.zeros (wc.alloc (.cells (zcs (List.replicate (kk) (false, none, 0, 0))).toArray 28)) w.heap.size (kk)
    have hB0 := hB.alloc hB.size (.cells (zcs (List.replicate (kk) (false, none, 0, 0))).toArray 28)
    have HNZ := Lib.hid (show Pz.IsP (Pz.co L) (L.take (kk)) from ⟨Pz.nz_take (by rw [HLEN.out]; exact hk) (HKK.out), Pz.co_take_all hZ.out⟩)
    have HK := Lib.hid hZ.out
    go_wp2_with fail
    obtain ⟨g, hg⟩ : ∃ g, g = wc.heap.size := ⟨_, rfl⟩
    generalize wc.alloc (.cells (zcs (List.replicate (kk) (false, none, 0, 0))).toArray 28) = W3 at *
    rw [← hg] at hZ0 ⊢
    have HG := Lib.hid (show w.heap.size ≤ g by rw [hg]; exact hB.size)
    clear hmk hg
    go_loopw [25] (fun iv wr => ∃ (i : Nat) (E : List Ent), iv = .int .i64 i ∧ i ≤ kk ∧ ZB wr g E ∧ Hid (E.length = kk) ∧ EntF wr w.heap.size E (fun t => if t < i then Pz.co L t else 0) ∧ Below w.heap.size w wr) (fun iv _ => kk - (intOf iv).toNat)
    case atStart => exact ⟨0, _, rfl, Nat.zero_le _, hZ0, Lib.hid (by simp), fun i e he => by simpa using hE0 i e he, hB0⟩
    case round =>
      clear hZ0 hE0 hB0
      obtain ⟨i, E, rfl, hi, hZB, hEl, hE, hBi⟩ := hrel
      by_cases hik : i = kk
      · have ho := (hZB.own hE HG.out hEl.out (by unfold maxLen; omega))
        have HO := Lib.hid ho
        have hki := hik.symm
        subst hki
        clear hik
        go_wp2
        go_ret
        refine ⟨_, _, _, _, rfl, HO.out, Lib.hid ?_, hBi⟩
        have e : (List.range (kk)).map (fun t => if t < kk then Pz.co L t else 0) = L.take (kk) := by
          apply List.ext_getElem?
          intro t
          rcases Nat.lt_or_ge t (kk) with ht | ht
          · rw [List.getElem?_map, List.getElem?_range ht, List.getElem?_take_of_lt ht, Pz.get_co (by rw [HLEN.out]; omega)]
            simp [ht]
          · rw [List.getElem?_eq_none (by simpa using ht), List.getElem?_eq_none (by rw [List.length_take]; omega)]
        rw [e]
        exact HNZ.out
      · have hil : i < kk := by omega
        clear hik
        have hili : (i : Int) < (kk : Nat) := by omega
        have hiln : i < n := by omega
        have hilni : (i : Int) < (n : Int) := by omega
        obtain ⟨ad, s, A1, n1, c1, z, hA, hbk, hx0, hx1, hr, hn1, hz⟩ := zs_at h hiln
        subst hA
        obtain ⟨hy0, hy1⟩ := zs_cells hBi hbk hx0 hx1
        go_wp2_with fail
        refine (rINorm_any (hr.next hBi) (by omega)).mono ?_
        rintro _ W4 ⟨s4, A4, n4, c4, z4, rfl, ho4, hz4, hb4⟩
        have hB4 := hBi.trans (hb4.mono hBi.size)
        have hZ4 := hZB.next hb4
        have hE4 := hE.next hb4
        obtain ⟨e, he⟩ : ∃ e, E[i]? = some e := ⟨E[i]'(by rw [hEl.out]; exact hil), List.getElem?_eq_getElem _⟩
        obtain ⟨k0, k1⟩ := hZ4.cells he
        have f0 := hZ4.frozen (i * 2)
        have f1 := hZ4.frozen (i * 2 + 1)
        have HZ5 := Lib.hid (hZ4.store i (s4, A4, n4, c4))
        have HE5 := Lib.hid (hE4.store (j := i) (e := (s4, A4, n4, c4)) (z := z4) hZ4 (ho4.base hBi.size))
        have hB5 := (hB4.setCell (p := ⟨g, i * 2, none⟩) HG.out (.bool s4)).setCell (p := ⟨g, i * 2 + 1, none⟩) HG.out (.slice A4 n4 c4)
        have HF := Lib.hid (show z4 = Pz.co L i by rw [hz4.out, Pz.co_get hz.out])
        clear hx0 hx1 hy0 hy1 hr hz hb4 hZB hE hBi he
        go_wp2_with fail
        go_roundw
        case rel => exact ⟨i + 1, E.set i (s4, A4, n4, c4), by go_num, by omega, HZ5.out, Lib.hid (by rw [List.length_set]; exact hEl.out), HE5.out.congr fun t => (by
          by_cases e1 : t = i
          · subst e1; rw [if_pos rfl, if_pos (Nat.lt_succ_self _), HF.out]
          · rw [if_neg e1]
            by_cases e2 : t < i
            · rw [if_pos e2, if_pos (by omega)]
            · rw [if_neg e2, if_neg (by omega)]), hB5⟩
        case measure => simp [intOf]; omega
end Go.Proofs.YtipbpdiahemmpaaGreat

/- Reference 07, second part: a coefficient, the sum, times a number, the difference. -/
namespace Go.Proofs.YtipbpdiahemmpaaGreat
open Go.RowKit Go.IntWalk
attribute [local go_sem ↓] Go.wp_at_zero Go.wp_at_succ

end Go.Proofs.YtipbpdiahemmpaaGreat

/- Reference 07, third part: times a number, the difference. -/
namespace Go.Proofs.YtipbpdiahemmpaaGreat
open Go.RowKit Go.IntWalk
attribute [local go_sem ↓] Go.wp_at_zero Go.wp_at_succ

end Go.Proofs.YtipbpdiahemmpaaGreat

/- Products of polynomials over the integers, term by term; sizes. Nothing of the program. -/
namespace Pz
/-- The terms of the first i coefficients of a, times b. -/
def cvp (a b : Nat → Int) : Nat → Nat → Int
  | 0, _ => 0
  | i + 1, t => cvp a b i t + (if i ≤ t then a i * b (t - i) else 0)
theorem cvp_zero (a b : Nat → Int) (t : Nat) : cvp a b 0 t = 0 := rfl
theorem cvp_succ (a b : Nat → Int) (i t : Nat) : cvp a b (i + 1) t = cvp a b i t + (if i ≤ t then a i * b (t - i) else 0) := rfl
theorem cvp_congr {a a' b b' : Nat → Int} (ha : ∀ i, a i = a' i) (hb : ∀ i, b i = b' i) (t : Nat) : ∀ i, cvp a b i t = cvp a' b' i t
  | 0 => rfl
  | i + 1 => by rw [cvp_succ, cvp_succ, cvp_congr ha hb t i, ha, hb]
theorem cvp_stop {a b : Nat → Int} {k : Nat} (h : ∀ i, k ≤ i → a i = 0) (t : Nat) : ∀ d, cvp a b (k + d) t = cvp a b k t
  | 0 => rfl
  | d + 1 => by
    rw [show k + (d + 1) = (k + d) + 1 by omega, cvp_succ, cvp_stop h t d, h _ (by omega)]
    simp
theorem cvp_stop' {a b : Nat → Int} {k m : Nat} (h : ∀ i, k ≤ i → a i = 0) (hm : k ≤ m) (t : Nat) : cvp a b m t = cvp a b k t := by
  obtain ⟨d, rfl⟩ : ∃ d, m = k + d := ⟨m - k, by omega⟩
  exact cvp_stop h t d
theorem cvp_above {a b : Nat → Int} {k : Nat} (hb : ∀ i, k ≤ i → b i = 0) : ∀ {i t : Nat}, i + k ≤ t + 1 → cvp a b i t = 0
  | 0, _, _ => rfl
  | i + 1, t, h => by
    rw [cvp_succ, cvp_above hb (by omega), hb (t - i) (by omega)]
    simp
/-- In the midst of the i-th row. -/
def cvm (a b : Nat → Int) (i k t : Nat) : Int := cvp a b i t + (if i ≤ t ∧ t < i + k then a i * b (t - i) else 0)
theorem cvm_zero (a b : Nat → Int) (i t : Nat) : cvm a b i 0 t = cvp a b i t := by
  unfold cvm
  rw [if_neg (by omega), Int.add_zero]
theorem cvm_end {a b : Nat → Int} {k : Nat} (hb : ∀ i, k ≤ i → b i = 0) (i t : Nat) : cvm a b i k t = cvp a b (i + 1) t := by
  unfold cvm
  rw [cvp_succ]
  by_cases h1 : i ≤ t
  · rw [if_pos h1]
    by_cases h2 : t < i + k
    · rw [if_pos ⟨h1, h2⟩]
    · rw [if_neg (by omega), hb (t - i) (by omega), Int.mul_zero]
  · rw [if_neg h1, if_neg (by omega)]
theorem cvm_step (a b : Nat → Int) (i k t : Nat) : cvm a b i (k + 1) t = if t = i + k then cvm a b i k (i + k) + a i * b k else cvm a b i k t := by
  unfold cvm
  by_cases h : t = i + k
  · subst h
    rw [if_pos rfl, if_pos (by omega), if_neg (by omega), show i + k - i = k by omega, Int.add_zero]
  · rw [if_neg h]
    congr 1
    by_cases h2 : i ≤ t ∧ t < i + k
    · rw [if_pos h2, if_pos (by omega)]
    · rw [if_neg h2, if_neg (by omega)]
theorem mul_size {x y : Int} {N N' : Nat} (hx : Zz.zl x ≤ N) (hy : Zz.zl y ≤ N') : (x * y).natAbs ≤ 4294967296 ^ (N + N') := by
  have e := Zz.zl_mul x y
  exact Nat.le_of_lt (Zz.zl_le.1 (show Zz.zl (x * y) ≤ N + N' by omega))
theorem cvp_size {a b : Nat → Int} {N N' : Nat} (ha : ∀ i, Zz.zl (a i) ≤ N) (hb : ∀ i, Zz.zl (b i) ≤ N') (t : Nat) : ∀ i, (cvp a b i t).natAbs ≤ i * 4294967296 ^ (N + N')
  | 0 => by simp [cvp_zero]
  | i + 1 => by
    have ih := cvp_size ha hb t i
    have e := mul_size (ha i) (hb (t - i))
    rw [cvp_succ, Nat.succ_mul]
    split
    · omega
    · omega
theorem cvm_zl {a b : Nat → Int} {N N' : Nat} (ha : ∀ i, Zz.zl (a i) ≤ N) (hb : ∀ i, Zz.zl (b i) ≤ N') {i : Nat} (hi : i < 4294967295) (k t : Nat) : Zz.zl (cvm a b i k t) ≤ N + N' + 1 := by
  rw [Zz.zl_le, Nat.pow_succ]
  have e1 := cvp_size ha hb t i
  have e2 := mul_size (ha i) (hb (t - i))
  have hp : 0 < 4294967296 ^ (N + N') := Nat.pow_pos (by omega)
  have e3 : (i + 1) * 4294967296 ^ (N + N') < 4294967296 ^ (N + N') * 4294967296 := by
    rw [Nat.mul_comm]
    exact Nat.mul_lt_mul_of_pos_left (by omega) hp
  rw [Nat.succ_mul] at e3
  unfold cvm
  split
  · omega
  · omega
theorem cvp_zl {a b : Nat → Int} {N N' : Nat} (ha : ∀ i, Zz.zl (a i) ≤ N) (hb : ∀ i, Zz.zl (b i) ≤ N') {i : Nat} (hi : i < 4294967295) (t : Nat) : Zz.zl (cvp a b i t) ≤ N + N' + 1 := by
  rw [← cvm_zero]; exact cvm_zl ha hb hi 0 t
end Pz

/- Reference 07, fourth part: times a power of x; the product. -/
namespace Go.Proofs.YtipbpdiahemmpaaGreat
open Go.RowKit Go.IntWalk
attribute [local go_sem ↓] Go.wp_at_zero Go.wp_at_succ

theorem zcs_inv {E : List Ent} {j : Nat} {v : Value} (h : (zcs E)[j]? = some v) : ∃ (q : Nat) (e : Ent), E[q]? = some e ∧ ((j = q * 2 ∧ v = .bool e.1) ∨ (j = q * 2 + 1 ∧ v = .slice e.2.1 e.2.2.1 e.2.2.2)) := by
  have hj : j < (zcs E).length := by
    rcases Nat.lt_or_ge j (zcs E).length with h1 | h1
    · exact h1
    · rw [List.getElem?_eq_none h1] at h; cases h
  rw [zcs_len] at hj
  have hq : j / 2 < E.length := by omega
  have he := List.getElem?_eq_getElem hq
  obtain ⟨c0, c1⟩ := zcs_at E (j / 2) _ he
  refine ⟨j / 2, _, he, ?_⟩
  rcases Nat.mod_two_eq_zero_or_one j with e | e
  · rw [show j / 2 * 2 = j by omega, h] at c0
    injection c0 with c0
    exact .inl ⟨by omega, c0⟩
  · rw [show j / 2 * 2 + 1 = j by omega, h] at c1
    injection c1 with c1
    exact .inr ⟨by omega, c1⟩
theorem add_next (ad : Addr) (q : Nat) : ad.add (q * 2 + 1) = ⟨(ad.add (q * 2)).block, (ad.add (q * 2)).off + 1, none⟩ := by
  unfold Addr.add
  by_cases h : q * 2 = 0
  · rw [if_neg (by omega), if_pos h]
    simp
  · rw [if_neg (by omega), if_neg h]
    simp [Nat.add_assoc]
theorem zs_ents {w : World} {B N : Nat} {ad : Addr} {n c : Nat} {L : List Int} (h : RdZs w B N (some ad) n c L) :
    ∃ E : List Ent, E.length = n ∧ (∀ (j : Nat) (v : Value), (zcs E)[j]? = some v → ad.block < B ∧ w.cell? (ad.add j) = some v) ∧ (∀ (j : Nat) (e : Ent) (z : Int), E[j]? = some e → L[j]? = some z → RdZ w B e.1 e.2.1 e.2.2.1 e.2.2.2 z ∧ e.2.2.1 ≤ N) := by
  have key : ∀ j : Fin n, ∃ e : Ent, w.cell? (ad.add (j.1 * 2)) = some (.bool e.1) ∧ w.cell? (ad.add (j.1 * 2 + 1)) = some (.slice e.2.1 e.2.2.1 e.2.2.2) ∧ ∀ z, L[j.1]? = some z → RdZ w B e.1 e.2.1 e.2.2.1 e.2.2.2 z ∧ e.2.2.1 ≤ N := by
    intro j
    obtain ⟨ad', s, A', n', c', z, e, hbk, h0, h1, hr, hn, hz⟩ := zs_at h j.2
    injection e with e
    subst e
    refine ⟨(s, A', n', c'), h0, by rw [add_next]; exact h1, fun z' hz' => ?_⟩
    rw [hz.out] at hz'
    injection hz' with hz'
    subst hz'
    exact ⟨hr, hn⟩
  obtain ⟨f, hf⟩ : ∃ f : Fin n → Ent, ∀ j : Fin n, w.cell? (ad.add (j.1 * 2)) = some (.bool (f j).1) ∧ w.cell? (ad.add (j.1 * 2 + 1)) = some (.slice (f j).2.1 (f j).2.2.1 (f j).2.2.2) ∧ ∀ z, L[j.1]? = some z → RdZ w B (f j).1 (f j).2.1 (f j).2.2.1 (f j).2.2.2 z ∧ (f j).2.2.1 ≤ N := ⟨fun j => Classical.choose (key j), fun j => Classical.choose_spec (key j)⟩
  have get : ∀ (j : Nat) (e : Ent), (List.ofFn f)[j]? = some e → ∃ hj : j < n, e = f ⟨j, hj⟩ := by
    intro j e he
    rcases Nat.lt_or_ge j n with hj | hj
    · rw [List.getElem?_eq_getElem (by simpa using hj)] at he
      simp at he
      exact ⟨hj, he.symm⟩
    · rw [List.getElem?_eq_none (by simpa using hj)] at he; cases he
  refine ⟨List.ofFn f, by simp, fun j v hv => ?_, fun j e z he hz => ?_⟩
  · have hpos : 0 < n := by
      obtain ⟨q, e, he, _⟩ := zcs_inv hv
      obtain ⟨hq, _⟩ := get q e he
      omega
    obtain ⟨ad', _, _, _, _, _, e0, hbk, _⟩ := zs_at h hpos
    injection e0 with e0
    subst e0
    refine ⟨hbk, ?_⟩
    obtain ⟨q, e, he, h1 | h1⟩ := zcs_inv hv
    · obtain ⟨hq, rfl⟩ := get q e he
      rw [h1.1, h1.2]
      exact (hf ⟨q, hq⟩).1
    · obtain ⟨hq, rfl⟩ := get q e he
      rw [h1.1, h1.2]
      exact (hf ⟨q, hq⟩).2.1
  · obtain ⟨hj, rfl⟩ := get j e he
    exact (hf ⟨j, hj⟩).2.2 z hz
theorem rdzs_of_row {w : World} {b N : Nat} {A : Option Addr} {n c : Nat} {E : List Ent} {L : List Int} (hr : w.ownsRow b 28 2 (.slice A n c) n (zcs E)) (hE : E.length = n) (hL : L.length = n)
    (hel : ∀ (j : Nat) (e : Ent) (z : Int), E[j]? = some e → L[j]? = some z → RdZ w w.heap.size e.1 e.2.1 e.2.2.1 e.2.2.2 z ∧ e.2.2.1 ≤ N) : RdZs w w.heap.size N A n c L := by
  rcases hr.2 with ⟨h1, h2⟩ | ⟨g, cap, cur, h1, h2, h3, h4, h5, _⟩
  · injection h1 with h1 h1' h1''
    subst h2
    refine ⟨hL, Nat.zero_le _, by rw [h1'']; exact Nat.zero_le _, fun j z hz => ?_⟩
    rw [List.eq_nil_of_length_eq_zero hL] at hz
    simp at hz
  · injection h1 with h1 h1' h1''
    subst h1 h1''
    refine ⟨hL, h4, h5, fun j z hz => ?_⟩
    have hj : j < L.length := by
      rcases Nat.lt_or_ge j L.length with h6 | h6
      · exact h6
      · rw [List.getElem?_eq_none h6] at hz; cases hz
    have hjE : j < E.length := by omega
    have he := List.getElem?_eq_getElem hjE
    have hz' := hel j _ z he hz
    obtain ⟨c0, c1⟩ := zcs_at E j _ he
    have e1 : (⟨g, 0, none⟩ : Addr).add (j * 2) = ⟨g, j * 2, none⟩ := add_base g _
    refine ⟨_, _, _, _, _, rfl, (Array.getElem?_eq_some_iff.1 h3).1, ?_, ?_, hz'.1, hz'.2⟩
    · rw [e1, hr.cellAt (j * 2) (by omega)]; exact c0
    · rw [e1]
      show w.cell? ⟨g, j * 2 + 1, none⟩ = _
      rw [hr.cellAt (j * 2 + 1) (by omega)]
      exact c1
theorem zcs_one_cell (E : List Ent) : ∀ u ∈ zcs E, u.oneCell' = true := by
  intro u hu
  obtain ⟨j, hj⟩ := List.getElem?_of_mem hu
  obtain ⟨q, e, _, h | h⟩ := zcs_inv hj <;> rw [h.2] <;> rfl
/-- Times a power of x. -/
def sh (k : Nat) (f : Nat → Int) (i : Nat) : Int := if i < k then 0 else f (i - k)
theorem co_shift (k : Nat) (L : List Int) (i : Nat) : Pz.co (List.replicate k 0 ++ L) i = sh k (Pz.co L) i := by
  unfold sh Pz.co
  rw [List.getD_eq_getElem?_getD, List.getD_eq_getElem?_getD]
  by_cases h : i < k
  · rw [if_pos h, List.getElem?_append_left (by simpa using h)]
    simp [h]
  · rw [if_neg h, List.getElem?_append_right (by simp; omega)]
    simp

theorem OwZs.nilOk {w : World} {b : Nat} {A : Option Addr} {n c : Nat} {L : List Int} (h : OwZs w b A n c L) : NilOk A n c := fun e => by
  rcases h.form with ⟨_, h1, h2⟩ | ⟨g, h1, _⟩
  · exact ⟨h1, h2⟩
  · rw [h1] at e; cases e
theorem rd_of {w : World} {b N : Nat} {A : Option Addr} {n c : Nat} {M : List Int} {f : Nat → Int} (h : OwZs w b A n c M) (hM : Pz.IsP f M) (hf : ∀ i, Zz.zl (f i) ≤ N) : RdZs w w.heap.size N A n c M := h.rd fun z hz => by
  obtain ⟨i, _, rfl⟩ := Pz.mem_co hz
  rw [hM.2]
  exact hf i
theorem sh_zl {k N : Nat} {f : Nat → Int} (hf : ∀ i, Zz.zl (f i) ≤ N) (i : Nat) : Zz.zl (sh k f i) ≤ N := by
  unfold sh
  split
  · rw [Zz.zl_zero]; exact Nat.zero_le _
  · exact hf _

end Go.Proofs.YtipbpdiahemmpaaGreat

/- Values of polynomials over the integers. Nothing of the program. -/
namespace Pz
/-- From the top down. -/
def hor (a : Nat → Int) (x : Int) (n : Nat) : Nat → Int
  | 0 => 0
  | d + 1 => hor a x n d * x + a (n - 1 - d)
/-- From the bottom up. -/
def psum (a : Nat → Int) (x : Int) : Nat → Int
  | 0 => 0
  | i + 1 => psum a x i + a i * x ^ i
theorem hor_succ (a : Nat → Int) (x : Int) (n d : Nat) : hor a x n (d + 1) = hor a x n d * x + a (n - 1 - d) := rfl
theorem psum_succ (a : Nat → Int) (x : Int) (i : Nat) : psum a x (i + 1) = psum a x i + a i * x ^ i := rfl
theorem hor_psum (a : Nat → Int) (x : Int) (n : Nat) : ∀ d, d ≤ n → hor a x n d * x ^ (n - d) + psum a x (n - d) = psum a x n
  | 0, _ => by simp [hor]
  | d + 1, h => by
    have ih := hor_psum a x n d (by omega)
    obtain ⟨k, hk⟩ : ∃ k, n - d = k + 1 := ⟨n - d - 1, by omega⟩
    rw [hk, psum_succ] at ih
    rw [hor_succ, show n - (d + 1) = k by omega, show n - 1 - d = k by omega, ← ih, Int.pow_succ]
    generalize x ^ k = p
    generalize psum a x k = s
    generalize hor a x n d = y
    generalize a k = z
    grind
theorem hor_all (a : Nat → Int) (x : Int) (n : Nat) : hor a x n n = psum a x n := by
  have h := hor_psum a x n n (Nat.le_refl _)
  rw [Nat.sub_self] at h
  simpa [psum] using h
theorem hor_zl {a : Nat → Int} {x : Int} {N N' : Nat} (ha : ∀ i, Zz.zl (a i) ≤ N) (hx : Zz.zl x ≤ N') (n : Nat) : ∀ d, Zz.zl (hor a x n d) ≤ N + d * (N' + 1)
  | 0 => by rw [show hor a x n 0 = 0 from rfl, Zz.zl_zero]; omega
  | d + 1 => by
    have ih := hor_zl ha hx n d
    have e1 := Zz.zl_add (hor a x n d * x) (a (n - 1 - d))
    have e2 := Zz.zl_mul (hor a x n d) x
    have e3 := ha (n - 1 - d)
    rw [hor_succ, Nat.succ_mul]
    omega
end Pz

/- Reference 07, fifth part: the value at a number. -/
namespace Go.Proofs.YtipbpdiahemmpaaGreat
open Go.RowKit Go.IntWalk
attribute [local go_sem ↓] Go.wp_at_zero Go.wp_at_succ

theorem pow_zl {x : Int} {N' : Nat} (hx : Zz.zl x ≤ N') : ∀ i, Zz.zl (x ^ i) ≤ i * N' + 1
  | 0 => by rw [Int.pow_zero]; exact Nat.le_trans (Zz.zl_small (by decide)) (by omega)
  | i + 1 => by
    have ih := pow_zl hx i
    have e := Zz.zl_mul (x ^ i) x
    rw [Int.pow_succ, Nat.succ_mul]
    omega
theorem psum_zl {a : Nat → Int} {x : Int} {N N' n : Nat} (ha : ∀ i, Zz.zl (a i) ≤ N) (hx : Zz.zl x ≤ N') : ∀ i, i ≤ n → Zz.zl (Pz.psum a x i) ≤ N + n * N' + 1 + i
  | 0, _ => by rw [show Pz.psum a x 0 = 0 from rfl, Zz.zl_zero]; omega
  | i + 1, h => by
    have ih := psum_zl (n := n) ha hx i (by omega)
    have e1 := Zz.zl_add (Pz.psum a x i) (a i * x ^ i)
    have e2 := Zz.zl_mul (a i) (x ^ i)
    have e3 := ha i
    have e4 := pow_zl hx i
    have e5 : i * N' ≤ n * N' := Nat.mul_le_mul_right _ (by omega)
    rw [Pz.psum_succ]
    omega

theorem ozc_put {w : World} {b g k m : Nat} {u t s : Bool} {A A' B : Option Addr} {n c n' c' : Nat} {z : Int} (h : OwZ w b u A k m z) (hz : ZC w g s A' n c) : OwZ ((w.setCell ⟨g, 0, none⟩ (.bool t)).setCell ⟨g, 1, none⟩ (.slice B n' c')) b u A k m z := by
  refine ⟨own_other h.own hz fun i _ hne => ?_, h.sgn⟩
  exact (Below.heap_setCell _ (⟨g, 1, none⟩ : Addr) _ i hne).trans (Below.heap_setCell _ (⟨g, 0, none⟩ : Addr) _ i hne)

end Go.Proofs.YtipbpdiahemmpaaGreat
