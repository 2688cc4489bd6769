/- zpoly: a coefficient; two lists coefficient by coefficient; sum and difference; times a number. -/
import Derived.Test.YtipbpdiahemmpaaQj
import Derived.Test.YtipbpdiahemmpaaQp
import Derived.Deep.RegionWith
namespace Go.Proofs.Ytipbpdiahemmpaa
open Go.RowKit Go.IntWalk
attribute [local go_sem ↓] Go.wp_at_zero Go.wp_at_succ

theorem EntF.congr {w : World} {b : Nat} {E : List Ent} {f g : Nat → Int} (h : EntF w b E f) (e : ∀ i, f i = g i) : EntF w b E g := fun i x hx => by rw [← e]; exact h i x hx
/-- An integer comes back that others hold too. -/
def RetS (z : Int) (N : Nat) (w : World) (e : Ending) (w' : World) : Prop :=
  ∃ (s : Bool) (A : Option Addr) (n c : Nat) (y : Int), e = .returned (.agg #[.bool s, .slice A n c]) ∧ RdZ w' w'.heap.size s A n c y ∧ n ≤ N ∧ Hid (y = z) ∧ Below w.heap.size w w'

set_option maxHeartbeats 1000000 in
theorem zat_any {N : Nat} {A : Option Addr} {n c : Nat} {L : List Int} {w : World} (i : Nat) (h : RdZs w w.heap.size N A n c L) :
    Calls Try.prog 64 #[.slice A n c, .int .i64 i] w (RetS (Pz.co L i) N w) := by
  have HLEN := Lib.hid h.len
  obtain ⟨W1, HW1⟩ : ∃ W, W = w.alloc (.cells #[.bool false, .slice none 0 0] 40) := ⟨_, rfl⟩
  have hR : ZC W1 w.heap.size false none 0 0 := by rw [HW1]; exact ZC.new w false none 0 0
  have hB : Below w.heap.size w W1 := by rw [HW1]; exact (Below.refl w.heap.size w).alloc (Nat.le_refl _) _
  have HS := Lib.hid hR.lt
  by_cases hin : i < n
  · obtain ⟨ad, s, A1, n1, c1, z, rfl, hbk, hx0, hx1, hr, hn1, hz⟩ := zs_at h hin
    have hini : (i : Int) < (n : Int) := by omega
    have hp := put_int hR hB (Nat.le_refl _) (OwZ.zero W1 W1.heap.size) HS.out
    have hZ2 := hR.store s A1 n1 c1
    have hB2 := (hB.setCell (p := ⟨w.heap.size, 0, none⟩) (Nat.le_refl _) (.bool s)).setCell (p := ⟨w.heap.size, 1, none⟩) (Nat.le_refl _) (.slice A1 n1 c1)
    have e0 : w.alloc (.cells #[.bool s, .slice A1 n1 c1] 40) = w.alloc (.cells #[.bool s, .slice A1 n1 c1] 40) := rfl
    have hZ3 := ZC.new w s A1 n1 c1
    have hB3 : Below w.heap.size w (w.alloc (.cells #[.bool s, .slice A1 n1 c1] 40)) := (Below.refl w.heap.size w).alloc (Nat.le_refl _) _
    have HR3 := Lib.hid (hr.next hB3)
    obtain ⟨hy0, hy1⟩ := zs_cells hB hbk hx0 hx1
    rw [HW1] at hy0 hy1
    clear hp hZ2 hB2 e0 hin hR HS
    clear HW1
    go_enter Try.func64, Try.ntmps64
    go_wp2
    generalize w.alloc (.cells #[.bool s, .slice A1 n1 c1] 40) = W3 at *
    exact bodyPost_ret (by simp [results, Try.results64, go_sem, hZ3.c0, hZ3.c1]) rfl ⟨_, _, _, _, _, rfl, HR3.out, hn1, Lib.hid (Pz.co_get hz.out).symm, hB3⟩
  · have hini : (n : Int) ≤ (i : Int) := by omega
    have HZ := Lib.hid (show Pz.co L i = 0 from Pz.co_ge (by rw [HLEN.out]; omega))
    have hZ3 := ZC.new w false none 0 0
    have hB3 : Below w.heap.size w (w.alloc (.cells #[.bool false, .slice none 0 0] 40)) := (Below.refl w.heap.size w).alloc (Nat.le_refl _) _
    clear hin HW1 hR
    go_enter Try.func64, Try.ntmps64
    go_wp2
    generalize w.alloc (.cells #[.bool false, .slice none 0 0] 40) = W3 at *
    exact bodyPost_ret (by simp [results, Try.results64, go_sem, hZ3.c0, hZ3.c1]) rfl ⟨false, none, 0, 0, 0, rfl, RdZ.zero _ _ _, Nat.zero_le _, Lib.hid HZ.out.symm, hB3⟩

theorem zl_co {w : World} {B N : Nat} {A : Option Addr} {n c : Nat} {L : List Int} (h : RdZs w B N A n c L) (i : Nat) : Zz.zl (Pz.co L i) ≤ N := by
  rcases Nat.lt_or_ge i n with hi | hi
  · obtain ⟨_, _, _, _, _, z, _, _, _, _, hr, hn, hz⟩ := zs_at h hi
    rw [Pz.co_get hz.out]
    exact Nat.le_trans hr.len hn
  · rw [Pz.co_ge (by rw [h.len]; exact hi), Zz.zl_zero]
    exact Nat.zero_le _

set_option maxRecDepth 100000 in
set_option maxHeartbeats 4000000 in
theorem both_any {f N N' N2 : Nat} (φ : Int → Int → Int) {A A' : Option Addr} {n c n' c' : Nat} {L L' : List Int} {w : World} (h : RdZs w w.heap.size N A n c L) (h' : RdZs w w.heap.size N' A' n' c' L') (hn : n ≤ 4398046511103) (hn' : n' ≤ 4398046511103) (hN2 : N2 ≤ 17592186044416)
    (heg : ∀ args w, (callFunc f args).run Try.prog w = .ok (.enter f args) w) (h0 : φ 0 0 = 0) (hsz : ∀ i, Zz.zl (φ (Pz.co L i) (Pz.co L' i)) ≤ N2)
    (hdo : ∀ (W : World) (s s' : Bool) (A A' : Option Addr) (m c m' c' : Nat) (z z' : Int), RdZ W W.heap.size s A m c z → RdZ W W.heap.size s' A' m' c' z' → m ≤ N → m' ≤ N' → Calls Try.prog f #[.agg #[.bool s, .slice A m c], .agg #[.bool s', .slice A' m' c']] W (RetI (φ z z') W)) :
    Calls Try.prog 42 #[.slice A n c, .slice A' n' c', .func (.func f) #[] #[]] w (RetP (fun i => φ (Pz.co L i) (Pz.co L' i)) w) := by
  have HD := Lib.hid hdo
  have HSZ := Lib.hid hsz
  have H0 := Lib.hid h0
  have HL := Lib.hid (And.intro h.len h'.len)
  clear hdo hsz h0
  obtain ⟨m, hm⟩ : ∃ m, m = max n n' := ⟨_, rfl⟩
  have hmx : m ≤ 4398046511103 := by omega
  have hmi : max (n : Int) n' = (m : Int) := by omega
  have hmk := make_zs m (by omega)
  have hZ0 := ZB.made w m
  have hE0 := EntF.zeros (w.alloc (.cells (zcs (List.replicate m (false, none, 0, 0))).toArray 40)) w.heap.size m
  have hB0 := (Below.refl w.heap.size w).alloc (Nat.le_refl _) (.cells (zcs (List.replicate m (false, none, 0, 0))).toArray 40)
  have HM := Lib.hid hm
  clear hm
  go_enter Try.func42, Try.ntmps42
  go_wp2_with fail
  generalize w.alloc (.cells (zcs (List.replicate m (false, none, 0, 0))).toArray 40) = W1 at *
  obtain ⟨g, hg⟩ : ∃ g, g = w.heap.size := ⟨_, rfl⟩
  rw [← hg] at hZ0 ⊢
  have HG := Lib.hid hg
  clear hmk hg
  go_loopw [17] (fun iv wr => ∃ (j : Nat) (E : List Ent), iv = .int .i64 j ∧ j ≤ m ∧ ZB wr g E ∧ Hid (E.length = m) ∧ EntF wr w.heap.size E (fun i => if i < j then φ (Pz.co L i) (Pz.co L' i) else 0) ∧ Below w.heap.size w wr) (fun iv _ => m - (intOf iv).toNat)
  case atStart => exact ⟨0, _, rfl, Nat.zero_le _, hZ0, Lib.hid (by simp), fun i e he => by simpa using hE0 i e he, hB0⟩
  case round =>
    clear hZ0 hE0 hB0
    obtain ⟨j, E, rfl, hj, hZ, hEl, hE, hB⟩ := hrel
    by_cases hjm : j = m
    · subst hjm
      have ho := (hZ.own hE (by rw [HG.out]; exact Nat.le_refl _) hEl.out (by unfold maxLen; omega))
      have hrd := ho.rd (N := N2) (fun z hz => by
        obtain ⟨i, hi, rfl⟩ := List.mem_map.1 hz
        split
        · exact HSZ.out i
        · rw [Zz.zl_zero]; exact Nat.zero_le _)
      go_wp2_with fail
      refine (znorm_any hrd (by omega) hN2).mono ?_
      rintro _ W4 ⟨A4, n4, c4, M4, rfl, ho4, hM4, hb4⟩
      go_wp2
      go_ret
      refine ⟨_, _, _, M4, rfl, ho4.base hB.size, Lib.hid (hM4.out.congr fun i => ?_), hB.trans (hb4.mono hB.size)⟩
      rcases Nat.lt_or_ge i j with hi | hi
      · rw [Pz.co_get (z := φ (Pz.co L i) (Pz.co L' i)) (by rw [List.getElem?_map, List.getElem?_range hi]; simp [hi])]
      · rw [Pz.co_ge (by simpa using hi), Pz.co_ge (by rw [HL.out.1]; have := HM.out; omega), Pz.co_ge (by rw [HL.out.2]; have := HM.out; omega), H0.out]
    · have hjl : j < m := by omega
      have hjli : (j : Int) < (m : Int) := by omega
      clear hjm
      have hfz0 := hZ.frozen (j * 2)
      go_wp2_with fail
      refine (zat_any j (h.next hB)).mono ?_
      rintro _ W2 ⟨s2, A2, n2, c2, z2, rfl, hr2, hn2, hz2, hb2⟩
      have hB2 := hB.trans (hb2.mono hB.size)
      go_wp2_with fail
      refine (zat_any j (h'.next hB2)).mono ?_
      rintro _ W3 ⟨s3, A3, n3, c3, z3, rfl, hr3, hn3, hz3, hb3⟩
      have hB3 := hB2.trans (hb3.mono hB2.size)
      go_wp2_with fail
      refine (HD.out W3 _ _ _ _ _ _ _ _ _ _ (hr2.next hb3) hr3 hn2 hn3).mono ?_
      rintro _ W4 ⟨s4, A4, n4, c4, z4, rfl, ho4, hz4, hb4⟩
      have hB4 := hB3.trans (hb4.mono hB3.size)
      have hb24 := hb2.trans ((hb3.trans (hb4.mono hb3.size)).mono hb2.size)
      have hZ4 := hZ.next hb24
      have hE4 := hE.next hb24
      obtain ⟨e, he⟩ : ∃ e, E[j]? = some e := ⟨E[j]'(by rw [hEl.out]; exact hjl), List.getElem?_eq_getElem _⟩
      obtain ⟨k0, k1⟩ := hZ4.cells he
      have f0 := hZ4.frozen (j * 2)
      have f1 := hZ4.frozen (j * 2 + 1)
      have hZ5 := hZ4.store j (s4, A4, n4, c4)
      have hE5 := hE4.store (j := j) (e := (s4, A4, n4, c4)) (z := z4) hZ4 (ho4.base hB3.size)
      have hB5 := (hB4.setCell (p := ⟨g, j * 2, none⟩) (by show w.heap.size ≤ g; have := HG.out; omega) (.bool s4)).setCell (p := ⟨g, j * 2 + 1, none⟩) (by show w.heap.size ≤ g; have := HG.out; omega) (.slice A4 n4 c4)
      have HF := Lib.hid (show z4 = φ (Pz.co L j) (Pz.co L' j) by rw [hz4.out, hz2.out, hz3.out])
      have HZ5 := Lib.hid hZ5
      have HE5 := Lib.hid hE5
      clear hZ5 hE5 hb24 hb2 hb3 hb4 hZ hE he
      go_wp2_with fail
      go_roundw
      case rel => exact ⟨j + 1, E.set j (s4, A4, n4, c4), by go_num, by omega, HZ5.out, Lib.hid (by rw [List.length_set]; exact hEl.out), HE5.out.congr fun i => (by
        by_cases e1 : i = j
        · subst e1; rw [if_pos rfl, if_pos (Nat.lt_succ_self _), HF.out]
        · rw [if_neg e1]
          by_cases e2 : i < j
          · rw [if_pos e2, if_pos (by omega)]
          · rw [if_neg e2, if_neg (by omega)]), hB5⟩
      case measure => simp [intOf]; omega

set_option maxHeartbeats 1000000 in
theorem zadd_any {N N' : Nat} {A A' : Option Addr} {n c n' c' : Nat} {L L' : List Int} {w : World} (h : RdZs w w.heap.size N A n c L) (h' : RdZs w w.heap.size N' A' n' c' L') (hn : n ≤ 4398046511103) (hn' : n' ≤ 4398046511103) (hN : N ≤ 8796093022207) (hN' : N' ≤ 8796093022207) :
    Calls Try.prog 14 #[.slice A n c, .slice A' n' c'] w (RetP (fun i => Pz.co L i + Pz.co L' i) w) := by
  have hEN := enters_of Try.func43 (by kernel_rfl) rfl
  have HC := Lib.hid (And.intro (zl_co h) (zl_co h'))
  go_enter Try.func14, Try.ntmps14
  go_wp2_with fail
  refine (both_any (N2 := max N N' + 1) (fun x y => x + y) h h' hn hn' (by omega) hEN (by decide) (fun i => by have e1 := Zz.zl_add (Pz.co L i) (Pz.co L' i); have e2 := HC.out.1 i; have e3 := HC.out.2 i; omega) (fun W s s' A A' m c m' c' z z' hr hr' hm hm' => add_any hr hr' (by omega) (by omega))).mono ?_
  rintro _ W2 ⟨A2, n2, c2, M2, rfl, ho2, hM2, hb2⟩
  go_wp2
  go_ret
  exact ⟨_, _, _, M2, rfl, ho2, hM2, hb2⟩

set_option maxHeartbeats 1000000 in
theorem zsub_any {N N' : Nat} {A A' : Option Addr} {n c n' c' : Nat} {L L' : List Int} {w : World} (h : RdZs w w.heap.size N A n c L) (h' : RdZs w w.heap.size N' A' n' c' L') (hn : n ≤ 4398046511103) (hn' : n' ≤ 4398046511103) (hN : N ≤ 8796093022207) (hN' : N' ≤ 8796093022207) :
    Calls Try.prog 16 #[.slice A n c, .slice A' n' c'] w (RetP (fun i => Pz.co L i - Pz.co L' i) w) := by
  have hEN := enters_of Try.func45 (by kernel_rfl) rfl
  have HC := Lib.hid (And.intro (zl_co h) (zl_co h'))
  go_enter Try.func16, Try.ntmps16
  go_wp2_with fail
  refine (both_any (N2 := max N N' + 1) (fun x y => x - y) h h' hn hn' (by omega) hEN (by decide) (fun i => by have e1 := Zz.zl_sub (Pz.co L i) (Pz.co L' i); have e2 := HC.out.1 i; have e3 := HC.out.2 i; omega) (fun W s s' A A' m c m' c' z z' hr hr' hm hm' => sub_any hr hr' (by omega) (by omega))).mono ?_
  rintro _ W2 ⟨A2, n2, c2, M2, rfl, ho2, hM2, hb2⟩
  go_wp2
  go_ret
  exact ⟨_, _, _, M2, rfl, ho2, hM2, hb2⟩

set_option maxHeartbeats 1000000 in
theorem scaleIn_any {B N N' : Nat} {s s' : Bool} {A A' : Option Addr} {n c n' c' : Nat} {z z' : Int} {w : World} (h : RdZ w w.heap.size s A n c z) (hC : ZC w B s' A' n' c') (h' : RdZ w w.heap.size s' A' n' c' z') (hn : n ≤ N) (hn' : n' ≤ N') (hN : N ≤ 4398046511103) (hN' : N' ≤ 4398046511103) :
    Calls Try.prog 48 #[.agg #[.bool s, .slice A n c], .pointer (some ⟨B, 0, none⟩)] w (RetI (z * z') w) := by
  obtain ⟨hZ, hR, hB⟩ := boxed1 w s A n c
  have h1 := h.next hB
  have h1' := h'.next hB
  have hC1 := hC.next hB
  have HSZ := Lib.hid (Nat.lt_trans (Nat.lt_succ_self _) hR.lt)
  have hc0 := hC1.c0
  have hc1 := hC1.c1
  go_enter Try.func48, Try.ntmps48
  go_wp2_with fail
  generalize (w.alloc (.cells #[.bool s, .slice A n c] 40)).alloc (.cells #[.bool false, .slice none 0 0] 40) = W1 at *
  refine (imul_any h1 h1' (by omega) (by omega)).mono ?_
  rintro _ W4 ⟨s4, A4, m4, c4, z4, rfl, ho4, hz4, hb4⟩
  have hR4 := hR.next hb4
  have hB4 := hB.trans (hb4.mono hB.size)
  have HS1 := Lib.hid hR.lt
  have hd0 := hR4.c0
  have hd1 := hR4.c1
  have hf0 := hR4.fz 0
  have hf1 := hR4.fz 1
  clear hb4 hZ hR hC1 hc0 hc1 hC
  go_wp2
  have hp := put_int hR4 hB4 (Nat.le_succ _) ho4 HS1.out
  generalize (W4.setCell ⟨w.heap.size + 1, 0, none⟩ (.bool s4)).setCell ⟨w.heap.size + 1, 1, none⟩ (.slice A4 m4 c4) = W5 at hp ⊢
  obtain ⟨hZ5, ho5, hB5⟩ := hp
  exact bodyPost_ret (by simp [results, Try.results48, go_sem, hZ5.c0, hZ5.c1]) rfl ⟨_, _, _, _, _, rfl, ho5.base (Nat.le_of_lt HSZ.out), hz4, hB5⟩

set_option maxHeartbeats 1000000 in
theorem zscale_any {N N' : Nat} {s : Bool} {A A' : Option Addr} {n c n' c' : Nat} {L : List Int} {z : Int} {w : World} (h : RdZs w w.heap.size N A n c L) (h' : RdZ w w.heap.size s A' n' c' z) (hn : n ≤ 4398046511103) (hn' : n' ≤ N') (hN : N ≤ 4398046511103) (hN' : N' ≤ 4398046511103) :
    Calls Try.prog 20 #[.slice A n c, .agg #[.bool s, .slice A' n' c']] w (RetP (fun i => Pz.co L i * z) w) := by
  have hEN := enters_of Try.func48 (by kernel_rfl) rfl
  have HC := Lib.hid (zl_co h)
  have HLN := Lib.hid h.len
  have HLZ := Lib.hid h'.len
  have hZ := ZC.new w s A' n' c'
  have hB : Below w.heap.size w (w.alloc (.cells #[.bool s, .slice A' n' c'] 40)) := (Below.refl w.heap.size w).alloc (Nat.le_refl _) _
  go_enter Try.func20, Try.ntmps20
  go_wp2_with fail
  generalize w.alloc (.cells #[.bool s, .slice A' n' c'] 40) = W1 at *
  refine (mapped_cap (N := N) (fun x => x * z) (h.next hB) hn hEN (fun W s2 A2 m c2 x hb hr hm => scaleIn_any (N := N) (N' := N') hr (hZ.next hb) ((h'.next hB).next hb) hm hn' hN hN')).mono ?_
  rintro _ W2 ⟨A2, n2, c2, M2, rfl, ho2, hM2, hb2⟩
  have hB2 := hB.trans (hb2.mono hB.size)
  have hrd := ho2.rd (N := N + N') (fun y hy => by
    rw [hM2.out] at hy
    obtain ⟨x, hx, rfl⟩ := List.mem_map.1 hy
    obtain ⟨i, hi, rfl⟩ := Pz.mem_co hx
    have e1 := Zz.zl_mul (Pz.co L i) z
    have e2 := HC.out i
    have e3 := HLZ.out
    omega)
  have hnn : n2 ≤ 4398046511103 := by
    have e := ho2.len
    rw [hM2.out, List.length_map, HLN.out] at e
    omega
  go_wp2_with fail
  refine (znorm_any hrd hnn (by omega)).mono ?_
  rintro _ W4 ⟨A4, n4, c4, M4, rfl, ho4, hM4, hb4⟩
  go_wp2
  go_ret
  exact ⟨_, _, _, M4, rfl, ho4.base hB2.size, Lib.hid (hM4.out.congr fun i => by rw [hM2.out]; exact Pz.co_map (by simp) L i), hB2.trans (hb4.mono hB2.size)⟩
end Go.Proofs.Ytipbpdiahemmpaa

/- zpoly: the product. -/
namespace Go.Proofs.Ytipbpdiahemmpaa
open Go.RowKit Go.IntWalk
attribute [local go_sem ↓] Go.wp_at_zero Go.wp_at_succ

theorem isp_zl {f : Nat → Int} {M : List Int} {N : Nat} (h : Pz.IsP f M) (hf : ∀ i, Zz.zl (f i) ≤ N) : ∀ z ∈ M, Zz.zl z ≤ N := fun z hz => by
  obtain ⟨i, _, rfl⟩ := Pz.mem_co hz
  rw [h.2]
  exact hf i

set_option maxRecDepth 100000 in
set_option maxHeartbeats 8000000 in
theorem zmul_any {N N' : Nat} {A A' : Option Addr} {n c n' c' : Nat} {L L' : List Int} {w : World} (h : RdZs w w.heap.size N A n c L) (h' : RdZs w w.heap.size N' A' n' c' L') (hn : n ≤ 4294967290) (hn' : n' ≤ 4294967290) (hN : N ≤ 2199023255551) (hN' : N' ≤ 2199023255551) :
    Calls Try.prog 18 #[.slice A n c, .slice A' n' c'] w (RetP (Pz.cvp (Pz.co L) (Pz.co L') n) w) := by
  have HC := Lib.hid (And.intro (zl_co h) (zl_co h'))
  have HLN := Lib.hid (And.intro h.len h'.len)
  go_enter Try.func18, Try.ntmps18
  go_wp2_with fail
  refine (znorm_any h (by omega) (by omega)).mono ?_
  rintro _ W1 ⟨A1, m1, c1, M1, rfl, ho1, hM1, hb1⟩
  go_wp2_with fail
  refine (znorm_any (h'.next hb1) (by omega) (by omega)).mono ?_
  rintro _ W2 ⟨A2, m2, c2, M2, rfl, ho2, hM2, hb2⟩
  have hr1 := (ho1.next hb2).rd (N := N) (isp_zl hM1.out HC.out.1)
  have hr2 := ho2.rd (N := N') (isp_zl hM2.out HC.out.2)
  have hm1 : m1 ≤ n := by rw [← ho1.len]; exact hM1.out.len fun i hi => Pz.co_ge (by rw [HLN.out.1]; exact hi)
  have hm2 : m2 ≤ n' := by rw [← ho2.len]; exact hM2.out.len fun i hi => Pz.co_ge (by rw [HLN.out.2]; exact hi)
  have HLM := Lib.hid (And.intro ho1.len ho2.len)
  have HB := Lib.hid (hb1.trans (hb2.mono hb1.size))
  have HEQ := Lib.hid (show ∀ t, Pz.cvp (Pz.co L) (Pz.co L') n t = Pz.cvp (Pz.co M1) (Pz.co M2) m1 t from fun t => by
    rw [Pz.cvp_congr (fun i => (hM1.out.2 i).symm) (fun i => (hM2.out.2 i).symm)]
    exact Pz.cvp_stop' (fun i hi => Pz.co_ge (by rw [HLM.out.1]; exact hi)) hm1 t)
  have HCM := Lib.hid (show (∀ i, Zz.zl (Pz.co M1 i) ≤ N) ∧ (∀ i, Zz.zl (Pz.co M2 i) ≤ N') from ⟨fun i => by rw [hM1.out.2]; exact HC.out.1 i, fun i => by rw [hM2.out.2]; exact HC.out.2 i⟩)
  clear ho1 ho2 hb1 hb2 h h'
  rcases Nat.eq_zero_or_pos m1 with e1 | e1
  · subst e1
    go_wp2
    go_ret
    exact ⟨none, 0, 0, [], rfl, OwZs.nil _ _, Lib.hid ⟨Pz.nz_nil, fun t => by rw [HEQ.out t, Pz.co_nil]; rfl⟩, HB.out⟩
  rcases Nat.eq_zero_or_pos m2 with e2 | e2
  · subst e2
    have hmb : ((m1 : Int) == 0) = false := by simp; omega
    go_wp2
    go_ret
    exact ⟨none, 0, 0, [], rfl, OwZs.nil _ _, Lib.hid ⟨Pz.nz_nil, fun t => by
      rw [HEQ.out t, Pz.co_nil]
      have e3 : ∀ i, Pz.cvp (Pz.co M1) (Pz.co M2) i t = 0 := by
        intro i
        induction i with
        | zero => rfl
        | succ i ih =>
          rw [Pz.cvp_succ, ih, Pz.co_ge (L := M2) (i := t - i) (by rw [HLM.out.2]; omega)]
          simp
      exact (e3 m1).symm⟩, HB.out⟩
  have hmb : ((m1 : Int) == 0) = false := by simp; omega
  have hmb' : ((m2 : Int) == 0) = false := by simp; omega
  obtain ⟨m, hm⟩ : ∃ m, m = m1 + m2 - 1 := ⟨_, rfl⟩
  have hmi : (m1 : Int) + m2 - 1 = m := by omega
  have hmk := make_zs m (by omega)
  have hZ0 := ZB.made W2 m
  have hE0 := EntF.zeros (W2.alloc (.cells (zcs (List.replicate m (false, none, 0, 0))).toArray 40)) w.heap.size m
  have hbm : Below W2.heap.size W2 (W2.alloc (.cells (zcs (List.replicate m (false, none, 0, 0))).toArray 40)) := (Below.refl _ _).alloc (Nat.le_refl _) _
  have HM := Lib.hid hm
  clear hm
  go_wp2_with fail
  obtain ⟨g, hg⟩ : ∃ g, g = W2.heap.size := ⟨_, rfl⟩
  generalize W2.alloc (.cells (zcs (List.replicate m (false, none, 0, 0))).toArray 40) = W3 at *
  rw [← hg] at hZ0 hr1 hr2 hbm ⊢
  have HG := Lib.hid (show w.heap.size ≤ g by rw [hg]; exact HB.out.size)
  have HBG := Lib.hid (show ∀ W : World, Below g W2 W → Below w.heap.size w W from fun W hb => HB.out.trans (hb.mono HG.out))
  have HR1 := Lib.hid hr1
  have HR2 := Lib.hid hr2
  clear hmk hg hr1 hr2
  go_loopw [31] (fun iv wr => ∃ (i : Nat) (E : List Ent), iv = .int .i64 i ∧ i ≤ m1 ∧ ZB wr g E ∧ Hid (E.length = m) ∧ EntF wr w.heap.size E (Pz.cvp (Pz.co M1) (Pz.co M2) i) ∧ Below g W2 wr) (fun iv _ => m1 - (intOf iv).toNat)
  case atStart => exact ⟨0, _, rfl, Nat.zero_le _, hZ0, Lib.hid (by simp), hE0, hbm⟩
  case round =>
    clear hZ0 hE0 hbm
    obtain ⟨i, E, rfl, hi, hZ, hEl, hE, hBg⟩ := hrel
    have hB := HBG.out _ hBg
    by_cases him : i = m1
    · subst him
      have ho := (hZ.own hE HG.out hEl.out (by unfold maxLen; omega))
      have hrd := ho.rd (N := N + N' + 1) (fun z hz => by
        obtain ⟨t, _, rfl⟩ := List.mem_map.1 hz
        exact Pz.cvp_zl HCM.out.1 HCM.out.2 (by omega) t)
      go_wp2_with fail
      refine (znorm_any hrd (by omega) (by omega)).mono ?_
      rintro _ W4 ⟨A4, n4, c4, M4, rfl, ho4, hM4, hb4⟩
      go_wp2
      go_ret
      refine ⟨_, _, _, M4, rfl, ho4.base hB.size, Lib.hid (hM4.out.congr fun t => ?_), hB.trans (hb4.mono hB.size)⟩
      rw [HEQ.out t]
      rcases Nat.lt_or_ge t m with ht | ht
      · rw [Pz.co_get (z := Pz.cvp (Pz.co M1) (Pz.co M2) i t) (by rw [List.getElem?_map, List.getElem?_range ht]; rfl)]
      · rw [Pz.co_ge (by simpa using ht), Pz.cvp_above (k := m2) (fun i hi => Pz.co_ge (by rw [HLM.out.2]; exact hi)) (by have := HM.out; omega)]
    · have hil : i < m1 := by omega
      clear him
      have hili : (i : Int) < (m1 : Int) := by omega
      obtain ⟨ad, s, A3, n3, c3, x, rfl, hbk, hx0, hx1, hrx, hn3, hx⟩ := zs_at HR1.out hil
      obtain ⟨hy0, hy1⟩ := zs_cells hBg hbk hx0 hx1
      obtain ⟨W4, HW4⟩ : ∃ W, W = wr.alloc (.cells #[.bool s, .slice A3 n3 c3] 40) := ⟨_, rfl⟩
      have hX : ZC W4 wr.heap.size s A3 n3 c3 := by rw [HW4]; exact ZC.new wr s A3 n3 c3
      have hb4 : Below wr.heap.size wr W4 := by rw [HW4]; exact (Below.refl _ _).alloc (Nat.le_refl _) _
      have HW4 := Lib.hid HW4
      have HX := Lib.hid (show Pz.co M1 i = x from Pz.co_get hx.out)
      go_wp2_with fail
      rw [← HW4.out]
      clear HW4 hx0 hx1 hx hy0 hy1
      clear HW4
      obtain ⟨gx, hgx⟩ : ∃ g, g = wr.heap.size := ⟨_, rfl⟩
      rw [← hgx] at hX ⊢
      have HGX := Lib.hid (show g < gx by rw [hgx]; exact hZ.lt)
      clear hgx
      have hZ4 := hZ.next hb4
      have hE4 := hE.next hb4
      have hB4 := hBg.trans (hb4.mono (Nat.le_of_lt hZ.lt))
      have HRX := Lib.hid hrx
      clear hZ hE hB hBg hrx hb4
      go_loopw [38] (fun kv wr => ∃ (k : Nat) (E : List Ent), kv = .int .i64 k ∧ k ≤ m2 ∧ ZB wr g E ∧ Hid (E.length = m) ∧ EntF wr w.heap.size E (Pz.cvm (Pz.co M1) (Pz.co M2) i k) ∧ Below g W2 wr ∧ ZC wr gx s A3 n3 c3) (fun kv _ => m2 - (intOf kv).toNat)
      case atStart => exact ⟨0, E, rfl, Nat.zero_le _, hZ4, hEl, hE4.congr fun t => (Pz.cvm_zero _ _ _ _).symm, hB4, hX⟩
      case round =>
        clear hZ4 hE4 hB4 hX hEl
        obtain ⟨k, E, rfl, hk, hZ, hEl, hE, hBg, hX⟩ := hrel
        by_cases hkm : k = m2
        · subst hkm
          go_wp2
          go_roundw
          case rel => exact ⟨i + 1, E, by go_num, by omega, hZ, hEl, hE.congr fun t => Pz.cvm_end (fun j hj => Pz.co_ge (by rw [HLM.out.2]; exact hj)) i t, hBg⟩
          case measure => simp [intOf]; omega
        · have hkl : k < m2 := by omega
          clear hkm
          have hkli : (k : Int) < (m2 : Int) := by omega
          obtain ⟨ad', s', A5, n5, c5, y, rfl, hbk', hx0, hx1, hry, hn5, hy⟩ := zs_at HR2.out hkl
          obtain ⟨hy0, hy1⟩ := zs_cells hBg hbk' hx0 hx1
          obtain ⟨t, ht⟩ : ∃ t, t = i + k := ⟨_, rfl⟩
          have hti : (i : Int) + k = (t : Int) := by omega
          have htl : t < m := by have := HM.out; omega
          have htli : (t : Int) < (m : Int) := by omega
          have htw : IntKind.i64.wrap ((i : Int) + k) = (t : Int) := by rw [IntWalk.i64_in _ (by omega)]; exact hti
          have ht0 : (0 : Int) ≤ (t : Int) := by omega
          obtain ⟨W5, HW5⟩ : ∃ W, W = wr.alloc (.cells #[.bool s', .slice A5 n5 c5] 40) := ⟨_, rfl⟩
          have hY : ZC W5 wr.heap.size s' A5 n5 c5 := by rw [HW5]; exact ZC.new wr s' A5 n5 c5
          have hb5 : Below wr.heap.size wr W5 := by rw [HW5]; exact (Below.refl _ _).alloc (Nat.le_refl _) _
          have HW5 := Lib.hid HW5
          have HYV := Lib.hid (show Pz.co M2 k = y from Pz.co_get hy.out)
          go_upto_region 11 with fail
          rw [← HW5.out]
          clear HW5 hx0 hx1 hy0 hy1 hy
          clear HW5
          obtain ⟨gy, hgy⟩ : ∃ g, g = wr.heap.size := ⟨_, rfl⟩
          rw [← hgy] at hY ⊢
          clear hgy
          have hZ5 := hZ.next hb5
          have HX5 := Lib.hid (hX.next hb5)
          have HY5 := Lib.hid hY
          have HZ5 := Lib.hid hZ5
          have HE5 := Lib.hid (hE.next hb5)
          have HB5 := Lib.hid (hBg.trans (hb5.mono (Nat.le_of_lt hZ.lt)))
          have HRY := Lib.hid hry
          have HT := Lib.hid ht
          obtain ⟨e, he⟩ : ∃ e, E[t]? = some e := ⟨E[t]'(by rw [hEl.out]; exact htl), List.getElem?_eq_getElem _⟩
          obtain ⟨s0, A0, n0, c0⟩ := e
          have HE0 := Lib.hid (HE5.out t _ he)
          have HEE := Lib.hid he
          have HN0 := Lib.hid (show n0 ≤ N + N' + 1 by
            have e3 := HE0.out.len
            simp only at e3
            rw [e3]
            exact Pz.cvm_zl HCM.out.1 HCM.out.2 (by omega) k t)
          clear hZ hX hY hb5 hE hBg hry ht he hZ5 hti
          have HBD := Lib.hid (Below.refl W5.heap.size W5).drew
          have HGS := Lib.hid (show g ≤ W5.heap.size from Nat.le_of_lt HZ5.out.lt)
          have HMU := Lib.hid (imul_any (((HRX.out.below HB5.out).more HGS.out).next HBD.out) (((HRY.out.below HB5.out).more HGS.out).next HBD.out) (by omega) (by omega))
          have HLX := Lib.hid (show Zz.zl x ≤ N ∧ Zz.zl y ≤ N' from ⟨by rw [← HX.out]; exact HCM.out.1 i, by rw [← HYV.out]; exact HCM.out.2 k⟩)
          obtain ⟨k0, k1⟩ := HZ5.out.cells HEE.out
          have hx0 := HX5.out.c0
          have hx1 := HX5.out.c1
          have hy0 := HY5.out.c0
          have hy1 := HY5.out.c1
          simp only at k0 k1
          go_region_with (first
            | (go_at_call 46; refine HMU.out.mono ?_; rintro _ W6 ⟨s6, A6, n6, c6, z6, rfl, ho6, hz6, hb6⟩; have HB6 := Lib.hid (HBD.out.trans hb6); have la0 := ((HZ5.out.next HB6.out).cells HEE.out).1; have la1 := ((HZ5.out.next HB6.out).cells HEE.out).2; simp only at la0 la1)
            | (go_at_call 43; refine (add_any (HE0.out.next HB6.out).rd ho6.rd (by have := HN0.out; omega) (by rw [ho6.len, hz6.out]; have := Zz.zl_mul x y; have := HLX.out; omega)).mono ?_; rintro _ W7 ⟨s7, A7, n7, c7, z7, rfl, ho7, hz7, hb7⟩; have HB7 := Lib.hid (HB6.out.trans (hb7.mono HB6.out.size)); have lb0 := ((HZ5.out.next HB7.out).cells HEE.out).1; have lb1 := ((HZ5.out.next HB7.out).cells HEE.out).2; have lf0 := (HZ5.out.next HB7.out).frozen (t * 2); have lf1 := (HZ5.out.next HB7.out).frozen (t * 2 + 1); simp only at lb0 lb1))
          all_goals
            have HZ7 := Lib.hid ((HZ5.out.next HB7.out).store t (s7, A7, n7, c7))
            have HE7 := Lib.hid ((HE5.out.next HB7.out).store (j := t) (e := (s7, A7, n7, c7)) (z := z7) (HZ5.out.next HB7.out) (ho7.base (Nat.le_trans HG.out (Nat.le_trans HGS.out HB6.out.size))))
            have HX7 := Lib.hid (((HX5.out.next HB7.out).far (p := ⟨g, t * 2, none⟩) (Nat.ne_of_gt HGX.out) (.bool s7)).far (p := ⟨g, t * 2 + 1, none⟩) (Nat.ne_of_gt HGX.out) (.slice A7 n7 c7))
            have HBF := Lib.hid (((HB5.out.trans (HB7.out.mono HGS.out)).setCell (p := ⟨g, t * 2, none⟩) (Nat.le_refl _) (.bool s7)).setCell (p := ⟨g, t * 2 + 1, none⟩) (Nat.le_refl _) (.slice A7 n7 c7))
            have HFA := Lib.hid (show z7 = Pz.cvm (Pz.co M1) (Pz.co M2) i k (i + k) + Pz.co M1 i * Pz.co M2 k by rw [hz7.out, hz6.out, HT.out, HX.out, HYV.out])
            clear k0 k1 hx0 hx1 hy0 hy1 la0 la1 lb0 lb1 lf0 lf1 hb6 hb7 ho6 ho7
            go_wp2
            go_roundw
            case rel => exact ⟨k + 1, E.set t (s7, A7, n7, c7), by go_num, by omega, HZ7.out, Lib.hid (by rw [List.length_set]; exact hEl.out), HE7.out.congr fun u => by rw [Pz.cvm_step, HT.out, HFA.out], HBF.out, HX7.out⟩
            case measure => simp [intOf]; omega
end Go.Proofs.Ytipbpdiahemmpaa

/- zpoly: the value at a number. -/
namespace Go.Proofs.Ytipbpdiahemmpaa
open Go.RowKit Go.IntWalk
attribute [local go_sem ↓] Go.wp_at_zero Go.wp_at_succ

set_option maxRecDepth 100000 in
set_option maxHeartbeats 8000000 in
theorem zeval_any {N N' : Nat} {s : Bool} {A A' : Option Addr} {n c n' c' : Nat} {L : List Int} {x : Int} {w : World} (h : RdZs w w.heap.size N A n c L) (h' : RdZ w w.heap.size s A' n' c' x) (hn : n ≤ 4294967290) (hn' : n' ≤ N') (hsz : N + n * (N' + 1) ≤ 4398046511103) (hN' : N' ≤ 4398046511103) :
    Calls Try.prog 23 #[.slice A n c, .agg #[.bool s, .slice A' n' c']] w (RetI (Pz.psum (Pz.co L) x n) w) := by
  have HC := Lib.hid (zl_co h)
  have HLX := Lib.hid (show Zz.zl x ≤ N' from Nat.le_trans h'.len hn')
  have HSB := Lib.hid hsz
  obtain ⟨hX, hR, hB⟩ := boxed1 w s A' n' c'
  obtain ⟨W1, HW1⟩ : ∃ W, W = ((w.alloc (.cells #[.bool s, .slice A' n' c'] 40)).alloc (.cells #[.bool false, .slice none 0 0] 40)).alloc (.cells #[.bool false, .slice none 0 0] 40) := ⟨_, rfl⟩
  have hX1 : ZC W1 w.heap.size s A' n' c' := by rw [HW1]; exact hX.alloc _
  have hR1 : ZC W1 (w.heap.size + 1) false none 0 0 := by rw [HW1]; exact hR.alloc _
  have hO1 : ZC W1 (w.heap.size + 1 + 1) false none 0 0 := by rw [HW1]; simpa using ZC.new ((w.alloc (.cells #[.bool s, .slice A' n' c'] 40)).alloc (.cells #[.bool false, .slice none 0 0] 40)) false none 0 0
  have hB1 : Below w.heap.size w W1 := by rw [HW1]; exact hB.alloc hB.size _
  have HW1 := Lib.hid HW1
  have HH := Lib.hid h'
  have HLEN := Lib.hid h.len
  clear hX hR hB hsz
  go_enter Try.func23, Try.ntmps23
  go_wp2_with fail
  rw [← HW1.out]
  clear HW1
  clear HW1
  have HS1 := Lib.hid (And.intro hR1.lt hO1.lt)
  go_loopw [6] (fun iv wr => ∃ (d : Nat) (s2 : Bool) (A2 : Option Addr) (n2 c2 : Nat) (y : Int), iv = .int .i64 ((n : Int) - 1 - d) ∧ d ≤ n ∧ ZC wr w.heap.size s A' n' c' ∧ ZC wr (w.heap.size + 1) false none 0 0 ∧ ZC wr (w.heap.size + 1 + 1) s2 A2 n2 c2 ∧ OwZ wr W1.heap.size s2 A2 n2 c2 y ∧ Hid (y = Pz.hor (Pz.co L) x n d ∧ W1.heap.size ≤ wr.heap.size) ∧ Below w.heap.size w wr) (fun iv _ => (intOf iv + 1).toNat)
  case atStart => exact ⟨0, false, none, 0, 0, 0, by simp, Nat.zero_le _, hX1, hR1, hO1, OwZ.zero _ _, Lib.hid ⟨rfl, Nat.le_refl _⟩, hB1⟩
  case round =>
    clear hX1 hR1 hO1 hB1
    obtain ⟨d, s2, A2, n2, c2, y, rfl, hd, hX, hR, hO, ho, hy, hB⟩ := hrel
    have HN2 := Lib.hid (show n2 ≤ N + d * (N' + 1) by rw [ho.len, hy.out.1]; exact Pz.hor_zl HC.out HLX.out n d)
    by_cases hdn : d = n
    · subst hdn
      have hx0 := hO.c0
      have hx1 := hO.c1
      go_wp2_with fail
      refine (inorm_any ho.rd (by have := HN2.out; have := HSB.out; omega)).mono ?_
      rintro _ W4 ⟨s4, A4, n4, c4, z4, rfl, ho4, hz4, hb4⟩
      have hR4 := hR.next hb4
      have hB4 := hB.trans (hb4.mono hB.size)
      have HS4 := Lib.hid (show w.heap.size + 1 < wr.heap.size ∧ w.heap.size < wr.heap.size from ⟨hR.lt, Nat.lt_trans (Nat.lt_succ_self _) hR.lt⟩)
      have hf0 := hR4.fz 0
      have hf1 := hR4.fz 1
      have hg0 := hR4.c0
      have hg1 := hR4.c1
      clear hx0 hx1 hX hR hO ho hb4
      go_wp2
      have hp := put_int hR4 hB4 (Nat.le_succ _) ho4 HS4.out.1
      generalize (W4.setCell ⟨w.heap.size + 1, 0, none⟩ (.bool s4)).setCell ⟨w.heap.size + 1, 1, none⟩ (.slice A4 n4 c4) = W5 at hp ⊢
      obtain ⟨hZ5, ho5, hB5⟩ := hp
      exact bodyPost_ret (by simp [results, Try.results23, go_sem, hZ5.c0, hZ5.c1]) rfl ⟨_, _, _, _, _, rfl, ho5.base (Nat.le_of_lt HS4.out.2), Lib.hid (by rw [hz4.out, hy.out.1, Pz.hor_all]), hB5⟩
    · obtain ⟨i, hi⟩ : ∃ i, n = d + 1 + i := ⟨n - d - 1, by omega⟩
      have hii : (n : Int) - 1 - d = (i : Int) := by omega
      have hil : i < n := by omega
      rw [hii]
      have hili : (i : Int) < (n : Int) := by omega
      obtain ⟨ad, s3, A3, n3, c3, z, rfl, hbk, hz0, hz1, hrz, hn3, hz⟩ := zs_at h hil
      have HZV := Lib.hid (show Pz.co L i = z from Pz.co_get hz.out)
      have HI := Lib.hid hi
      clear hdn hi hz
      have hX0 := hX.c0
      have hX1 := hX.c1
      have hO0 := hO.c0
      have hO1 := hO.c1
      obtain ⟨hw0, hw1⟩ := zs_cells hB hbk hz0 hz1
      have HBD := Lib.hid (Below.refl wr.heap.size wr).drew
      have HDM := Lib.hid (Nat.mul_le_mul_right (N' + 1) (show d + 1 ≤ n by omega))
      have HMU := Lib.hid (imul_any (ho.next HBD.out).rd ((HH.out.next hB).next HBD.out) (by have := HN2.out; have := HSB.out; have e := HDM.out; rw [Nat.succ_mul] at e; omega) (by omega))
      have HRZ := Lib.hid (hrz.next hB)
      have HLY := Lib.hid (show Zz.zl y ≤ N + d * (N' + 1) from by rw [hy.out.1]; exact Pz.hor_zl HC.out HLX.out n d)
      have HZC := Lib.hid (show ∀ W : World, Below wr.heap.size wr W → W.cell? (ad.add (i * 2)) = some (.bool s3) ∧ W.cell? ⟨(ad.add (i * 2)).block, (ad.add (i * 2)).off + 1, none⟩ = some (.slice A3 n3 c3) from fun W hb => zs_cells (hB.trans (hb.mono hB.size)) hbk hz0 hz1)
      have HO := Lib.hid hO
      have HXX := Lib.hid hX
      have HRR := Lib.hid hR
      clear hz0 hz1 hrz
      go_upto_region 5 with fail
      go_region_with (first
        | (go_at_call 46; refine HMU.out.mono ?_; rintro _ W6 ⟨s6, A6, n6, c6, z6, rfl, ho6, hz6, hb6⟩; have HB6 := Lib.hid (HBD.out.trans hb6); have la0 := (HZC.out W6 HB6.out).1; have la1 := (HZC.out W6 HB6.out).2)
        | (go_at_call 43; refine (add_any ho6.rd (HRZ.out.next HB6.out) (by rw [ho6.len, hz6.out]; have := Zz.zl_mul y x; have := HLY.out; have := HLX.out; have := HSB.out; have e := HDM.out; rw [Nat.succ_mul] at e; omega) (by have := HSB.out; omega)).mono ?_; rintro _ W7 ⟨s7, A7, n7, c7, z7, rfl, ho7, hz7, hb7⟩; have HB7 := Lib.hid (HB6.out.trans (hb7.mono HB6.out.size)); have lb0 := (HO.out.next HB7.out).c0; have lb1 := (HO.out.next HB7.out).c1; have lf0 := (HO.out.next HB7.out).fz 0; have lf1 := (HO.out.next HB7.out).fz 1))
      all_goals
        have HSW := Lib.hid (show W1.heap.size ≤ W6.heap.size ∧ w.heap.size + 1 + 1 < W6.heap.size from ⟨Nat.le_trans hy.out.2 HB6.out.size, Nat.lt_of_lt_of_le HO.out.lt HB6.out.size⟩)
        have HP := Lib.hid (put_int (HO.out.next HB7.out) (hB.trans (HB7.out.mono hB.size)) (by omega) ho7 HSW.out.2)
        have HX7 := Lib.hid (((HXX.out.next HB7.out).far (p := ⟨w.heap.size + 1 + 1, 0, none⟩) (by simp <;> omega) (.bool s7)).far (p := ⟨w.heap.size + 1 + 1, 1, none⟩) (by simp <;> omega) (.slice A7 n7 c7))
        have HR7 := Lib.hid (((HRR.out.next HB7.out).far (p := ⟨w.heap.size + 1 + 1, 0, none⟩) (by simp <;> omega) (.bool s7)).far (p := ⟨w.heap.size + 1 + 1, 1, none⟩) (by simp <;> omega) (.slice A7 n7 c7))
        have HFA := Lib.hid (show z7 = Pz.hor (Pz.co L) x n (d + 1) by rw [hz7.out, hz6.out, hy.out.1, Pz.hor_succ, show n - 1 - d = i by have := HI.out; omega, HZV.out])
        have HSF := Lib.hid (show W1.heap.size ≤ ((W7.setCell ⟨w.heap.size + 1 + 1, 0, none⟩ (.bool s7)).setCell ⟨w.heap.size + 1 + 1, 1, none⟩ (.slice A7 n7 c7)).heap.size by simpa using Nat.le_trans hy.out.2 HB7.out.size)
        clear hX0 hX1 hO0 hO1 hw0 hw1 la0 la1 lb0 lb1 lf0 lf1 hb6 hb7 ho6 ho7 hX hR hO ho
        go_wp2
        go_roundw
        case rel => exact ⟨d + 1, s7, A7, n7, c7, z7, by go_num, by omega, HX7.out, HR7.out, HP.out.1, HP.out.2.1.base HSW.out.1, Lib.hid ⟨HFA.out, HSF.out⟩, HP.out.2.2⟩
        case measure => simp [intOf]
end Go.Proofs.Ytipbpdiahemmpaa
