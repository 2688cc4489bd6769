/- zpoly: a list made of another one. -/
import Derived.Test.YtipbpdiahemmpaaGreatQ10
import Derived.Test.YtipbpdiahemmpaaGreatQ09
import Derived.Test.YtipbpdiahemmpaaGreatQ07
namespace Go.Proofs.YtipbpdiahemmpaaGreat
open Go.RowKit Go.IntWalk
attribute [local go_sem ↓] Go.wp_at_zero Go.wp_at_succ

theorem own_block {w : World} {base : Nat} {e : TypeId} {size : Nat} {v : Value} {n : Nat} {xs : List Value} (h : w.ownsRow base e size v n xs) : ∀ k, v.ownBlock = some k → base ≤ k := by
  intro k hk
  rcases h.2 with ⟨rfl, _⟩ | ⟨g, cap, cur, rfl, hb, _⟩
  · cases hk
  · cases hk; exact hb
theorem zs_at {w : World} {B N : Nat} {A : Option Addr} {n c : Nat} {L : List Int} (h : RdZs w B N A n c L) {j : Nat} (hj : j < n) :
    ∃ (ad : Addr) (s : Bool) (A' : Option Addr) (n' c' : Nat) (z : Int), A = some ad ∧ ad.block < B ∧ w.cell? (ad.add (j * 2)) = some (.bool s) ∧ w.cell? ⟨(ad.add (j * 2)).block, (ad.add (j * 2)).off + 1, none⟩ = some (.slice A' n' c') ∧ RdZ w B s A' n' c' z ∧ n' ≤ N ∧ Hid (L[j]? = some z) := by
  obtain ⟨z, hz⟩ := zs_get (L := L) (j := j) (by rw [h.len]; exact hj)
  obtain ⟨ad, s, A', n', c', h1, h2, h3, h4, h5, h6⟩ := h.at_ j z hz
  exact ⟨ad, s, A', n', c', z, h1, h2, h3, h4, h5, h6, Lib.hid hz⟩
theorem zs_cells {w w' : World} {B : Nat} {ad : Addr} {j : Nat} {s : Bool} {A' : Option Addr} {n' c' : Nat} (hb : Below B w w') (h2 : ad.block < B) (h3 : w.cell? (ad.add (j * 2)) = some (.bool s)) (h4 : w.cell? ⟨(ad.add (j * 2)).block, (ad.add (j * 2)).off + 1, none⟩ = some (.slice A' n' c')) :
    w'.cell? (ad.add (j * 2)) = some (.bool s) ∧ w'.cell? ⟨(ad.add (j * 2)).block, (ad.add (j * 2)).off + 1, none⟩ = some (.slice A' n' c') :=
  ⟨(hb.cell (p := ad.add (j * 2)) (by rw [add_blk]; exact h2)).trans h3, (hb.cell (p := ⟨(ad.add (j * 2)).block, (ad.add (j * 2)).off + 1, none⟩) (by show (ad.add (j * 2)).block < B; rw [add_blk]; exact h2)).trans h4⟩
theorem zcell_new (w : World) (x y : Value) (t : TypeId) : ∀ j u, [x, y][j]? = some u → (w.alloc (.cells #[x, y] t)).cell? ((⟨w.heap.size, 0, none⟩ : Addr).add j) = some u := by
  intro j u hj
  match j, hj with
  | 0, hj => simp at hj; subst hj; simp [Addr.add]
  | 1, hj => simp at hj; subst hj; simp [Addr.add]
  | (j + 2), hj => simp at hj
theorem map_snoc {f : Int → Int} {L : List Int} {j : Nat} {z : Int} (h : L[j]? = some z) : (L.take j).map f ++ [f z] = (L.take (j + 1)).map f := by
  rw [List.take_add_one, h]
  simp

set_option maxRecDepth 100000 in
set_option maxHeartbeats 4000000 in
theorem mapped_any {f N : Nat} (φ : Int → Int) {A : Option Addr} {n c : Nat} {L : List Int} {w : World} (h : RdZs w w.heap.size N A n c L) (hn : n ≤ 4398046511103) (heg : ∀ args w, (callFunc f args).run Tryz.prog w = .ok (.enter f args) w)
    (hdo : ∀ (W : World) (s : Bool) (A : Option Addr) (m c : Nat) (z : Int), Below w.heap.size w W → RdZ W W.heap.size s A m c z → m ≤ N → Calls Tryz.prog f #[.agg #[.bool s, .slice A m c]] W (RetI (φ z) W)) :
    Calls Tryz.prog 82 #[.slice A n c, .func (.func f) #[] #[]] w (RetL (L.map φ) w) := by
  have HD := Lib.hid hdo
  have HLEN := Lib.hid h.len
  obtain ⟨i0, hi, hz0, hz1, hz2⟩ := info_parts infoZ
  clear hdo
  go_enter Tryz.func82, Tryz.ntmps82
  go_wp2_with fail
  go_loopw [5, 10] (fun ov iv wr => ∃ (j c' : Nat) (A' : Option Addr) (M : List Int), ov = .slice A' j c' ∧ iv = .int .i64 j ∧ j ≤ n ∧ OwZs wr w.heap.size A' j c' M ∧ Hid (M = (L.take j).map φ) ∧ Below w.heap.size w wr) (fun _ iv _ => n - (intOf iv).toNat)
  case atStart => exact ⟨0, 0, none, [], rfl, rfl, Nat.zero_le _, OwZs.nil _ _, Lib.hid rfl, Below.refl _ _⟩
  case round =>
    obtain ⟨j, c', A', M, rfl, rfl, hj, ho, hM, hB⟩ := hrel
    by_cases hjn : j = n
    · subst hjn
      go_wp2
      go_ret
      exact ⟨_, _, _, _, rfl, ho, Lib.hid (by rw [hM.out, List.take_of_length_le (by rw [HLEN.out]; exact Nat.le_refl _)]), hB⟩
    · have hjl : j < n := by omega
      clear hjn
      have hjli : (j : Int) < (n : Int) := by omega
      obtain ⟨ad, s, A1, n1, c1, z, rfl, hbk, hx0, hx1, hr, hn1, hz⟩ := zs_at h hjl
      obtain ⟨hy0, hy1⟩ := zs_cells hB hbk hx0 hx1
      obtain ⟨W2, HW2⟩ : ∃ W, W = wr.alloc (.cells #[.bool s, .slice A1 n1 c1] 28) := ⟨_, rfl⟩
      have hb2 : Below wr.heap.size wr W2 := by rw [HW2]; exact (Below.refl wr.heap.size wr).alloc (Nat.le_refl _) _
      have HW2 := Lib.hid HW2
      have HO := Lib.hid (ho.next hb2)
      have hB2 := hB.trans (hb2.mono hB.size)
      have HDO := Lib.hid (HD.out W2 s A1 n1 c1 z hB2 (hr.next hB2) hn1)
      go_wp2_with fail
      rw [← HW2.out]
      clear HW2 hy0 hy1 ho
      clear HW2
      refine HDO.out.mono ?_
      rintro _ W3 ⟨s3, A3, m3, c3, z3, rfl, ho3, hz3, hb3⟩
      have hB3 := hB2.trans (hb3.mono hB2.size)
      have HO3 := HO.out.next hb3
      obtain ⟨E, hE, hEl, hEn⟩ := HO3
      have HO4 := Lib.hid (ho3.base hB2.size)
      have HE := Lib.hid hE
      have HEN := Lib.hid (And.intro hEl hEn)
      have HM2 := Lib.hid (show M ++ [z3] = (L.take (j + 1)).map φ by rw [hM.out, hz3.out]; exact map_snoc hz.out)
      clear hE hEl hEn hx0 hx1 hr hb2 hb3 ho3
      go_wp2_with (at_builtin; refine wpList_append_own _ rfl _ _ 22 rfl w.heap.size 28 i0 (.agg #[.bool false, .slice none 0 0]) 2 32 Tryz.underlying22 hi hz0 hz1 hz2 rfl (by decide) _ _ _ rfl (HE.out.alloc _) ⟨W3.heap.size, 0, none⟩ 1 1 [.bool s3, .slice A3 m3 c3] rfl rfl (zcell_new _ _ _ _) (by simp [Value.oneCell']) (by unfold maxLen; omega) (by omega) (by have := hB3.size; simp; omega) ?_; intro v' w1 hown' hgrow _)
      have hmore := zs_more (e := (s3, A3, m3, c3)) (z := z3) HO4.out rfl (HE.out.alloc _) HEN.out.1 HEN.out.2 hown' hgrow
      have HB5 := Lib.hid ((hB3.alloc hB3.size (.cells #[.bool s3, .slice A3 m3 c3] 28)).grown hgrow (by have := hB3.size; simp; omega) (own_block HE.out))
      obtain ⟨A5, c5, rfl, ho5⟩ := hmore
      clear hown' hgrow HE HEN HO4 hB3 hB2 hB
      go_wp2
      go_roundw
      case rel => exact ⟨j + 1, c5, A5, M ++ [z3], rfl, by go_num, by omega, ho5, HM2, HB5.out⟩
      case measure => simp [intOf]; omega
end Go.Proofs.YtipbpdiahemmpaaGreat

/- Lists of integers as polynomials: coefficients, the normal list. Nothing of the program. -/
namespace Pz
def co (L : List Int) (i : Nat) : Int := L.getD i 0
/-- No nought at the top. -/
def Nz (L : List Int) : Prop := ∀ h : L ≠ [], L.getLast h ≠ 0
theorem co_ge {L : List Int} {i : Nat} (h : L.length ≤ i) : co L i = 0 := by simp [co, h]
theorem co_nil (i : Nat) : co [] i = 0 := by simp [co]
theorem co_get {L : List Int} {i : Nat} {z : Int} (h : L[i]? = some z) : co L i = z := by simp [co, List.getD_eq_getElem?_getD, h]
theorem get_co {L : List Int} {i : Nat} (h : i < L.length) : L[i]? = some (co L i) := by simp [co, h]
theorem mem_co {L : List Int} {z : Int} (h : z ∈ L) : ∃ i, i < L.length ∧ co L i = z := by
  obtain ⟨i, hi⟩ := List.getElem?_of_mem h
  refine ⟨i, ?_, co_get hi⟩
  rcases Nat.lt_or_ge i L.length with h1 | h1
  · exact h1
  · rw [List.getElem?_eq_none h1] at hi; cases hi
theorem co_take {L : List Int} {k i : Nat} (h : i < k) : co (L.take k) i = co L i := by
  simp only [co, List.getD_eq_getElem?_getD, List.getElem?_take_of_lt h]
theorem co_take_all {L : List Int} {k : Nat} (h : ∀ i, k ≤ i → co L i = 0) (i : Nat) : co (L.take k) i = co L i := by
  rcases Nat.lt_or_ge i k with h1 | h1
  · exact co_take h1
  · rw [h i h1]; exact co_ge (by rw [List.length_take]; omega)
theorem nz_nil : Nz [] := fun h => absurd rfl h
theorem nz_take {L : List Int} {k : Nat} (hk : k ≤ L.length) (h : k = 0 ∨ co L (k - 1) ≠ 0) : Nz (L.take k) := by
  intro hne
  have hk0 : k ≠ 0 := by rintro rfl; simp at hne
  have hl := h.resolve_left hk0
  rw [List.getLast_eq_getElem]
  simp only [List.length_take, Nat.min_eq_left hk, List.getElem_take]
  have e := get_co (L := L) (i := k - 1) (by omega)
  rw [List.getElem?_eq_getElem (by omega)] at e
  injection e with e
  rw [e]
  exact hl
theorem nz_top {L : List Int} (h : Nz L) (h0 : 0 < L.length) : co L (L.length - 1) ≠ 0 := by
  have hne : L ≠ [] := by rintro rfl; simp at h0
  have e := h hne
  rw [List.getLast_eq_getElem] at e
  have e2 := get_co (L := L) (i := L.length - 1) (by omega)
  rw [List.getElem?_eq_getElem (by omega)] at e2
  injection e2 with e2
  rw [← e2]
  exact e
theorem nz_len {L : List Int} (h : Nz L) {k : Nat} (hk : ∀ i, k ≤ i → co L i = 0) : L.length ≤ k := by
  apply Classical.byContradiction
  intro hc
  exact nz_top h (by omega) (hk _ (by omega))
theorem nz_ext {L M : List Int} (h : Nz L) (h' : Nz M) (e : ∀ i, co L i = co M i) : L = M := by
  have h1 : L.length ≤ M.length := nz_len h fun i hi => by rw [e]; exact co_ge hi
  have h2 : M.length ≤ L.length := nz_len h' fun i hi => by rw [← e]; exact co_ge hi
  apply List.ext_getElem?
  intro i
  rcases Nat.lt_or_ge i L.length with hi | hi
  · rw [get_co hi, get_co (by omega), e]
  · rw [List.getElem?_eq_none hi, List.getElem?_eq_none (by omega)]
theorem nz_nil_iff {L : List Int} (h : Nz L) : L = [] ↔ ∀ i, co L i = 0 := by
  constructor
  · rintro rfl i; exact co_nil i
  · intro e
    exact nz_ext h nz_nil fun i => by rw [e, co_nil]
/-- The normal list of coefficients. -/
def IsP (f : Nat → Int) (M : List Int) : Prop := Nz M ∧ ∀ i, co M i = f i
theorem IsP.unique {f : Nat → Int} {L M : List Int} (h : IsP f L) (h' : IsP f M) : L = M := nz_ext h.1 h'.1 fun i => by rw [h.2, h'.2]
theorem IsP.congr {f g : Nat → Int} {L : List Int} (h : IsP f L) (e : ∀ i, f i = g i) : IsP g L := ⟨h.1, fun i => by rw [h.2, e]⟩
theorem IsP.len {f : Nat → Int} {L : List Int} (h : IsP f L) {k : Nat} (hk : ∀ i, k ≤ i → f i = 0) : L.length ≤ k := nz_len h.1 fun i hi => by rw [h.2]; exact hk i hi
theorem co_map {φ : Int → Int} (h0 : φ 0 = 0) (L : List Int) (i : Nat) : co (L.map φ) i = φ (co L i) := by
  simp only [co, List.getD_eq_getElem?_getD, List.getElem?_map]
  cases L[i]? <;> simp [h0]
end Pz

/- zpoly: a list made of another one by a function with a variable of its own; the normal form. -/
namespace Go.Proofs.YtipbpdiahemmpaaGreat
open Go.RowKit Go.IntWalk
attribute [local go_sem ↓] Go.wp_at_zero Go.wp_at_succ

set_option maxRecDepth 100000 in
set_option maxHeartbeats 4000000 in
theorem mapped_cap {f N : Nat} {p : Option Addr} (φ : Int → Int) {A : Option Addr} {n c : Nat} {L : List Int} {w : World} (h : RdZs w w.heap.size N A n c L) (hn : n ≤ 4398046511103) (heg : ∀ args w, (callFunc f args).run Tryz.prog w = .ok (.enter f args) w)
    (hdo : ∀ (W : World) (s : Bool) (A : Option Addr) (m c : Nat) (z : Int), Below w.heap.size w W → RdZ W W.heap.size s A m c z → m ≤ N → Calls Tryz.prog f #[.agg #[.bool s, .slice A m c], .pointer p] W (RetI (φ z) W)) :
    Calls Tryz.prog 82 #[.slice A n c, .func (.func f) #[] #[.pointer p]] w (RetL (L.map φ) w) := by
  have HD := Lib.hid hdo
  have HLEN := Lib.hid h.len
  obtain ⟨i0, hi, hz0, hz1, hz2⟩ := info_parts infoZ
  clear hdo
  go_enter Tryz.func82, Tryz.ntmps82
  go_wp2_with fail
  go_loopw [5, 10] (fun ov iv wr => ∃ (j c' : Nat) (A' : Option Addr) (M : List Int), ov = .slice A' j c' ∧ iv = .int .i64 j ∧ j ≤ n ∧ OwZs wr w.heap.size A' j c' M ∧ Hid (M = (L.take j).map φ) ∧ Below w.heap.size w wr) (fun _ iv _ => n - (intOf iv).toNat)
  case atStart => exact ⟨0, 0, none, [], rfl, rfl, Nat.zero_le _, OwZs.nil _ _, Lib.hid rfl, Below.refl _ _⟩
  case round =>
    obtain ⟨j, c', A', M, rfl, rfl, hj, ho, hM, hB⟩ := hrel
    by_cases hjn : j = n
    · subst hjn
      go_wp2
      go_ret
      exact ⟨_, _, _, _, rfl, ho, Lib.hid (by rw [hM.out, List.take_of_length_le (by rw [HLEN.out]; exact Nat.le_refl _)]), hB⟩
    · have hjl : j < n := by omega
      clear hjn
      have hjli : (j : Int) < (n : Int) := by omega
      obtain ⟨ad, s, A1, n1, c1, z, rfl, hbk, hx0, hx1, hr, hn1, hz⟩ := zs_at h hjl
      obtain ⟨hy0, hy1⟩ := zs_cells hB hbk hx0 hx1
      obtain ⟨W2, HW2⟩ : ∃ W, W = wr.alloc (.cells #[.bool s, .slice A1 n1 c1] 28) := ⟨_, rfl⟩
      have hb2 : Below wr.heap.size wr W2 := by rw [HW2]; exact (Below.refl wr.heap.size wr).alloc (Nat.le_refl _) _
      have HW2 := Lib.hid HW2
      have HO := Lib.hid (ho.next hb2)
      have hB2 := hB.trans (hb2.mono hB.size)
      have HDO := Lib.hid (HD.out W2 s A1 n1 c1 z hB2 (hr.next hB2) hn1)
      go_wp2_with fail
      rw [← HW2.out]
      clear HW2 hy0 hy1 ho
      clear HW2
      refine HDO.out.mono ?_
      rintro _ W3 ⟨s3, A3, m3, c3, z3, rfl, ho3, hz3, hb3⟩
      have hB3 := hB2.trans (hb3.mono hB2.size)
      have HO3 := HO.out.next hb3
      obtain ⟨E, hE, hEl, hEn⟩ := HO3
      have HO4 := Lib.hid (ho3.base hB2.size)
      have HE := Lib.hid hE
      have HEN := Lib.hid (And.intro hEl hEn)
      have HM2 := Lib.hid (show M ++ [z3] = (L.take (j + 1)).map φ by rw [hM.out, hz3.out]; exact map_snoc hz.out)
      clear hE hEl hEn hx0 hx1 hr hb2 hb3 ho3
      go_wp2_with (at_builtin; refine wpList_append_own _ rfl _ _ 22 rfl w.heap.size 28 i0 (.agg #[.bool false, .slice none 0 0]) 2 32 Tryz.underlying22 hi hz0 hz1 hz2 rfl (by decide) _ _ _ rfl (HE.out.alloc _) ⟨W3.heap.size, 0, none⟩ 1 1 [.bool s3, .slice A3 m3 c3] rfl rfl (zcell_new _ _ _ _) (by simp [Value.oneCell']) (by unfold maxLen; omega) (by omega) (by have := hB3.size; simp; omega) ?_; intro v' w1 hown' hgrow _)
      have hmore := zs_more (e := (s3, A3, m3, c3)) (z := z3) HO4.out rfl (HE.out.alloc _) HEN.out.1 HEN.out.2 hown' hgrow
      have HB5 := Lib.hid ((hB3.alloc hB3.size (.cells #[.bool s3, .slice A3 m3 c3] 28)).grown hgrow (by have := hB3.size; simp; omega) (own_block HE.out))
      obtain ⟨A5, c5, rfl, ho5⟩ := hmore
      clear hown' hgrow HE HEN HO4 hB3 hB2 hB
      go_wp2
      go_roundw
      case rel => exact ⟨j + 1, c5, A5, M ++ [z3], rfl, by go_num, by omega, ho5, HM2, HB5.out⟩
      case measure => simp [intOf]; omega

/-- A polynomial in normal form comes back. -/
def RetP (f : Nat → Int) (w : World) (e : Ending) (w' : World) : Prop :=
  ∃ (A : Option Addr) (n c : Nat) (M : List Int), e = .returned (.slice A n c) ∧ OwZs w' w.heap.size A n c M ∧ Hid (Pz.IsP f M) ∧ Below w.heap.size w w'
/-- The measure of an integer. -/
theorem RdZs.take {w : World} {B N : Nat} {A : Option Addr} {n c : Nat} {L : List Int} (h : RdZs w B N A n c L) {k : Nat} (hk : k ≤ n) : RdZs w B N A k c (L.take k) :=
  ⟨by rw [List.length_take, h.len]; omega, Nat.le_trans hk h.le, h.mx, fun j z hz => by
    have hj : j < k := by
      rcases Nat.lt_or_ge j k with h1 | h1
      · exact h1
      · rw [List.getElem?_eq_none (by rw [List.length_take]; omega)] at hz; cases hz
    rw [List.getElem?_take_of_lt hj] at hz
    exact h.at_ j z hz⟩

set_option maxRecDepth 100000 in
set_option maxHeartbeats 4000000 in
theorem znorm_any {N : Nat} {A : Option Addr} {n c : Nat} {L : List Int} {w : World} (h : RdZs w w.heap.size N A n c L) (hn : n ≤ 4398046511103) (hN : N ≤ 17592186044416) :
    Calls Tryz.prog 12 #[.slice A n c] w (RetP (Pz.co L) w) := by
  have HLEN := Lib.hid h.len
  have hle := h.le
  have hmx := h.mx
  have hEN := enters_of Tryz.func83 (by kernel_rfl) rfl
  go_enter Tryz.func12, Tryz.ntmps12
  go_wp2_with fail
  go_loopw [3] (fun kv wr => ∃ k : Nat, kv = .int .i64 k ∧ k ≤ n ∧ Hid (∀ i, k ≤ i → Pz.co L i = 0) ∧ Below w.heap.size w wr) (fun kv _ => (intOf kv).toNat)
  case atStart => exact ⟨n, rfl, Nat.le_refl _, Lib.hid fun i hi => Pz.co_ge (by rw [HLEN.out]; exact hi), Below.refl _ _⟩
  case round =>
    obtain ⟨k, rfl, hk, hZ, hB⟩ := hrel
    rcases Nat.eq_zero_or_pos k with h0 | h0
    · subst h0
      go_wp2_with fail
      refine (mapped_any (N := N) id ((h.next hB).take (Nat.zero_le _)) (by omega) hEN (fun W s A m c z _ hr hm => inorm_any hr (by omega))).mono ?_
      rintro _ W4 ⟨A4, n4, c4, M4, rfl, ho4, hM4, hb4⟩
      go_wp2
      go_ret
      exact ⟨_, _, _, M4, rfl, ho4.base hB.size, Lib.hid (by rw [hM4.out, List.map_id]; exact ⟨Pz.nz_take (Nat.zero_le _) (.inl rfl), Pz.co_take_all hZ.out⟩), hB.trans (hb4.mono hB.size)⟩
    · obtain ⟨j, rfl⟩ : ∃ j, k = j + 1 := ⟨k - 1, by omega⟩
      obtain ⟨ad, s, A1, n1, c1, z, rfl, hbk, hx0, hx1, hr, hn1, hz⟩ := zs_at h (show j < n by omega)
      obtain ⟨hy0, hy1⟩ := zs_cells hB hbk hx0 hx1
      go_wp2_with fail
      refine (sign_any (hr.next hB) (by omega)).mono ?_
      rintro _ W2 ⟨kz, rfl, hkz, hb2⟩
      have HB2 := Lib.hid (hB.trans (hb2.mono hB.size))
      have HZ := Lib.hid (show kz = 0 ↔ Pz.co L j = 0 by rw [hkz.out, Int.sign_eq_zero_iff_zero, Pz.co_get hz.out])
      clear hb2 hy0 hy1
      by_cases hk0 : kz = 0
      · have HC := Lib.hid (HZ.out.1 hk0)
        subst hk0
        go_wp2
        go_roundw
        case rel => exact ⟨j, by go_num, by omega, Lib.hid fun i hi => by
          rcases Nat.lt_or_ge j i with h1 | h1
          · exact hZ.out i h1
          · rw [show i = j by omega]; exact HC.out, HB2.out⟩
        case measure => simp [intOf]
      · have HC := Lib.hid (mt HZ.out.2 hk0)
        have hkb : (kz == 0) = false := by simpa using hk0
        clear hk0
        go_wp2_with fail
        refine (mapped_any (N := N) id ((h.next HB2.out).take hk) (by omega) hEN (fun W s A m c z _ hr hm => inorm_any hr (by omega))).mono ?_
        rintro _ W4 ⟨A4, n4, c4, M4, rfl, ho4, hM4, hb4⟩
        go_wp2
        go_ret
        exact ⟨_, _, _, M4, rfl, ho4.base HB2.out.size, Lib.hid (by rw [hM4.out, List.map_id]; exact ⟨Pz.nz_take (by rw [HLEN.out]; exact hk) (.inr HC.out), Pz.co_take_all hZ.out⟩), HB2.out.trans (hb4.mono HB2.out.size)⟩
end Go.Proofs.YtipbpdiahemmpaaGreat

/- zpoly: a block of integers that is known whole; a coefficient; two lists coefficient by coefficient. -/
namespace Go.Proofs.YtipbpdiahemmpaaGreat
open Go.RowKit Go.IntWalk
attribute [local go_sem ↓] Go.wp_at_zero Go.wp_at_succ

/-- The whole block g holds the integers E. -/
def ZB (w : World) (g : Nat) (E : List Ent) : Prop := w.heap[g]? = some (.cells (zcs E).toArray 28 (0, 0))
/-- Entry i is the integer f i. -/
def EntF (w : World) (b : Nat) (E : List Ent) (f : Nat → Int) : Prop := ∀ (i : Nat) (e : Ent), E[i]? = some e → OwZ w b e.1 e.2.1 e.2.2.1 e.2.2.2 (f i)
theorem zcs_set (E : List Ent) (j : Nat) (e : Ent) : zcs (E.set j e) = ((zcs E).set (j * 2) (.bool e.1)).set (j * 2 + 1) (.slice e.2.1 e.2.2.1 e.2.2.2) := by
  induction E generalizing j with
  | nil => rfl
  | cons x E ih =>
    cases j with
    | zero => rw [List.set_cons_zero, zcs_cons, zcs_cons]; rfl
    | succ j =>
      rw [List.set_cons_succ, zcs_cons, zcs_cons, ih]
      rw [show (j + 1) * 2 = j * 2 + 2 by omega]
      rfl
section
variable {w w' : World} {g b : Nat} {E : List Ent} {f : Nat → Int}
theorem ZB.lt (h : ZB w g E) : g < w.heap.size := (Array.getElem?_eq_some_iff.1 h).1
theorem ZB.frozen (h : ZB w g E) (j : Nat) : w.frozen? ⟨g, j, none⟩ = false := frozen_of_row w g j _ _ h
theorem ZB.cells (h : ZB w g E) {j : Nat} {e : Ent} (he : E[j]? = some e) : w.cell? ⟨g, j * 2, none⟩ = some (.bool e.1) ∧ w.cell? ⟨g, j * 2 + 1, none⟩ = some (.slice e.2.1 e.2.2.1 e.2.2.2) := by
  obtain ⟨h1, h2⟩ := zcs_at E j e he
  exact ⟨by rw [cell_of_row w g _ _ _ _ h]; simpa using h1, by rw [cell_of_row w g _ _ _ _ h]; simpa using h2⟩
theorem ZB.store (h : ZB w g E) (j : Nat) (e : Ent) : ZB ((w.setCell ⟨g, j * 2, none⟩ (.bool e.1)).setCell ⟨g, j * 2 + 1, none⟩ (.slice e.2.1 e.2.2.1 e.2.2.2)) g (E.set j e) := by
  unfold ZB at h ⊢
  rw [zcs_set]
  simp [World.setCell, Array.getElem?_modify, h]
theorem ZB.next (h : ZB w g E) (hb : Below w.heap.size w w') : ZB w' g E := (hb.block g h.lt).trans h
theorem EntF.next (h : EntF w b E f) (hb : Below w.heap.size w w') : EntF w' b E f := fun i e he => (h i e he).next hb
theorem ent_put {s : Bool} {A : Option Addr} {k m : Nat} {z : Int} (h : OwZ w b s A k m z) (hz : ZB w g E) (j : Nat) (e : Ent) : OwZ ((w.setCell ⟨g, j * 2, none⟩ (.bool e.1)).setCell ⟨g, j * 2 + 1, none⟩ (.slice e.2.1 e.2.2.1 e.2.2.2)) b s A k m z := by
  refine ⟨own_other h.own hz fun i _ hne => ?_, h.sgn⟩
  exact (Below.heap_setCell _ (⟨g, j * 2 + 1, none⟩ : Addr) _ i hne).trans (Below.heap_setCell _ (⟨g, j * 2, none⟩ : Addr) _ i hne)
theorem EntF.store (h : EntF w b E f) (hz : ZB w g E) {j : Nat} {e : Ent} {z : Int} (he : OwZ w b e.1 e.2.1 e.2.2.1 e.2.2.2 z) : EntF ((w.setCell ⟨g, j * 2, none⟩ (.bool e.1)).setCell ⟨g, j * 2 + 1, none⟩ (.slice e.2.1 e.2.2.1 e.2.2.2)) b (E.set j e) (fun i => if i = j then z else f i) := by
  intro i e' h'
  by_cases hij : i = j
  · subst hij
    simp only [if_true]
    have hl : i < E.length := by
      rcases Nat.lt_or_ge i E.length with h1 | h1
      · exact h1
      · rw [List.getElem?_eq_none (by rw [List.length_set]; exact h1)] at h'; cases h'
    rw [List.getElem?_set_self hl] at h'
    injection h' with h'
    subst h'
    exact ent_put he hz i e
  · simp only [if_neg hij]
    rw [List.getElem?_set_ne (Ne.symm hij)] at h'
    exact ent_put (h i e' h') hz j e
/-- As a slice of the call's own. -/
theorem ZB.own (h : ZB w g E) (hE : EntF w b E f) (hb : b ≤ g) {m : Nat} (hm : E.length = m) (hx : m ≤ maxLen) : OwZs w b (some ⟨g, 0, none⟩) m m ((List.range m).map f) := by
  refine ⟨E, ⟨by rw [zcs_len, hm], .inr ⟨g, m, _, rfl, hb, h, Nat.le_refl _, hx, by simp [zcs_len, hm], ?_⟩⟩, hm, by simp [hm], fun j e z he hz => ?_⟩
  · rw [List.take_of_length_le (by simp [zcs_len, hm])]
  · have hj : j < m := by
      rcases Nat.lt_or_ge j m with h1 | h1
      · exact h1
      · rw [List.getElem?_eq_none (by omega)] at he; cases he
    rw [List.getElem?_map, List.getElem?_range hj] at hz
    simp at hz
    rw [← hz]
    exact hE j e he
end
theorem zcs_zeros (n : Nat) : (zcs (List.replicate n (false, none, 0, 0))).toArray = madeCells #[.bool false, .slice none 0 0] (n * 2) := by
  apply Array.ext
  · simp [zcs_len, size_madeCells]
  · intro i h1 h2
    have hi : i < n * 2 := by simpa [zcs_len] using h1
    have hj : i / 2 < n := by omega
    obtain ⟨c0, c1⟩ := zcs_at (List.replicate n ((false, none, 0, 0) : Ent)) (i / 2) (false, none, 0, 0) (by simp [hj])
    rcases Nat.mod_two_eq_zero_or_one i with e | e
    · rw [show i / 2 * 2 = i by omega] at c0
      have e2 : (zcs (List.replicate n ((false, none, 0, 0) : Ent)))[i]'(by rw [zcs_len]; simpa using hi) = .bool false := by
        rw [List.getElem?_eq_getElem (by rw [zcs_len]; simpa using hi)] at c0
        injection c0
      simp only [List.getElem_toArray]
      rw [e2]
      simp [madeCells, e]
    · rw [show i / 2 * 2 + 1 = i by omega] at c1
      have e2 : (zcs (List.replicate n ((false, none, 0, 0) : Ent)))[i]'(by rw [zcs_len]; simpa using hi) = .slice none 0 0 := by
        rw [List.getElem?_eq_getElem (by rw [zcs_len]; simpa using hi)] at c1
        injection c1
      simp only [List.getElem_toArray]
      rw [e2]
      simp [madeCells, e]
theorem make_zs (n : Nat) (hn : n ≤ 8796093022208) (w : World) :
    (Instr.makeSlice 23 (.int .i64 (n : Int)) (.int .i64 (n : Int))).run Tryz.prog w = .ok (.slice (some ⟨w.heap.size, 0, none⟩) n n) (w.alloc (.cells (zcs (List.replicate n (false, none, 0, 0))).toArray 28)) := by
  obtain ⟨i0, hi, hz0, hz1, hz2⟩ := info_parts infoZ
  have h := run_make (P := Tryz.prog) w 23 28 i0 _ Tryz.underlying23 hi hz0 .i64 .i64 (n : Int) (n : Int) (by omega) (Int.le_refl _) (by rw [hz2]; omega) (by omega)
  rw [hz1] at h
  rw [zcs_zeros]
  exact h
theorem ZB.made (w : World) (n : Nat) : ZB (w.alloc (.cells (zcs (List.replicate n (false, none, 0, 0))).toArray 28)) w.heap.size (List.replicate n (false, none, 0, 0)) := heap_alloc_new w _
theorem EntF.zeros (w : World) (b n : Nat) : EntF w b (List.replicate n (false, none, 0, 0)) (fun _ => 0) := by
  intro i e he
  have e1 : e = (false, none, 0, 0) := by
    have := List.mem_of_getElem? he
    exact List.eq_of_mem_replicate this
  subst e1
  exact OwZ.zero w b
end Go.Proofs.YtipbpdiahemmpaaGreat

/- The reference's integers, third part: division rounded to nought, exact division. -/
namespace Go.Proofs.YtipbpdiahemmpaaGreat
open Go.RowKit Go.IntWalk
attribute [local go_sem ↓] Go.wp_at_zero Go.wp_at_succ

/-- Two integers come back. -/
def RetIP (q r : Int) (w : World) (e : Ending) (w' : World) : Prop :=
  ∃ (s : Bool) (A : Option Addr) (n c : Nat) (y : Int) (s' : Bool) (A' : Option Addr) (n' c' : Nat) (y' : Int), e = .returned (.tuple #[.agg #[.bool s, .slice A n c], .agg #[.bool s', .slice A' n' c']]) ∧ OwZ w' w.heap.size s A n c y ∧ OwZ w' w.heap.size s' A' n' c' y' ∧ Hid (y = q ∧ y' = r) ∧ Below w.heap.size w w'

set_option maxRecDepth 100000 in
set_option maxHeartbeats 2000000 in
theorem rITrunc_any {s s' : Bool} {A A' : Option Addr} {n c n' c' : Nat} {z z' : Int} {w : World} (h : RdZ w w.heap.size s A n c z) (h' : RdZ w w.heap.size s' A' n' c' z') (hn : n ≤ 4398046511103) (hn' : n' ≤ 4398046511103) (h0 : z' ≠ 0) :
    Calls Tryz.prog 191 #[.agg #[.bool s, .slice A n c], .agg #[.bool s', .slice A' n' c']] w (RetIP (z.tdiv z') (z.tmod z') w) := by
  have HH := Lib.hid h
  have HH' := Lib.hid h'
  obtain ⟨M, h, hz⟩ := h.raw
  obtain ⟨M', h', hz'⟩ := h'.raw
  have HP := Lib.hid (show 0 < Dg.val M' by
    rcases Nat.eq_zero_or_pos (Dg.val M') with e | e
    · exact absurd (by rw [hz'.out, e, Zz.sg_zero]) h0
    · exact e)
  clear h0
  have HL := Lib.hid (show Dg.val M < 4294967296 ^ n from by rw [← h.len]; exact Dg.val_lt h.wd)
  have HL' := Lib.hid (show Zz.zl z ≤ n ∧ Zz.zl z' ≤ n' from ⟨HH.out.len, HH'.out.len⟩)
  obtain ⟨W1, HW1, hZ, hY, hR, hS, hB⟩ := boxed22 w s A n c s' A' n' c'
  have HW1 := Lib.hid HW1
  have HSZ := Lib.hid (show w.heap.size < W1.heap.size from hZ.lt)
  go_enter Tryz.func191, Tryz.ntmps191
  go_wp2_with fail
  rw [← HW1.out]
  clear HW1
  clear HW1
  have hc0 := hZ.c0
  have hc1 := hZ.c1
  have hd0 := hY.c0
  have hd1 := hY.c1
  refine (refNDiv_any (h.next hB) (h'.next hB) hn hn' HP.out).mono ?_
  rintro _ W2 ⟨A2, A3, m2, c2, m3, c3, x2, x3, rfl, ho2, ho3, hx2, hb2⟩
  have hZ2 := hZ.next hb2
  have hY2 := hY.next hb2
  have hR2 := hR.next hb2
  have hS2 := hS.next hb2
  have hB2 := hB.trans (hb2.mono hB.size)
  have HS1 := Lib.hid (And.intro hR.lt hS.lt)
  have HS2 := Lib.hid hb2.size
  have HM2 := Lib.hid (show m2 ≤ n from ho2.short (by rw [hx2.out.1]; exact Nat.lt_of_le_of_lt (Nat.div_le_self _ _) HL.out))
  clear hc0 hc1 hd0 hd1 hZ hY hR hS hb2 hB ho3 h h'
  have hc0 := hZ2.c0
  have hd0 := hY2.c0
  go_wp2_with fail
  refine (rINorm_any (z := Zz.sg (s != s') (Dg.val (Dg.dg x2))) ⟨_, ho2.rd, rfl⟩ (by have := HM2.out; omega)).mono ?_
  rintro _ W3 ⟨s3, A4, m4, c4, z4, rfl, ho4, hz4, hb3⟩
  have HQ := Lib.hid (show z4 = z.tdiv z' by rw [hz4.out, Dg.val_dg, hx2.out.1, hz.out, hz'.out, Zz.sg_div])
  obtain ⟨W4, HW4⟩ : ∃ W, W = W3.alloc (.cells #[.bool s3, .slice A4 m4 c4] 28) := ⟨_, rfl⟩
  have hX : ZC W4 W3.heap.size s3 A4 m4 c4 := by rw [HW4]; exact ZC.new W3 s3 A4 m4 c4
  have hb4 : Below W3.heap.size W3 W4 := by rw [HW4]; exact (Below.refl W3.heap.size W3).alloc (Nat.le_refl _) _
  have HW4 := Lib.hid HW4
  clear hc0 hd0
  go_wp2_with fail
  rw [← HW4.out]
  clear HW4
  clear HW4
  have hb24 := hb3.trans (hb4.mono hb3.size)
  have HO4 := Lib.hid (ho4.next hb4)
  have HZ := Lib.hid (hZ2.next hb24)
  have HY := Lib.hid (hY2.next hb24)
  have HR := Lib.hid (hR2.next hb24)
  have HS := Lib.hid (hS2.next hb24)
  have HX := Lib.hid hX
  have HB := Lib.hid (hB2.trans (hb24.mono hB2.size))
  have HBD := Lib.hid (Below.refl W4.heap.size W4).drew
  have HM4 := Lib.hid (show m4 ≤ n from by rw [ho4.len, HQ.out]; exact Nat.le_trans (Zz.zl_tdiv _ _) HL'.out.1)
  have HSX := Lib.hid (show W1.heap.size ≤ W2.heap.size ∧ W2.heap.size ≤ W3.heap.size from ⟨HS2.out, hb3.size⟩)
  obtain ⟨gx, hgx⟩ : ∃ g, g = W3.heap.size := ⟨_, rfl⟩
  rw [← hgx] at HX ⊢
  have HGX := Lib.hid (show W2.heap.size ≤ gx by rw [hgx]; exact hb3.size)
  clear hZ2 hY2 hR2 hS2 hX hb24 hb3 hb4 ho4 ho2 hz4 hx2 hgx
  have hc0 := HZ.out.c0
  have hc1 := HZ.out.c1
  have hd0 := HY.out.c0
  have hd1 := HY.out.c1
  have he0 := HX.out.c0
  have he1 := HX.out.c1
  have hq1 : ¬ (w.heap.size + 1 + 1 = w.heap.size) := by omega
  have hq3 : ¬ (w.heap.size + 1 + 1 + 1 = w.heap.size) := by omega
  have hq5 : ¬ (w.heap.size + 1 + 1 = gx) := by have := HGX.out; have := HS1.out; have := HS2.out; omega
  have hq6 : ¬ (w.heap.size + 1 + 1 + 1 = gx) := by have := HGX.out; have := HS1.out; have := HS2.out; omega
  have HMU := Lib.hid (rIMul_any (HO4.out.next HBD.out).rd (HH'.out.next HB.out.drew) (by have := HM4.out; omega) hn')
  go_region_held3 (fun w' => w'.cell? ⟨w.heap.size, 0, none⟩ = some (.bool s) ∧ w'.cell? ⟨w.heap.size, 1, none⟩ = some (.slice A n c) ∧ w'.cell? ⟨w.heap.size + 1, 0, none⟩ = some (.bool s') ∧ w'.cell? ⟨w.heap.size + 1, 1, none⟩ = some (.slice A' n' c') ∧ w'.cell? ⟨gx, 0, none⟩ = some (.bool s3) ∧ w'.cell? ⟨gx, 1, none⟩ = some (.slice A4 m4 c4)) (go_keep)
    (first
      | (go_at_call 183; refine HMU.out.mono ?_; rintro _ W5 ⟨s5, A5, m5, c5, z5, rfl, ho5, hz5, hb5⟩; have HB5 := Lib.hid (HBD.out.trans hb5); have hi0 := (HZ.out.next HB5.out).c0; have hi1 := (HZ.out.next HB5.out).c1; have hi2 := (HY.out.next HB5.out).c0; have hi3 := (HY.out.next HB5.out).c1; have hi4 := (HX.out.next HB5.out).c0; have hi5 := (HX.out.next HB5.out).c1)
      | (go_at_call 193; refine (rISub_any (HH.out.next (HB.out.trans (HB5.out.mono HB.out.size))) ho5.rd (by omega) (by rw [ho5.len, hz5.out]; have e1 := Zz.zl_mul z4 z'; have e2 := HL'.out.2; have e3 := HM4.out; have e4 := HO4.out.len; omega)).mono ?_; rintro _ W6 ⟨s6, A6, m6, c6, z6, rfl, ho6, hz6, hb6⟩; have HB6 := Lib.hid (HB5.out.trans (hb6.mono HB5.out.size)); have hj0 := (HZ.out.next HB6.out).c0; have hj1 := (HZ.out.next HB6.out).c1; have hj2 := (HY.out.next HB6.out).c0; have hj3 := (HY.out.next HB6.out).c1; have hj4 := (HX.out.next HB6.out).c0; have hj5 := (HX.out.next HB6.out).c1; have hk0 := (HR.out.next HB6.out).c0; have hk1 := (HR.out.next HB6.out).c1; have hk2 := (HR.out.next HB6.out).fz 0; have hk3 := (HR.out.next HB6.out).fz 1; have hk4 := (HS.out.next HB6.out).c0; have hk5 := (HS.out.next HB6.out).c1; have hk6 := (HS.out.next HB6.out).fz 0; have hk7 := (HS.out.next HB6.out).fz 1))
  obtain ⟨V, HV⟩ : ∃ W, W = (((W6.setCell ⟨w.heap.size + 1 + 1, 0, none⟩ (.bool s3)).setCell ⟨w.heap.size + 1 + 1, 1, none⟩ (.slice A4 m4 c4)).setCell ⟨w.heap.size + 1 + 1 + 1, 0, none⟩ (.bool s6)).setCell ⟨w.heap.size + 1 + 1 + 1, 1, none⟩ (.slice A6 m6 c6) := ⟨_, rfl⟩
  obtain ⟨hZ9, hY9, ho9, ho10, hB9⟩ := put_two (HR.out.next HB6.out) (HS.out.next HB6.out) (by omega) (HB.out.trans (HB6.out.mono HB.out.size)) (by omega) (by omega) ((HO4.out.next HB6.out).base HS2.out) ho6 HS1.out (by have := HS1.out; have := HS2.out; have := HB5.out.size; have := HGX.out; have := HX.out.lt; omega) HV
  rw [← HV]
  have HF := Lib.hid (show z6 = z.tmod z' by rw [hz6.out, hz5.out, HQ.out]; have e := Int.mul_tdiv_add_tmod z z'; rw [Int.mul_comm z'] at e; omega)
  have HSV := Lib.hid (show w.heap.size ≤ W5.heap.size from Nat.le_trans HB.out.size HB5.out.size)
  clear HV hc0 hc1 hd0 hd1 he0 he1 hi0 hi1 hi2 hi3 hi4 hi5 hj0 hj1 hj2 hj3 hj4 hj5 hk0 hk1 hk2 hk3 hk4 hk5 hk6 hk7 hq1 hq3 hq5 hq6 hb5 hb6 ho5 ho6
  go_wp2
  exact bodyPost_ret (by simp [results, Tryz.results191, go_sem, hZ9.c0, hZ9.c1, hY9.c0, hY9.c1]) rfl ⟨_, _, _, _, _, _, _, _, _, _, rfl, ho9.base (Nat.le_of_lt HSZ.out), ho10.base HSV.out, Lib.hid ⟨HQ.out, HF.out⟩, hB9⟩

set_option maxRecDepth 100000 in
set_option maxHeartbeats 2000000 in
/-- A division that leaves nothing. -/
theorem rIExact_any {s s' : Bool} {A A' : Option Addr} {n c n' c' : Nat} {z z' : Int} {w : World} (h : RdZ w w.heap.size s A n c z) (h' : RdZ w w.heap.size s' A' n' c' z') (hn : n ≤ 4398046511103) (hn' : n' ≤ 4398046511103) (h0 : z' ≠ 0) :
    Calls Tryz.prog 89 #[.agg #[.bool s, .slice A n c], .agg #[.bool s', .slice A' n' c']] w fun e w' => ∃ (s : Bool) (A : Option Addr) (n c : Nat) (y : Int) (k : Bool), e = .returned (.tuple #[.agg #[.bool s, .slice A n c], .bool k]) ∧ OwZ w' w.heap.size s A n c y ∧ Hid ((z.tmod z' = 0 ∧ y = z.tdiv z' ∧ k = true) ∨ (z.tmod z' ≠ 0 ∧ y = 0 ∧ k = false)) ∧ Below w.heap.size w w' := by
  obtain ⟨hZ, hY, hR, hB⟩ := boxed2 w s A n c s' A' n' c'
  have h1 := h.next hB
  have h1' := h'.next hB
  have HLN := Lib.hid h1'.len
  have HSZ := Lib.hid (show w.heap.size < _ from Nat.lt_trans (Nat.lt_succ_self _) (Nat.lt_trans (Nat.lt_succ_self _) hR.lt))
  go_enter Tryz.func89, Tryz.ntmps89
  go_wp2_with fail
  generalize ((w.alloc (.cells #[.bool s, .slice A n c] 28)).alloc (.cells #[.bool s', .slice A' n' c'] 28)).alloc (.cells #[.bool false, .slice none 0 0] 28) = W1 at *
  have hc0 := hZ.c0
  have hc1 := hZ.c1
  have hd0 := hY.c0
  have hd1 := hY.c1
  refine (rITrunc_any h1 h1' hn hn' h0).mono ?_
  rintro _ W2 ⟨s2, A2, m2, c2, z2, s3, A3, m3, c3, z3, rfl, ho2, ho3, hz2, hb2⟩
  obtain ⟨W3, HW3⟩ : ∃ W, W = (W2.alloc (.cells #[.bool s2, .slice A2 m2 c2] 28)).alloc (.cells #[.bool s3, .slice A3 m3 c3] 28) := ⟨_, rfl⟩
  have hQ : ZC W3 W2.heap.size s2 A2 m2 c2 := by rw [HW3]; exact (ZC.new W2 s2 A2 m2 c2).alloc _
  have hS : ZC W3 (W2.heap.size + 1) s3 A3 m3 c3 := by rw [HW3]; simpa using ZC.new (W2.alloc (.cells #[.bool s2, .slice A2 m2 c2] 28)) s3 A3 m3 c3
  have hb3 : Below W2.heap.size W2 W3 := by rw [HW3]; exact ((Below.refl W2.heap.size W2).alloc (Nat.le_refl _) _).alloc (by simp) _
  have HW3 := Lib.hid HW3
  clear hc0 hc1 hd0 hd1
  go_wp2_with fail
  rw [← HW3.out]
  clear HW3
  have hs0 := hS.c0
  have hs1 := hS.c1
  have HM3 := Lib.hid (show m3 ≤ 4398046511103 from by rw [ho3.len, hz2.out.2]; exact Nat.le_trans (Zz.zl_tmod_lt _ h0) (Nat.le_trans HLN.out hn'))
  refine (rISign_any (ho3.next hb3).rd (by have := HM3.out; omega)).mono ?_
  rintro _ W4 ⟨k, rfl, hk, hb4⟩
  have HB24 := Lib.hid (hb3.trans (hb4.mono hb3.size))
  have HO2 := Lib.hid ((ho2.next HB24.out))
  have hQ4 := hQ.next hb4
  have hR4 := (hR.next hb2).next HB24.out
  have hB4 := hB.trans ((hb2.trans (HB24.out.mono hb2.size)).mono hB.size)
  have hf0 := hR4.fz 0
  have hf1 := hR4.fz 1
  have hr0 := hR4.c0
  have hr1 := hR4.c1
  have hq0 := hQ4.c0
  have hq1 := hQ4.c1
  have HS1 := Lib.hid hR.lt
  have HK := Lib.hid (show k = 0 ↔ z.tmod z' = 0 by rw [hk.out, hz2.out.2]; exact Int.sign_eq_zero_iff_zero)
  clear hs0 hs1 hS hQ hR hZ hY hb2 hb3 hb4 ho2 ho3
  by_cases hk0 : k = 0
  · have HT := Lib.hid (HK.out.1 hk0)
    subst hk0
    go_wp2
    have hp := put_int hR4 hB4 (by omega) HO2.out HS1.out
    generalize (W4.setCell ⟨w.heap.size + 1 + 1, 0, none⟩ (.bool s2)).setCell ⟨w.heap.size + 1 + 1, 1, none⟩ (.slice A2 m2 c2) = W5 at hp ⊢
    obtain ⟨hZ5, ho5, hB5⟩ := hp
    exact bodyPost_ret (by simp [results, Tryz.results89, go_sem, hZ5.c0, hZ5.c1]) rfl ⟨_, _, _, _, _, _, rfl, ho5.base (Nat.le_of_lt HSZ.out), Lib.hid (.inl ⟨HT.out, hz2.out.1, rfl⟩), hB5⟩
  · have HT := Lib.hid (mt HK.out.2 hk0)
    have hkb : (k != 0) = true := by simpa using hk0
    clear hk0
    go_wp2
    have hp := put_int hR4 hB4 (by omega) (OwZ.zero W4 W1.heap.size) HS1.out
    generalize (W4.setCell ⟨w.heap.size + 1 + 1, 0, none⟩ (.bool false)).setCell ⟨w.heap.size + 1 + 1, 1, none⟩ (.slice none 0 0) = W5 at hp ⊢
    obtain ⟨hZ5, ho5, hB5⟩ := hp
    exact bodyPost_ret (by simp [results, Tryz.results89, go_sem, hZ5.c0, hZ5.c1]) rfl ⟨_, _, _, _, _, _, rfl, ho5.base (Nat.le_of_lt HSZ.out), Lib.hid (.inr ⟨HT.out, rfl, rfl⟩), hB5⟩
end Go.Proofs.YtipbpdiahemmpaaGreat
