/- Lists of integers of the call's own. -/
import Derived.Test.YtipbpdiahemmpaaGreatI16
import Derived.Test.YtipbpdiahemmpaaGreatI6
import Derived.Test.YtipbpdiahemmpaaGreatN15
import Derived.WalkSmall
import Derived.Test.YtipbpdiahemmpaaGreatPz
namespace Go.Proofs.YtipbpdiahemmpaaGreat
open Go.RowKit Go.IntWalk

abbrev Ent := Bool × Option Addr × Nat × Nat
/-- The cells of integers in a row. -/
def zc (e : Ent) : List Value := [.bool e.1, .slice e.2.1 e.2.2.1 e.2.2.2]
def zcs (E : List Ent) : List Value := E.flatMap zc
theorem zcs_nil : zcs [] = [] := rfl
theorem zcs_cons (e : Ent) (E : List Ent) : zcs (e :: E) = zc e ++ zcs E := by simp [zcs]
theorem zcs_append (E F : List Ent) : zcs (E ++ F) = zcs E ++ zcs F := by simp [zcs]
theorem zcs_one (e : Ent) : zcs [e] = [.bool e.1, .slice e.2.1 e.2.2.1 e.2.2.2] := rfl
theorem zcs_len (E : List Ent) : (zcs E).length = E.length * 2 := by
  induction E with
  | nil => rfl
  | cons e E ih => rw [zcs_cons, List.length_append, ih]; simp [zc]; omega
theorem zcs_at : ∀ (E : List Ent) (j : Nat) (e : Ent), E[j]? = some e → (zcs E)[j * 2]? = some (.bool e.1) ∧ (zcs E)[j * 2 + 1]? = some (.slice e.2.1 e.2.2.1 e.2.2.2)
  | [], _, _, h => by simp at h
  | x :: E, 0, e, h => by
    simp at h
    subst h
    exact ⟨rfl, rfl⟩
  | x :: E, j + 1, e, h => by
    have ih := zcs_at E j e (by simpa using h)
    rw [zcs_cons]
    have e1 : (zc x ++ zcs E)[(j + 1) * 2]? = (zcs E)[j * 2]? := by
      rw [List.getElem?_append_right (by simp [zc]; omega)]
      congr 1
      simp [zc]
      omega
    have e2 : (zc x ++ zcs E)[(j + 1) * 2 + 1]? = (zcs E)[j * 2 + 1]? := by
      rw [List.getElem?_append_right (by simp [zc]; omega)]
      congr 1
      simp [zc]
      omega
    rw [e1, e2]
    exact ih

/-- Each entry is an integer of the call's own. -/
def Ents (w : World) (b : Nat) (E : List Ent) (L : List Int) : Prop := E.length = L.length ∧ ∀ (j : Nat) (e : Ent) (z : Int), E[j]? = some e → L[j]? = some z → OwZ w b e.1 e.2.1 e.2.2.1 e.2.2.2 z
/-- A row of integers of the call's own, at or beyond block b. -/
def OwZs (w : World) (b : Nat) (A : Option Addr) (n c : Nat) (L : List Int) : Prop :=
  ∃ E : List Ent, w.ownsRow b 28 2 (.slice A n c) n (zcs E) ∧ E.length = n ∧ Ents w b E L
section
variable {w w' : World} {b b' : Nat} {A : Option Addr} {n c : Nat} {L : List Int} {E : List Ent}
theorem Ents.next (h : Ents w b E L) (hb : Below w.heap.size w w') : Ents w' b E L := ⟨h.1, fun j e z he hz => (h.2 j e z he hz).next hb⟩
theorem Ents.base (h : Ents w b E L) (hb : b' ≤ b) : Ents w b' E L := ⟨h.1, fun j e z he hz => (h.2 j e z he hz).base hb⟩
theorem Ents.snoc (h : Ents w b E L) {e : Ent} {z : Int} (he : OwZ w b e.1 e.2.1 e.2.2.1 e.2.2.2 z) : Ents w b (E ++ [e]) (L ++ [z]) := by
  refine ⟨by rw [List.length_append, List.length_append, h.1]; rfl, fun j e' z' h1 h2 => ?_⟩
  rcases Nat.lt_or_ge j E.length with hj | hj
  · rw [List.getElem?_append_left hj] at h1
    rw [List.getElem?_append_left (by rw [← h.1]; exact hj)] at h2
    exact h.2 j e' z' h1 h2
  · rw [List.getElem?_append_right hj] at h1
    rw [List.getElem?_append_right (by rw [← h.1]; exact hj)] at h2
    rw [← h.1] at h2
    have hj0 : j - E.length = 0 := by
      rcases Nat.eq_zero_or_pos (j - E.length) with e0 | e0
      · exact e0
      · rw [List.getElem?_eq_none (by simp; omega)] at h1; cases h1
    rw [hj0] at h1 h2
    simp at h1 h2
    subst h1 h2
    exact he
theorem OwZs.len (h : OwZs w b A n c L) : L.length = n := by
  obtain ⟨E, _, h2, h3⟩ := h
  rw [← h3.1, h2]
theorem OwZs.nil (w : World) (b : Nat) : OwZs w b none 0 0 [] := ⟨[], World.ownsRow_nil _ _ _ _, rfl, rfl, fun j e z he _ => by simp at he⟩
theorem OwZs.form (h : OwZs w b A n c L) : (A = none ∧ n = 0 ∧ c = 0) ∨ ∃ g, A = some ⟨g, 0, none⟩ ∧ b ≤ g ∧ g < w.heap.size ∧ n ≤ c ∧ c ≤ maxLen := by
  obtain ⟨E, h, _, _⟩ := h
  rcases h.2 with ⟨h1, h2⟩ | ⟨g, cap, cur, h1, h2, h3, h4, h5, _⟩
  · injection h1 with h1 h1' h1''
    exact .inl ⟨h1, h2, h1''⟩
  · injection h1 with h1 h1' h1''
    subst h1''
    exact .inr ⟨g, h1, h2, (Array.getElem?_eq_some_iff.1 h3).1, h4, h5⟩
theorem row_next {e : TypeId} {k : Nat} {v : Value} {xs : List Value} (h : w.ownsRow b e k v n xs) (hb : Below w.heap.size w w') : w'.ownsRow b e k v n xs := by
  refine ⟨h.1, ?_⟩
  rcases h.2 with h0 | ⟨g, cap, cur, h1, h2, h3, h4⟩
  · exact .inl h0
  · exact .inr ⟨g, cap, cur, h1, h2, (hb.block g (Array.getElem?_eq_some_iff.1 h3).1).trans h3, h4⟩
theorem row_base {e : TypeId} {k : Nat} {v : Value} {xs : List Value} (h : w.ownsRow b e k v n xs) (hb : b' ≤ b) : w.ownsRow b' e k v n xs := by
  refine ⟨h.1, ?_⟩
  rcases h.2 with h0 | ⟨g, cap, cur, h1, h2, h3⟩
  · exact .inl h0
  · exact .inr ⟨g, cap, cur, h1, by omega, h3⟩
theorem OwZs.next (h : OwZs w b A n c L) (hb : Below w.heap.size w w') : OwZs w' b A n c L := by
  obtain ⟨E, h1, h2, h3⟩ := h
  exact ⟨E, row_next h1 hb, h2, h3.next hb⟩
theorem OwZs.base (h : OwZs w b A n c L) (hb : b' ≤ b) : OwZs w b' A n c L := by
  obtain ⟨E, h1, h2, h3⟩ := h
  exact ⟨E, row_base h1 hb, h2, h3.base hb⟩
theorem OwZs.rd {N : Nat} (h : OwZs w b A n c L) (hN : ∀ z ∈ L, Zz.zl z ≤ N) : RdZs w w.heap.size N A n c L := by
  have hl := h.len
  rcases h.form with ⟨rfl, rfl, rfl⟩ | ⟨g, rfl, h1, h2, h3, h4⟩
  · refine ⟨hl, Nat.le_refl _, Nat.zero_le _, fun j z hz => ?_⟩
    rw [List.eq_nil_of_length_eq_zero hl] at hz
    simp at hz
  · obtain ⟨E, hr, hE, hel⟩ := h
    refine ⟨hl, h3, h4, fun j z hz => ?_⟩
    have hj : j < L.length := by
      rcases Nat.lt_or_ge j L.length with h5 | h5
      · exact h5
      · rw [List.getElem?_eq_none h5] at hz; cases hz
    have hjE : j < E.length := by rw [hel.1]; exact hj
    have he := List.getElem?_eq_getElem hjE
    have hz' := hel.2 j _ z he hz
    obtain ⟨c0, c1⟩ := zcs_at E j _ he
    have e1 : (⟨g, 0, none⟩ : Addr).add (j * 2) = ⟨g, j * 2, none⟩ := add_base g _
    refine ⟨_, _, _, _, _, rfl, h2, ?_, ?_, hz'.rd, ?_⟩
    · rw [e1, hr.cellAt (j * 2) (by omega)]; exact c0
    · rw [e1]
      show w.cell? ⟨g, j * 2 + 1, none⟩ = _
      rw [hr.cellAt (j * 2 + 1) (by omega)]
      exact c1
    · rw [hz'.len]; exact hN z (List.mem_of_getElem? hz)
theorem own_other {k m g : Nat} {M : List Nat} {A : Option Addr} {cur : Array Value} {f : Nat × Nat} (h : OwU w b A k m M) (hg : w.heap[g]? = some (.cells cur 28 f)) {w1 : World} (hb : ∀ i, i < w.heap.size → i ≠ g → w1.heap[i]? = w.heap[i]?) : OwU w1 b A k m M := by
  refine ⟨⟨h.own.1, ?_⟩, h.wd⟩
  rcases h.own.2 with h0 | ⟨g2, cap, cur2, h1, h2, h3, h4⟩
  · exact .inl h0
  · have hne : g2 ≠ g := by
      rintro rfl
      rw [hg] at h3
      simp at h3
    exact .inr ⟨g2, cap, cur2, h1, h2, (hb g2 (Array.getElem?_eq_some_iff.1 h3).1 hne).trans h3, h4⟩
/-- One integer more. -/
theorem zs_more {wb w1 : World} {v' : Value} {e : Ent} {z : Int} {t : TypeId} (he : OwZ w b e.1 e.2.1 e.2.2.1 e.2.2.2 z) (hwb : wb = w.alloc (.cells #[.bool e.1, .slice e.2.1 e.2.2.1 e.2.2.2] t)) {E : List Ent} (hE : wb.ownsRow b 28 2 (.slice A n c) n (zcs E)) (hEl : E.length = n) (hEn : Ents w b E L)
    (hown' : w1.ownsRow b 28 2 v' (n + 1) (zcs E ++ [.bool e.1, .slice e.2.1 e.2.2.1 e.2.2.2])) (hg : wb.grownBy w1 (Value.slice A n c).ownBlock) :
    ∃ (A' : Option Addr) (c' : Nat), v' = .slice A' (n + 1) c' ∧ OwZs w1 b A' (n + 1) c' (L ++ [z]) := by
  obtain ⟨A', c', rfl⟩ := row_sl hown'
  have hba : Below w.heap.size w wb := by rw [hwb]; exact (Below.refl w.heap.size w).alloc (Nat.le_refl _) _
  have key : ∀ {s : Bool} {B : Option Addr} {k m : Nat} {y : Int}, OwZ w b s B k m y → OwZ w1 b s B k m y := by
    intro s B k m y hy
    have hy2 := hy.next hba
    refine ⟨?_, hy2.sgn⟩
    rcases hE.2 with ⟨h1, h2⟩ | ⟨g, cap, cur, h1, h2, h3, _⟩
    · refine hy2.own.next ((Below.refl _ _).grown hg (Nat.le_refl _) fun k hk => ?_)
      rw [h1] at hk
      cases hk
    · refine own_other hy2.own h3 fun i hi hne => hg.block i hi ?_
      rw [h1]
      intro e0
      cases e0
      exact hne rfl
  refine ⟨A', c', rfl, E ++ [e], ?_, by rw [List.length_append, hEl]; rfl, ?_⟩
  · rw [zcs_append, zcs_one]; exact hown'
  · have h2 := hEn.snoc he
    exact ⟨h2.1, fun j e' z' h3 h4 => key (h2.2 j e' z' h3 h4)⟩
end
/-- A list of integers comes back in memory of the call's own. -/
def RetL (L : List Int) (w : World) (e : Ending) (w' : World) : Prop :=
  ∃ (A : Option Addr) (n c : Nat) (M : List Int), e = .returned (.slice A n c) ∧ OwZs w' w.heap.size A n c M ∧ Hid (M = L) ∧ Below w.heap.size w w'
theorem infoZ : (Tryz.prog.info? 28).map (fun i => (i.zero, i.size, i.bytes)) = some (some (.agg #[.bool false, .slice none 0 0]), 2, 32) := by kernel_rfl
end Go.Proofs.YtipbpdiahemmpaaGreat

/- zpoly: a list made of another one. -/
namespace Go.Proofs.YtipbpdiahemmpaaGreat
open Go.RowKit Go.IntWalk
attribute [local go_sem ↓] Go.wp_at_zero Go.wp_at_succ

theorem own_block {w : World} {base : Nat} {e : TypeId} {size : Nat} {v : Value} {n : Nat} {xs : List Value} (h : w.ownsRow base e size v n xs) : ∀ k, v.ownBlock = some k → base ≤ k := by
  intro k hk
  rcases h.2 with ⟨rfl, _⟩ | ⟨g, cap, cur, rfl, hb, _⟩
  · cases hk
  · cases hk; exact hb
theorem zs_at {w : World} {B N : Nat} {A : Option Addr} {n c : Nat} {L : List Int} (h : RdZs w B N A n c L) {j : Nat} (hj : j < n) :
    ∃ (ad : Addr) (s : Bool) (A' : Option Addr) (n' c' : Nat) (z : Int), A = some ad ∧ ad.block < B ∧ w.cell? (ad.add (j * 2)) = some (.bool s) ∧ w.cell? ⟨(ad.add (j * 2)).block, (ad.add (j * 2)).off + 1, none⟩ = some (.slice A' n' c') ∧ RdZ w B s A' n' c' z ∧ n' ≤ N ∧ Hid (L[j]? = some z) := by
  obtain ⟨z, hz⟩ := zs_get (L := L) (j := j) (by rw [h.len]; exact hj)
  obtain ⟨ad, s, A', n', c', h1, h2, h3, h4, h5, h6⟩ := h.at_ j z hz
  exact ⟨ad, s, A', n', c', z, h1, h2, h3, h4, h5, h6, Lib.hid hz⟩
theorem zs_cells {w w' : World} {B : Nat} {ad : Addr} {j : Nat} {s : Bool} {A' : Option Addr} {n' c' : Nat} (hb : Below B w w') (h2 : ad.block < B) (h3 : w.cell? (ad.add (j * 2)) = some (.bool s)) (h4 : w.cell? ⟨(ad.add (j * 2)).block, (ad.add (j * 2)).off + 1, none⟩ = some (.slice A' n' c')) :
    w'.cell? (ad.add (j * 2)) = some (.bool s) ∧ w'.cell? ⟨(ad.add (j * 2)).block, (ad.add (j * 2)).off + 1, none⟩ = some (.slice A' n' c') :=
  ⟨(hb.cell (p := ad.add (j * 2)) (by rw [add_blk]; exact h2)).trans h3, (hb.cell (p := ⟨(ad.add (j * 2)).block, (ad.add (j * 2)).off + 1, none⟩) (by show (ad.add (j * 2)).block < B; rw [add_blk]; exact h2)).trans h4⟩
theorem zcell_new (w : World) (x y : Value) (t : TypeId) : ∀ j u, [x, y][j]? = some u → (w.alloc (.cells #[x, y] t)).cell? ((⟨w.heap.size, 0, none⟩ : Addr).add j) = some u := by
  intro j u hj
  match j, hj with
  | 0, hj => simp at hj; subst hj; simp [Addr.add]
  | 1, hj => simp at hj; subst hj; simp [Addr.add]
  | (j + 2), hj => simp at hj
theorem map_snoc {f : Int → Int} {L : List Int} {j : Nat} {z : Int} (h : L[j]? = some z) : (L.take j).map f ++ [f z] = (L.take (j + 1)).map f := by
  rw [List.take_add_one, h]
  simp

set_option maxRecDepth 100000 in
set_option maxHeartbeats 4000000 in
theorem mapped_any {f N : Nat} (φ : Int → Int) {A : Option Addr} {n c : Nat} {L : List Int} {w : World} (h : RdZs w w.heap.size N A n c L) (hn : n ≤ 4398046511103) (heg : ∀ args w, (callFunc f args).run Tryz.prog w = .ok (.enter f args) w)
    (hdo : ∀ (W : World) (s : Bool) (A : Option Addr) (m c : Nat) (z : Int), Below w.heap.size w W → RdZ W W.heap.size s A m c z → m ≤ N → Calls Tryz.prog f #[.agg #[.bool s, .slice A m c]] W (RetI (φ z) W)) :
    Calls Tryz.prog 82 #[.slice A n c, .func (.func f) #[] #[]] w (RetL (L.map φ) w) := by
  have HD := Lib.hid hdo
  have HLEN := Lib.hid h.len
  obtain ⟨i0, hi, hz0, hz1, hz2⟩ := info_parts infoZ
  clear hdo
  go_enter Tryz.func82, Tryz.ntmps82
  go_wp2_with fail
  go_loopw [5, 10] (fun ov iv wr => ∃ (j c' : Nat) (A' : Option Addr) (M : List Int), ov = .slice A' j c' ∧ iv = .int .i64 j ∧ j ≤ n ∧ OwZs wr w.heap.size A' j c' M ∧ Hid (M = (L.take j).map φ) ∧ Below w.heap.size w wr) (fun _ iv _ => n - (intOf iv).toNat)
  case atStart => exact ⟨0, 0, none, [], rfl, rfl, Nat.zero_le _, OwZs.nil _ _, Lib.hid rfl, Below.refl _ _⟩
  case round =>
    obtain ⟨j, c', A', M, rfl, rfl, hj, ho, hM, hB⟩ := hrel
    by_cases hjn : j = n
    · subst hjn
      go_wp2
      go_ret
      exact ⟨_, _, _, _, rfl, ho, Lib.hid (by rw [hM.out, List.take_of_length_le (by rw [HLEN.out]; exact Nat.le_refl _)]), hB⟩
    · have hjl : j < n := by omega
      clear hjn
      have hjli : (j : Int) < (n : Int) := by omega
      obtain ⟨ad, s, A1, n1, c1, z, rfl, hbk, hx0, hx1, hr, hn1, hz⟩ := zs_at h hjl
      obtain ⟨hy0, hy1⟩ := zs_cells hB hbk hx0 hx1
      obtain ⟨W2, HW2⟩ : ∃ W, W = wr.alloc (.cells #[.bool s, .slice A1 n1 c1] 28) := ⟨_, rfl⟩
      have hb2 : Below wr.heap.size wr W2 := by rw [HW2]; exact (Below.refl wr.heap.size wr).alloc (Nat.le_refl _) _
      have HW2 := Lib.hid HW2
      have HO := Lib.hid (ho.next hb2)
      have hB2 := hB.trans (hb2.mono hB.size)
      have HDO := Lib.hid (HD.out W2 s A1 n1 c1 z hB2 (hr.next hB2) hn1)
      go_wp2_with fail
      rw [← HW2.out]
      clear HW2 hy0 hy1 ho
      clear HW2
      refine HDO.out.mono ?_
      rintro _ W3 ⟨s3, A3, m3, c3, z3, rfl, ho3, hz3, hb3⟩
      have hB3 := hB2.trans (hb3.mono hB2.size)
      have HO3 := HO.out.next hb3
      obtain ⟨E, hE, hEl, hEn⟩ := HO3
      have HO4 := Lib.hid (ho3.base hB2.size)
      have HE := Lib.hid hE
      have HEN := Lib.hid (And.intro hEl hEn)
      have HM2 := Lib.hid (show M ++ [z3] = (L.take (j + 1)).map φ by rw [hM.out, hz3.out]; exact map_snoc hz.out)
      clear hE hEl hEn hx0 hx1 hr hb2 hb3 ho3
      go_wp2_with (at_builtin; refine wpList_append_own _ rfl _ _ 22 rfl w.heap.size 28 i0 (.agg #[.bool false, .slice none 0 0]) 2 32 Tryz.underlying22 hi hz0 hz1 hz2 rfl (by decide) _ _ _ rfl (HE.out.alloc _) ⟨W3.heap.size, 0, none⟩ 1 1 [.bool s3, .slice A3 m3 c3] rfl rfl (zcell_new _ _ _ _) (by simp [Value.oneCell']) (by unfold maxLen; omega) (by omega) (by have := hB3.size; simp; omega) ?_; intro v' w1 hown' hgrow _)
      have hmore := zs_more (e := (s3, A3, m3, c3)) (z := z3) HO4.out rfl (HE.out.alloc _) HEN.out.1 HEN.out.2 hown' hgrow
      have HB5 := Lib.hid ((hB3.alloc hB3.size (.cells #[.bool s3, .slice A3 m3 c3] 28)).grown hgrow (by have := hB3.size; simp; omega) (own_block HE.out))
      obtain ⟨A5, c5, rfl, ho5⟩ := hmore
      clear hown' hgrow HE HEN HO4 hB3 hB2 hB
      go_wp2
      go_roundw
      case rel => exact ⟨j + 1, c5, A5, M ++ [z3], rfl, by go_num, by omega, ho5, HM2, HB5.out⟩
      case measure => simp [intOf]; omega
end Go.Proofs.YtipbpdiahemmpaaGreat

/- zpoly: a list made of another one by a function with a variable of its own; the normal form. -/
namespace Go.Proofs.YtipbpdiahemmpaaGreat
open Go.RowKit Go.IntWalk
attribute [local go_sem ↓] Go.wp_at_zero Go.wp_at_succ

set_option maxRecDepth 100000 in
set_option maxHeartbeats 4000000 in
theorem mapped_cap {f N : Nat} {p : Option Addr} (φ : Int → Int) {A : Option Addr} {n c : Nat} {L : List Int} {w : World} (h : RdZs w w.heap.size N A n c L) (hn : n ≤ 4398046511103) (heg : ∀ args w, (callFunc f args).run Tryz.prog w = .ok (.enter f args) w)
    (hdo : ∀ (W : World) (s : Bool) (A : Option Addr) (m c : Nat) (z : Int), Below w.heap.size w W → RdZ W W.heap.size s A m c z → m ≤ N → Calls Tryz.prog f #[.agg #[.bool s, .slice A m c], .pointer p] W (RetI (φ z) W)) :
    Calls Tryz.prog 82 #[.slice A n c, .func (.func f) #[] #[.pointer p]] w (RetL (L.map φ) w) := by
  have HD := Lib.hid hdo
  have HLEN := Lib.hid h.len
  obtain ⟨i0, hi, hz0, hz1, hz2⟩ := info_parts infoZ
  clear hdo
  go_enter Tryz.func82, Tryz.ntmps82
  go_wp2_with fail
  go_loopw [5, 10] (fun ov iv wr => ∃ (j c' : Nat) (A' : Option Addr) (M : List Int), ov = .slice A' j c' ∧ iv = .int .i64 j ∧ j ≤ n ∧ OwZs wr w.heap.size A' j c' M ∧ Hid (M = (L.take j).map φ) ∧ Below w.heap.size w wr) (fun _ iv _ => n - (intOf iv).toNat)
  case atStart => exact ⟨0, 0, none, [], rfl, rfl, Nat.zero_le _, OwZs.nil _ _, Lib.hid rfl, Below.refl _ _⟩
  case round =>
    obtain ⟨j, c', A', M, rfl, rfl, hj, ho, hM, hB⟩ := hrel
    by_cases hjn : j = n
    · subst hjn
      go_wp2
      go_ret
      exact ⟨_, _, _, _, rfl, ho, Lib.hid (by rw [hM.out, List.take_of_length_le (by rw [HLEN.out]; exact Nat.le_refl _)]), hB⟩
    · have hjl : j < n := by omega
      clear hjn
      have hjli : (j : Int) < (n : Int) := by omega
      obtain ⟨ad, s, A1, n1, c1, z, rfl, hbk, hx0, hx1, hr, hn1, hz⟩ := zs_at h hjl
      obtain ⟨hy0, hy1⟩ := zs_cells hB hbk hx0 hx1
      obtain ⟨W2, HW2⟩ : ∃ W, W = wr.alloc (.cells #[.bool s, .slice A1 n1 c1] 28) := ⟨_, rfl⟩
      have hb2 : Below wr.heap.size wr W2 := by rw [HW2]; exact (Below.refl wr.heap.size wr).alloc (Nat.le_refl _) _
      have HW2 := Lib.hid HW2
      have HO := Lib.hid (ho.next hb2)
      have hB2 := hB.trans (hb2.mono hB.size)
      have HDO := Lib.hid (HD.out W2 s A1 n1 c1 z hB2 (hr.next hB2) hn1)
      go_wp2_with fail
      rw [← HW2.out]
      clear HW2 hy0 hy1 ho
      clear HW2
      refine HDO.out.mono ?_
      rintro _ W3 ⟨s3, A3, m3, c3, z3, rfl, ho3, hz3, hb3⟩
      have hB3 := hB2.trans (hb3.mono hB2.size)
      have HO3 := HO.out.next hb3
      obtain ⟨E, hE, hEl, hEn⟩ := HO3
      have HO4 := Lib.hid (ho3.base hB2.size)
      have HE := Lib.hid hE
      have HEN := Lib.hid (And.intro hEl hEn)
      have HM2 := Lib.hid (show M ++ [z3] = (L.take (j + 1)).map φ by rw [hM.out, hz3.out]; exact map_snoc hz.out)
      clear hE hEl hEn hx0 hx1 hr hb2 hb3 ho3
      go_wp2_with (at_builtin; refine wpList_append_own _ rfl _ _ 22 rfl w.heap.size 28 i0 (.agg #[.bool false, .slice none 0 0]) 2 32 Tryz.underlying22 hi hz0 hz1 hz2 rfl (by decide) _ _ _ rfl (HE.out.alloc _) ⟨W3.heap.size, 0, none⟩ 1 1 [.bool s3, .slice A3 m3 c3] rfl rfl (zcell_new _ _ _ _) (by simp [Value.oneCell']) (by unfold maxLen; omega) (by omega) (by have := hB3.size; simp; omega) ?_; intro v' w1 hown' hgrow _)
      have hmore := zs_more (e := (s3, A3, m3, c3)) (z := z3) HO4.out rfl (HE.out.alloc _) HEN.out.1 HEN.out.2 hown' hgrow
      have HB5 := Lib.hid ((hB3.alloc hB3.size (.cells #[.bool s3, .slice A3 m3 c3] 28)).grown hgrow (by have := hB3.size; simp; omega) (own_block HE.out))
      obtain ⟨A5, c5, rfl, ho5⟩ := hmore
      clear hown' hgrow HE HEN HO4 hB3 hB2 hB
      go_wp2
      go_roundw
      case rel => exact ⟨j + 1, c5, A5, M ++ [z3], rfl, by go_num, by omega, ho5, HM2, HB5.out⟩
      case measure => simp [intOf]; omega

/-- A polynomial in normal form comes back. -/
def RetP (f : Nat → Int) (w : World) (e : Ending) (w' : World) : Prop :=
  ∃ (A : Option Addr) (n c : Nat) (M : List Int), e = .returned (.slice A n c) ∧ OwZs w' w.heap.size A n c M ∧ Hid (Pz.IsP f M) ∧ Below w.heap.size w w'
/-- The measure of an integer. -/
theorem RdZs.take {w : World} {B N : Nat} {A : Option Addr} {n c : Nat} {L : List Int} (h : RdZs w B N A n c L) {k : Nat} (hk : k ≤ n) : RdZs w B N A k c (L.take k) :=
  ⟨by rw [List.length_take, h.len]; omega, Nat.le_trans hk h.le, h.mx, fun j z hz => by
    have hj : j < k := by
      rcases Nat.lt_or_ge j k with h1 | h1
      · exact h1
      · rw [List.getElem?_eq_none (by rw [List.length_take]; omega)] at hz; cases hz
    rw [List.getElem?_take_of_lt hj] at hz
    exact h.at_ j z hz⟩

set_option maxRecDepth 100000 in
set_option maxHeartbeats 4000000 in
theorem znorm_any {N : Nat} {A : Option Addr} {n c : Nat} {L : List Int} {w : World} (h : RdZs w w.heap.size N A n c L) (hn : n ≤ 4398046511103) (hN : N ≤ 17592186044416) :
    Calls Tryz.prog 12 #[.slice A n c] w (RetP (Pz.co L) w) := by
  have HLEN := Lib.hid h.len
  have hle := h.le
  have hmx := h.mx
  have hEN := enters_of Tryz.func83 (by kernel_rfl) rfl
  go_enter Tryz.func12, Tryz.ntmps12
  go_wp2_with fail
  go_loopw [3] (fun kv wr => ∃ k : Nat, kv = .int .i64 k ∧ k ≤ n ∧ Hid (∀ i, k ≤ i → Pz.co L i = 0) ∧ Below w.heap.size w wr) (fun kv _ => (intOf kv).toNat)
  case atStart => exact ⟨n, rfl, Nat.le_refl _, Lib.hid fun i hi => Pz.co_ge (by rw [HLEN.out]; exact hi), Below.refl _ _⟩
  case round =>
    obtain ⟨k, rfl, hk, hZ, hB⟩ := hrel
    rcases Nat.eq_zero_or_pos k with h0 | h0
    · subst h0
      go_wp2_with fail
      refine (mapped_any (N := N) id ((h.next hB).take (Nat.zero_le _)) (by omega) hEN (fun W s A m c z _ hr hm => inorm_any hr (by omega))).mono ?_
      rintro _ W4 ⟨A4, n4, c4, M4, rfl, ho4, hM4, hb4⟩
      go_wp2
      go_ret
      exact ⟨_, _, _, M4, rfl, ho4.base hB.size, Lib.hid (by rw [hM4.out, List.map_id]; exact ⟨Pz.nz_take (Nat.zero_le _) (.inl rfl), Pz.co_take_all hZ.out⟩), hB.trans (hb4.mono hB.size)⟩
    · obtain ⟨j, rfl⟩ : ∃ j, k = j + 1 := ⟨k - 1, by omega⟩
      obtain ⟨ad, s, A1, n1, c1, z, rfl, hbk, hx0, hx1, hr, hn1, hz⟩ := zs_at h (show j < n by omega)
      obtain ⟨hy0, hy1⟩ := zs_cells hB hbk hx0 hx1
      go_wp2_with fail
      refine (sign_any (hr.next hB) (by omega)).mono ?_
      rintro _ W2 ⟨kz, rfl, hkz, hb2⟩
      have HB2 := Lib.hid (hB.trans (hb2.mono hB.size))
      have HZ := Lib.hid (show kz = 0 ↔ Pz.co L j = 0 by rw [hkz.out, Int.sign_eq_zero_iff_zero, Pz.co_get hz.out])
      clear hb2 hy0 hy1
      by_cases hk0 : kz = 0
      · have HC := Lib.hid (HZ.out.1 hk0)
        subst hk0
        go_wp2
        go_roundw
        case rel => exact ⟨j, by go_num, by omega, Lib.hid fun i hi => by
          rcases Nat.lt_or_ge j i with h1 | h1
          · exact hZ.out i h1
          · rw [show i = j by omega]; exact HC.out, HB2.out⟩
        case measure => simp [intOf]
      · have HC := Lib.hid (mt HZ.out.2 hk0)
        have hkb : (kz == 0) = false := by simpa using hk0
        clear hk0
        go_wp2_with fail
        refine (mapped_any (N := N) id ((h.next HB2.out).take hk) (by omega) hEN (fun W s A m c z _ hr hm => inorm_any hr (by omega))).mono ?_
        rintro _ W4 ⟨A4, n4, c4, M4, rfl, ho4, hM4, hb4⟩
        go_wp2
        go_ret
        exact ⟨_, _, _, M4, rfl, ho4.base HB2.out.size, Lib.hid (by rw [hM4.out, List.map_id]; exact ⟨Pz.nz_take (by rw [HLEN.out]; exact hk) (.inr HC.out), Pz.co_take_all hZ.out⟩), HB2.out.trans (hb4.mono HB2.out.size)⟩
end Go.Proofs.YtipbpdiahemmpaaGreat

/- zpoly: a block of integers that is known whole; a coefficient; two lists coefficient by coefficient. -/
namespace Go.Proofs.YtipbpdiahemmpaaGreat
open Go.RowKit Go.IntWalk
attribute [local go_sem ↓] Go.wp_at_zero Go.wp_at_succ

/-- The whole block g holds the integers E. -/
def ZB (w : World) (g : Nat) (E : List Ent) : Prop := w.heap[g]? = some (.cells (zcs E).toArray 28 (0, 0))
/-- Entry i is the integer f i. -/
def EntF (w : World) (b : Nat) (E : List Ent) (f : Nat → Int) : Prop := ∀ (i : Nat) (e : Ent), E[i]? = some e → OwZ w b e.1 e.2.1 e.2.2.1 e.2.2.2 (f i)
theorem zcs_set (E : List Ent) (j : Nat) (e : Ent) : zcs (E.set j e) = ((zcs E).set (j * 2) (.bool e.1)).set (j * 2 + 1) (.slice e.2.1 e.2.2.1 e.2.2.2) := by
  induction E generalizing j with
  | nil => rfl
  | cons x E ih =>
    cases j with
    | zero => rw [List.set_cons_zero, zcs_cons, zcs_cons]; rfl
    | succ j =>
      rw [List.set_cons_succ, zcs_cons, zcs_cons, ih]
      rw [show (j + 1) * 2 = j * 2 + 2 by omega]
      rfl
section
variable {w w' : World} {g b : Nat} {E : List Ent} {f : Nat → Int}
theorem ZB.lt (h : ZB w g E) : g < w.heap.size := (Array.getElem?_eq_some_iff.1 h).1
theorem ZB.frozen (h : ZB w g E) (j : Nat) : w.frozen? ⟨g, j, none⟩ = false := frozen_of_row w g j _ _ h
theorem ZB.cells (h : ZB w g E) {j : Nat} {e : Ent} (he : E[j]? = some e) : w.cell? ⟨g, j * 2, none⟩ = some (.bool e.1) ∧ w.cell? ⟨g, j * 2 + 1, none⟩ = some (.slice e.2.1 e.2.2.1 e.2.2.2) := by
  obtain ⟨h1, h2⟩ := zcs_at E j e he
  exact ⟨by rw [cell_of_row w g _ _ _ _ h]; simpa using h1, by rw [cell_of_row w g _ _ _ _ h]; simpa using h2⟩
theorem ZB.store (h : ZB w g E) (j : Nat) (e : Ent) : ZB ((w.setCell ⟨g, j * 2, none⟩ (.bool e.1)).setCell ⟨g, j * 2 + 1, none⟩ (.slice e.2.1 e.2.2.1 e.2.2.2)) g (E.set j e) := by
  unfold ZB at h ⊢
  rw [zcs_set]
  simp [World.setCell, Array.getElem?_modify, h]
theorem ZB.next (h : ZB w g E) (hb : Below w.heap.size w w') : ZB w' g E := (hb.block g h.lt).trans h
theorem EntF.next (h : EntF w b E f) (hb : Below w.heap.size w w') : EntF w' b E f := fun i e he => (h i e he).next hb
theorem ent_put {s : Bool} {A : Option Addr} {k m : Nat} {z : Int} (h : OwZ w b s A k m z) (hz : ZB w g E) (j : Nat) (e : Ent) : OwZ ((w.setCell ⟨g, j * 2, none⟩ (.bool e.1)).setCell ⟨g, j * 2 + 1, none⟩ (.slice e.2.1 e.2.2.1 e.2.2.2)) b s A k m z := by
  refine ⟨own_other h.own hz fun i _ hne => ?_, h.sgn⟩
  exact (Below.heap_setCell _ (⟨g, j * 2 + 1, none⟩ : Addr) _ i hne).trans (Below.heap_setCell _ (⟨g, j * 2, none⟩ : Addr) _ i hne)
theorem EntF.store (h : EntF w b E f) (hz : ZB w g E) {j : Nat} {e : Ent} {z : Int} (he : OwZ w b e.1 e.2.1 e.2.2.1 e.2.2.2 z) : EntF ((w.setCell ⟨g, j * 2, none⟩ (.bool e.1)).setCell ⟨g, j * 2 + 1, none⟩ (.slice e.2.1 e.2.2.1 e.2.2.2)) b (E.set j e) (fun i => if i = j then z else f i) := by
  intro i e' h'
  by_cases hij : i = j
  · subst hij
    simp only [if_true]
    have hl : i < E.length := by
      rcases Nat.lt_or_ge i E.length with h1 | h1
      · exact h1
      · rw [List.getElem?_eq_none (by rw [List.length_set]; exact h1)] at h'; cases h'
    rw [List.getElem?_set_self hl] at h'
    injection h' with h'
    subst h'
    exact ent_put he hz i e
  · simp only [if_neg hij]
    rw [List.getElem?_set_ne (Ne.symm hij)] at h'
    exact ent_put (h i e' h') hz j e
/-- As a slice of the call's own. -/
theorem ZB.own (h : ZB w g E) (hE : EntF w b E f) (hb : b ≤ g) {m : Nat} (hm : E.length = m) (hx : m ≤ maxLen) : OwZs w b (some ⟨g, 0, none⟩) m m ((List.range m).map f) := by
  refine ⟨E, ⟨by rw [zcs_len, hm], .inr ⟨g, m, _, rfl, hb, h, Nat.le_refl _, hx, by simp [zcs_len, hm], ?_⟩⟩, hm, by simp [hm], fun j e z he hz => ?_⟩
  · rw [List.take_of_length_le (by simp [zcs_len, hm])]
  · have hj : j < m := by
      rcases Nat.lt_or_ge j m with h1 | h1
      · exact h1
      · rw [List.getElem?_eq_none (by omega)] at he; cases he
    rw [List.getElem?_map, List.getElem?_range hj] at hz
    simp at hz
    rw [← hz]
    exact hE j e he
end
theorem zcs_zeros (n : Nat) : (zcs (List.replicate n (false, none, 0, 0))).toArray = madeCells #[.bool false, .slice none 0 0] (n * 2) := by
  apply Array.ext
  · simp [zcs_len, size_madeCells]
  · intro i h1 h2
    have hi : i < n * 2 := by simpa [zcs_len] using h1
    have hj : i / 2 < n := by omega
    obtain ⟨c0, c1⟩ := zcs_at (List.replicate n ((false, none, 0, 0) : Ent)) (i / 2) (false, none, 0, 0) (by simp [hj])
    rcases Nat.mod_two_eq_zero_or_one i with e | e
    · rw [show i / 2 * 2 = i by omega] at c0
      have e2 : (zcs (List.replicate n ((false, none, 0, 0) : Ent)))[i]'(by rw [zcs_len]; simpa using hi) = .bool false := by
        rw [List.getElem?_eq_getElem (by rw [zcs_len]; simpa using hi)] at c0
        injection c0
      simp only [List.getElem_toArray]
      rw [e2]
      simp [madeCells, e]
    · rw [show i / 2 * 2 + 1 = i by omega] at c1
      have e2 : (zcs (List.replicate n ((false, none, 0, 0) : Ent)))[i]'(by rw [zcs_len]; simpa using hi) = .slice none 0 0 := by
        rw [List.getElem?_eq_getElem (by rw [zcs_len]; simpa using hi)] at c1
        injection c1
      simp only [List.getElem_toArray]
      rw [e2]
      simp [madeCells, e]
theorem make_zs (n : Nat) (hn : n ≤ 8796093022208) (w : World) :
    (Instr.makeSlice 23 (.int .i64 (n : Int)) (.int .i64 (n : Int))).run Tryz.prog w = .ok (.slice (some ⟨w.heap.size, 0, none⟩) n n) (w.alloc (.cells (zcs (List.replicate n (false, none, 0, 0))).toArray 28)) := by
  obtain ⟨i0, hi, hz0, hz1, hz2⟩ := info_parts infoZ
  have h := run_make (P := Tryz.prog) w 23 28 i0 _ Tryz.underlying23 hi hz0 .i64 .i64 (n : Int) (n : Int) (by omega) (Int.le_refl _) (by rw [hz2]; omega) (by omega)
  rw [hz1] at h
  rw [zcs_zeros]
  exact h
theorem ZB.made (w : World) (n : Nat) : ZB (w.alloc (.cells (zcs (List.replicate n (false, none, 0, 0))).toArray 28)) w.heap.size (List.replicate n (false, none, 0, 0)) := heap_alloc_new w _
theorem EntF.zeros (w : World) (b n : Nat) : EntF w b (List.replicate n (false, none, 0, 0)) (fun _ => 0) := by
  intro i e he
  have e1 : e = (false, none, 0, 0) := by
    have := List.mem_of_getElem? he
    exact List.eq_of_mem_replicate this
  subst e1
  exact OwZ.zero w b
end Go.Proofs.YtipbpdiahemmpaaGreat

/- zpoly: a coefficient; two lists coefficient by coefficient; sum and difference; times a number. -/
namespace Go.Proofs.YtipbpdiahemmpaaGreat
open Go.RowKit Go.IntWalk
attribute [local go_sem ↓] Go.wp_at_zero Go.wp_at_succ

theorem EntF.congr {w : World} {b : Nat} {E : List Ent} {f g : Nat → Int} (h : EntF w b E f) (e : ∀ i, f i = g i) : EntF w b E g := fun i x hx => by rw [← e]; exact h i x hx
/-- An integer comes back that others hold too. -/
def RetS (z : Int) (N : Nat) (w : World) (e : Ending) (w' : World) : Prop :=
  ∃ (s : Bool) (A : Option Addr) (n c : Nat) (y : Int), e = .returned (.agg #[.bool s, .slice A n c]) ∧ RdZ w' w'.heap.size s A n c y ∧ n ≤ N ∧ Hid (y = z) ∧ Below w.heap.size w w'

set_option maxHeartbeats 1000000 in
theorem zat_any {N : Nat} {A : Option Addr} {n c : Nat} {L : List Int} {w : World} (i : Nat) (h : RdZs w w.heap.size N A n c L) :
    Calls Tryz.prog 277 #[.slice A n c, .int .i64 i] w (RetS (Pz.co L i) N w) := by
  have HLEN := Lib.hid h.len
  obtain ⟨W1, HW1⟩ : ∃ W, W = w.alloc (.cells #[.bool false, .slice none 0 0] 28) := ⟨_, rfl⟩
  have hR : ZC W1 w.heap.size false none 0 0 := by rw [HW1]; exact ZC.new w false none 0 0
  have hB : Below w.heap.size w W1 := by rw [HW1]; exact (Below.refl w.heap.size w).alloc (Nat.le_refl _) _
  have HS := Lib.hid hR.lt
  by_cases hin : i < n
  · obtain ⟨ad, s, A1, n1, c1, z, rfl, hbk, hx0, hx1, hr, hn1, hz⟩ := zs_at h hin
    have hini : (i : Int) < (n : Int) := by omega
    have hp := put_int hR hB (Nat.le_refl _) (OwZ.zero W1 W1.heap.size) HS.out
    have hZ2 := hR.store s A1 n1 c1
    have hB2 := (hB.setCell (p := ⟨w.heap.size, 0, none⟩) (Nat.le_refl _) (.bool s)).setCell (p := ⟨w.heap.size, 1, none⟩) (Nat.le_refl _) (.slice A1 n1 c1)
    have e0 : w.alloc (.cells #[.bool s, .slice A1 n1 c1] 28) = w.alloc (.cells #[.bool s, .slice A1 n1 c1] 28) := rfl
    have hZ3 := ZC.new w s A1 n1 c1
    have hB3 : Below w.heap.size w (w.alloc (.cells #[.bool s, .slice A1 n1 c1] 28)) := (Below.refl w.heap.size w).alloc (Nat.le_refl _) _
    have HR3 := Lib.hid (hr.next hB3)
    obtain ⟨hy0, hy1⟩ := zs_cells hB hbk hx0 hx1
    rw [HW1] at hy0 hy1
    clear hp hZ2 hB2 e0 hin hR HS
    clear HW1
    go_enter Tryz.func277, Tryz.ntmps277
    go_wp2
    generalize w.alloc (.cells #[.bool s, .slice A1 n1 c1] 28) = W3 at *
    exact bodyPost_ret (by simp [results, Tryz.results277, go_sem, hZ3.c0, hZ3.c1]) rfl ⟨_, _, _, _, _, rfl, HR3.out, hn1, Lib.hid (Pz.co_get hz.out).symm, hB3⟩
  · have hini : (n : Int) ≤ (i : Int) := by omega
    have HZ := Lib.hid (show Pz.co L i = 0 from Pz.co_ge (by rw [HLEN.out]; omega))
    have hZ3 := ZC.new w false none 0 0
    have hB3 : Below w.heap.size w (w.alloc (.cells #[.bool false, .slice none 0 0] 28)) := (Below.refl w.heap.size w).alloc (Nat.le_refl _) _
    clear hin HW1 hR
    go_enter Tryz.func277, Tryz.ntmps277
    go_wp2
    generalize w.alloc (.cells #[.bool false, .slice none 0 0] 28) = W3 at *
    exact bodyPost_ret (by simp [results, Tryz.results277, go_sem, hZ3.c0, hZ3.c1]) rfl ⟨false, none, 0, 0, 0, rfl, RdZ.zero _ _ _, Nat.zero_le _, Lib.hid HZ.out.symm, hB3⟩

theorem zl_co {w : World} {B N : Nat} {A : Option Addr} {n c : Nat} {L : List Int} (h : RdZs w B N A n c L) (i : Nat) : Zz.zl (Pz.co L i) ≤ N := by
  rcases Nat.lt_or_ge i n with hi | hi
  · obtain ⟨_, _, _, _, _, z, _, _, _, _, hr, hn, hz⟩ := zs_at h hi
    rw [Pz.co_get hz.out]
    exact Nat.le_trans hr.len hn
  · rw [Pz.co_ge (by rw [h.len]; exact hi), Zz.zl_zero]
    exact Nat.zero_le _

set_option maxRecDepth 100000 in
set_option maxHeartbeats 4000000 in
theorem both_any {f N N' N2 : Nat} (φ : Int → Int → Int) {A A' : Option Addr} {n c n' c' : Nat} {L L' : List Int} {w : World} (h : RdZs w w.heap.size N A n c L) (h' : RdZs w w.heap.size N' A' n' c' L') (hn : n ≤ 4398046511103) (hn' : n' ≤ 4398046511103) (hN2 : N2 ≤ 17592186044416)
    (heg : ∀ args w, (callFunc f args).run Tryz.prog w = .ok (.enter f args) w) (h0 : φ 0 0 = 0) (hsz : ∀ i, Zz.zl (φ (Pz.co L i) (Pz.co L' i)) ≤ N2)
    (hdo : ∀ (W : World) (s s' : Bool) (A A' : Option Addr) (m c m' c' : Nat) (z z' : Int), RdZ W W.heap.size s A m c z → RdZ W W.heap.size s' A' m' c' z' → m ≤ N → m' ≤ N' → Calls Tryz.prog f #[.agg #[.bool s, .slice A m c], .agg #[.bool s', .slice A' m' c']] W (RetI (φ z z') W)) :
    Calls Tryz.prog 246 #[.slice A n c, .slice A' n' c', .func (.func f) #[] #[]] w (RetP (fun i => φ (Pz.co L i) (Pz.co L' i)) w) := by
  have HD := Lib.hid hdo
  have HSZ := Lib.hid hsz
  have H0 := Lib.hid h0
  have HL := Lib.hid (And.intro h.len h'.len)
  clear hdo hsz h0
  obtain ⟨m, hm⟩ : ∃ m, m = max n n' := ⟨_, rfl⟩
  have hmx : m ≤ 4398046511103 := by omega
  have hmi : max (n : Int) n' = (m : Int) := by omega
  have hmk := make_zs m (by omega)
  have hZ0 := ZB.made w m
  have hE0 := EntF.zeros (w.alloc (.cells (zcs (List.replicate m (false, none, 0, 0))).toArray 28)) w.heap.size m
  have hB0 := (Below.refl w.heap.size w).alloc (Nat.le_refl _) (.cells (zcs (List.replicate m (false, none, 0, 0))).toArray 28)
  have HM := Lib.hid hm
  clear hm
  go_enter Tryz.func246, Tryz.ntmps246
  go_wp2_with fail
  generalize w.alloc (.cells (zcs (List.replicate m (false, none, 0, 0))).toArray 28) = W1 at *
  obtain ⟨g, hg⟩ : ∃ g, g = w.heap.size := ⟨_, rfl⟩
  rw [← hg] at hZ0 ⊢
  have HG := Lib.hid hg
  clear hmk hg
  go_loopw [17] (fun iv wr => ∃ (j : Nat) (E : List Ent), iv = .int .i64 j ∧ j ≤ m ∧ ZB wr g E ∧ Hid (E.length = m) ∧ EntF wr w.heap.size E (fun i => if i < j then φ (Pz.co L i) (Pz.co L' i) else 0) ∧ Below w.heap.size w wr) (fun iv _ => m - (intOf iv).toNat)
  case atStart => exact ⟨0, _, rfl, Nat.zero_le _, hZ0, Lib.hid (by simp), fun i e he => by simpa using hE0 i e he, hB0⟩
  case round =>
    clear hZ0 hE0 hB0
    obtain ⟨j, E, rfl, hj, hZ, hEl, hE, hB⟩ := hrel
    by_cases hjm : j = m
    · subst hjm
      have ho := (hZ.own hE (by rw [HG.out]; exact Nat.le_refl _) hEl.out (by unfold maxLen; omega))
      have hrd := ho.rd (N := N2) (fun z hz => by
        obtain ⟨i, hi, rfl⟩ := List.mem_map.1 hz
        split
        · exact HSZ.out i
        · rw [Zz.zl_zero]; exact Nat.zero_le _)
      go_wp2_with fail
      refine (znorm_any hrd (by omega) hN2).mono ?_
      rintro _ W4 ⟨A4, n4, c4, M4, rfl, ho4, hM4, hb4⟩
      go_wp2
      go_ret
      refine ⟨_, _, _, M4, rfl, ho4.base hB.size, Lib.hid (hM4.out.congr fun i => ?_), hB.trans (hb4.mono hB.size)⟩
      rcases Nat.lt_or_ge i j with hi | hi
      · rw [Pz.co_get (z := φ (Pz.co L i) (Pz.co L' i)) (by rw [List.getElem?_map, List.getElem?_range hi]; simp [hi])]
      · rw [Pz.co_ge (by simpa using hi), Pz.co_ge (by rw [HL.out.1]; have := HM.out; omega), Pz.co_ge (by rw [HL.out.2]; have := HM.out; omega), H0.out]
    · have hjl : j < m := by omega
      have hjli : (j : Int) < (m : Int) := by omega
      clear hjm
      have hfz0 := hZ.frozen (j * 2)
      go_wp2_with fail
      refine (zat_any j (h.next hB)).mono ?_
      rintro _ W2 ⟨s2, A2, n2, c2, z2, rfl, hr2, hn2, hz2, hb2⟩
      have hB2 := hB.trans (hb2.mono hB.size)
      go_wp2_with fail
      refine (zat_any j (h'.next hB2)).mono ?_
      rintro _ W3 ⟨s3, A3, n3, c3, z3, rfl, hr3, hn3, hz3, hb3⟩
      have hB3 := hB2.trans (hb3.mono hB2.size)
      go_wp2_with fail
      refine (HD.out W3 _ _ _ _ _ _ _ _ _ _ (hr2.next hb3) hr3 hn2 hn3).mono ?_
      rintro _ W4 ⟨s4, A4, n4, c4, z4, rfl, ho4, hz4, hb4⟩
      have hB4 := hB3.trans (hb4.mono hB3.size)
      have hb24 := hb2.trans ((hb3.trans (hb4.mono hb3.size)).mono hb2.size)
      have hZ4 := hZ.next hb24
      have hE4 := hE.next hb24
      obtain ⟨e, he⟩ : ∃ e, E[j]? = some e := ⟨E[j]'(by rw [hEl.out]; exact hjl), List.getElem?_eq_getElem _⟩
      obtain ⟨k0, k1⟩ := hZ4.cells he
      have f0 := hZ4.frozen (j * 2)
      have f1 := hZ4.frozen (j * 2 + 1)
      have hZ5 := hZ4.store j (s4, A4, n4, c4)
      have hE5 := hE4.store (j := j) (e := (s4, A4, n4, c4)) (z := z4) hZ4 (ho4.base hB3.size)
      have hB5 := (hB4.setCell (p := ⟨g, j * 2, none⟩) (by show w.heap.size ≤ g; have := HG.out; omega) (.bool s4)).setCell (p := ⟨g, j * 2 + 1, none⟩) (by show w.heap.size ≤ g; have := HG.out; omega) (.slice A4 n4 c4)
      have HF := Lib.hid (show z4 = φ (Pz.co L j) (Pz.co L' j) by rw [hz4.out, hz2.out, hz3.out])
      have HZ5 := Lib.hid hZ5
      have HE5 := Lib.hid hE5
      clear hZ5 hE5 hb24 hb2 hb3 hb4 hZ hE he
      go_wp2_with fail
      go_roundw
      case rel => exact ⟨j + 1, E.set j (s4, A4, n4, c4), by go_num, by omega, HZ5.out, Lib.hid (by rw [List.length_set]; exact hEl.out), HE5.out.congr fun i => (by
        by_cases e1 : i = j
        · subst e1; rw [if_pos rfl, if_pos (Nat.lt_succ_self _), HF.out]
        · rw [if_neg e1]
          by_cases e2 : i < j
          · rw [if_pos e2, if_pos (by omega)]
          · rw [if_neg e2, if_neg (by omega)]), hB5⟩
      case measure => simp [intOf]; omega

set_option maxHeartbeats 1000000 in
theorem zadd_any {N N' : Nat} {A A' : Option Addr} {n c n' c' : Nat} {L L' : List Int} {w : World} (h : RdZs w w.heap.size N A n c L) (h' : RdZs w w.heap.size N' A' n' c' L') (hn : n ≤ 4398046511103) (hn' : n' ≤ 4398046511103) (hN : N ≤ 8796093022207) (hN' : N' ≤ 8796093022207) :
    Calls Tryz.prog 197 #[.slice A n c, .slice A' n' c'] w (RetP (fun i => Pz.co L i + Pz.co L' i) w) := by
  have hEN := enters_of Tryz.func218 (by kernel_rfl) rfl
  have HC := Lib.hid (And.intro (zl_co h) (zl_co h'))
  go_enter Tryz.func197, Tryz.ntmps197
  go_wp2_with fail
  refine (both_any (N2 := max N N' + 1) (fun x y => x + y) h h' hn hn' (by omega) hEN (by decide) (fun i => by have e1 := Zz.zl_add (Pz.co L i) (Pz.co L' i); have e2 := HC.out.1 i; have e3 := HC.out.2 i; omega) (fun W s s' A A' m c m' c' z z' hr hr' hm hm' => add_any hr hr' (by omega) (by omega))).mono ?_
  rintro _ W2 ⟨A2, n2, c2, M2, rfl, ho2, hM2, hb2⟩
  go_wp2
  go_ret
  exact ⟨_, _, _, M2, rfl, ho2, hM2, hb2⟩

set_option maxHeartbeats 1000000 in
theorem zsub_any {N N' : Nat} {A A' : Option Addr} {n c n' c' : Nat} {L L' : List Int} {w : World} (h : RdZs w w.heap.size N A n c L) (h' : RdZs w w.heap.size N' A' n' c' L') (hn : n ≤ 4398046511103) (hn' : n' ≤ 4398046511103) (hN : N ≤ 8796093022207) (hN' : N' ≤ 8796093022207) :
    Calls Tryz.prog 200 #[.slice A n c, .slice A' n' c'] w (RetP (fun i => Pz.co L i - Pz.co L' i) w) := by
  have hEN := enters_of Tryz.func248 (by kernel_rfl) rfl
  have HC := Lib.hid (And.intro (zl_co h) (zl_co h'))
  go_enter Tryz.func200, Tryz.ntmps200
  go_wp2_with fail
  refine (both_any (N2 := max N N' + 1) (fun x y => x - y) h h' hn hn' (by omega) hEN (by decide) (fun i => by have e1 := Zz.zl_sub (Pz.co L i) (Pz.co L' i); have e2 := HC.out.1 i; have e3 := HC.out.2 i; omega) (fun W s s' A A' m c m' c' z z' hr hr' hm hm' => sub_any hr hr' (by omega) (by omega))).mono ?_
  rintro _ W2 ⟨A2, n2, c2, M2, rfl, ho2, hM2, hb2⟩
  go_wp2
  go_ret
  exact ⟨_, _, _, M2, rfl, ho2, hM2, hb2⟩

set_option maxHeartbeats 1000000 in
theorem scaleIn_any {B N N' : Nat} {s s' : Bool} {A A' : Option Addr} {n c n' c' : Nat} {z z' : Int} {w : World} (h : RdZ w w.heap.size s A n c z) (hC : ZC w B s' A' n' c') (h' : RdZ w w.heap.size s' A' n' c' z') (hn : n ≤ N) (hn' : n' ≤ N') (hN : N ≤ 4398046511103) (hN' : N' ≤ 4398046511103) :
    Calls Tryz.prog 247 #[.agg #[.bool s, .slice A n c], .pointer (some ⟨B, 0, none⟩)] w (RetI (z * z') w) := by
  obtain ⟨hZ, hR, hB⟩ := boxed1 w s A n c
  have h1 := h.next hB
  have h1' := h'.next hB
  have hC1 := hC.next hB
  have HSZ := Lib.hid (Nat.lt_trans (Nat.lt_succ_self _) hR.lt)
  have hc0 := hC1.c0
  have hc1 := hC1.c1
  go_enter Tryz.func247, Tryz.ntmps247
  go_wp2_with fail
  generalize (w.alloc (.cells #[.bool s, .slice A n c] 28)).alloc (.cells #[.bool false, .slice none 0 0] 28) = W1 at *
  refine (imul_any h1 h1' (by omega) (by omega)).mono ?_
  rintro _ W4 ⟨s4, A4, m4, c4, z4, rfl, ho4, hz4, hb4⟩
  have hR4 := hR.next hb4
  have hB4 := hB.trans (hb4.mono hB.size)
  have HS1 := Lib.hid hR.lt
  have hd0 := hR4.c0
  have hd1 := hR4.c1
  have hf0 := hR4.fz 0
  have hf1 := hR4.fz 1
  clear hb4 hZ hR hC1 hc0 hc1 hC
  go_wp2
  have hp := put_int hR4 hB4 (Nat.le_succ _) ho4 HS1.out
  generalize (W4.setCell ⟨w.heap.size + 1, 0, none⟩ (.bool s4)).setCell ⟨w.heap.size + 1, 1, none⟩ (.slice A4 m4 c4) = W5 at hp ⊢
  obtain ⟨hZ5, ho5, hB5⟩ := hp
  exact bodyPost_ret (by simp [results, Tryz.results247, go_sem, hZ5.c0, hZ5.c1]) rfl ⟨_, _, _, _, _, rfl, ho5.base (Nat.le_of_lt HSZ.out), hz4, hB5⟩

set_option maxHeartbeats 1000000 in
theorem zscale_any {N N' : Nat} {s : Bool} {A A' : Option Addr} {n c n' c' : Nat} {L : List Int} {z : Int} {w : World} (h : RdZs w w.heap.size N A n c L) (h' : RdZ w w.heap.size s A' n' c' z) (hn : n ≤ 4398046511103) (hn' : n' ≤ N') (hN : N ≤ 4398046511103) (hN' : N' ≤ 4398046511103) :
    Calls Tryz.prog 198 #[.slice A n c, .agg #[.bool s, .slice A' n' c']] w (RetP (fun i => Pz.co L i * z) w) := by
  have hEN := enters_of Tryz.func247 (by kernel_rfl) rfl
  have HC := Lib.hid (zl_co h)
  have HLN := Lib.hid h.len
  have HLZ := Lib.hid h'.len
  have hZ := ZC.new w s A' n' c'
  have hB : Below w.heap.size w (w.alloc (.cells #[.bool s, .slice A' n' c'] 28)) := (Below.refl w.heap.size w).alloc (Nat.le_refl _) _
  go_enter Tryz.func198, Tryz.ntmps198
  go_wp2_with fail
  generalize w.alloc (.cells #[.bool s, .slice A' n' c'] 28) = W1 at *
  refine (mapped_cap (N := N) (fun x => x * z) (h.next hB) hn hEN (fun W s2 A2 m c2 x hb hr hm => scaleIn_any (N := N) (N' := N') hr (hZ.next hb) ((h'.next hB).next hb) hm hn' hN hN')).mono ?_
  rintro _ W2 ⟨A2, n2, c2, M2, rfl, ho2, hM2, hb2⟩
  have hB2 := hB.trans (hb2.mono hB.size)
  have hrd := ho2.rd (N := N + N') (fun y hy => by
    rw [hM2.out] at hy
    obtain ⟨x, hx, rfl⟩ := List.mem_map.1 hy
    obtain ⟨i, hi, rfl⟩ := Pz.mem_co hx
    have e1 := Zz.zl_mul (Pz.co L i) z
    have e2 := HC.out i
    have e3 := HLZ.out
    omega)
  have hnn : n2 ≤ 4398046511103 := by
    have e := ho2.len
    rw [hM2.out, List.length_map, HLN.out] at e
    omega
  go_wp2_with fail
  refine (znorm_any hrd hnn (by omega)).mono ?_
  rintro _ W4 ⟨A4, n4, c4, M4, rfl, ho4, hM4, hb4⟩
  go_wp2
  go_ret
  exact ⟨_, _, _, M4, rfl, ho4.base hB2.size, Lib.hid (hM4.out.congr fun i => by rw [hM2.out]; exact Pz.co_map (by simp) L i), hB2.trans (hb4.mono hB2.size)⟩
end Go.Proofs.YtipbpdiahemmpaaGreat
