/- Reference 07, first part: in normal form; a coefficient; sum; times a number. -/
import Derived.Test.YtipbpdiahemmpaaGreatQj
import Derived.Test.YtipbpdiahemmpaaGreatI10
import Derived.Deep.CutBlock
import Derived.Deep.CutRange
import Derived.Deep.RegionWith
import Derived.Test.YtipbpdiahemmpaaGreatQp
import Derived.Deep.AppendLies
import Derived.Deep.RegionLaw
namespace Go.Proofs.YtipbpdiahemmpaaGreat
open Go.RowKit Go.IntWalk
attribute [local go_sem ↓] Go.wp_at_zero Go.wp_at_succ

set_option maxRecDepth 100000 in
set_option maxHeartbeats 4000000 in
theorem rzNorm_any {N : Nat} {A : Option Addr} {n c : Nat} {L : List Int} {w : World} (h : RdZs w w.heap.size N A n c L) (hn : n ≤ 4398046511103) (hN : N ≤ 17592186044416) :
    Calls Tryz.prog 13 #[.slice A n c] w (RetP (Pz.co L) w) := by
  have HLEN := Lib.hid h.len
  have hle := h.le
  have hmx := h.mx
  go_enter Tryz.func13, Tryz.ntmps13
  go_upto_block 0 with fail
  go_cut [3] from 8 to 20 (fun kv wr => ∃ k : Nat, kv = .int .i64 k ∧ k ≤ n ∧ Hid (∀ i, k ≤ i → Pz.co L i = 0) ∧ Hid (k = 0 ∨ Pz.co L (k - 1) ≠ 0) ∧ Below w.heap.size w wr)
  case first =>
    go_wp2_with fail
    go_loopw [3] (fun kv wr => ∃ k : Nat, kv = .int .i64 k ∧ k ≤ n ∧ Hid (∀ i, k ≤ i → Pz.co L i = 0) ∧ Below w.heap.size w wr) (fun kv _ => (intOf kv).toNat)
    case atStart => exact ⟨n, rfl, Nat.le_refl _, Lib.hid fun i hi => Pz.co_ge (by rw [HLEN.out]; exact hi), Below.refl _ _⟩
    case round =>
      obtain ⟨k, rfl, hk, hZ, hB⟩ := hrel
      rcases Nat.eq_zero_or_pos k with h0 | h0
      · subst h0
        go_wp2
        go_meet
        exact ⟨0, rfl, Nat.zero_le _, hZ, Lib.hid (.inl rfl), hB⟩
      · obtain ⟨j, rfl⟩ : ∃ j, k = j + 1 := ⟨k - 1, by omega⟩
        obtain ⟨ad, s, A1, n1, c1, z, rfl, hbk, hx0, hx1, hr, hn1, hz⟩ := zs_at h (show j < n by omega)
        obtain ⟨hy0, hy1⟩ := zs_cells hB hbk hx0 hx1
        go_wp2_with fail
        refine (rISign_any (hr.next hB) (by omega)).mono ?_
        rintro _ W2 ⟨kz, rfl, hkz, hb2⟩
        have hB2 := hB.trans (hb2.mono hB.size)
        have HZ := Lib.hid (show kz = 0 ↔ Pz.co L j = 0 by rw [hkz.out, Int.sign_eq_zero_iff_zero, Pz.co_get hz.out])
        clear hb2 hy0 hy1
        by_cases hk0 : kz = 0
        · have HC := Lib.hid (HZ.out.1 hk0)
          subst hk0
          go_wp2
          go_roundw
          case rel => exact ⟨j, by go_num, by omega, Lib.hid fun i hi => by
            rcases Nat.lt_or_ge j i with h1 | h1
            · exact hZ.out i h1
            · rw [show i = j by omega]; exact HC.out, hB2⟩
          case measure => simp [intOf]
        · have HC := Lib.hid (mt HZ.out.2 hk0)
          have hkb : (kz == 0) = false := by simpa using hk0
          clear hk0
          go_wp2
          go_meet
          exact ⟨j + 1, by go_num, hk, hZ, Lib.hid (.inr HC.out), hB2⟩
  case rest =>
    obtain ⟨kk, rfl, hk, hZ, HKK, hB⟩ := hcut
    have hmk := make_zs (kk) (by omega)
    have hZ0 := ZB.made wc (kk)
    have hE0 := EntF.zeros (wc.alloc (.cells (zcs (List.replicate (kk) (false, none, 0, 0))).toArray 28)) w.heap.size (kk)
    have hB0 := hB.alloc hB.size (.cells (zcs (List.replicate (kk) (false, none, 0, 0))).toArray 28)
    have HNZ := Lib.hid (show Pz.IsP (Pz.co L) (L.take (kk)) from ⟨Pz.nz_take (by rw [HLEN.out]; exact hk) (HKK.out), Pz.co_take_all hZ.out⟩)
    have HK := Lib.hid hZ.out
    go_wp2_with fail
    obtain ⟨g, hg⟩ : ∃ g, g = wc.heap.size := ⟨_, rfl⟩
    generalize wc.alloc (.cells (zcs (List.replicate (kk) (false, none, 0, 0))).toArray 28) = W3 at *
    rw [← hg] at hZ0 ⊢
    have HG := Lib.hid (show w.heap.size ≤ g by rw [hg]; exact hB.size)
    clear hmk hg
    go_loopw [25] (fun iv wr => ∃ (i : Nat) (E : List Ent), iv = .int .i64 i ∧ i ≤ kk ∧ ZB wr g E ∧ Hid (E.length = kk) ∧ EntF wr w.heap.size E (fun t => if t < i then Pz.co L t else 0) ∧ Below w.heap.size w wr) (fun iv _ => kk - (intOf iv).toNat)
    case atStart => exact ⟨0, _, rfl, Nat.zero_le _, hZ0, Lib.hid (by simp), fun i e he => by simpa using hE0 i e he, hB0⟩
    case round =>
      clear hZ0 hE0 hB0
      obtain ⟨i, E, rfl, hi, hZB, hEl, hE, hBi⟩ := hrel
      by_cases hik : i = kk
      · have ho := (hZB.own hE HG.out hEl.out (by unfold maxLen; omega))
        have HO := Lib.hid ho
        have hki := hik.symm
        subst hki
        clear hik
        go_wp2
        go_ret
        refine ⟨_, _, _, _, rfl, HO.out, Lib.hid ?_, hBi⟩
        have e : (List.range (kk)).map (fun t => if t < kk then Pz.co L t else 0) = L.take (kk) := by
          apply List.ext_getElem?
          intro t
          rcases Nat.lt_or_ge t (kk) with ht | ht
          · rw [List.getElem?_map, List.getElem?_range ht, List.getElem?_take_of_lt ht, Pz.get_co (by rw [HLEN.out]; omega)]
            simp [ht]
          · rw [List.getElem?_eq_none (by simpa using ht), List.getElem?_eq_none (by rw [List.length_take]; omega)]
        rw [e]
        exact HNZ.out
      · have hil : i < kk := by omega
        clear hik
        have hili : (i : Int) < (kk : Nat) := by omega
        have hiln : i < n := by omega
        have hilni : (i : Int) < (n : Int) := by omega
        obtain ⟨ad, s, A1, n1, c1, z, hA, hbk, hx0, hx1, hr, hn1, hz⟩ := zs_at h hiln
        subst hA
        obtain ⟨hy0, hy1⟩ := zs_cells hBi hbk hx0 hx1
        go_wp2_with fail
        refine (rINorm_any (hr.next hBi) (by omega)).mono ?_
        rintro _ W4 ⟨s4, A4, n4, c4, z4, rfl, ho4, hz4, hb4⟩
        have hB4 := hBi.trans (hb4.mono hBi.size)
        have hZ4 := hZB.next hb4
        have hE4 := hE.next hb4
        obtain ⟨e, he⟩ : ∃ e, E[i]? = some e := ⟨E[i]'(by rw [hEl.out]; exact hil), List.getElem?_eq_getElem _⟩
        obtain ⟨k0, k1⟩ := hZ4.cells he
        have f0 := hZ4.frozen (i * 2)
        have f1 := hZ4.frozen (i * 2 + 1)
        have HZ5 := Lib.hid (hZ4.store i (s4, A4, n4, c4))
        have HE5 := Lib.hid (hE4.store (j := i) (e := (s4, A4, n4, c4)) (z := z4) hZ4 (ho4.base hBi.size))
        have hB5 := (hB4.setCell (p := ⟨g, i * 2, none⟩) HG.out (.bool s4)).setCell (p := ⟨g, i * 2 + 1, none⟩) HG.out (.slice A4 n4 c4)
        have HF := Lib.hid (show z4 = Pz.co L i by rw [hz4.out, Pz.co_get hz.out])
        clear hx0 hx1 hy0 hy1 hr hz hb4 hZB hE hBi he
        go_wp2_with fail
        go_roundw
        case rel => exact ⟨i + 1, E.set i (s4, A4, n4, c4), by go_num, by omega, HZ5.out, Lib.hid (by rw [List.length_set]; exact hEl.out), HE5.out.congr fun t => (by
          by_cases e1 : t = i
          · subst e1; rw [if_pos rfl, if_pos (Nat.lt_succ_self _), HF.out]
          · rw [if_neg e1]
            by_cases e2 : t < i
            · rw [if_pos e2, if_pos (by omega)]
            · rw [if_neg e2, if_neg (by omega)]), hB5⟩
        case measure => simp [intOf]; omega
end Go.Proofs.YtipbpdiahemmpaaGreat

/- Reference 07, second part: a coefficient, the sum, times a number, the difference. -/
namespace Go.Proofs.YtipbpdiahemmpaaGreat
open Go.RowKit Go.IntWalk
attribute [local go_sem ↓] Go.wp_at_zero Go.wp_at_succ

end Go.Proofs.YtipbpdiahemmpaaGreat

/- Reference 07, third part: times a number, the difference. -/
namespace Go.Proofs.YtipbpdiahemmpaaGreat
open Go.RowKit Go.IntWalk
attribute [local go_sem ↓] Go.wp_at_zero Go.wp_at_succ

end Go.Proofs.YtipbpdiahemmpaaGreat

/- Reference 07, fourth part: times a power of x; the product. -/
namespace Go.Proofs.YtipbpdiahemmpaaGreat
open Go.RowKit Go.IntWalk
attribute [local go_sem ↓] Go.wp_at_zero Go.wp_at_succ

theorem zcs_inv {E : List Ent} {j : Nat} {v : Value} (h : (zcs E)[j]? = some v) : ∃ (q : Nat) (e : Ent), E[q]? = some e ∧ ((j = q * 2 ∧ v = .bool e.1) ∨ (j = q * 2 + 1 ∧ v = .slice e.2.1 e.2.2.1 e.2.2.2)) := by
  have hj : j < (zcs E).length := by
    rcases Nat.lt_or_ge j (zcs E).length with h1 | h1
    · exact h1
    · rw [List.getElem?_eq_none h1] at h; cases h
  rw [zcs_len] at hj
  have hq : j / 2 < E.length := by omega
  have he := List.getElem?_eq_getElem hq
  obtain ⟨c0, c1⟩ := zcs_at E (j / 2) _ he
  refine ⟨j / 2, _, he, ?_⟩
  rcases Nat.mod_two_eq_zero_or_one j with e | e
  · rw [show j / 2 * 2 = j by omega, h] at c0
    injection c0 with c0
    exact .inl ⟨by omega, c0⟩
  · rw [show j / 2 * 2 + 1 = j by omega, h] at c1
    injection c1 with c1
    exact .inr ⟨by omega, c1⟩
theorem add_next (ad : Addr) (q : Nat) : ad.add (q * 2 + 1) = ⟨(ad.add (q * 2)).block, (ad.add (q * 2)).off + 1, none⟩ := by
  unfold Addr.add
  by_cases h : q * 2 = 0
  · rw [if_neg (by omega), if_pos h]
    simp
  · rw [if_neg (by omega), if_neg h]
    simp [Nat.add_assoc]
theorem zs_ents {w : World} {B N : Nat} {ad : Addr} {n c : Nat} {L : List Int} (h : RdZs w B N (some ad) n c L) :
    ∃ E : List Ent, E.length = n ∧ (∀ (j : Nat) (v : Value), (zcs E)[j]? = some v → ad.block < B ∧ w.cell? (ad.add j) = some v) ∧ (∀ (j : Nat) (e : Ent) (z : Int), E[j]? = some e → L[j]? = some z → RdZ w B e.1 e.2.1 e.2.2.1 e.2.2.2 z ∧ e.2.2.1 ≤ N) := by
  have key : ∀ j : Fin n, ∃ e : Ent, w.cell? (ad.add (j.1 * 2)) = some (.bool e.1) ∧ w.cell? (ad.add (j.1 * 2 + 1)) = some (.slice e.2.1 e.2.2.1 e.2.2.2) ∧ ∀ z, L[j.1]? = some z → RdZ w B e.1 e.2.1 e.2.2.1 e.2.2.2 z ∧ e.2.2.1 ≤ N := by
    intro j
    obtain ⟨ad', s, A', n', c', z, e, hbk, h0, h1, hr, hn, hz⟩ := zs_at h j.2
    injection e with e
    subst e
    refine ⟨(s, A', n', c'), h0, by rw [add_next]; exact h1, fun z' hz' => ?_⟩
    rw [hz.out] at hz'
    injection hz' with hz'
    subst hz'
    exact ⟨hr, hn⟩
  obtain ⟨f, hf⟩ : ∃ f : Fin n → Ent, ∀ j : Fin n, w.cell? (ad.add (j.1 * 2)) = some (.bool (f j).1) ∧ w.cell? (ad.add (j.1 * 2 + 1)) = some (.slice (f j).2.1 (f j).2.2.1 (f j).2.2.2) ∧ ∀ z, L[j.1]? = some z → RdZ w B (f j).1 (f j).2.1 (f j).2.2.1 (f j).2.2.2 z ∧ (f j).2.2.1 ≤ N := ⟨fun j => Classical.choose (key j), fun j => Classical.choose_spec (key j)⟩
  have get : ∀ (j : Nat) (e : Ent), (List.ofFn f)[j]? = some e → ∃ hj : j < n, e = f ⟨j, hj⟩ := by
    intro j e he
    rcases Nat.lt_or_ge j n with hj | hj
    · rw [List.getElem?_eq_getElem (by simpa using hj)] at he
      simp at he
      exact ⟨hj, he.symm⟩
    · rw [List.getElem?_eq_none (by simpa using hj)] at he; cases he
  refine ⟨List.ofFn f, by simp, fun j v hv => ?_, fun j e z he hz => ?_⟩
  · have hpos : 0 < n := by
      obtain ⟨q, e, he, _⟩ := zcs_inv hv
      obtain ⟨hq, _⟩ := get q e he
      omega
    obtain ⟨ad', _, _, _, _, _, e0, hbk, _⟩ := zs_at h hpos
    injection e0 with e0
    subst e0
    refine ⟨hbk, ?_⟩
    obtain ⟨q, e, he, h1 | h1⟩ := zcs_inv hv
    · obtain ⟨hq, rfl⟩ := get q e he
      rw [h1.1, h1.2]
      exact (hf ⟨q, hq⟩).1
    · obtain ⟨hq, rfl⟩ := get q e he
      rw [h1.1, h1.2]
      exact (hf ⟨q, hq⟩).2.1
  · obtain ⟨hj, rfl⟩ := get j e he
    exact (hf ⟨j, hj⟩).2.2 z hz
theorem rdzs_of_row {w : World} {b N : Nat} {A : Option Addr} {n c : Nat} {E : List Ent} {L : List Int} (hr : w.ownsRow b 28 2 (.slice A n c) n (zcs E)) (hE : E.length = n) (hL : L.length = n)
    (hel : ∀ (j : Nat) (e : Ent) (z : Int), E[j]? = some e → L[j]? = some z → RdZ w w.heap.size e.1 e.2.1 e.2.2.1 e.2.2.2 z ∧ e.2.2.1 ≤ N) : RdZs w w.heap.size N A n c L := by
  rcases hr.2 with ⟨h1, h2⟩ | ⟨g, cap, cur, h1, h2, h3, h4, h5, _⟩
  · injection h1 with h1 h1' h1''
    subst h2
    refine ⟨hL, Nat.zero_le _, by rw [h1'']; exact Nat.zero_le _, fun j z hz => ?_⟩
    rw [List.eq_nil_of_length_eq_zero hL] at hz
    simp at hz
  · injection h1 with h1 h1' h1''
    subst h1 h1''
    refine ⟨hL, h4, h5, fun j z hz => ?_⟩
    have hj : j < L.length := by
      rcases Nat.lt_or_ge j L.length with h6 | h6
      · exact h6
      · rw [List.getElem?_eq_none h6] at hz; cases hz
    have hjE : j < E.length := by omega
    have he := List.getElem?_eq_getElem hjE
    have hz' := hel j _ z he hz
    obtain ⟨c0, c1⟩ := zcs_at E j _ he
    have e1 : (⟨g, 0, none⟩ : Addr).add (j * 2) = ⟨g, j * 2, none⟩ := add_base g _
    refine ⟨_, _, _, _, _, rfl, (Array.getElem?_eq_some_iff.1 h3).1, ?_, ?_, hz'.1, hz'.2⟩
    · rw [e1, hr.cellAt (j * 2) (by omega)]; exact c0
    · rw [e1]
      show w.cell? ⟨g, j * 2 + 1, none⟩ = _
      rw [hr.cellAt (j * 2 + 1) (by omega)]
      exact c1
theorem zcs_one_cell (E : List Ent) : ∀ u ∈ zcs E, u.oneCell' = true := by
  intro u hu
  obtain ⟨j, hj⟩ := List.getElem?_of_mem hu
  obtain ⟨q, e, _, h | h⟩ := zcs_inv hj <;> rw [h.2] <;> rfl
/-- Times a power of x. -/
def sh (k : Nat) (f : Nat → Int) (i : Nat) : Int := if i < k then 0 else f (i - k)
theorem co_shift (k : Nat) (L : List Int) (i : Nat) : Pz.co (List.replicate k 0 ++ L) i = sh k (Pz.co L) i := by
  unfold sh Pz.co
  rw [List.getD_eq_getElem?_getD, List.getD_eq_getElem?_getD]
  by_cases h : i < k
  · rw [if_pos h, List.getElem?_append_left (by simpa using h)]
    simp [h]
  · rw [if_neg h, List.getElem?_append_right (by simp; omega)]
    simp

theorem OwZs.nilOk {w : World} {b : Nat} {A : Option Addr} {n c : Nat} {L : List Int} (h : OwZs w b A n c L) : NilOk A n c := fun e => by
  rcases h.form with ⟨_, h1, h2⟩ | ⟨g, h1, _⟩
  · exact ⟨h1, h2⟩
  · rw [h1] at e; cases e
theorem rd_of {w : World} {b N : Nat} {A : Option Addr} {n c : Nat} {M : List Int} {f : Nat → Int} (h : OwZs w b A n c M) (hM : Pz.IsP f M) (hf : ∀ i, Zz.zl (f i) ≤ N) : RdZs w w.heap.size N A n c M := h.rd fun z hz => by
  obtain ⟨i, _, rfl⟩ := Pz.mem_co hz
  rw [hM.2]
  exact hf i
theorem sh_zl {k N : Nat} {f : Nat → Int} (hf : ∀ i, Zz.zl (f i) ≤ N) (i : Nat) : Zz.zl (sh k f i) ≤ N := by
  unfold sh
  split
  · rw [Zz.zl_zero]; exact Nat.zero_le _
  · exact hf _

end Go.Proofs.YtipbpdiahemmpaaGreat

/- Reference 07, fifth part: the value at a number. -/
namespace Go.Proofs.YtipbpdiahemmpaaGreat
open Go.RowKit Go.IntWalk
attribute [local go_sem ↓] Go.wp_at_zero Go.wp_at_succ

theorem pow_zl {x : Int} {N' : Nat} (hx : Zz.zl x ≤ N') : ∀ i, Zz.zl (x ^ i) ≤ i * N' + 1
  | 0 => by rw [Int.pow_zero]; exact Nat.le_trans (Zz.zl_small (by decide)) (by omega)
  | i + 1 => by
    have ih := pow_zl hx i
    have e := Zz.zl_mul (x ^ i) x
    rw [Int.pow_succ, Nat.succ_mul]
    omega
theorem psum_zl {a : Nat → Int} {x : Int} {N N' n : Nat} (ha : ∀ i, Zz.zl (a i) ≤ N) (hx : Zz.zl x ≤ N') : ∀ i, i ≤ n → Zz.zl (Pz.psum a x i) ≤ N + n * N' + 1 + i
  | 0, _ => by rw [show Pz.psum a x 0 = 0 from rfl, Zz.zl_zero]; omega
  | i + 1, h => by
    have ih := psum_zl (n := n) ha hx i (by omega)
    have e1 := Zz.zl_add (Pz.psum a x i) (a i * x ^ i)
    have e2 := Zz.zl_mul (a i) (x ^ i)
    have e3 := ha i
    have e4 := pow_zl hx i
    have e5 : i * N' ≤ n * N' := Nat.mul_le_mul_right _ (by omega)
    rw [Pz.psum_succ]
    omega

theorem ozc_put {w : World} {b g k m : Nat} {u t s : Bool} {A A' B : Option Addr} {n c n' c' : Nat} {z : Int} (h : OwZ w b u A k m z) (hz : ZC w g s A' n c) : OwZ ((w.setCell ⟨g, 0, none⟩ (.bool t)).setCell ⟨g, 1, none⟩ (.slice B n' c')) b u A k m z := by
  refine ⟨own_other h.own hz fun i _ hne => ?_, h.sgn⟩
  exact (Below.heap_setCell _ (⟨g, 1, none⟩ : Addr) _ i hne).trans (Below.heap_setCell _ (⟨g, 0, none⟩ : Addr) _ i hne)

end Go.Proofs.YtipbpdiahemmpaaGreat

/- The derivative: zpoly's and the reference's. -/
namespace Go.Proofs.YtipbpdiahemmpaaGreat
open Go.RowKit Go.IntWalk
attribute [local go_sem ↓] Go.wp_at_zero Go.wp_at_succ

end Go.Proofs.YtipbpdiahemmpaaGreat
