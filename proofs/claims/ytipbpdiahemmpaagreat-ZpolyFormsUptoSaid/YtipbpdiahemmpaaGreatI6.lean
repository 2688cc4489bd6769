/- Lists of integers; zint: the greatest common divisor of a list. -/
import Derived.Test.YtipbpdiahemmpaaGreatI4
import Derived.Deep.LoopGhost
namespace Go.Proofs.YtipbpdiahemmpaaGreat
open Go.RowKit Go.IntWalk
attribute [local go_sem ↓] Go.wp_at_zero Go.wp_at_succ

/-- A slice of integers that came in: each one's cells and its size's row lie below block B; none has more than N words. -/
structure RdZs (w : World) (B N : Nat) (A : Option Addr) (n c : Nat) (L : List Int) : Prop where
  len : L.length = n
  le : n ≤ c
  mx : c ≤ maxLen
  at_ : ∀ (j : Nat) (z : Int), L[j]? = some z → ∃ (ad : Addr) (s : Bool) (A' : Option Addr) (n' c' : Nat), A = some ad ∧ ad.block < B ∧ w.cell? (ad.add (j * 2)) = some (.bool s) ∧ w.cell? ⟨(ad.add (j * 2)).block, (ad.add (j * 2)).off + 1, none⟩ = some (.slice A' n' c') ∧ RdZ w B s A' n' c' z ∧ n' ≤ N
section
variable {w w' : World} {B B' N : Nat} {A : Option Addr} {n c : Nat} {L : List Int}
theorem RdZs.below (h : RdZs w B N A n c L) (hb : Below B w w') : RdZs w' B N A n c L :=
  ⟨h.len, h.le, h.mx, fun j z hz => by
    obtain ⟨ad, s, A', n', c', h1, h2, h3, h4, h5, h6⟩ := h.at_ j z hz
    exact ⟨ad, s, A', n', c', h1, h2, (hb.cell (p := ad.add (j * 2)) (by rw [add_blk]; exact h2)).trans h3, (hb.cell (p := ⟨(ad.add (j * 2)).block, (ad.add (j * 2)).off + 1, none⟩) (by show (ad.add (j * 2)).block < B; rw [add_blk]; exact h2)).trans h4, h5.below hb, h6⟩⟩
theorem RdZs.more (h : RdZs w B N A n c L) (hB : B ≤ B') : RdZs w B' N A n c L :=
  ⟨h.len, h.le, h.mx, fun j z hz => by
    obtain ⟨ad, s, A', n', c', h1, h2, h3, h4, h5, h6⟩ := h.at_ j z hz
    exact ⟨ad, s, A', n', c', h1, by omega, h3, h4, h5.more hB, h6⟩⟩
theorem RdZs.next (h : RdZs w w.heap.size N A n c L) (hb : Below w.heap.size w w') : RdZs w' w'.heap.size N A n c L := (h.below hb).more hb.size
end

theorem foldl_take {f : Int → Int → Int} {a : Int} {L : List Int} {j : Nat} {x : Int} (h : L[j]? = some x) : (L.take (j + 1)).foldl f a = f ((L.take j).foldl f a) x := by
  rw [List.take_add_one, h, List.foldl_append]
  rfl
theorem zs_get {L : List Int} {j : Nat} (h : j < L.length) : ∃ x, L[j]? = some x := ⟨L[j], List.getElem?_eq_getElem h⟩

set_option maxRecDepth 100000 in
set_option maxHeartbeats 2000000 in
theorem folded_gcd {N : Nat} {A : Option Addr} {n c : Nat} {L : List Int} {w : World} (h : RdZs w w.heap.size N A n c L) (hN : N ≤ 1000000000000) :
    Calls Tryz.prog 194 #[.agg #[.bool false, .slice none 0 0], .slice A n c, .func (.func 195) #[] #[]] w (RetI (L.foldl (fun (g x : Int) => (Int.gcd g x : Int)) 0) w) := by
  have hEN := enters_of Tryz.func195 (by kernel_rfl) rfl
  have HLEN := Lib.hid h.len
  have hn48 : n ≤ 9223372036854775807 := by
    have h1 := h.mx
    have h2 := h.le
    unfold maxLen at h1
    omega
  obtain ⟨hZ, hR, hB⟩ := boxed1 w false none 0 0
  go_enter Tryz.func194, Tryz.ntmps194
  go_wp2_with fail
  generalize (w.alloc (.cells #[.bool false, .slice none 0 0] 28)).alloc (.cells #[.bool false, .slice none 0 0] 28) = W1 at *
  have HS1 := Lib.hid hR.lt
  go_loopw [11] (fun iv wr => ∃ (j : Nat) (s : Bool) (A' : Option Addr) (n' c' : Nat) (y : Int), iv = .int .i64 j ∧ j ≤ n ∧ ZC wr w.heap.size s A' n' c' ∧ ZC wr (w.heap.size + 1) false none 0 0 ∧ Hid (W1.heap.size ≤ wr.heap.size) ∧ OwZ wr W1.heap.size s A' n' c' y ∧ n' ≤ N ∧ Hid (y = (L.take j).foldl (fun (g x : Int) => (Int.gcd g x : Int)) 0) ∧ Below w.heap.size w wr) (fun iv _ => n - (intOf iv).toNat)
  case atStart => exact ⟨0, false, none, 0, 0, 0, rfl, Nat.zero_le _, hZ, hR, Lib.hid (Nat.le_refl _), OwZ.zero _ _, Nat.zero_le _, Lib.hid rfl, hB⟩
  case round =>
    clear hZ hR hB
    obtain ⟨j, s, A', n', c', y, rfl, hj, hZ, hR, HB1, ho, hn', hy, hB⟩ := hrel
    by_cases hjn : j = n
    · subst hjn
      have hc0 := hZ.c0
      have hc1 := hZ.c1
      have hr0 := hR.c0
      have hr1 := hR.c1
      have hf0 := hR.fz 0
      have hf1 := hR.fz 1
      go_wp2
      have hp := put_int hR hB (Nat.le_succ _) ho HS1.out
      generalize (wr.setCell ⟨w.heap.size + 1, 0, none⟩ (.bool s)).setCell ⟨w.heap.size + 1, 1, none⟩ (.slice A' n' c') = W5 at hp ⊢
      obtain ⟨hZ5, ho5, hB5⟩ := hp
      exact bodyPost_ret (by simp [results, Tryz.results194, go_sem, hZ5.c0, hZ5.c1]) rfl ⟨_, _, _, _, _, rfl, ho5.base (by have := HS1.out; omega), Lib.hid (by rw [hy.out, List.take_of_length_le (by rw [HLEN.out]; exact Nat.le_refl _)]), hB5⟩
    · have hjl : j < n := by omega
      clear hjn
      obtain ⟨x, hx⟩ := zs_get (L := L) (j := j) (by rw [HLEN.out]; exact hjl)
      obtain ⟨ad, s2, A2, n2, c2, rfl, hbk, hx0, hx1, hr, hn2⟩ := h.at_ j x hx
      have hx0' := (hB.cell (p := ad.add (j * 2)) (by rw [add_blk]; exact hbk)).trans hx0
      have hx1' := (hB.cell (p := ⟨(ad.add (j * 2)).block, (ad.add (j * 2)).off + 1, none⟩) (by show (ad.add (j * 2)).block < _; rw [add_blk]; exact hbk)).trans hx1
      have hjl' : (j : Int) < (n : Int) := by omega
      obtain ⟨W2, HW2⟩ : ∃ W, W = wr.alloc (.cells #[.bool s2, .slice A2 n2 c2] 28) := ⟨_, rfl⟩
      have hX : ZC W2 wr.heap.size s2 A2 n2 c2 := by rw [HW2]; exact ZC.new wr s2 A2 n2 c2
      have hb2 : Below wr.heap.size wr W2 := by rw [HW2]; exact (Below.refl wr.heap.size wr).alloc (Nat.le_refl _) _
      have hZ2 := hZ.next hb2
      have hc0 := hZ2.c0
      have hc1 := hZ2.c1
      have hd0 := hX.c0
      have hd1 := hX.c1
      rw [HW2] at hc0 hc1 hd0 hd1
      have HW2 := Lib.hid HW2
      go_wp2_with fail
      clear hc0 hc1 hd0 hd1
      rw [← HW2.out]
      clear HW2
      have hR2 := hR.next hb2
      have hB2 := hB.trans (hb2.mono hB.size)
      have hr2 := (hr.next hB2)
      have ho2 := ho.next hb2
      refine (igcd_any ho2.rd hr2 (by omega) (by omega)).mono ?_
      rintro _ W3 ⟨s3, A3, m3, c3, z3, rfl, ho3, hz3, hb3⟩
      have hZ3 := hZ2.next hb3
      have hR3 := hR2.next hb3
      have hB3 := hB2.trans (hb3.mono hB2.size)
      have hc0 := hZ3.c0
      have hc1 := hZ3.c1
      have hf0 := hZ3.fz 0
      have hf1 := hZ3.fz 1
      have HS2 := Lib.hid (show w.heap.size < W2.heap.size from hZ2.lt)
      have HZL := Lib.hid (show m3 ≤ N by
        rw [ho3.len, hz3.out]
        have e1 := Zz.zl_gcd y x
        have e2 := hr.len
        have e3 := ho.len
        omega)
      have HFO := Lib.hid (show z3 = (L.take (j + 1)).foldl (fun (g x : Int) => (Int.gcd g x : Int)) 0 by rw [foldl_take hx, hz3.out, hy.out])
      have HB12 := Lib.hid (show W1.heap.size ≤ W2.heap.size from Nat.le_trans HB1.out hb2.size)
      have HB23 := Lib.hid hb3.size
      clear hx hx0 hx1 hx0' hx1' hr hr2 hZ hZ2 hX hR hR2 hb2 hb3 ho ho2 hy hz3
      go_wp2
      have hp := put_int hZ3 hB3 (Nat.le_refl _) ho3 HS2.out
      have HS5 := Lib.hid (show W2.heap.size ≤ ((W3.setCell ⟨w.heap.size, 0, none⟩ (.bool s3)).setCell ⟨w.heap.size, 1, none⟩ (.slice A3 m3 c3)).heap.size by simpa using HB23.out)
      have hR5 := (hR3.far (p := ⟨w.heap.size, 0, none⟩) (by simp) (.bool s3)).far (p := ⟨w.heap.size, 1, none⟩) (by simp) (.slice A3 m3 c3)
      generalize (W3.setCell ⟨w.heap.size, 0, none⟩ (.bool s3)).setCell ⟨w.heap.size, 1, none⟩ (.slice A3 m3 c3) = W5 at hp hR5 HS5 ⊢
      obtain ⟨hZ5, ho5, hB5⟩ := hp
      have HB15 : W1.heap.size ≤ W5.heap.size := Nat.le_trans HB12.out HS5.out
      go_roundw
      case rel => exact ⟨j + 1, s3, A3, m3, c3, z3, by go_num, by omega, hZ5, hR5, Lib.hid HB15, ho5.base HB12.out, HZL.out, HFO.out, hB5⟩
      case measure => simp [intOf]; omega

set_option maxHeartbeats 1000000 in
theorem gcdl_any {N : Nat} {A : Option Addr} {n c : Nat} {L : List Int} {w : World} (h : RdZs w w.heap.size N A n c L) (hN : N ≤ 1000000000000) :
    Calls Tryz.prog 96 #[.slice A n c] w (RetI (L.foldl (fun (g x : Int) => (Int.gcd g x : Int)) 0) w) := by
  obtain ⟨W1, HW1⟩ : ∃ W, W = w.alloc (.cells #[.bool false, .slice none 0 0] 28) := ⟨_, rfl⟩
  have hR : ZC W1 w.heap.size false none 0 0 := by rw [HW1]; exact ZC.new w false none 0 0
  have hB : Below w.heap.size w W1 := by rw [HW1]; exact (Below.refl w.heap.size w).alloc (Nat.le_refl _) _
  have HW1 := Lib.hid HW1
  have h1 := h.next hB
  go_enter Tryz.func96, Tryz.ntmps96
  go_wp2_with fail
  rw [← HW1.out]
  clear HW1
  refine (folded_gcd h1 hN).mono ?_
  rintro _ W3 ⟨s3, A3, m3, c3, z3, rfl, ho3, hz3, hb3⟩
  have hR3 := hR.next hb3
  have hB3 := hB.trans (hb3.mono hB.size)
  have HS1 := Lib.hid hR.lt
  have hc0 := hR3.c0
  have hc1 := hR3.c1
  have hf0 := hR3.fz 0
  have hf1 := hR3.fz 1
  clear hb3 hR h1 h
  go_wp2
  have hp := put_int hR3 hB3 (Nat.le_refl _) ho3 HS1.out
  generalize (W3.setCell ⟨w.heap.size, 0, none⟩ (.bool s3)).setCell ⟨w.heap.size, 1, none⟩ (.slice A3 m3 c3) = W5 at hp ⊢
  obtain ⟨hZ5, ho5, hB5⟩ := hp
  exact bodyPost_ret (by simp [results, Tryz.results96, go_sem, hZ5.c0, hZ5.c1]) rfl ⟨_, _, _, _, _, rfl, ho5.base (Nat.le_of_lt HS1.out), hz3, hB5⟩
end Go.Proofs.YtipbpdiahemmpaaGreat
