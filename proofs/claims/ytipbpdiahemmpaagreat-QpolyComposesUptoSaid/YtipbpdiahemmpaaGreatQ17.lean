/- zpoly: the primitive part. -/
import Derived.Test.YtipbpdiahemmpaaGreatQ16
import Derived.Shelf.Small.Bits
import Derived.Test.YtipbpdiahemmpaaGreatProg
namespace Go.Proofs.YtipbpdiahemmpaaGreat
open Go.RowKit Go.IntWalk
attribute [local go_sem ↓] Go.wp_at_zero Go.wp_at_succ

set_option maxHeartbeats 1000000 in
theorem byIn_any {B : Nat} {s s' : Bool} {A A' : Option Addr} {n c n' c' : Nat} {z z' : Int} {w : World} (h : RdZ w w.heap.size s A n c z) (hC : ZC w B s' A' n' c') (h' : RdZ w w.heap.size s' A' n' c' z') (hn : n ≤ 1000000000000) (hn' : n' ≤ 1000000000000) (h0 : z' ≠ 0) :
    Calls Tryz.prog 189 #[.agg #[.bool s, .slice A n c], .pointer (some ⟨B, 0, none⟩)] w (RetI (exq z' z) w) := by
  obtain ⟨hZ, hR, hB⟩ := boxed1 w s A n c
  have h1 := h.next hB
  have h1' := h'.next hB
  have hC1 := hC.next hB
  have HSZ := Lib.hid (Nat.lt_trans (Nat.lt_succ_self _) hR.lt)
  have hc0 := hC1.c0
  have hc1 := hC1.c1
  have hz0 := hZ.c0
  have hz1 := hZ.c1
  go_enter Tryz.func189, Tryz.ntmps189
  go_wp2_with fail
  generalize (w.alloc (.cells #[.bool s, .slice A n c] 28)).alloc (.cells #[.bool false, .slice none 0 0] 28) = W1 at *
  refine (exact_any h1 h1' hn hn' h0).mono ?_
  rintro _ W4 ⟨s4, A4, m4, c4, z4, kk, rfl, ho4, hz4, hb4⟩
  have HZ4 := Lib.hid (show z4 = exq z' z by
    unfold exq
    rcases hz4.out with ⟨e1, e2, _⟩ | ⟨e1, e2, _⟩
    · rw [if_pos e1, e2]
    · rw [if_neg e1, e2])
  have hR4 := hR.next hb4
  have hB4 := hB.trans (hb4.mono hB.size)
  have HS1 := Lib.hid hR.lt
  obtain ⟨W5, HW5⟩ : ∃ W, W = W4.alloc (.cells #[.bool s4, .slice A4 m4 c4] 28) := ⟨_, rfl⟩
  have hb5 : Below W4.heap.size W4 W5 := by rw [HW5]; exact (Below.refl W4.heap.size W4).alloc (Nat.le_refl _) _
  have hX5 : ZC W5 W4.heap.size s4 A4 m4 c4 := by rw [HW5]; exact ZC.new W4 s4 A4 m4 c4
  have hR5 := hR4.next hb5
  have hB5 := hB4.trans (hb5.mono hB4.size)
  have hd0 := hR5.c0
  have hd1 := hR5.c1
  have hf0 := hR5.fz 0
  have hf1 := hR5.fz 1
  have hx0 := hX5.c0
  have hx1 := hX5.c1
  have ho5 := ho4.next hb5
  have HO5 := Lib.hid ho5
  have HB5 := Lib.hid hB5
  have HR5 := Lib.hid hR5
  clear hb4 hZ hR hC1 hC hz4 ho4 ho5 hb5 hX5 hR4 hR5 hB4 hB5 hB h h' h1 h1'
  rw [HW5] at hd0 hd1 hf0 hf1 hx0 hx1
  have HW5 := Lib.hid HW5
  clear hc0 hc1 hz0 hz1
  go_wp2
  rw [← HW5.out]
  clear HW5
  clear HW5
  have hp := put_int HR5.out HB5.out (Nat.le_succ _) HO5.out HS1.out
  generalize (W5.setCell ⟨w.heap.size + 1, 0, none⟩ (.bool s4)).setCell ⟨w.heap.size + 1, 1, none⟩ (.slice A4 m4 c4) = W6 at hp ⊢
  obtain ⟨hZ6, ho6, hB6⟩ := hp
  exact bodyPost_ret (by simp [results, Tryz.results189, go_sem, hZ6.c0, hZ6.c1]) rfl ⟨_, _, _, _, _, rfl, ho6.base (Nat.le_of_lt HSZ.out), HZ4, hB6⟩

set_option maxHeartbeats 1000000 in
theorem by_any {N : Nat} {s : Bool} {A A' : Option Addr} {n c n' c' : Nat} {L : List Int} {z : Int} {w : World} (h : RdZs w w.heap.size N A n c L) (h' : RdZ w w.heap.size s A' n' c' z) (hn : n ≤ 4398046511103) (hn' : n' ≤ 1000000000000) (hN : N ≤ 1000000000000) (h0 : z ≠ 0) :
    Calls Tryz.prog 87 #[.slice A n c, .agg #[.bool s, .slice A' n' c']] w (RetL (L.map (exq z)) w) := by
  have hEN := enters_of Tryz.func189 (by kernel_rfl) rfl
  have hZ := ZC.new w s A' n' c'
  have hB : Below w.heap.size w (w.alloc (.cells #[.bool s, .slice A' n' c'] 28)) := (Below.refl w.heap.size w).alloc (Nat.le_refl _) _
  go_enter Tryz.func87, Tryz.ntmps87
  go_wp2_with fail
  generalize w.alloc (.cells #[.bool s, .slice A' n' c'] 28) = W1 at *
  refine (mapped_cap (N := N) (exq z) (h.next hB) hn hEN (fun W s2 A2 m c2 x hb hr hm => byIn_any hr (hZ.next hb) ((h'.next hB).next hb) (Nat.le_trans hm hN) hn' h0)).mono ?_
  rintro _ W2 ⟨A2, n2, c2, M2, rfl, ho2, hM2, hb2⟩
  have hB2 := hB.trans (hb2.mono hB.size)
  go_wp2
  go_ret
  exact ⟨_, _, _, M2, rfl, ho2.base hB.size, hM2, hB2⟩

/-- A number and a polynomial. -/
def RetPr (cv : Int) (Q : List Int) (w : World) (e : Ending) (w' : World) : Prop :=
  ∃ (s : Bool) (A : Option Addr) (n c : Nat) (y : Int) (A' : Option Addr) (n' c' : Nat) (Q' : List Int), e = .returned (.tuple #[.agg #[.bool s, .slice A n c], .slice A' n' c']) ∧ OwZ w' w.heap.size s A n c y ∧ OwZs w' w.heap.size A' n' c' Q' ∧ Hid (y = cv ∧ Q' = Q) ∧ Below w.heap.size w w'

set_option maxRecDepth 100000 in
set_option maxHeartbeats 4000000 in
theorem zprim_any {N : Nat} {A : Option Addr} {n c : Nat} {L M : List Int} {w : World} (h : RdZs w w.heap.size N A n c L) (hM : Pz.IsP (Pz.co L) M) (hn : n ≤ 4398046511103) (hN : N ≤ 1000000000000) :
    Calls Tryz.prog 14 #[.slice A n c] w (RetPr (prC M) (M.map fun z => z.tdiv (prC M)) w) := by
  have HM := Lib.hid hM
  have HL := Lib.hid h.len
  have HC := Lib.hid (zl_co h)
  have hR := ZC.new w false none 0 0
  have hB1 : Below w.heap.size w (w.alloc (.cells #[.bool false, .slice none 0 0] 28)) := (Below.refl _ _).alloc (Nat.le_refl _) _
  have h1 := h.next hB1
  clear h hM
  go_enter Tryz.func14, Tryz.ntmps14
  go_wp2_with fail
  generalize w.alloc (.cells #[.bool false, .slice none 0 0] 28) = W1 at *
  refine (znorm_any h1 hn (by omega)).mono ?_
  rintro _ W2 ⟨A2, n2, c2, M2, rfl, ho2, hM2, hb2⟩
  obtain rfl := hM2.out.unique HM.out
  have HE := Lib.hid (show M2.length = n2 from ho2.len)
  have hR2 := hR.next hb2
  have hB2 := hB1.trans (hb2.mono hB1.size)
  have HS1 := Lib.hid hR.lt
  have f0 := hR2.fz 0
  have f1 := hR2.fz 1
  have k0 := hR2.c0
  have k1 := hR2.c1
  rcases Nat.eq_zero_or_pos n2 with e0 | e0
  · subst e0
    have HV := Lib.hid (show M2 = [] from List.eq_nil_of_length_eq_zero HE.out)
    have hZ6 := hR2.store false none 0 0
    have HB6 := Lib.hid ((hB2.setCell (p := ⟨w.heap.size, 0, none⟩) (Nat.le_refl _) (.bool false)).setCell (p := ⟨w.heap.size, 1, none⟩) (Nat.le_refl _) (.slice none 0 0))
    clear h1 ho2 hR2 hR hB1 hB2 hb2
    go_wp2_with fail
    generalize (W2.setCell ⟨w.heap.size, 0, none⟩ (.bool false)).setCell ⟨w.heap.size, 1, none⟩ (.slice none 0 0) = W6 at *
    exact bodyPost_ret (by simp [results, Tryz.results14, go_sem, hZ6.c0, hZ6.c1]) rfl ⟨_, _, _, _, _, _, _, _, _, rfl, OwZ.zero _ _, OwZs.nil _ _, Lib.hid (by rw [HV.out]; exact ⟨prC_nil.symm, rfl⟩), HB6.out⟩
  · obtain ⟨m, hm⟩ : ∃ m, n2 = m + 1 := ⟨n2 - 1, by omega⟩
    have HMM := Lib.hid hm
    have hmlt' : m < n2 := by omega
    have hb : ((n2 : Int) == 0) = false := by simp; omega
    have hmi : (n2 : Int) - 1 = (m : Int) := by omega
    have hmlt : (m : Int) < (n2 : Int) := by omega
    have hnb : n2 ≤ 4398046511103 := by
      have h5 := HM.out.len (k := n) fun i hi => Pz.co_ge (by rw [HL.out]; exact hi)
      have := HE.out
      omega
    have hmb : m ≤ 4398046511103 := by omega
    have HV := Lib.hid (show m = M2.length - 1 by rw [HE.out, HMM.out]; rfl)
    have HNE := Lib.hid (show M2 ≠ [] from fun e => by have := HE.out; rw [e] at this; simp at this; omega)
    have HZM := Lib.hid (show ∀ z ∈ M2, Zz.zl z ≤ N from fun z hz => by
      obtain ⟨i, _, rfl⟩ := Pz.mem_co hz
      rw [HM.out.2]; exact HC.out i)
    have hr2 := rd_of (N := N) ho2 HM.out HC.out
    clear hm e0 h1
    go_wp2_with fail
    refine (zcontent_any hr2 hN).mono ?_
    rintro _ W3 ⟨s3, A3, n3, c3, z3, rfl, ho3, hz3, hb3⟩
    obtain ⟨W4, HW4⟩ : ∃ W, W = W3.alloc (.cells #[.bool s3, .slice A3 n3 c3] 28) := ⟨_, rfl⟩
    have hb4 : Below W3.heap.size W3 W4 := by rw [HW4]; exact (Below.refl W3.heap.size W3).alloc (Nat.le_refl _) _
    have hX4 : ZC W4 W3.heap.size s3 A3 n3 c3 := by rw [HW4]; exact ZC.new W3 s3 A3 n3 c3
    have hb24 := hb3.trans (hb4.mono hb3.size)
    have HB24 := Lib.hid hb24
    have HGC := Lib.hid (show W2.heap.size ≤ W3.heap.size from hb3.size)
    have HB12 := Lib.hid hb2.size
    have ho4 := (ho3.base (b' := w.heap.size) hB2.size).next hb4
    obtain ⟨ad, s5, A5, n5, c5, x, rfl, hbk, hx0, hx1, hrx, hn5, hx⟩ := zs_at hr2 hmlt'
    have HXV := Lib.hid (show x = Pz.co M2 (M2.length - 1) by rw [← HV.out]; exact (Pz.co_get hx.out).symm)
    obtain ⟨y0, y1⟩ := zs_cells hb24 hbk hx0 hx1
    have hrx4 := hrx.next hb24
    have HO4 := Lib.hid ho4
    have HX4 := Lib.hid hX4
    have HRS := Lib.hid (show ∀ W : World, Below W2.heap.size W2 W → RdZs W W.heap.size N (some ad) n2 c2 M2 ∧ ZC W w.heap.size false none 0 0 from fun W hb => ⟨hr2.next hb, hR2.next hb⟩)
    have HB2 := Lib.hid hB2
    rw [HW4] at y0 y1
    have HW4 := Lib.hid HW4
    clear k0 k1 f0 f1 hx0 hx1 ho3 hb3 hb4 hX4 ho4 hr2 ho2 hR2 hR hB1 hB2 hb2 hb24 hrx hx
    go_wp2_with fail
    rw [← HW4.out]
    clear HW4
    clear HW4
    generalize W3.heap.size = gc at *
    refine (sign_any hrx4 (by omega)).mono ?_
    rintro _ W5 ⟨k, rfl, hk, hb5⟩
    have HB25 := Lib.hid (HB24.out.trans (hb5.mono HB24.out.size))
    have HX5 := Lib.hid (HX4.out.next hb5)
    have HO5 := Lib.hid (HO4.out.next hb5)
    have HN3 := Lib.hid (show n3 ≤ N by rw [HO4.out.len, hz3.out]; exact zl_fold M2 0 (by rw [Zz.zl_zero]; exact Nat.zero_le _) HZM.out)
    clear y0 y1 hrx4 hb5
    go_upto_if 20 with fail
    go_cut [] from 20 (fun wr => ∃ (s' : Bool) (A' : Option Addr) (n' c' : Nat) (y : Int), ZC wr gc s' A' n' c' ∧ OwZ wr w.heap.size s' A' n' c' y ∧ Hid (y = prC M2) ∧ Below W2.heap.size W2 wr)
    case first =>
      by_cases hneg : k < 0
      · have HP := Lib.hid (show -z3 = prC M2 by
          have h5 := hk.out
          rw [h5, HXV.out] at hneg
          unfold prC
          rw [if_pos (Int.sign_neg_iff.1 hneg), hz3.out])
        have a0 := HX5.out.c0
        have a1 := HX5.out.c1
        go_wp2_with fail
        refine (neg_any HO5.out.rd (by have := HN3.out; omega)).mono ?_
        rintro _ W6 ⟨s6, A6, n6, c6, z6, rfl, ho6, hz6, hb6⟩
        have hX6 := HX5.out.next hb6
        have g0 := hX6.fz 0
        have g1 := hX6.fz 1
        have b0 := hX6.c0
        have b1 := hX6.c1
        have hZ7 := hX6.store s6 A6 n6 c6
        have ho7 := (ho6.base (b' := w.heap.size) (Nat.le_trans HB2.out.size HB25.out.size)).keep (keep_set2 hX6 (.bool s6) (.slice A6 n6 c6))
        have hB7 := ((HB25.out.trans (hb6.mono HB25.out.size)).setCell (p := ⟨gc, 0, none⟩) HGC.out (.bool s6)).setCell (p := ⟨gc, 1, none⟩) HGC.out (.slice A6 n6 c6)
        have HV7 := Lib.hid (show z6 = prC M2 by rw [hz6.out, HP.out])
        have HALL := Lib.hid (And.intro hZ7 (And.intro ho7 hB7))
        clear a0 a1 hX6 hZ7 ho7 hB7 ho6 hb6
        go_wp2
        go_meet
        exact ⟨_, _, _, _, _, HALL.out.1, HALL.out.2.1, HV7, HALL.out.2.2⟩
      · have HP := Lib.hid (show z3 = prC M2 by
          have h5 := hk.out
          rw [h5, HXV.out] at hneg
          unfold prC
          rw [if_neg (mt Int.sign_neg_iff.2 hneg), hz3.out])
        have hneg' : 0 ≤ k := by omega
        clear hneg
        go_wp2
        go_meet
        exact ⟨_, _, _, _, _, HX5.out, HO5.out, HP, HB25.out⟩
    case rest =>
      clear HX5 HO5 HX4 HO4
      obtain ⟨s7, A7, n7, c7, y, hZ7, ho7, hy, hB7⟩ := hcut
      have HD := Lib.hid hB7.drew
      have HX7 := Lib.hid (And.intro hZ7 ho7)
      have a0 := hZ7.c0
      have a1 := hZ7.c1
      have HD7 := Lib.hid (Below.refl wc.heap.size wc).drew
      have HYN := Lib.hid (show n7 ≤ 1000000000000 by rw [ho7.len, hy.out]; exact Nat.le_trans (zl_prC HZM.out) hN)
      have HY0 := Lib.hid (show y ≠ 0 by rw [hy.out]; exact prC_ne HM.out.1 HNE.out)
      have HCE := Lib.hid (show ∀ W : World, Below wc.heap.size wc W → W.cell? ⟨gc, 0, none⟩ = some (.bool s7) ∧ W.cell? ⟨gc, 1, none⟩ = some (.slice A7 n7 c7) from fun W hb => ⟨(HX7.out.1.next hb).c0, (HX7.out.1.next hb).c1⟩)
      clear hZ7 ho7
      have HBC := Lib.hid hB7
      have HLT := Lib.hid (show w.heap.size < wc.heap.size from Nat.lt_of_lt_of_le HS1.out (Nat.le_trans HB12.out hB7.size))
      have HGN := Lib.hid (show gc ≠ w.heap.size by have := HS1.out; have := HB12.out; have := HGC.out; omega)
      have HF7 := Lib.hid (show ∀ W : World, Below wc.heap.size wc W → ZC ((W.setCell ⟨w.heap.size, 0, none⟩ (.bool s7)).setCell ⟨w.heap.size, 1, none⟩ (.slice A7 n7 c7)) gc s7 A7 n7 c7 from fun W hb => ((HX7.out.1.next hb).far (p := ⟨w.heap.size, 0, none⟩) HGN.out (.bool s7)).far (p := ⟨w.heap.size, 1, none⟩) HGN.out (.slice A7 n7 c7))
      clear hB7
      go_upto_region 7 with fail
      go_region_held3 (fun w' => w'.cell? ⟨gc, 0, none⟩ = some (.bool s7) ∧ w'.cell? ⟨gc, 1, none⟩ = some (.slice A7 n7 c7)) (first | exact HCE.out _ HB8.out | exact HCE.out _ HD7.out | exact ⟨(HF7.out _ HB8.out).c0, (HF7.out _ HB8.out).c1⟩)
        ((go_at_call 87; refine (by_any (HRS.out _ HD.out).1 (HX7.out.2.next HD7.out).rd hnb HYN.out hN HY0.out).mono ?_; rintro _ W8 ⟨A8, n8, c8, M8, rfl, ho8, hM8, hb8⟩; have HB8 := Lib.hid (HD7.out.trans (hb8.mono HD7.out.size)); have HR8 := Lib.hid (HRS.out _ (HBC.out.trans (HB8.out.mono HBC.out.size))).2; have r0 := HR8.out.c0; have r1 := HR8.out.c1; have r2 := HR8.out.fz 0; have r3 := HR8.out.fz 1))
      have HZ9 := Lib.hid (HR8.out.store s7 A7 n7 c7)
      have HO9 := Lib.hid ((HX7.out.2.next HB8.out).keep (keep_set2 HR8.out (.bool s7) (.slice A7 n7 c7)))
      have HQ9 := Lib.hid (((ho8.far (p := ⟨w.heap.size, 0, none⟩) HLT.out (.bool s7)).far (p := ⟨w.heap.size, 1, none⟩) HLT.out (.slice A7 n7 c7)).base (Nat.le_of_lt HLT.out))
      have HB9 := Lib.hid (((HB2.out.trans ((HBC.out.trans (HB8.out.mono HBC.out.size)).mono HB2.out.size)).setCell (p := ⟨w.heap.size, 0, none⟩) (Nat.le_refl _) (.bool s7)).setCell (p := ⟨w.heap.size, 1, none⟩) (Nat.le_refl _) (.slice A7 n7 c7))
      have HV9 := Lib.hid (show y = prC M2 ∧ M8 = M2.map fun z => z.tdiv (prC M2) from ⟨hy.out, by rw [hM8.out, hy.out]; exact map_exq (prC_dvd M2)⟩)
      clear a0 a1 r0 r1 r2 r3 ho8 hM8 hb8 hy HF7
      generalize (W8.setCell ⟨w.heap.size, 0, none⟩ (.bool s7)).setCell ⟨w.heap.size, 1, none⟩ (.slice A7 n7 c7) = W9 at *
      have z0 := HZ9.out.c0
      have z1 := HZ9.out.c1
      go_wp2
      exact bodyPost_ret (by simp [results, Tryz.results14, go_sem, z0, z1]) rfl ⟨_, _, _, _, _, _, _, _, _, rfl, HO9.out, HQ9.out, HV9, HB9.out⟩
end Go.Proofs.YtipbpdiahemmpaaGreat

/- Reference 07: content, the primitive part. -/
namespace Go.Proofs.YtipbpdiahemmpaaGreat
open Go.RowKit Go.IntWalk
attribute [local go_sem ↓] Go.wp_at_zero Go.wp_at_succ

set_option maxRecDepth 100000 in
set_option maxHeartbeats 2000000 in
theorem rGcdAll_any {N : Nat} {A : Option Addr} {n c : Nat} {L : List Int} {w : World} (h : RdZs w w.heap.size N A n c L) (hN : N ≤ 1000000000000) :
    Calls Tryz.prog 97 #[.slice A n c] w (RetI (gcdl L) w) := by
  have HLEN := Lib.hid h.len
  have hn48 : n ≤ 9223372036854775807 := by
    have h1 := h.mx
    have h2 := h.le
    unfold maxLen at h1
    omega
  obtain ⟨hR, hZ, hB⟩ := two_boxes w false none 0 0 false none 0 0
  go_enter Tryz.func97, Tryz.ntmps97
  go_wp2_with fail
  generalize (w.alloc (.cells #[.bool false, .slice none 0 0] 28)).alloc (.cells #[.bool false, .slice none 0 0] 28) = W1 at *
  have HS1 := Lib.hid hZ.lt
  go_loopw [9] (fun iv wr => ∃ (j : Nat) (s : Bool) (A' : Option Addr) (n' c' : Nat) (y : Int), iv = .int .i64 j ∧ j ≤ n ∧ ZC wr (w.heap.size + 1) s A' n' c' ∧ ZC wr w.heap.size false none 0 0 ∧ Hid (W1.heap.size ≤ wr.heap.size) ∧ OwZ wr W1.heap.size s A' n' c' y ∧ n' ≤ N ∧ Hid (y = (L.take j).foldl (fun (g x : Int) => (Int.gcd g x : Int)) 0) ∧ Below w.heap.size w wr) (fun iv _ => n - (intOf iv).toNat)
  case atStart => exact ⟨0, false, none, 0, 0, 0, rfl, Nat.zero_le _, hZ, hR, Lib.hid (Nat.le_refl _), OwZ.zero _ _, Nat.zero_le _, Lib.hid rfl, hB⟩
  case round =>
    clear hZ hR hB
    obtain ⟨j, s, A', n', c', y, rfl, hj, hZ, hR, HB1, ho, hn', hy, hB⟩ := hrel
    by_cases hjn : j = n
    · subst hjn
      have hc0 := hZ.c0
      have hc1 := hZ.c1
      have hr0 := hR.c0
      have hr1 := hR.c1
      have hf0 := hR.fz 0
      have hf1 := hR.fz 1
      go_wp2
      have hp := put_int hR hB (Nat.le_refl _) ho (Nat.lt_trans (Nat.lt_succ_self _) HS1.out)
      generalize (wr.setCell ⟨w.heap.size, 0, none⟩ (.bool s)).setCell ⟨w.heap.size, 1, none⟩ (.slice A' n' c') = W5 at hp ⊢
      obtain ⟨hZ5, ho5, hB5⟩ := hp
      exact bodyPost_ret (by simp [results, Tryz.results97, go_sem, hZ5.c0, hZ5.c1]) rfl ⟨_, _, _, _, _, rfl, ho5.base (by have := HS1.out; omega), Lib.hid (by rw [hy.out, List.take_of_length_le (by rw [HLEN.out]; exact Nat.le_refl _)]), hB5⟩
    · have hjl : j < n := by omega
      clear hjn
      obtain ⟨x, hx⟩ := zs_get (L := L) (j := j) (by rw [HLEN.out]; exact hjl)
      obtain ⟨ad, s2, A2, n2, c2, rfl, hbk, hx0, hx1, hr, hn2⟩ := h.at_ j x hx
      have hx0' := (hB.cell (p := ad.add (j * 2)) (by rw [add_blk]; exact hbk)).trans hx0
      have hx1' := (hB.cell (p := ⟨(ad.add (j * 2)).block, (ad.add (j * 2)).off + 1, none⟩) (by show (ad.add (j * 2)).block < _; rw [add_blk]; exact hbk)).trans hx1
      have hjl' : (j : Int) < (n : Int) := by omega
      obtain ⟨W2, HW2⟩ : ∃ W, W = wr.alloc (.cells #[.bool s2, .slice A2 n2 c2] 28) := ⟨_, rfl⟩
      have hX : ZC W2 wr.heap.size s2 A2 n2 c2 := by rw [HW2]; exact ZC.new wr s2 A2 n2 c2
      have hb2 : Below wr.heap.size wr W2 := by rw [HW2]; exact (Below.refl wr.heap.size wr).alloc (Nat.le_refl _) _
      have hZ2 := hZ.next hb2
      have hc0 := hZ2.c0
      have hc1 := hZ2.c1
      have hd0 := hX.c0
      have hd1 := hX.c1
      rw [HW2] at hc0 hc1 hd0 hd1
      have HW2 := Lib.hid HW2
      go_wp2_with fail
      clear hc0 hc1 hd0 hd1
      rw [← HW2.out]
      clear HW2
      have hR2 := hR.next hb2
      have hB2 := hB.trans (hb2.mono hB.size)
      have hr2 := (hr.next hB2)
      have ho2 := ho.next hb2
      refine (rIGcd_any ho2.rd hr2 (by omega) (by omega)).mono ?_
      rintro _ W3 ⟨s3, A3, m3, c3, z3, rfl, ho3, hz3, hb3⟩
      have hZ3 := hZ2.next hb3
      have hR3 := hR2.next hb3
      have hB3 := hB2.trans (hb3.mono hB2.size)
      have hc0 := hZ3.c0
      have hc1 := hZ3.c1
      have hf0 := hZ3.fz 0
      have hf1 := hZ3.fz 1
      have HS2 := Lib.hid (show w.heap.size + 1 < W2.heap.size from hZ2.lt)
      have HZL := Lib.hid (show m3 ≤ N by
        rw [ho3.len, hz3.out]
        have e1 := Zz.zl_gcd y x
        have e2 := hr.len
        have e3 := ho.len
        omega)
      have HFO := Lib.hid (show z3 = (L.take (j + 1)).foldl (fun (g x : Int) => (Int.gcd g x : Int)) 0 by rw [foldl_take hx, hz3.out, hy.out])
      have HB12 := Lib.hid (show W1.heap.size ≤ W2.heap.size from Nat.le_trans HB1.out hb2.size)
      have HB23 := Lib.hid hb3.size
      clear hx hx0 hx1 hx0' hx1' hr hr2 hZ hZ2 hX hR hR2 hb2 hb3 ho ho2 hy hz3
      go_wp2
      have hp := put_int hZ3 hB3 (Nat.le_succ _) ho3 HS2.out
      have HS5 := Lib.hid (show W2.heap.size ≤ ((W3.setCell ⟨w.heap.size + 1, 0, none⟩ (.bool s3)).setCell ⟨w.heap.size + 1, 1, none⟩ (.slice A3 m3 c3)).heap.size by simpa using HB23.out)
      have hR5 := (hR3.far (p := ⟨w.heap.size + 1, 0, none⟩) (by simp) (.bool s3)).far (p := ⟨w.heap.size + 1, 1, none⟩) (by simp) (.slice A3 m3 c3)
      generalize (W3.setCell ⟨w.heap.size + 1, 0, none⟩ (.bool s3)).setCell ⟨w.heap.size + 1, 1, none⟩ (.slice A3 m3 c3) = W5 at hp hR5 HS5 ⊢
      obtain ⟨hZ5, ho5, hB5⟩ := hp
      have HB15 : W1.heap.size ≤ W5.heap.size := Nat.le_trans HB12.out HS5.out
      go_roundw
      case rel => exact ⟨j + 1, s3, A3, m3, c3, z3, by go_num, by omega, hZ5, hR5, Lib.hid HB15, ho5.base HB12.out, HZL.out, HFO.out, hB5⟩
      case measure => simp [intOf]; omega

set_option maxHeartbeats 1000000 in
theorem rzContent_any {N : Nat} {A : Option Addr} {n c : Nat} {L : List Int} {w : World} (h : RdZs w w.heap.size N A n c L) (hN : N ≤ 1000000000000) :
    Calls Tryz.prog 26 #[.slice A n c] w (RetI (gcdl L) w) := by
  obtain ⟨W1, HW1⟩ : ∃ W, W = w.alloc (.cells #[.bool false, .slice none 0 0] 28) := ⟨_, rfl⟩
  have hR : ZC W1 w.heap.size false none 0 0 := by rw [HW1]; exact ZC.new w false none 0 0
  have hB : Below w.heap.size w W1 := by rw [HW1]; exact (Below.refl w.heap.size w).alloc (Nat.le_refl _) _
  have HW1 := Lib.hid HW1
  have h1 := h.next hB
  go_enter Tryz.func26, Tryz.ntmps26
  go_wp2_with fail
  rw [← HW1.out]
  clear HW1
  clear HW1
  refine (rGcdAll_any h1 hN).mono ?_
  rintro _ W3 ⟨s3, A3, m3, c3, z3, rfl, ho3, hz3, hb3⟩
  have hR3 := hR.next hb3
  have hB3 := hB.trans (hb3.mono hB.size)
  have HS1 := Lib.hid hR.lt
  have hc0 := hR3.c0
  have hc1 := hR3.c1
  have hf0 := hR3.fz 0
  have hf1 := hR3.fz 1
  clear hb3 hR h1 h
  go_wp2
  have hp := put_int hR3 hB3 (Nat.le_refl _) ho3 HS1.out
  generalize (W3.setCell ⟨w.heap.size, 0, none⟩ (.bool s3)).setCell ⟨w.heap.size, 1, none⟩ (.slice A3 m3 c3) = W5 at hp ⊢
  obtain ⟨hZ5, ho5, hB5⟩ := hp
  exact bodyPost_ret (by simp [results, Tryz.results26, go_sem, hZ5.c0, hZ5.c1]) rfl ⟨_, _, _, _, _, rfl, ho5.base (Nat.le_of_lt HS1.out), hz3, hB5⟩

set_option maxRecDepth 100000 in
set_option maxHeartbeats 8000000 in
theorem rzPrim_any {N : Nat} {A : Option Addr} {n c : Nat} {L M : List Int} {w : World} (h : RdZs w w.heap.size N A n c L) (hM : Pz.IsP (Pz.co L) M) (hn : n ≤ 4398046511103) (hN : N ≤ 1000000000000) :
    Calls Tryz.prog 15 #[.slice A n c] w (RetPr (prC M) (M.map fun z => z.tdiv (prC M)) w) := by
  have HM := Lib.hid hM
  have HL := Lib.hid h.len
  have HC := Lib.hid (zl_co h)
  obtain ⟨i0, hi, hz0, hz1, hz2⟩ := info_parts infoZ
  have hR := ZC.new w false none 0 0
  have hB1 : Below w.heap.size w (w.alloc (.cells #[.bool false, .slice none 0 0] 28)) := (Below.refl _ _).alloc (Nat.le_refl _) _
  have h1 := h.next hB1
  clear h hM
  go_enter Tryz.func15, Tryz.ntmps15
  go_wp2_with fail
  generalize w.alloc (.cells #[.bool false, .slice none 0 0] 28) = W1 at *
  refine (rzContent_any h1 hN).mono ?_
  rintro _ W2 ⟨s2, A2, n2, c2, z2, rfl, ho2, hz2, hb2⟩
  obtain ⟨W3, HW3⟩ : ∃ W, W = W2.alloc (.cells #[.bool s2, .slice A2 n2 c2] 28) := ⟨_, rfl⟩
  have hb3 : Below W2.heap.size W2 W3 := by rw [HW3]; exact (Below.refl W2.heap.size W2).alloc (Nat.le_refl _) _
  have hX3 : ZC W3 W2.heap.size s2 A2 n2 c2 := by rw [HW3]; exact ZC.new W2 s2 A2 n2 c2
  have hb13 := hb2.trans (hb3.mono hb2.size)
  have HGC := Lib.hid (show W1.heap.size ≤ W2.heap.size from hb2.size)
  have HRS := Lib.hid (show ∀ W : World, Below W1.heap.size W1 W → RdZs W W.heap.size N A n c L ∧ ZC W w.heap.size false none 0 0 from fun W hb => ⟨h1.next hb, hR.next hb⟩)
  have HB1 := Lib.hid hB1
  have HB13 := Lib.hid hb13
  have ho3 := (ho2.base (b' := w.heap.size) hB1.size).next hb3
  have HS1 := Lib.hid hR.lt
  have HZV := Lib.hid (show z2 = gcdl M by rw [hz2.out]; exact gcdl_congr fun i => (HM.out.2 i).symm)
  have HZM := Lib.hid (show ∀ z ∈ M, Zz.zl z ≤ N from fun z hz => by
    obtain ⟨i, _, rfl⟩ := Pz.mem_co hz
    rw [HM.out.2]; exact HC.out i)
  have HN2 := Lib.hid (show n2 ≤ N by rw [ho2.len, HZV.out]; exact zl_fold M 0 (by rw [Zz.zl_zero]; exact Nat.zero_le _) HZM.out)
  have HW3 := Lib.hid HW3
  clear h1 hR ho2 hb2 hb3 hb13 hB1 hz2
  go_wp2_with fail
  rw [← HW3.out]
  clear HW3
  clear HW3
  generalize W2.heap.size = gc at *
  refine (rISign_any ho3.rd (by have := HN2.out; omega)).mono ?_
  rintro _ W4 ⟨k, rfl, hk, hb4⟩
  have HB14 := Lib.hid (HB13.out.trans (hb4.mono HB13.out.size))
  have hX4 := hX3.next hb4
  have ho4 := ho3.next hb4
  have HK := Lib.hid (show k = 0 ↔ M = [] by rw [hk.out, Int.sign_eq_zero_iff_zero, HZV.out]; exact gcdl_zero HM.out.1)
  clear hb4 hX3 ho3 hk
  by_cases hk0 : k = 0
  · have HV := Lib.hid (HK.out.1 hk0)
    subst hk0
    have HR4 := Lib.hid (HRS.out _ HB14.out).2
    have f0 := HR4.out.fz 0
    have f1 := HR4.out.fz 1
    have k0 := HR4.out.c0
    have k1 := HR4.out.c1
    have hZ6 := HR4.out.store false none 0 0
    have HB6 := Lib.hid (((HB1.out.trans (HB14.out.mono HB1.out.size)).setCell (p := ⟨w.heap.size, 0, none⟩) (Nat.le_refl _) (.bool false)).setCell (p := ⟨w.heap.size, 1, none⟩) (Nat.le_refl _) (.slice none 0 0))
    clear ho4 hX4
    go_wp2_with fail
    generalize (W4.setCell ⟨w.heap.size, 0, none⟩ (.bool false)).setCell ⟨w.heap.size, 1, none⟩ (.slice none 0 0) = W6 at *
    exact bodyPost_ret (by simp [results, Tryz.results15, go_sem, hZ6.c0, hZ6.c1]) rfl ⟨_, _, _, _, _, _, _, _, _, rfl, OwZ.zero _ _, OwZs.nil _ _, Lib.hid (by rw [HV.out]; exact ⟨prC_nil.symm, rfl⟩), HB6.out⟩
  · have HNE := Lib.hid (mt HK.out.2 hk0)
    have hkb : (k == 0) = false := by simpa using hk0
    clear hk0
    go_wp2_with fail
    refine (rzLead_ri (HRS.out _ HB14.out).1 HM.out hn (by omega)).mono ?_
    rintro _ W5 ⟨s5, A5, n5, c5, x, rfl, ho5, hx, hb5⟩
    have HN5 := Lib.hid (show n5 ≤ 17592186044416 by
      rw [ho5.len, hx.out, HM.out.2]
      have := HC.out (M.length - 1)
      omega)
    have hX5 := hX4.next hb5
    have ho5c := ho4.next hb5
    clear hX4 ho4
    go_wp2_with fail
    refine (rISign_any ho5.rd HN5.out).mono ?_
    rintro _ W6 ⟨k6, rfl, hk6, hb6⟩
    have HX6 := Lib.hid (hX5.next hb6)
    have HO6 := Lib.hid (ho5c.next hb6)
    have hb46 := hb5.trans (hb6.mono hb5.size)
    have HB16 := Lib.hid (HB14.out.trans (hb46.mono HB14.out.size))
    clear ho5 hX5 ho5c hb5 hb6 hb46
    go_upto_if 19 with fail
    go_cut [] from 19 (fun wr => ∃ (s' : Bool) (A' : Option Addr) (n' c' : Nat) (y : Int), ZC wr gc s' A' n' c' ∧ OwZ wr w.heap.size s' A' n' c' y ∧ Hid (y = prC M) ∧ Below W1.heap.size W1 wr)
    case first =>
      by_cases hneg : k6 < 0
      · have HP := Lib.hid (show -z2 = prC M by
          have h5 := hk6.out
          rw [h5, hx.out] at hneg
          unfold prC
          rw [if_pos (Int.sign_neg_iff.1 hneg), HZV.out])
        have a0 := HX6.out.c0
        have a1 := HX6.out.c1
        go_wp2_with fail
        refine (rINeg_any HO6.out.rd (by have := HN2.out; omega)).mono ?_
        rintro _ W7 ⟨s7, A7, n7, c7, z7, rfl, ho7, hz7, hb7⟩
        have hX7 := HX6.out.next hb7
        have g0 := hX7.fz 0
        have g1 := hX7.fz 1
        have b0 := hX7.c0
        have b1 := hX7.c1
        have hZ8 := hX7.store s7 A7 n7 c7
        have ho8 := (ho7.base (b' := w.heap.size) (Nat.le_trans HB1.out.size HB16.out.size)).keep (keep_set2 hX7 (.bool s7) (.slice A7 n7 c7))
        have hB8 := ((HB16.out.trans (hb7.mono HB16.out.size)).setCell (p := ⟨gc, 0, none⟩) HGC.out (.bool s7)).setCell (p := ⟨gc, 1, none⟩) HGC.out (.slice A7 n7 c7)
        have HV8 := Lib.hid (show z7 = prC M by rw [hz7.out, HP.out])
        have HALL := Lib.hid (And.intro hZ8 (And.intro ho8 hB8))
        clear a0 a1 hX7 hZ8 ho8 hB8 ho7 hb7
        go_wp2
        go_meet
        exact ⟨_, _, _, _, _, HALL.out.1, HALL.out.2.1, HV8, HALL.out.2.2⟩
      · have HP := Lib.hid (show z2 = prC M by
          have h5 := hk6.out
          rw [h5, hx.out] at hneg
          unfold prC
          rw [if_neg (mt Int.sign_neg_iff.2 hneg), HZV.out])
        have hneg' : 0 ≤ k6 := by omega
        clear hneg
        go_wp2
        go_meet
        exact ⟨_, _, _, _, _, HX6.out, HO6.out, HP, HB16.out⟩
    case rest =>
      clear HX6 HO6
      obtain ⟨s7, A7, n7, c7, y, hZ7, ho7, hy, hB7⟩ := hcut
      have HX7 := Lib.hid (And.intro hZ7 ho7)
      have HB7 := Lib.hid hB7
      have HYN := Lib.hid (show n7 ≤ 4398046511103 by rw [ho7.len, hy.out]; exact Nat.le_trans (zl_prC HZM.out) (by omega))
      have HY0 := Lib.hid (show y ≠ 0 by rw [hy.out]; exact prC_ne HM.out.1 HNE.out)
      clear hZ7 ho7 hB7
      go_wp2_with fail
      refine (rzNorm_any (HRS.out _ HB7.out).1 hn (by omega)).mono ?_
      rintro _ W8 ⟨A8, n8, c8, M8, rfl, ho8, hM8, hb8⟩
      obtain rfl := hM8.out.unique HM.out
      have HLM := Lib.hid ho8.len
      have hn8 : n8 ≤ 4398046511103 := by
        rw [← HLM.out]
        exact Nat.le_trans (HM.out.len fun i hi => Pz.co_ge (by rw [HL.out]; exact hi)) hn
      have hr8 := rd_of (N := N) ho8 HM.out HC.out
      have HB18 := Lib.hid (HB7.out.trans (hb8.mono HB7.out.size))
      have HX8 := Lib.hid (And.intro (HX7.out.1.next hb8) (HX7.out.2.next hb8))
      have HLT := Lib.hid (show w.heap.size < W8.heap.size from Nat.lt_of_lt_of_le HS1.out HB18.out.size)
      clear ho8 hM8 hb8
      go_wp2_with fail
      go_loopw [5, 25] (fun ov iv wr => ∃ (j c' : Nat) (A' : Option Addr) (Q : List Int), ov = .slice A' j c' ∧ iv = .int .i64 j ∧ j ≤ n8 ∧ OwZs wr W8.heap.size A' j c' Q ∧ Hid (Q = (M8.take j).map (exq y)) ∧ Below W8.heap.size W8 wr) (fun _ iv _ => n8 - (intOf iv).toNat)
      case atStart => exact ⟨0, 0, none, [], rfl, rfl, Nat.zero_le _, OwZs.nil _ _, Lib.hid rfl, Below.refl _ _⟩
      case round =>
        obtain ⟨j, c', A', Q, rfl, rfl, hj, ho, hQ, hB⟩ := hrel
        by_cases hjn : j = n8
        · subst hjn
          have HX9 := Lib.hid (HX8.out.1.next hB)
          have HR9 := Lib.hid (HRS.out _ (HB18.out.trans (hB.mono HB18.out.size))).2
          have HZ9 := Lib.hid (HR9.out.store s7 A7 n7 c7)
          have HO9 := Lib.hid ((HX8.out.2.next hB).keep (keep_set2 HR9.out (.bool s7) (.slice A7 n7 c7)))
          have HQ9 := Lib.hid (((ho.far (p := ⟨w.heap.size, 0, none⟩) HLT.out (.bool s7)).far (p := ⟨w.heap.size, 1, none⟩) HLT.out (.slice A7 n7 c7)).base (Nat.le_of_lt HLT.out))
          have HB9 := Lib.hid (((HB1.out.trans ((HB18.out.trans (hB.mono HB18.out.size)).mono HB1.out.size)).setCell (p := ⟨w.heap.size, 0, none⟩) (Nat.le_refl _) (.bool s7)).setCell (p := ⟨w.heap.size, 1, none⟩) (Nat.le_refl _) (.slice A7 n7 c7))
          have HV9 := Lib.hid (show y = prC M8 ∧ Q = M8.map fun z => z.tdiv (prC M8) from ⟨hy.out, by rw [hQ.out, List.take_of_length_le (by rw [HLM.out]; exact Nat.le_refl _), hy.out]; exact map_exq (prC_dvd M8)⟩)
          have x0 := HX9.out.c0
          have x1 := HX9.out.c1
          have r0 := HR9.out.c0
          have r1 := HR9.out.c1
          have r2 := HR9.out.fz 0
          have r3 := HR9.out.fz 1
          clear ho hB hQ hy
          go_wp2_with fail
          generalize (wr.setCell ⟨w.heap.size, 0, none⟩ (.bool s7)).setCell ⟨w.heap.size, 1, none⟩ (.slice A7 n7 c7) = W9 at *
          have z0 := HZ9.out.c0
          have z1 := HZ9.out.c1
          exact bodyPost_ret (by simp [results, Tryz.results15, go_sem, z0, z1]) rfl ⟨_, _, _, _, _, _, _, _, _, rfl, HO9.out, HQ9.out, HV9, HB9.out⟩
        · have hjl : j < n8 := by omega
          clear hjn
          have hjli : (j : Int) < (n8 : Int) := by omega
          obtain ⟨ad, s1, A1, n1, c1, z, rfl, hbk, hx0, hx1, hr, hn1, hz⟩ := zs_at hr8 hjl
          obtain ⟨hy0, hy1⟩ := zs_cells hB hbk hx0 hx1
          obtain ⟨W9, HW9⟩ : ∃ W, W = wr.alloc (.cells #[.bool s1, .slice A1 n1 c1] 28) := ⟨_, rfl⟩
          have hb9 : Below wr.heap.size wr W9 := by rw [HW9]; exact (Below.refl wr.heap.size wr).alloc (Nat.le_refl _) _
          have hB9 := hB.trans (hb9.mono hB.size)
          have hX9 := HX8.out.1.next hB9
          have hV9 : ZC W9 wr.heap.size s1 A1 n1 c1 := by rw [HW9]; exact ZC.new wr s1 A1 n1 c1
          have d0 := hX9.c0
          have d1 := hX9.c1
          have e0 := hV9.c0
          have e1 := hV9.c1
          rw [HW9] at d0 d1 e0 e1
          have HO := Lib.hid (ho.next hb9)
          have HRZ := Lib.hid (And.intro (hr.next hB9) (HX8.out.2.next hB9))
          have HB9 := Lib.hid hB9
          have HW9 := Lib.hid HW9
          have HN1 := Lib.hid (show n1 ≤ 4398046511103 by omega)
          clear ho hB hb9 hB9 hX9 hV9 hr hx0 hx1
          go_wp2_with fail
          rw [← HW9.out]
          clear HW9 hy0 hy1 d0 d1 e0 e1
          clear HW9
          refine (rIExact_any HRZ.out.1 HRZ.out.2.rd HN1.out HYN.out HY0.out).mono ?_
          rintro _ W3 ⟨s3, A3, m3, c3, z3, kk, rfl, ho3, hz3, hb3⟩
          have HZ3 := Lib.hid (show z3 = exq y z by
            unfold exq
            rcases hz3.out with ⟨f1, f2, _⟩ | ⟨f1, f2, _⟩
            · rw [if_pos f1, f2]
            · rw [if_neg f1, f2])
          have hB3 := HB9.out.trans (hb3.mono HB9.out.size)
          obtain ⟨W4, HW4⟩ : ∃ W, W = W3.alloc (.cells #[.bool s3, .slice A3 m3 c3] 28) := ⟨_, rfl⟩
          have hb4 : Below W3.heap.size W3 W4 := by rw [HW4]; exact (Below.refl W3.heap.size W3).alloc (Nat.le_refl _) _
          have hB4 := hB3.trans (hb4.mono hB3.size)
          obtain ⟨E, hE, hEl, hEn⟩ := (HO.out.next hb3).next hb4
          have HO4 := Lib.hid ((ho3.base HB9.out.size).next hb4)
          rw [HW4] at hE hB4
          have HE := Lib.hid hE
          have HEN := Lib.hid (And.intro hEl hEn)
          have HM2 := Lib.hid (show Q ++ [z3] = (M8.take (j + 1)).map (exq y) by rw [hQ.out, HZ3.out]; exact map_snoc hz.out)
          have HB4 := Lib.hid hB4
          have HW4 := Lib.hid HW4
          clear hE hEl hEn hb3 ho3 hb4 hB3 hB4 hz3
          go_wp2_with (at_builtin; go_loud (refine wpList_append_own _ rfl _ _ 23 rfl W8.heap.size 28 i0 (.agg #[.bool false, .slice none 0 0]) 2 32 Tryz.underlying23 hi hz0 hz1 hz2 rfl (by decide) _ _ _ rfl (HE.out.alloc _) ⟨W3.heap.size + 1, 0, none⟩ 1 1 [.bool s3, .slice A3 m3 c3] rfl rfl (by simpa using zcell_new (W3.alloc (.cells #[.bool s3, .slice A3 m3 c3] 28)) (.bool s3) (.slice A3 m3 c3) 28) (by simp [Value.oneCell']) (by unfold maxLen; omega) (by omega) (by have := HB4.out.size; simp at this ⊢; omega) ?_); intro v' w1 hown' hgrow _)
          have hmore := zs_more (e := (s3, A3, m3, c3)) (z := z3) (by have := HO4.out; rw [HW4.out] at this; exact this) rfl (HE.out.alloc _) HEN.out.1 (by have := HEN.out.2; rw [HW4.out] at this; exact this) hown' hgrow
          have HB5 := Lib.hid ((HB4.out.alloc HB4.out.size (.cells #[.bool s3, .slice A3 m3 c3] 28)).grown hgrow (by have := HB4.out.size; simp at this ⊢; omega) (own_block HE.out))
          obtain ⟨A5, c5, rfl, ho5⟩ := hmore
          clear hown' hgrow HE HEN HO4
          go_wp2
          go_roundw
          case rel => exact ⟨j + 1, c5, A5, Q ++ [z3], rfl, by go_num, by omega, ho5, HM2, HB5.out⟩
          case measure => simp [intOf]; omega
end Go.Proofs.YtipbpdiahemmpaaGreat

/- The library's contract of math/bits.Len, laid at this program. -/
namespace Go.Proofs.YtipbpdiahemmpaaGreat
open Go.Shelf
def lays125_ren : Go.Shelf.Ren := ⟨fun | 125 => 304 | 128 => 240 | 129 => 305 | n => n, fun | 3 => 3 | 4 => 4 | 5 => 5 | 9 => 9 | 46 => 208 | 51 => 35 | 53 => 173 | n => n, fun | n => n⟩
theorem lays125 : Go.Proofs.Lays.n125 Tryz.prog lays125_ren := {
  mixed := by kernel_rfl
  f125 := Tryz.func304.trans (congrArg some (by kernel_rfl))
  f128 := Tryz.func240.trans (congrArg some (by kernel_rfl))
  f129 := Tryz.func305.trans (congrArg some (by kernel_rfl))
  t3 := Tryz.underlying3
  a3 := Tryz.isAgg3
  z3 := Tryz.sizeOf3
  v3 := Tryz.zeroValue3
  t4 := Tryz.underlying4
  a4 := Tryz.isAgg4
  z4 := Tryz.sizeOf4
  v4 := Tryz.zeroValue4
  t5 := Tryz.underlying5
  a5 := Tryz.isAgg5
  z5 := Tryz.sizeOf5
  v5 := Tryz.zeroValue5
  t9 := Tryz.underlying9
  a9 := Tryz.isAgg9
  z9 := Tryz.sizeOf9
  v9 := Tryz.zeroValue9
  t46 := Tryz.underlying208
  a46 := Tryz.isAgg208
  z46 := Tryz.sizeOf208
  v46 := Tryz.zeroValue208
  t51 := Tryz.underlying35
  a51 := Tryz.isAgg35
  z51 := Tryz.sizeOf35
  v51 := Tryz.zeroValue35
  t53 := Tryz.underlying173
  a53 := Tryz.isAgg173
  z53 := Tryz.sizeOf173
  v53 := Tryz.zeroValue173 }
theorem bits_Len (x : Int) (w : World) (h0 : 0 ≤ x) (h1 : x ≤ 18446744073709551615) :
    Calls Tryz.prog 304 #[.int .u64 x] w fun e w' => e = .returned (.int .i64 (Lib.bitLen x.toNat)) ∧ w' = w := Any.bits_Len lays125 x w h0 h1
end Go.Proofs.YtipbpdiahemmpaaGreat

/- Powers with the exponents nought and one. -/
namespace Go.Proofs.YtipbpdiahemmpaaGreat
open Go.RowKit Go.IntWalk
attribute [local go_sem ↓] Go.wp_at_zero Go.wp_at_succ

theorem bitLen_zero {y : Nat} (h : y < 2 ^ 64) (e : Lib.bitLen y = 0) : y = 0 := by
  apply Classical.byContradiction
  intro h0
  have := Lib.bitLen_half y h0 h
  omega
theorem bitLen_one {x : Nat} (h0 : x ≠ 0) (h : x < 2 ^ 64) : Lib.bitLen x = 1 ↔ x = 1 := by
  constructor
  · intro e
    have e1 := Lib.bitLen_half x h0 h
    have e2 := bitLen_zero (y := x / 2) (by omega) (by omega)
    omega
  · rintro rfl
    decide +kernel

set_option maxHeartbeats 1000000 in
theorem len_small {A : Option Addr} {n c v : Nat} {w : World} (h : RdU w w.heap.size A n c (Dg.dg v)) (hv : v < 4294967296) :
    Calls Tryz.prog 184 #[.slice A n c] w fun e w' => ∃ z : Nat, e = .returned (.int .i64 z) ∧ Hid ((z = 0 ↔ v = 0) ∧ (z = 1 ↔ v = 1) ∧ z ≤ 32) ∧ w = w' := by
  have hlen := Lib.hid h.len
  have hn1 : n ≤ 1 := by
    rw [← h.len]
    exact Dg.dg_len_lt.2 (by simpa using hv)
  go_enter Tryz.func184, Tryz.ntmps184
  go_wp2_with fail
  refine (trim_any h (by omega)).mono ?_
  rintro _ _ ⟨k, rfl, hk, rfl⟩
  have hkl := hk.out.1
  have hkn : k ≤ n := by rw [hlen.out] at hkl; exact hkl
  rcases Nat.eq_zero_or_pos k with h0 | h0
  · subst h0
    have HZ := Lib.hid (show v = 0 by
      have := Dg.dg_nil.1 (hk.out.2.symm.trans (List.take_zero))
      rwa [Dg.val_dg] at this)
    clear hkl
    go_wp2
    go_ret
    exact ⟨0, rfl, Lib.hid ⟨⟨fun _ => HZ.out, fun _ => rfl⟩, ⟨fun e => by omega, fun e => by rw [HZ.out] at e; omega⟩, by omega⟩, rfl⟩
  · obtain rfl : k = 1 := by omega
    have hn2 : n = 1 := by omega
    subst hn2
    have HVE := Lib.hid (show Dg.dg v = [v] ∧ v ≠ 0 by
      have hl := hlen.out
      have hne : v ≠ 0 := by
        rintro rfl
        rw [Dg.dg_zero] at hl
        simp at hl
      have e := Dg.val_dg v
      match hd : Dg.dg v, hl with
      | [u], _ =>
        rw [hd] at e
        have e1 : Dg.val [u] = u := by simp [Dg.val]
        rw [e1] at e
        exact ⟨by rw [e], hne⟩)
    obtain ⟨hx, ad, rfl, hb, hc⟩ := h.at_ 0 v (by rw [HVE.out.1]; rfl)
    have e0 : ad.add 0 = ad := by unfold Addr.add; simp
    rw [e0] at hc
    clear e0
    clear hkl hkn
    go_wp2_with fail
    refine (bits_Len32 (v : Int) _ (by omega) (by omega)).mono ?_
    rintro _ _ ⟨rfl, rfl⟩
    have hle : Lib.bitLen v ≤ 32 := Lib.bitLen_le v 32 (by omega) (by omega)
    have HB := Lib.hid (bitLen_one HVE.out.2 (show v < 2 ^ 64 by omega))
    have HB0 := Lib.hid (bitLen_zero (show v < 2 ^ 64 by omega))
    go_wp2
    go_ret
    refine ⟨Lib.bitLen v, ?_, Lib.hid ⟨⟨HB0.out, fun e => absurd e HVE.out.2⟩, HB.out, hle⟩, rfl⟩
    exact ret_i (by simp)

/-- A natural number comes back with error 0. -/
def RetNK (n : Nat) (w : World) (e : Ending) (w' : World) : Prop :=
  ∃ (A : Option Addr) (m c x : Nat), e = .returned (.tuple #[.slice A m c, .int .i64 0]) ∧ OwU w' w.heap.size A m c (Dg.dg x) ∧ Hid (x = n) ∧ Below w.heap.size w w'

set_option maxHeartbeats 1000000 in
theorem nPow_zero {A : Option Addr} {n c v : Nat} {w : World} (h : RdU w w.heap.size A n c (Dg.dg v)) (hv : v < 4294967296) :
    Calls Tryz.prog 297 #[.slice A n c, .int .i64 0] w (RetNK 1 w) := by
  go_enter Tryz.func297, Tryz.ntmps297
  go_wp2_with fail
  refine (len_small h hv).mono ?_
  rintro _ _ ⟨z, rfl, hz, rfl⟩
  go_wp2_with fail
  refine (nOf_any 1 rfl (by omega) w).mono ?_
  rintro _ W2 ⟨A2, m2, c2, x2, rfl, ho, hx, hb⟩
  go_wp2
  go_ret2
  exact ⟨_, _, _, _, rfl, ho, hx, hb⟩

set_option maxRecDepth 100000 in
set_option maxHeartbeats 2000000 in
theorem nPow_one {A : Option Addr} {n c v : Nat} {w : World} (h : RdU w w.heap.size A n c (Dg.dg v)) (hv : v < 4294967296) :
    Calls Tryz.prog 297 #[.slice A n c, .int .i64 1] w (RetNK v w) := by
  have hn1 : n ≤ 1 := by
    rw [← h.len]
    exact Dg.dg_len_lt.2 (by simpa using hv)
  go_enter Tryz.func297, Tryz.ntmps297
  go_wp2_with fail
  refine (len_small h hv).mono ?_
  rintro _ _ ⟨z, rfl, hz, rfl⟩
  by_cases hz1 : z = 1
  · have HV := Lib.hid (hz.out.2.1.1 hz1)
    subst hz1
    go_wp2_with fail
    refine (nOf_any 1 rfl (by omega) w).mono ?_
    rintro _ W2 ⟨A2, m2, c2, x2, rfl, ho, hx, hb⟩
    go_wp2
    go_ret2
    exact ⟨_, _, _, _, rfl, ho, Lib.hid (by rw [hx.out, HV.out]), hb⟩
  · have hzb1 : ((z : Int) == 1) = false := by simp; omega
    by_cases hz0 : z = 0
    · have HV := Lib.hid (hz.out.1.1 hz0)
      subst hz0
      go_wp2
      go_ret2
      exact ⟨none, 0, 0, 0, rfl, by rw [Dg.dg_zero]; exact OwU.nil _ _, Lib.hid HV.out.symm, Below.refl _ _⟩
    · have hzb0 : ((z : Int) == 0) = false := by simp; omega
      have hz32 : z ≤ 32 := hz.out.2.2
      clear hz0 hz1
      go_wp2_with fail
      refine (nOf_any 1 rfl (by omega) w).mono ?_
      rintro _ W2 ⟨A2, m2, c2, x2, rfl, ho2, hx2, hb2⟩
      go_wp2_with fail
      refine (bits_Len 1 W2 (by omega) (by omega)).mono ?_
      rintro _ _ ⟨rfl, rfl⟩
      have hb1 : Lib.bitLen (Int.toNat 1) = 1 := by decide +kernel
      rw [hb1]
      have HD1 := Lib.hid (show (Dg.dg 1).length = 1 by decide +kernel)
      go_wp2_with fail
      go_loopw [7, 8] (fun ov iv wr => ∃ (A : Option Addr) (m c x : Nat) (i : Int), ov = .slice A m c ∧ iv = .int .i64 i ∧ OwU wr w.heap.size A m c (Dg.dg x) ∧ Hid ((i = 0 ∧ x = 1) ∨ (i = -1 ∧ x = v)) ∧ Below w.heap.size w wr) (fun _ iv _ => (intOf iv + 1).toNat)
      case atStart => exact ⟨_, _, _, x2, 0, rfl, rfl, ho2, Lib.hid (.inl ⟨rfl, hx2.out⟩), hb2⟩
      case round =>
        clear ho2 hb2
        obtain ⟨A3, m3, c3, x3, i, rfl, rfl, ho3, hix, hB⟩ := hrel
        rcases hix.out with ⟨rfl, hx1⟩ | ⟨rfl, hx1⟩
        · obtain rfl : m3 = 1 := by rw [← ho3.len, hx1]; exact HD1.out
          have HX3 := Lib.hid hx1
          clear hix hx1
          go_wp2_with fail
          refine (nMul_any ho3.rd ho3.rd (by omega) (by omega)).mono ?_
          rintro _ W4 ⟨A4, m4, c4, x4, rfl, ho4, hx4, hb4⟩
          have HX4 := Lib.hid (show x4 = 1 by rw [hx4.out, Dg.val_dg, HX3.out])
          have hB4 := hB.trans (hb4.mono hB.size)
          obtain rfl : m4 = 1 := by rw [← ho4.len, HX4.out]; exact HD1.out
          go_wp2_with fail
          refine (nMul_any ho4.rd (h.next hB4) (by omega) (by omega)).mono ?_
          rintro _ W5 ⟨A5, m5, c5, x5, rfl, ho5, hx5, hb5⟩
          have HX5 := Lib.hid (show x5 = v by rw [hx5.out, Dg.val_dg, Dg.val_dg, HX4.out, Nat.one_mul])
          have hB5 := hB4.trans (hb5.mono hB4.size)
          go_wp2
          go_roundw
          case rel => exact ⟨_, _, _, x5, -1, rfl, rfl, ho5.base hB4.size, Lib.hid (.inr ⟨rfl, HX5.out⟩), hB5⟩
          case measure => simp [intOf]
        · have HX3 := Lib.hid hx1
          have hm3 : m3 ≤ 1 := by rw [← ho3.len, hx1]; exact Dg.dg_len_lt.2 (by simpa using hv)
          have HV3 := Lib.hid (show x3 < 4294967296 by omega)
          clear hix hx1
          go_wp2_with fail
          refine (len_small ho3.rd HV3.out).mono ?_
          rintro _ _ ⟨z2, rfl, hz2, rfl⟩
          have hz3 : z2 ≤ 32 := hz2.out.2.2
          go_wp2
          go_ret2
          exact ⟨_, _, _, x3, rfl, ho3, HX3, hB⟩

set_option maxRecDepth 100000 in
set_option maxHeartbeats 2000000 in
theorem zPow_any {s : Bool} {A : Option Addr} {n c k : Nat} {z : Int} {b : Nat} {w : World} (h : OwZ w b s A n c z) (hz : z.natAbs < 4294967296) (hk : k = 0 ∨ k = 1) :
    Calls Tryz.prog 286 #[.agg #[.bool s, .slice A n c], .int .i64 (k : Int)] w fun e w' => ∃ (s : Bool) (A : Option Addr) (n c : Nat) (y : Int), e = .returned (.tuple #[.agg #[.bool s, .slice A n c], .int .i64 0]) ∧ OwZ w' w.heap.size s A n c y ∧ Hid (y = z ^ k) ∧ Below w.heap.size w w' := by
  obtain ⟨hX, hR, hB⟩ := boxed1 w s A n c
  obtain ⟨W1, HW1⟩ : ∃ W, W = (w.alloc (.cells #[.bool s, .slice A n c] 28)).alloc (.cells #[.bool false, .slice none 0 0] 28) := ⟨_, rfl⟩
  rw [← HW1] at hX hR hB
  have hrd := (h.own.next hB).rd
  have HS := Lib.hid h.sgn
  have HLT := Lib.hid (show w.heap.size + 1 < W1.heap.size from hR.lt)
  have q1 := hX.c1
  rw [HW1] at q1
  have HX := Lib.hid hX
  have HR := Lib.hid hR
  have HB := Lib.hid hB
  have HW1 := Lib.hid HW1
  clear hX hR hB h
  cases s
  all_goals
    rcases hk with rfl | rfl
    · go_enter Tryz.func286, Tryz.ntmps286
      go_wp2_with fail
      rw [← HW1.out]
      clear HW1 q1
      clear HW1
      refine (nPow_zero hrd hz).mono ?_
      rintro _ W2 ⟨A2, m2, c2, x2, rfl, ho2, hx2, hb2⟩
      have q0 := (HX.out.next hb2).c0
      go_wp2_with fail
      all_goals
        refine (make1_any _ ho2).mono ?_
        rintro _ W3 ⟨s3, rfl, ho3, hb3⟩
        have hb13 := hb2.trans (hb3.mono hb2.size)
        have hR3 := HR.out.next hb13
        have hp := put_int hR3 (HB.out.trans (hb13.mono HB.out.size)) (Nat.le_succ _) ho3 HLT.out
        have HV := Lib.hid hx2.out
        have r0 := hR3.c0
        have r1 := hR3.c1
        have f0 := hR3.fz 0
        have f1 := hR3.fz 1
        clear q0 ho2 hb2 hb3 hb13 ho3
        go_wp2
        generalize (W3.setCell ⟨w.heap.size + 1, 0, none⟩ (.bool s3)).setCell ⟨w.heap.size + 1, 1, none⟩ (.slice A2 m2 c2) = W5 at hp ⊢
        obtain ⟨hZ5, ho5, hB5⟩ := hp
        exact bodyPost_ret (by simp [results, Tryz.results286, go_sem, hZ5.c0, hZ5.c1]) rfl ⟨s3, A2, m2, c2, _, rfl, ho5.base (by have := HLT.out; omega), Lib.hid (by rw [HV.out]; simp [Zz.sg]), hB5⟩
    · go_enter Tryz.func286, Tryz.ntmps286
      go_wp2_with fail
      rw [← HW1.out]
      clear HW1 q1
      clear HW1
      refine (nPow_one hrd hz).mono ?_
      rintro _ W2 ⟨A2, m2, c2, x2, rfl, ho2, hx2, hb2⟩
      have q0 := (HX.out.next hb2).c0
      go_wp2_with fail
      all_goals
        refine (make1_any _ ho2).mono ?_
        rintro _ W3 ⟨s3, rfl, ho3, hb3⟩
        have hb13 := hb2.trans (hb3.mono hb2.size)
        have hR3 := HR.out.next hb13
        have hp := put_int hR3 (HB.out.trans (hb13.mono HB.out.size)) (Nat.le_succ _) ho3 HLT.out
        have HV := Lib.hid hx2.out
        have r0 := hR3.c0
        have r1 := hR3.c1
        have f0 := hR3.fz 0
        have f1 := hR3.fz 1
        clear q0 ho2 hb2 hb3 hb13 ho3
        go_wp2
        generalize (W3.setCell ⟨w.heap.size + 1, 0, none⟩ (.bool s3)).setCell ⟨w.heap.size + 1, 1, none⟩ (.slice A2 m2 c2) = W5 at hp ⊢
        obtain ⟨hZ5, ho5, hB5⟩ := hp
        exact bodyPost_ret (by simp [results, Tryz.results286, go_sem, hZ5.c0, hZ5.c1]) rfl ⟨s3, A2, m2, c2, _, rfl, ho5.base (by have := HLT.out; omega), Lib.hid (by rw [HV.out]; have e := Zz.sg_abs z; rw [← HS.out] at e; rw [e, Int.pow_succ, Int.pow_zero, Int.one_mul]), hB5⟩
end Go.Proofs.YtipbpdiahemmpaaGreat
