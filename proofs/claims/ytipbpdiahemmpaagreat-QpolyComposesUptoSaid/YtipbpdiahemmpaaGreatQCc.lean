/- qpoly.Compose: sizes along Horner's rule. -/
import Derived.Test.YtipbpdiahemmpaaGreatQCb
import Derived.Test.YtipbpdiahemmpaaGreatQ41
namespace Pq
/-- Horner's rule with a polynomial. -/
def horL (b : Nat → Rat) : List Rat → Nat → Rat
  | [], _ => 0
  | x :: L, i => cv (horL b L) b i + (if i = 0 then x else 0)
theorem horL_cons (b : Nat → Rat) (x : Rat) (L : List Rat) (i : Nat) : horL b (x :: L) i = cv (horL b L) b i + (if i = 0 then x else 0) := rfl
theorem horL_up {b : Nat → Rat} {m : Nat} (hb : Up b m) : ∀ L : List Rat, Up (horL b L) (L.length * (m - 1) + 1)
  | [] => fun _ _ => rfl
  | x :: L => fun i hi => by
    have h1 := cv_up (horL_up hb L) hb
    rw [List.length_cons, Nat.succ_mul] at hi
    rw [horL_cons, h1 i (by omega), if_neg (by omega), Rat.add_zero]
theorem drop_co {P : List Rat} {i : Nat} (h : i < P.length) : P.drop i = co P i :: P.drop (i + 1) := by
  rw [List.drop_eq_getElem_cons h]
  congr 1
  have := get_co h
  rw [List.getElem?_eq_getElem h] at this
  injection this
end Pq
namespace Go.Proofs.YtipbpdiahemmpaaGreat
open Go.RowKit Go.IntWalk

theorem com_hor {N T m : Nat} {b : Nat → Rat} {Y : Nat → Int} {E : Int} (h : Com T b Y E) (hm : Pq.Up b m) : ∀ L : List Rat, (∀ x ∈ L, Qs N x) → L.length * (m - 1) + 1 < 4294967295 → ∃ Z D, Com (1 + L.length * (T + N + 3)) (Pq.horL b L) Z D
  | [], _, _ => ⟨_, _, com_zero.mono (by omega)⟩
  | x :: L, hx, hl => by
    rw [List.length_cons, Nat.succ_mul] at hl
    obtain ⟨Z, D, hZ⟩ := com_hor h hm L (fun y hy => hx y (List.mem_cons_of_mem _ hy)) (by omega)
    refine ⟨_, _, ((com_add (com_cv hZ h (n := L.length * (m - 1) + 1) (by omega) (Pq.horL_up hm L)) (com_const (hx x (List.mem_cons_self ..)))).congr fun i => Pq.horL_cons b x L i).mono ?_⟩
    rw [List.length_cons, Nat.succ_mul]
    omega
/-- Too big an answer. -/
def BigC (n m : Nat) : Prop := 1 < n ∧ 1 < m ∧ 1000 / (m - 1) < n - 1
instance (n m : Nat) : Decidable (BigC n m) := by unfold BigC; infer_instance
theorem comp_room {n m r : Nat} (hb : ¬BigC n m) (hr : r + 1 ≤ n) (hn : n ≤ 61) (hm : m ≤ 1048576) : r * (m - 1) + 1 + (if r = 0 then 0 else m) ≤ 1048576 := by
  unfold BigC at hb
  by_cases h0 : r = 0
  · subst h0; simp
  · rw [if_neg h0]
    by_cases h1 : 1 < m
    · have h2 : n - 1 ≤ 1000 / (m - 1) := by
        rcases Nat.lt_or_ge (1000 / (m - 1)) (n - 1) with h | h
        · exact absurd ⟨by omega, h1, h⟩ hb
        · exact h
      have h3 : (n - 1) * (m - 1) ≤ 1000 := by
        have h4 := Nat.div_mul_le_self 1000 (m - 1)
        exact Nat.le_trans (Nat.mul_le_mul_right _ h2) h4
      have h5 : r * (m - 1) ≤ (n - 1) * (m - 1) := Nat.mul_le_mul_right _ (by omega)
      have h6 : 1 * (m - 1) ≤ (n - 1) * (m - 1) := Nat.mul_le_mul_right _ (by omega)
      omega
    · have : m - 1 = 0 := by omega
      rw [this, Nat.mul_zero]
      omega
theorem room_up {r m : Nat} (h : r * (m - 1) + 1 + (if r = 0 then 0 else m) ≤ 1048576) : r * (m - 1) + 1 ≤ 1048576 := by omega
/-- A round's polynomials and their sizes. -/
structure HorR (N T : Nat) (P Q M : List Rat) (i : Nat) : Prop where
  a : ∃ Z D, Com (1 + 61 * (T + N + 3)) (Pq.co M) Z D
  b : ∀ t, Qs (1 + 61 * (T + N + 3)) (Pq.cv (Pq.co M) (Pq.co Q) t)
  len : M.length + Q.length ≤ 1048576
  val : ∀ t, Pq.horL (Pq.co Q) (P.drop i) t = Pq.cv (Pq.co M) (Pq.co Q) t + Pq.co [Pq.co P i] t
theorem HorR.of {N T i : Nat} {P Q M : List Rat} {Y : Nat → Int} {E : Int} (hY : Com T (Pq.co Q) Y E) (hP : ∀ x ∈ P, Qs N x) (hi : i < P.length) (hP61 : P.length ≤ 61) (hQ : Q.length ≤ 1048576) (hb : ¬BigC P.length Q.length) (hM : Pq.IsP (Pq.horL (Pq.co Q) (P.drop (i + 1))) M) : HorR N T P Q M i := by
  have hr := comp_room (r := P.length - (i + 1)) hb (by omega) hP61 hQ
  have hl : (P.drop (i + 1)).length = P.length - (i + 1) := List.length_drop
  have hup := Pq.horL_up (Pq.up_co Q) (P.drop (i + 1))
  obtain ⟨Z, D, hZ⟩ := com_hor hY (Pq.up_co Q) (P.drop (i + 1)) (fun x hx => hP x (List.mem_of_mem_drop hx)) (by rw [hl]; have := room_up hr; omega)
  have hk : (P.drop (i + 1)).length * (T + N + 3) ≤ 60 * (T + N + 3) := Nat.mul_le_mul_right _ (by omega)
  have hZM := hZ.congr fun t => hM.2 t
  refine ⟨⟨Z, D, hZM.mono (by omega)⟩, fun t => ((com_cv hZM hY (n := M.length) ?_ (Pq.up_co M)).mono (by omega)).qs t, ?_, fun t => ?_⟩
  · have h1 := hM.len (k := _) hup
    rw [hl] at h1
    have := room_up hr
    omega
  · have h1 := hM.len (k := _) hup
    rw [hl] at h1
    by_cases h0 : P.length - (i + 1) = 0
    · have h2 : P.drop (i + 1) = [] := List.eq_nil_of_length_eq_zero (by rw [hl]; exact h0)
      rw [h2] at hM
      have h3 := hM.len (k := 0) (fun _ _ => rfl)
      omega
    · rw [if_neg h0] at hr
      omega
  · rw [Pq.drop_co hi, Pq.horL_cons]
    have e1 : (if t = 0 then Pq.co P i else 0) = Pq.co [Pq.co P i] t := by
      by_cases h0 : t = 0
      · subst h0; rfl
      · rw [if_neg h0, Pq.co_ge (by simp; omega)]
    rw [e1]
    congr 1
    exact Pq.cv_congr (fun j _ => (hM.2 j).symm) (fun _ _ => rfl)
end Go.Proofs.YtipbpdiahemmpaaGreat

/- qpoly.Compose, from within. -/
namespace Go.Proofs.YtipbpdiahemmpaaGreat
open Go.RowKit Go.IntWalk
attribute [local go_sem ↓] Go.wp_at_zero Go.wp_at_succ

/-- One fraction in a new row, as a polynomial of the call's own. -/
theorem OwQ.row1 {w : World} {b : Nat} {s s' : Bool} {A A' : Option Addr} {n c n' c' : Nat} {x : Rat} (h : OwQ w b s A n c s' A' n' c' x) (hb : b ≤ w.heap.size) : OwQp (w.alloc (.cells #[.bool s, .slice A n c, .bool s', .slice A' n' c'] 56)) b (some ⟨w.heap.size, 0, none⟩) 1 1 [x] := by
  have h2 := h.next ((Below.refl w.heap.size w).alloc (Nat.le_refl _) (.cells #[.bool s, .slice A n c, .bool s', .slice A' n' c'] 56))
  refine ⟨[((s, A, n, c), (s', A', n', c'))], rfl, ⟨rfl, fun j e y he hy => ?_⟩, Nat.le_refl _, by unfold maxLen; omega, .inr ⟨w.heap.size, _, rfl, hb, heap_alloc_new w _, fun i v hv => by simpa [qcs, qc] using hv⟩⟩
  match j, he, hy with
  | 0, he, hy =>
    simp at he hy
    subst he hy
    exact h2
  | j + 1, he, hy => simp at he

set_option maxRecDepth 100000 in
set_option maxHeartbeats 8000000 in
theorem qCompIn_any {b N T c : Nat} {A : Option Addr} {P Q : List Rat} {w : World} {Y : Nat → Int} {E : Int} (h : OwPs w b A 2 c [P, Q]) (hw : b ≤ w.heap.size) (hP : ∀ x ∈ P, Qs N x) (hQ : Com T (Pq.co Q) Y E) (hp : P.length ≤ 1048576) (hq : Q.length ≤ 1048576) (hd : BigC P.length Q.length ∨ (P.length ≤ 61 ∧ 1 + 61 * (T + N + 3) ≤ 100000000000)) :
    Calls Tryz.prog 158 #[.slice A 2 c] w (RetPqE w.heap.size (fun M kk => (BigC P.length Q.length ∧ M = [] ∧ kk = 4) ∨ (¬BigC P.length Q.length ∧ Pq.IsP (Pq.horL (Pq.co Q) P) M ∧ kk = 0)) w) := by
  obtain ⟨g, A1, n1, c1, L1, rfl, hbk, hx, ho1, hL1⟩ := opl_at h (show 0 < 2 by decide)
  obtain ⟨g', A2, n2, c2, L2, e, _, hy, ho2, hL2⟩ := opl_at h (show 1 < 2 by decide)
  injection e with e
  injection e with e
  subst e
  obtain rfl : P = L1 := by simpa using hL1.out
  obtain rfl : Q = L2 := by simpa using hL2.out
  have hl1 : P.length = n1 := ho1.len
  have hl2 : Q.length = n2 := ho2.len
  have hn1 : n1 ≤ 1048576 := by omega
  have hn2 : n2 ≤ 1048576 := by omega
  have HLL := Lib.hid (And.intro hl1 hl2)
  have HDD := Lib.hid hd
  have HCQ := Lib.hid hQ
  have HPS := Lib.hid hP
  have HCX := Lib.hid (show ∀ W, Below w.heap.size w W → W.cell? ⟨g, 0, none⟩ = some (.slice A1 n1 c1) ∧ W.cell? ⟨g, 1, none⟩ = some (.slice A2 n2 c2) from fun W hb => ⟨(hb.cell (p := ⟨g, 0, none⟩) hbk).trans hx, (hb.cell (p := ⟨g, 1, none⟩) hbk).trans hy⟩)
  have HOX := Lib.hid (show ∀ W, Below w.heap.size w W → OwQp W b A1 n1 c1 P ∧ OwQp W b A2 n2 c2 Q from fun W hb => ⟨ho1.next hb, ho2.next hb⟩)
  have HBD := Lib.hid (Below.refl w.heap.size w).drew
  clear h hL1 hL2 ho1 ho2 hP hQ hd hp hq hl1 hl2
  go_enter Tryz.func158, Tryz.ntmps158
  have hm1 : IntKind.i64.wrap ((n1 : Int) - 1) = (n1 : Int) - 1 := by rw [IntWalk.i64_in _ (by omega)]
  have hm2 : IntKind.i64.wrap ((n2 : Int) - 1) = (n2 : Int) - 1 := by rw [IntWalk.i64_in _ (by omega)]
  go_upto_region 1 with fail
  go_cut [4, 5] from 8 to 17 (fun mv nv V => mv = .int .i64 ((n1 : Int) - 1) ∧ nv = .int .i64 ((n2 : Int) - 1) ∧ V = w.drew)
  case first =>
    go_region_held3 (fun w' => w'.cell? ⟨g, 0, none⟩ = some (.slice A1 n1 c1) ∧ w'.cell? ⟨g, 1, none⟩ = some (.slice A2 n2 c2))
      (exact HCX.out _ HBD.out)
      (fail)
    all_goals (go_wp2_with fail; go_meet; exact ⟨rfl, rfl, rfl⟩)
  case rest =>
    obtain ⟨rfl, rfl, rfl⟩ := hcut
    go_upto_region 2 with fail
    go_cut [29] from 18 to 29 (fun cv V => cv = .bool (decide (BigC n1 n2)) ∧ V = w.drew)
    case first =>
      by_cases ha : 1 < n1
      · by_cases hb : 1 < n2
        · obtain ⟨k, hk⟩ : ∃ k : Nat, n2 = k + 1 := ⟨n2 - 1, by omega⟩
          have hk0 : 0 < k := by omega
          have hki : (0 : Int) < (n2 : Int) - 1 := by omega
          have hkn : ¬(n2 : Int) - 1 = 0 := by omega
          have hai : (0 : Int) < (n1 : Int) - 1 := by omega
          have hq0 : (0 : Int) ≤ ((1000 / k : Nat) : Int) := Int.natCast_nonneg _
          have hq1 : ((1000 / k : Nat) : Int) ≤ 1000 := Int.ofNat_le.2 (Nat.div_le_self _ _)
          have hqw := Lib.hid (show decide (1000 / ((n2 : Int) - 1) < (n1 : Int) - 1) = decide (BigC n1 n2) from by
            have e0 : (n2 : Int) - 1 = (k : Int) := by omega
            have e1 : (1000 : Int) / (k : Int) = ((1000 / k : Nat) : Int) := (Int.natCast_ediv 1000 k).symm
            have e3 : n2 - 1 = k := by omega
            rw [e0, e1]
            by_cases hz : 1000 / k < n1 - 1
            · rw [decide_eq_true (show BigC n1 n2 from ⟨ha, hb, by rw [e3]; exact hz⟩), decide_eq_true (by omega)]
            · rw [decide_eq_false (show ¬BigC n1 n2 from fun e => hz (by have := e.2.2; rwa [e3] at this)), decide_eq_false (by omega)])
          clear hq0 hq1 hk
          go_wp2_with fail
          go_meet
          exact ⟨by rw [hqw.out], rfl⟩
        · have hbi : ¬(0 : Int) < (n2 : Int) - 1 := by omega
          have hai : (0 : Int) < (n1 : Int) - 1 := by omega
          have hbd : decide ((0 : Int) < (n2 : Int) - 1) = false := by simp only [decide_eq_false_iff_not]; exact hbi
          have hG := Lib.hid (show decide (BigC n1 n2) = false from decide_eq_false fun e => hb e.2.1)
          go_wp2_with fail
          go_meet
          exact ⟨by rw [hG.out], rfl⟩
      · have hai : ¬(0 : Int) < (n1 : Int) - 1 := by omega
        have had : decide ((0 : Int) < (n1 : Int) - 1) = false := by simp only [decide_eq_false_iff_not]; exact hai
        have hG := Lib.hid (show decide (BigC n1 n2) = false from decide_eq_false fun e => ha e.1)
        go_wp2_with fail
        go_meet
        exact ⟨by rw [hG.out], rfl⟩
    case rest =>
      obtain ⟨rfl, rfl⟩ := hcut
      by_cases hbig : BigC n1 n2
      · have hbg : decide (BigC n1 n2) = true := decide_eq_true hbig
        have HG := Lib.hid (show BigC P.length Q.length by rw [HLL.out.1, HLL.out.2]; exact hbig)
        rw [hbg]
        clear hbg hbig
        go_wp2_with fail
        go_ret2
        exact ⟨none, 0, 0, [], 4, rfl, OwQp.nil _ _ _, Lib.hid (.inl ⟨HG.out, rfl, rfl⟩), HBD.out⟩
      · have hbg : decide (BigC n1 n2) = false := decide_eq_false hbig
        have HG := Lib.hid (show ¬BigC P.length Q.length by rw [HLL.out.1, HLL.out.2]; exact hbig)
        have HSZ := Lib.hid (show P.length ≤ 61 ∧ 1 + 61 * (T + N + 3) ≤ 100000000000 from HDD.out.elim (fun e => absurd e HG.out) id)
        have HQL := Lib.hid (show Q.length ≤ 1048576 by rw [HLL.out.2]; exact hn2)
        have HRD := Lib.hid (show ∀ W, Below w.heap.size w W → RdQs W W.heap.size (1 + 61 * (T + N + 3)) A2 n2 c2 (Q.map pr) from fun W hb => (HOX.out W hb).2.rd (fun x hx => by
          obtain ⟨i, _, rfl⟩ := Pq.mem_co hx
          exact ((HCQ.out.mono (by omega)).qs i)))
        clear HDD hbig
        rw [hbg]
        clear hbg
        go_wp2_with fail
        go_loopw [6, 7] (fun ov iv wr => ∃ (k : Nat) (A0 : Option Addr) (k0 c0 : Nat) (M : List Rat), ov = .slice A0 k0 c0 ∧ iv = .int .i64 ((k : Int) - 1) ∧ k ≤ n1 ∧ OwQp wr w.heap.size A0 k0 c0 M ∧ Hid (Pq.IsP (Pq.horL (Pq.co Q) (P.drop k)) M) ∧ Below w.heap.size w wr) (fun _ iv _ => (intOf iv + 1).toNat)
        case atStart => exact ⟨n1, none, 0, 0, [], rfl, rfl, Nat.le_refl _, OwQp.nil _ _ _, Lib.hid (by rw [List.drop_eq_nil_of_le (by rw [HLL.out.1]; exact Nat.le_refl _)]; exact ⟨Pq.nz_nil, fun i => Pq.co_nil i⟩), HBD.out⟩
        case round =>
          obtain ⟨k, A0, k0, c0, M, rfl, rfl, hk, ho, hM, hB⟩ := hrel
          by_cases hk0 : k = 0
          · subst hk0
            have HF := Lib.hid (And.intro ho hB)
            clear ho hB
            go_wp2_with fail
            go_ret2
            exact ⟨_, _, _, M, 0, rfl, HF.out.1.base (HBD.out.size), Lib.hid (.inr ⟨HG.out, by simpa using hM.out, rfl⟩), HF.out.2⟩
          · obtain ⟨i, rfl⟩ : ∃ i, k = i + 1 := ⟨k - 1, by omega⟩
            clear hk0
            have hii : ((i + 1 : Nat) : Int) - 1 = (i : Int) := by omega
            have hil : i < n1 := by omega
            rw [hii]
            have hili : (i : Int) < (n1 : Int) := by omega
            obtain ⟨ad, s7, A7, n7, c7, s8, A8, n8, c8, x, rfl, hbk7, hz0, hz1, hz2, hz3, hox, hpx⟩ := op_at (HOX.out wr hB).1 hil
            have HH := Lib.hid (HorR.of HCQ.out HPS.out (by rw [HLL.out.1]; exact hil) HSZ.out.1 HQL.out HG.out hM.out)
            have HXV := Lib.hid (show Pq.co P i = x from Pq.co_get hpx.out)
            have HXS := Lib.hid (show Qs N x from HPS.out x (List.mem_of_getElem? hpx.out))
            obtain ⟨Z, D, hZ⟩ := HH.out.a
            have HZC := Lib.hid hZ
            have hnn : k0 + n2 ≤ 1048576 := by have h1 := HH.out.len; rw [ho.len, HLL.out.2] at h1; exact h1
            have hsz := HSZ.out.2
            have HML := Lib.hid (show M.length = k0 from ho.len)
            have hbw : b ≤ wr.heap.size := Nat.le_trans hw hB.size
            have HCZ := Lib.hid (show ∀ W : World, Below wr.heap.size wr W → W.cell? ⟨g, 0, none⟩ = some (.slice (some ad) n1 c1) ∧ W.cell? ⟨g, 1, none⟩ = some (.slice A2 n2 c2) ∧ W.cell? (ad.add (i * 4)) = some (.bool s7) ∧ W.cell? ⟨(ad.add (i * 4)).block, (ad.add (i * 4)).off + 1, none⟩ = some (.slice A7 n7 c7) ∧ W.cell? ⟨(ad.add (i * 4)).block, (ad.add (i * 4)).off + 2, none⟩ = some (.bool s8) ∧ W.cell? ⟨(ad.add (i * 4)).block, (ad.add (i * 4)).off + 3, none⟩ = some (.slice A8 n8 c8) from fun W hb => ⟨(HCX.out W (hB.trans (hb.mono hB.size))).1, (HCX.out W (hB.trans (hb.mono hB.size))).2, qs_cells hb hbk7 hz0 hz1 hz2 hz3⟩)
            have HOW := Lib.hid (show ∀ W : World, Below wr.heap.size wr W → OwQ W b s7 A7 n7 c7 s8 A8 n8 c8 x ∧ RdQs W W.heap.size (1 + 61 * (T + N + 3)) A2 n2 c2 (Q.map pr) ∧ RdQs W W.heap.size (1 + 61 * (T + N + 3)) A0 k0 c0 (M.map pr) from fun W hb => ⟨hox.next hb, HRD.out W (hB.trans (hb.mono hB.size)), (ho.next hb).rd (fun y hy => by
              obtain ⟨t, _, rfl⟩ := Pq.mem_co hy
              exact hZ.qs t)⟩)
            have HWB := Lib.hid hB
            have HB0 := Lib.hid (Below.refl wr.heap.size wr).drew
            have HMV := Lib.hid (show ∀ t, Pq.horL (Pq.co Q) (P.drop i) t = Pq.cv (Pq.co M) (Pq.co Q) t + Pq.co [x] t from fun t => by rw [HH.out.val, HXV.out])
            clear hZ ho hox hB hz0 hz1 hz2 hz3 hpx hM hx hy
            go_upto_region 8 with fail
            obtain ⟨la0, la1, la2, la3, la4, la5⟩ := HCZ.out wr (Below.refl _ _)
            go_region_held3 (fun w' => w'.cell? ⟨g, 0, none⟩ = some (.slice (some ad) n1 c1) ∧ w'.cell? ⟨g, 1, none⟩ = some (.slice A2 n2 c2) ∧ w'.cell? (ad.add (i * 4)) = some (.bool s7) ∧ w'.cell? ⟨(ad.add (i * 4)).block, (ad.add (i * 4)).off + 1, none⟩ = some (.slice A7 n7 c7) ∧ w'.cell? ⟨(ad.add (i * 4)).block, (ad.add (i * 4)).off + 2, none⟩ = some (.bool s8) ∧ w'.cell? ⟨(ad.add (i * 4)).block, (ad.add (i * 4)).off + 3, none⟩ = some (.slice A8 n8 c8))
              ((refine HCZ.out _ ?_; repeat (with_reducible first | exact HB8.out | exact HB7.out | exact HB6.out | exact HB0.out | exact Below.refl _ _ | refine Below.drew ?_ | refine Below.alloc ?_ (by first | exact HB8.out.size | exact HB7.out.size | exact HB6.out.size | exact HB0.out.size | omega | (simp; done)) _)))
              (first
                | (have hx := HB7.out; clear hx; go_at_call 133; refine (qadd_poly (N := 1 + 61 * (T + N + 3)) (HO6.out.rd HQ6.out) (ho7.rd HQ7.out) HN6.out HN7.out (by omega) (by omega)).mono ?_; rintro _ W8 ⟨A9, n9, c9, M9, rfl, ho9, hM9, hb9⟩; have HB8 := Lib.hid (HB7.out.trans (hb9.mono HB7.out.size)))
                | (have hx := HB6.out; clear hx; go_at_call 118; refine (qtrim_any (b := b) (N := N) (L := [x]) ?oo (fun y hy => by rw [List.mem_singleton.1 hy]; exact HXS.out) (by decide) (by omega)).mono ?_; (case oo => first | exact HO1.out | exact (HOW.out _ HB6.out).1.row1 (Nat.le_trans hbw HB6.out.size)); rintro _ W7 ⟨A7', n7', c7', M7, rfl, ho7, hM7, hb7⟩; have HB7 : Hid (Below wr.heap.size wr W7) := Lib.hid (by first | exact HB6.out.trans (hb7.mono HB6.out.size) | exact (HB6.out.alloc HB6.out.size _).trans (hb7.mono (HB6.out.alloc HB6.out.size _).size)); have HO6 : Hid (OwQp W7 _ A6 n6 c6 M6) := Lib.hid (by first | exact ho6.next hb7 | exact (ho6.next ((Below.refl W6.heap.size W6).alloc (Nat.le_refl _) _)).next hb7); have HQ7 := Lib.hid (show ∀ y ∈ M7, Qs (1 + 61 * (T + N + 3)) y from fun y hy => by { obtain ⟨t, _, rfl⟩ := Pq.mem_co hy; rw [hM7.out.2]; by_cases h0 : t = 0; (subst h0; exact HXS.out.mono (by omega)); rw [Pq.co_ge (by simp; omega)]; exact Qs.zero (by omega) }); have HN7 := Lib.hid (show n7' ≤ 1048576 by { rw [← ho7.len]; exact Nat.le_trans (hM7.out.len (k := 1) fun t ht => Pq.co_ge (by simpa using ht)) (by decide) }))
                | (go_at_call 150; refine (qmul_poly (N := 1 + 61 * (T + N + 3)) (S := 1 + 61 * (T + N + 3)) (T := T) (HOW.out _ ?b1).2.2 (HOW.out _ ?b2).2.1 HZC.out HCQ.out hnn (by omega) (by omega) (by omega)).mono ?_; (case b1 => first | exact HB0.out | exact HB0.out.alloc HB0.out.size _); (case b2 => first | exact HB0.out | exact HB0.out.alloc HB0.out.size _); rintro _ W6 ⟨A6, n6, c6, M6, rfl, ho6, hM6, hb6⟩; have HB6 : Hid (Below wr.heap.size wr W6) := Lib.hid (by first | exact hb6 | exact HB0.out.trans hb6 | exact (HB0.out.alloc HB0.out.size _).trans (hb6.mono (HB0.out.alloc HB0.out.size _).size)); (first | have HO1 : Hid (OwQp W6 b (some ⟨wr.heap.size, 0, none⟩) 1 1 [x]) := Lib.hid (((HOW.out wr (Below.refl _ _)).1.row1 hbw).next hb6) | have HO1 : Hid (OwQp W6 b (some ⟨wr.heap.size, 0, none⟩) 1 1 [x]) := Lib.hid (((HOW.out wr.drew HB0.out).1.row1 hbw).next hb6) | skip); have HQ6 := Lib.hid (show ∀ y ∈ M6, Qs (1 + 61 * (T + N + 3)) y from fun y hy => by { obtain ⟨t, _, rfl⟩ := Pq.mem_co hy; rw [hM6.out.2]; exact HH.out.b t }); have HN6 := Lib.hid (show n6 ≤ 1048576 by { rw [← ho6.len]; exact Nat.le_trans (hM6.out.len (Pq.cv_up (Pq.up_co M) (Pq.up_co Q))) (by have := HH.out.len; omega) })))
            all_goals
              have HF := Lib.hid (show OwQp W8 w.heap.size A9 n9 c9 M9 ∧ Pq.IsP (Pq.horL (Pq.co Q) (P.drop i)) M9 ∧ Below w.heap.size w W8 from ⟨ho9.base (Nat.le_trans HWB.out.size HB7.out.size), hM9.out.congr fun t => by rw [HMV.out, hM6.out.2, hM7.out.2], HWB.out.trans (HB8.out.mono HWB.out.size)⟩)
              clear la0 la1 la2 la3 la4 la5 ho6 ho7 ho9 hb6 hb7 hb9 hM6 hM7 hM9
              go_wp2
              go_roundw
              case rel => exact ⟨i, A9, n9, c9, M9, rfl, by go_num, by omega, HF.out.1, Lib.hid HF.out.2.1, HF.out.2.2⟩
              case measure => simp [intOf]
end Go.Proofs.YtipbpdiahemmpaaGreat

/- qpoly.Compose, as exported. -/
namespace Go.Proofs.YtipbpdiahemmpaaGreat
open Go.RowKit Go.IntWalk
attribute [local go_sem ↓] Go.wp_at_zero Go.wp_at_succ

/-- What Compose answers: too big, or Horner's polynomial. -/
abbrev CompV (P Q : List Rat) (M : List Rat) (kk : Int) : Prop := (BigC P.length Q.length ∧ M = [] ∧ kk = 4) ∨ (¬BigC P.length Q.length ∧ Pq.IsP (Pq.horL (Pq.co Q) P) M ∧ kk = 0)
/-- What Compose answers, or error 6. -/
def RetCo6 (ok : Prop) (P Q : List Rat) (w : World) (e : Ending) (w' : World) : Prop :=
  ∃ (A : Option Addr) (n c : Nat) (M : List Rat) (kk : Int), e = .returned (.tuple #[.slice A n c, .int .i64 kk]) ∧ OwQp w' w.heap.size A n c M ∧ Hid ((ok ∧ CompV P Q M kk) ∨ (¬ok ∧ M = [] ∧ kk = 6)) ∧ Below w.heap.size w w'
theorem nq_com {L : List (Int × Int)} (hd : okD L) : ∃ Z D, Com (1 + qsz L) (Pq.co (nq L)) Z D := by
  obtain ⟨Z, D, hZ⟩ := com_list L hd
  exact ⟨Z, D, hZ.congr fun i => co_nq L i⟩

set_option maxRecDepth 100000 in
set_option maxHeartbeats 4000000 in
theorem qCompose_gen {N T : Nat} {A A' : Option Addr} {n c n' c' : Nat} {L L' : List (Int × Int)} {w : World} (h : RdQs w w.heap.size N A n c L) (h' : RdQs w w.heap.size N A' n' c' L') (hn : n ≤ 1048576) (hn' : n' ≤ 1048576) (h1N : 1 ≤ N) (hN0 : N ≤ 1000000000000) (hT : okD L ∧ okD L' → 1 + qsz L' ≤ T ∧ 1 + 61 * (T + N + 3) ≤ 100000000000) (hS : okD L ∧ okD L' → BigC (nq L).length (nq L').length ∨ (nq L).length ≤ 61) :
    Calls Tryz.prog 65 #[.slice A n c, .slice A' n' c'] w (RetCo6 (okD L ∧ okD L') (nq L) (nq L') w) := by
  have HEG := Lib.hid (enters_of Tryz.func158 (by kernel_rfl) rfl)
  have HH := Lib.hid (And.intro h h')
  have HSS := Lib.hid hS
  obtain ⟨W2, HW2⟩ : ∃ W, W = w.alloc (.cells #[.slice A n c, .slice A' n' c'] 38) := ⟨_, rfl⟩
  have hps := Lib.hid (ps_two (K := 1048576) h h' hn hn' HW2)
  have HB2 := Lib.hid (show Below w.heap.size w W2 by rw [HW2]; exact (Below.refl _ _).alloc (Nat.le_refl _) _)
  have HW2 := Lib.hid HW2
  clear h h' hS
  go_enter Tryz.func65, Tryz.ntmps65
  go_wp2_with fail
  rw [← HW2.out]
  clear HW2
  clear HW2
  refine (norms_poly (f := 158) (Φ := CompV (nq L) (nq L')) hps.out (by decide) (by decide) hN0 h1N HEG.out (fun hall W A' c' hb ho => by
    obtain ⟨Y, E, hY⟩ := nq_com (hall L' (by simp))
    have hok : okD L ∧ okD L' := ⟨hall L (by simp), hall L' (by simp)⟩
    exact (qCompIn_any (N := N) (P := nq L) (Q := nq L') ho hb.size (nq_qs HH.out.1 (hall L (by simp)) h1N) (hY.mono (hT hok).1) (Nat.le_trans (nq_len L) (by rw [HH.out.1.len]; exact hn)) (Nat.le_trans (nq_len L') (by rw [HH.out.2.len]; exact hn')) ((HSS.out hok).imp id fun e => ⟨e, (hT hok).2⟩)).mono fun e w' ⟨A2, n2, c2, M2, kk, h1, h2, h3, h4⟩ => ⟨A2, n2, c2, M2, kk, h1, h2.base hb.size, h3, h4⟩)).mono ?_
  intro e W3 hpost
  have hq : ∃ (A : Option Addr) (n c : Nat) (M : List Rat) (kk : Int), e = .returned (.tuple #[.slice A n c, .int .i64 kk]) ∧ OwQp W3 w.heap.size A n c M ∧ Hid (((okD L ∧ okD L') ∧ CompV (nq L) (nq L') M kk) ∨ (¬(okD L ∧ okD L') ∧ M = [] ∧ kk = 6)) ∧ Below w.heap.size w W3 := by
    rcases hpost with ⟨hall, A2, n2, c2, M2, kk, h1, h2, h3, h4⟩ | ⟨⟨L0, hL0, p, hp, hp0⟩, h1, h2⟩
    · exact ⟨A2, n2, c2, M2, kk, h1, h2.base HB2.out.size, Lib.hid (.inl ⟨⟨hall L (by simp), hall L' (by simp)⟩, h3.out⟩), HB2.out.trans (h4.mono HB2.out.size)⟩
    · refine ⟨none, 0, 0, [], 6, h1, OwQp.nil _ _ _, Lib.hid (.inr ⟨fun ⟨e1, e2⟩ => ?_, rfl, rfl⟩), HB2.out.trans (h2.mono HB2.out.size)⟩
      rcases List.mem_cons.1 hL0 with rfl | h3
      · exact e1 p hp hp0
      · obtain rfl := List.mem_singleton.1 h3
        exact e2 p hp hp0
  obtain ⟨A2, n2, c2, M2, kk, rfl, ho2, hM2, hb2⟩ := hq
  have HB3 := Lib.hid hb2
  clear hpost hb2
  go_wp2
  go_ret2
  exact ⟨_, _, _, M2, kk, rfl, ho2, hM2, HB3.out⟩
theorem qCompose_any {N T : Nat} {A A' : Option Addr} {n c n' c' : Nat} {L L' : List (Int × Int)} {w : World} (h : RdQs w w.heap.size N A n c L) (h' : RdQs w w.heap.size N A' n' c' L') (hn : n ≤ 1048576) (hn' : n' ≤ 1048576) (h1N : 1 ≤ N) (hT : 1 + qsz L' ≤ T) (hN : 1 + 61 * (T + N + 3) ≤ 100000000000) (hS : BigC (nq L).length (nq L').length ∨ (nq L).length ≤ 61) :
    Calls Tryz.prog 65 #[.slice A n c, .slice A' n' c'] w (RetCo6 (okD L ∧ okD L') (nq L) (nq L') w) :=
  qCompose_gen h h' hn hn' h1N (by omega) (fun _ => ⟨hT, hN⟩) fun _ => hS
theorem qCompose_bad {A A' : Option Addr} {n c n' c' : Nat} {L L' : List (Int × Int)} {w : World} (h : RdQs w w.heap.size 1048576 A n c L) (h' : RdQs w w.heap.size 1048576 A' n' c' L') (hn : n ≤ 1048576) (hn' : n' ≤ 1048576) (hno : ¬(okD L ∧ okD L')) :
    Calls Tryz.prog 65 #[.slice A n c, .slice A' n' c'] w (RetCo6 (okD L ∧ okD L') (nq L) (nq L') w) :=
  qCompose_gen (T := 0) h h' hn hn' (by decide) (by decide) (fun e => absurd e hno) fun e => absurd e hno
end Go.Proofs.YtipbpdiahemmpaaGreat
