/- zpoly: a division that leaves nothing. -/
import Derived.Test.YtipbpdiahemmpaaQq
import Derived.Test.YtipbpdiahemmpaaQm
import Derived.Test.YtipbpdiahemmpaaQp
import Derived.Deep.RegionHeld3
namespace Go.Proofs.Ytipbpdiahemmpaa
open Go.RowKit Go.IntWalk
attribute [local go_sem ↓] Go.wp_at_zero Go.wp_at_succ

theorem keep_set2 {w : World} {g : Nat} {s : Bool} {A : Option Addr} {n c : Nat} (h : ZC w g s A n c) (x y : Value) : KeepT w ((w.setCell ⟨g, 0, none⟩ x).setCell ⟨g, 1, none⟩ y) := fun i cs f e => by
  have hne : i ≠ g := by
    rintro rfl
    unfold ZC at h
    rw [h] at e
    simp at e
  exact ((Below.heap_setCell _ (⟨g, 1, none⟩ : Addr) y i hne).trans (Below.heap_setCell _ (⟨g, 0, none⟩ : Addr) x i hne)).trans e
/-- The quotient comes back, or error 30: there is none. -/
def RetEx (N : Nat) (a b : Nat → Int) (w : World) (e : Ending) (w' : World) : Prop :=
  ∃ (A : Option Addr) (n c : Nat) (Q : List Int) (kk : Int), e = .returned (.tuple #[.slice A n c, .int .i64 kk]) ∧ OwZs w' w.heap.size A n c Q ∧ Hid ((kk = 0 ∧ Pz.Nz Q ∧ (∀ t, a t = Pz.cv (Pz.co Q) b t) ∧ ∀ i, Zz.zl (Pz.co Q i) ≤ N) ∨ (kk = 30 ∧ n = 0 ∧ ¬ Pz.Dvs b a)) ∧ Below w.heap.size w w'

set_option maxHeartbeats 1000000 in
theorem zexact_zero {N N' : Nat} {A A' : Option Addr} {n c n' c' : Nat} {L L' : List Int} {w : World} (h : RdZs w w.heap.size N A n c L) (h' : RdZs w w.heap.size N' A' n' c' L') (hM2 : Pz.IsP (Pz.co L') []) (hn : n ≤ 1048576) (hn' : n' ≤ 1048576) (hN : N ≤ 4398046511103) (hN' : N' ≤ 4398046511103) :
    Calls Try.prog 6 #[.slice A n c, .slice A' n' c'] w fun e w' => e = .returned (.tuple #[.slice none 0 0, .int .i64 5]) ∧ Below w.heap.size w w' := by
  have HM2 := Lib.hid hM2
  go_enter Try.func6, Try.ntmps6
  go_wp2_with fail
  refine (znorm_any h (by omega) (by omega)).mono ?_
  rintro _ W1 ⟨A1, m1, c1, K1, rfl, ho1, hK1, hb1⟩
  go_wp2_with fail
  refine (znorm_any (h'.next hb1) (by omega) (by omega)).mono ?_
  rintro _ W2 ⟨A2, m2, c2, K2, rfl, ho2, hK2, hb2⟩
  have e2 := hK2.out.unique HM2.out
  obtain rfl : m2 = 0 := by rw [← ho2.len, e2]; rfl
  have HB := Lib.hid (hb1.trans (hb2.mono hb1.size))
  clear hb1 hb2 ho1 ho2 e2
  go_wp2
  go_ret2
  exact ⟨rfl, HB.out⟩

set_option maxRecDepth 100000 in
set_option maxHeartbeats 8000000 in
theorem zexact_any {N N' : Nat} {A A' : Option Addr} {n c n' c' : Nat} {L L' M1 M2 : List Int} {w : World} (h : RdZs w w.heap.size N A n c L) (h' : RdZs w w.heap.size N' A' n' c' L') (hM1 : Pz.IsP (Pz.co L) M1) (hM2 : Pz.IsP (Pz.co L') M2) {m : Nat} (hm : M2.length = m + 1) (hn : n ≤ 1048576) (hn' : n' ≤ 1048576) (hN : N + (n + 1) * (N' + 1) ≤ 1000000000000) :
    Calls Try.prog 6 #[.slice A n c, .slice A' n' c'] w (RetEx (N + (n + 1) * (N' + 1)) (Pz.co L) (Pz.co L') w) := by
  have HC := Lib.hid (And.intro (zl_co h) (zl_co h'))
  have HLN := Lib.hid (And.intro h.len h'.len)
  have HM1 := Lib.hid hM1
  have HM2 := Lib.hid hM2
  have HBD := Lib.hid (show ∀ j, j ≤ n + 1 → N + j * (N' + 1) ≤ N + (n + 1) * (N' + 1) from fun j hj => Nat.add_le_add_left (Nat.mul_le_mul_right _ hj) _)
  have hNN : N' ≤ 1000000000000 ∧ N ≤ 1000000000000 := by
    have := HBD.out 1 (by omega)
    omega
  obtain ⟨hN'b, hNb⟩ := hNN
  have HNN := Lib.hid hN
  clear hN hM1 hM2
  go_enter Try.func6, Try.ntmps6
  go_wp2_with fail
  refine (znorm_any h (by omega) (by omega)).mono ?_
  rintro _ W1 ⟨A1, m1, c1, K1, rfl, ho1, hK1, hb1⟩
  go_wp2_with fail
  refine (znorm_any (h'.next hb1) (by omega) (by omega)).mono ?_
  rintro _ W2 ⟨A2, m2, c2, K2, rfl, ho2, hK2, hb2⟩
  obtain rfl := hK1.out.unique HM1.out
  obtain rfl := hK2.out.unique HM2.out
  have hl1 := ho1.len
  have hl2 := ho2.len
  have hm1n : m1 ≤ n := by rw [← hl1]; exact HM1.out.len fun i hi => Pz.co_ge (by rw [HLN.out.1]; exact hi)
  have hm2n : m2 ≤ n' := by rw [← hl2]; exact HM2.out.len fun i hi => Pz.co_ge (by rw [HLN.out.2]; exact hi)
  have hm2 : m2 = m + 1 := by omega
  have HB := Lib.hid (hb1.trans (hb2.mono hb1.size))
  have ho1 := ho1.next hb2
  have hmb : ((m2 : Int) == 0) = false := by simp; omega
  have HL1 := Lib.hid hl1
  have HL2 := Lib.hid hl2
  have hmi : (m2 : Int) - 1 = (m : Int) := by omega
  have hmlt : (m : Int) < (m2 : Int) := by omega
  have hr2 := rd_of (N := N') ho2 HM2.out HC.out.2
  obtain ⟨ad, s3, A3, n3, c3, l, rfl, hbk, hx0, hx1, hrl, hn3, hl⟩ := zs_at hr2 (show m < m2 by omega)
  have HLV := Lib.hid (show l = Pz.co L' m by rw [← HM2.out.2]; exact (Pz.co_get hl.out).symm)
  have HL0 := Lib.hid (show l ≠ 0 by rw [HLV.out]; exact HM2.out.top (by omega))
  have HMS := Lib.hid hm2
  have HRX := Lib.hid (show ∀ W : World, Below W2.heap.size W2 W → RdZs W W.heap.size N' (some ad) m2 c2 K2 from fun W hb => hr2.next hb)
  have HRL := Lib.hid (show ∀ W : World, Below W2.heap.size W2 W → RdZ W W.heap.size s3 A3 n3 c3 l from fun W hb => hrl.next hb)
  have HLC := Lib.hid (show ∀ W : World, Below W2.heap.size W2 W → _ from fun W hb => zs_cells hb hbk hx0 hx1)
  have HBG := Lib.hid (show ∀ W : World, Below W2.heap.size W2 W → Below w.heap.size w W from fun W hb => HB.out.trans (hb.mono HB.out.size))
  have HST0 := Lib.hid (show Pz.Ex (Pz.co L) (Pz.co L') N N' (m1 - m) 0 [] K1 from Pz.ex_zero HM1.out HC.out.1)
  clear hb1 hb2 hK1 hK2 hl1 hl2 hm h h' hm2 hr2 hrl ho2 hbk hl hx0 hx1
  go_wp2_with fail
  go_loopw [0, 6] (fun av qv wr => ∃ (j la cA : Nat) (AA : Option Addr) (K : List Int) (lq cq : Nat) (AQ : Option Addr) (Q : List Int), av = .slice AA la cA ∧ qv = .slice AQ lq cq ∧ OwZs wr w.heap.size AA la cA K ∧ OwZs wr w.heap.size AQ lq cq Q ∧ Hid (Pz.Ex (Pz.co L) (Pz.co L') N N' (m1 - m) j Q K) ∧ la + j ≤ m1 ∧ lq ≤ m1 ∧ Below W2.heap.size W2 wr) (fun av _ _ => slLen av)
  case atStart => exact ⟨0, m1, c1, A1, K1, 0, 0, none, [], rfl, rfl, ho1, OwZs.nil _ _, HST0, by omega, Nat.zero_le _, Below.refl _ _⟩
  case round =>
    clear ho1 HST0
    obtain ⟨j, la, cA, AA, K, lq, cq, AQ, Q, rfl, rfl, hoa, hoq, hst, hlj, hlq, hBg⟩ := hrel
    obtain ⟨Nj, hNj⟩ : ∃ Nj, Nj = N + j * (N' + 1) := ⟨_, rfl⟩
    have hNjb : Nj ≤ 1000000000000 := by rw [hNj]; exact Nat.le_trans (HBD.out j (by omega)) HNN.out
    have hrq : RdZs wr wr.heap.size Nj AQ lq cq Q := rd_st hoq (by rw [hNj]; exact hst.out.zq)
    have hra : RdZs wr wr.heap.size Nj AA la cA K := rd_st hoa (by rw [hNj]; exact hst.out.zk)
    have HLA := Lib.hid hoa.len
    have HLQ := Lib.hid hoq.len
    have HNJ := Lib.hid hNj
    have HJN := Lib.hid (show j ≤ n + 1 by omega)
    clear hNj
    by_cases hla : la < m2
    · have hlai : (la : Int) < (m2 : Int) := by omega
      rcases Nat.eq_zero_or_pos la with h0 | h0
      · subst h0
        have HP := Lib.hid (show Pz.Nz Q ∧ (∀ t, Pz.co L t = Pz.cv (Pz.co Q) (Pz.co L') t) ∧ ∀ i, Zz.zl (Pz.co Q i) ≤ N + (n + 1) * (N' + 1) from ⟨hst.out.nq, Pz.exd_end hst.out.eq (fun t => Pz.co_ge (by rw [HLA.out]; exact Nat.zero_le _)), fun i => Nat.le_trans (hst.out.zq i) (HBD.out j HJN.out)⟩)
        have HO := Lib.hid hoq
        have HBE := Lib.hid (HBG.out _ hBg)
        clear hoa hoq hst hra hrq hBg hla
        go_wp2
        go_ret2
        exact ⟨_, _, _, Q, 0, rfl, HO.out, Lib.hid (.inl ⟨rfl, HP.out⟩), HBE.out⟩
      · have h0i : (0 : Int) < (la : Int) := by omega
        have HP := Lib.hid (show ¬ Pz.Dvs (Pz.co L') (Pz.co L) from fun hd => by
          have h1 := Pz.exd_rest hst.out.eq hst.out.upq hd
          have h2 := Pz.dvs_low (HM2.out.up1 (HL2.out.trans HMS.out)) (HM2.out.top (HL2.out.trans HMS.out)) (r := Pz.co K) (fun i hi => Pz.co_ge (by rw [HLA.out]; have := HMS.out; omega)) h1 (K.length - 1)
          exact Pz.nz_top hst.out.nk (by rw [HLA.out]; exact h0) h2)
        have HBE := Lib.hid (HBG.out _ hBg)
        clear hoa hoq hst hra hrq hBg hla
        go_wp2
        go_ret2
        exact ⟨none, 0, 0, [], 30, rfl, OwZs.nil _ _, Lib.hid (.inr ⟨rfl, rfl, HP.out⟩), HBE.out⟩
    · obtain ⟨k, hk⟩ : ∃ k, la = k + m2 := ⟨la - m2, by omega⟩
      have hki : (la : Int) - (m2 : Int) = (k : Int) := by omega
      obtain ⟨p, hp⟩ : ∃ p, p = k + m := ⟨_, rfl⟩
      have hpi : (la : Int) - 1 = (p : Int) := by have := HMS.out; omega
      have hplt : (p : Int) < (la : Int) := by omega
      have hp0 : (0 : Int) ≤ (p : Int) := by omega
      have hm0 : (0 : Int) ≤ (m : Int) := by omega
      have hpn : p < la := by omega
      have hmn : m < m2 := by have := HMS.out; omega
      have hwp : IntKind.i64.wrap (p : Int) = (p : Int) := IntWalk.i64_in _ (by omega)
      have hwm : IntKind.i64.wrap (m : Int) = (m : Int) := IntWalk.i64_in _ (by omega)
      have hlai : (m2 : Int) ≤ (la : Int) := by omega
      obtain ⟨ad4, s4, A4, n4, c4, x, rfl, hbk4, hx0, hx1, hrx, hn4, hx⟩ := zs_at hra (show p < la by have := HMS.out; omega)
      have HXV := Lib.hid (show x = Pz.co K (k + m) by rw [← hp]; exact (Pz.co_get hx.out).symm)
      have HKP := Lib.hid (And.intro hk hp)
      have HCE := Lib.hid (show ∀ W : World, Below wr.heap.size wr W → (W.cell? (ad4.add (p * 2)) = some (.bool s4) ∧ W.cell? ⟨(ad4.add (p * 2)).block, (ad4.add (p * 2)).off + 1, none⟩ = some (.slice A4 n4 c4) ∧ W.cell? (ad.add (m * 2)) = some (.bool s3) ∧ W.cell? ⟨(ad.add (m * 2)).block, (ad.add (m * 2)).off + 1, none⟩ = some (.slice A3 n3 c3)) from fun W hb => ⟨(zs_cells hb hbk4 hx0 hx1).1, (zs_cells hb hbk4 hx0 hx1).2, (HLC.out W (hBg.trans (hb.mono hBg.size))).1, (HLC.out W (hBg.trans (hb.mono hBg.size))).2⟩)
      have HBW := Lib.hid (show ∀ W : World, Below wr.heap.size wr W → Below W2.heap.size W2 W from fun W hb => hBg.trans (hb.mono hBg.size))
      have HEX := Lib.hid (show ∀ W : World, Below wr.heap.size wr W → Calls Try.prog 30 _ W _ from fun W hb => exact_any (hrx.next hb) (HRL.out W (HBW.out W hb)) (by omega) (by omega) HL0.out)
      have HD := Lib.hid (Below.refl wr.heap.size wr).drew
      obtain ⟨a0, a1, a2, a3⟩ := HCE.out wr (Below.refl _ _)
      have HKK := Lib.hid (And.intro (And.intro hlj hlq) (And.intro hn4 hn3))
      have HOA := Lib.hid (And.intro hoa hoq)
      have HRA := Lib.hid (show ∀ W : World, Below wr.heap.size wr W → RdZs W W.heap.size Nj (some ad4) la cA K ∧ RdZs W W.heap.size Nj AQ lq cq Q from fun W hb => ⟨hra.next hb, hrq.next hb⟩)
      clear hla hk hp hoa hoq hra hrq hx0 hx1 hrx hx hbk4 hBg
      go_upto_region 6 with fail
      have HDA := Lib.hid ((Below.refl wr.heap.size wr).alloc (Nat.le_refl _) (.cells #[.bool false, .slice none 0 0] 40)).drew
      have HZN := Lib.hid (show ZC (wr.alloc (.cells #[.bool false, .slice none 0 0] 40)).drew wr.heap.size false none 0 0 from ZC.new wr false none 0 0)
      go_region_held3 (fun w' => w'.cell? (ad4.add (p * 2)) = some (.bool s4) ∧ w'.cell? ⟨(ad4.add (p * 2)).block, (ad4.add (p * 2)).off + 1, none⟩ = some (.slice A4 n4 c4) ∧ w'.cell? (ad.add (m * 2)) = some (.bool s3) ∧ w'.cell? ⟨(ad.add (m * 2)).block, (ad.add (m * 2)).off + 1, none⟩ = some (.slice A3 n3 c3))
        (first | exact HCE.out _ HB5.out | exact HCE.out _ (HB5.out.alloc HB5.out.size _) | exact HCE.out _ ((HB5.out.setCell (p := ⟨wr.heap.size, 0, none⟩) (Nat.le_refl _) _).setCell (p := ⟨wr.heap.size, 1, none⟩) (Nat.le_refl _) _) | exact HCE.out _ HD.out | exact HCE.out _ HDA.out)
        (first
          | (go_at_call 30; refine (HEX.out _ HD.out).mono ?_; rintro _ W5 ⟨s5, A5, n5, c5, y, kk, rfl, ho5, hy, hb5⟩; have HB5 := Lib.hid (HD.out.trans hb5))
          | (go_at_call 30; refine (HEX.out _ HDA.out).mono ?_; rintro _ W5 ⟨s5, A5, n5, c5, y, kk, rfl, ho5, hy, hb5⟩; have HB5 := Lib.hid (HDA.out.trans (hb5.mono HDA.out.size)); have HZ5 := Lib.hid (HZN.out.below (w' := W5) hb5 (by simp)); have kz0 := HZ5.out.c0; have kz1 := HZ5.out.c1; have kf0 := HZ5.out.fz 0; have kf1 := HZ5.out.fz 1))
      have HYZ := Lib.hid (show Zz.zl y ≤ Nj ∧ n5 = Zz.zl y from ⟨by
        rcases hy.out with ⟨_, e2, _⟩ | ⟨_, e2, _⟩
        · rw [e2]; refine Nat.le_trans (Zz.zl_tdiv x l) ?_; rw [HXV.out, HNJ.out]; exact hst.out.zk _
        · rw [e2, Zz.zl_zero]; exact Nat.zero_le _, ho5.len⟩)
      rotate_left
      have HYZ := Lib.hid (show Zz.zl y ≤ Nj ∧ n5 = Zz.zl y from ⟨by
        rcases hy.out with ⟨_, e2, _⟩ | ⟨_, e2, _⟩
        · rw [e2]; refine Nat.le_trans (Zz.zl_tdiv x l) ?_; rw [HXV.out, HNJ.out]; exact hst.out.zk _
        · rw [e2, Zz.zl_zero]; exact Nat.zero_le _, ho5.len⟩)
      rotate_left
      · have hZ6 := ZC.new W5 s5 A5 n5 c5
        have hO6 : RdZ (W5.alloc (.cells #[.bool s5, .slice A5 n5 c5] 40)) (W5.alloc (.cells #[.bool s5, .slice A5 n5 c5] 40)).heap.size s5 A5 n5 c5 y := ho5.rd.next ((Below.refl _ _).alloc (Nat.le_refl _) _)
        have hB6 := HB5.out.alloc HB5.out.size (.cells #[.bool s5, .slice A5 n5 c5] 40)
        clear a0 a1 a2 a3 hb5 ho5
        generalize W5.alloc (.cells #[.bool s5, .slice A5 n5 c5] 40) = W6 at hZ6 hO6 hB6 ⊢
        generalize W5.heap.size = gc at hZ6 ⊢
        clear HZN HDA HD
        have HX6 := Lib.hid (And.intro hZ6 (And.intro hO6 hB6))
        have HB6 := Lib.hid hB6
        clear hZ6 hO6 hB6
        rcases hy.out with ⟨e1, e2, rfl⟩ | ⟨e1, e2, rfl⟩
        · have HCV := Lib.hid (show Pz.co L' m * y = Pz.co K (k + m) by rw [← HLV.out, ← HXV.out, e2]; exact Int.mul_tdiv_cancel' (Int.dvd_of_tmod_eq_zero e1))
          have HCZ := Lib.hid (show Zz.zl y ≤ Zz.zl (Pz.co K (k + m)) by rw [e2, ← HXV.out]; exact Zz.zl_tdiv x l)
          clear hy e1 e2
          have HN5 := Lib.hid (show n5 ≤ Nj by rw [HYZ.out.2]; exact HYZ.out.1)
          have HOF := Lib.hid (fun W : World => of_any 1 (by omega) (by omega) W)
          have HRY := Lib.hid (show ∀ W : World, Below W6.heap.size W6 W → RdZ W W.heap.size s5 A5 n5 c5 y from fun W hb => HX6.out.2.1.next hb)
          have HWR := Lib.hid (show ∀ W : World, Below W6.heap.size W6 W → Below wr.heap.size wr W from fun W hb => HB6.out.trans (hb.mono HB6.out.size))
          have HKB := Lib.hid (show k + 1 ≤ 4398046511103 ∧ k + m2 ≤ 4398046511103 ∧ la ≤ 4398046511103 ∧ lq ≤ 4398046511103 ∧ m2 + k ≤ 4398046511103 by have := HKP.out; have := HKK.out; omega)
          have HSH := Lib.hid (show ∀ (W : World) (s : Bool) (A : Option Addr) (n c : Nat) (z : Int), Below W6.heap.size W6 W → RdZ W W.heap.size s A n c z → n ≤ 1 → Calls Try.prog 28 #[.slice (some ⟨W.heap.size, 0, none⟩) 1 1, .agg #[.bool s5, .slice A5 n5 c5], .int .i64 k] (W.alloc (.cells #[.bool s, .slice A n c] 40)) (RetV (sh k fun i => Pz.co [z] i * y) (k + 1) (W.alloc (.cells #[.bool s, .slice A n c] 40))) from fun W s A n c z hb hz h1 => zshifted_any (N := 1) (N' := Nj) k (zs_one hz h1) ((HRY.out W hb).next ((Below.refl _ _).alloc (Nat.le_refl _) _)) (by have := HKB.out; omega) HN5.out (by omega) (by omega))
          have HSB := Lib.hid (show ∀ W : World, Below W6.heap.size W6 W → Calls Try.prog 28 #[.slice (some ad) m2 c2, .agg #[.bool s5, .slice A5 n5 c5], .int .i64 k] W (RetV (sh k fun i => Pz.co K2 i * y) (k + m2) W) from fun W hb => zshifted_any (N := N') (N' := Nj) k (HRX.out W (HBW.out W (HWR.out W hb))) (HRY.out W hb) HKB.out.2.2.2.2 HN5.out (by omega) (by omega))
          have HZ10 := Lib.hid (show ∀ i, Zz.zl (Pz.co K2 i * y) ≤ N' + Nj from fun i => by
            have e1 := Zz.zl_mul (Pz.co K2 i) y
            have e2 := HC.out.2 i
            have e3 := HYZ.out.1
            rw [← HM2.out.2] at e2
            omega)
          have HBD2 := Lib.hid (show Nj ≤ 8796093022207 ∧ N' + Nj ≤ 8796093022207 by omega)
          have HD6 := Lib.hid (Below.refl W6.heap.size W6).drew
          have HZN := Lib.hid (show ∀ W : World, Below W6.heap.size W6 W → (W.cell? ⟨gc, 0, none⟩ = some (.bool s5) ∧ W.cell? ⟨gc, 1, none⟩ = some (.slice A5 n5 c5)) from fun W hb => ⟨(HX6.out.1.next hb).c0, (HX6.out.1.next hb).c1⟩)
          obtain ⟨a0, a1⟩ := HZN.out W6 (Below.refl _ _)
          go_upto_region 10 with fail
          go_region_held3 (fun w' => w'.cell? ⟨gc, 0, none⟩ = some (.bool s5) ∧ w'.cell? ⟨gc, 1, none⟩ = some (.slice A5 n5 c5)) (first | exact HZN.out _ HB9.out | exact HZN.out _ HB8.out | exact HZN.out _ (HB7.out.alloc HB7.out.size _) | exact HZN.out _ HB7.out | exact HZN.out _ HD6.out)
            (first
              | (go_at_call 29; refine (HOF.out _).mono ?_; rintro _ W7 ⟨s7, A7, n7, c7, z7, rfl, ho7, hz7, hb7⟩; obtain rfl : z7 = 1 := hz7.out; have HN7 := Lib.hid (Nat.le_trans (Nat.le_of_eq ho7.len) (Zz.zl_small (z := 1) (by decide))); have HB7 := Lib.hid (HD6.out.trans (hb7.mono HD6.out.size)))
              | (go_at_call 28; refine (HSH.out W7 _ _ _ _ _ HB7.out ho7.rd HN7.out).mono ?_; rintro _ W8 ⟨A8, n8, c8, M8, rfl, ho8, hM8, hb8⟩; have HB8 := Lib.hid ((HB7.out.alloc HB7.out.size (.cells #[.bool s7, .slice A7 n7 c7] 40)).trans (hb8.mono (HB7.out.alloc HB7.out.size _).size)); have HR8 := Lib.hid (rd_of' ho8 hM8.out.1 (sh_zl (one_zl HYZ.out.1))))
              | (go_at_call 14; refine (zadd_any (N := Nj) (N' := Nj) (HRA.out _ (HWR.out _ HB8.out)).2 HR8.out HKB.out.2.2.2.1 (Nat.le_trans hM8.out.2 HKB.out.1) HBD2.out.1 HBD2.out.1).mono ?_; rintro _ W9 ⟨A9, n9, c9, M9, rfl, ho9, hM9, hb9⟩; have HB9 := Lib.hid (HB8.out.trans (hb9.mono HB8.out.size))))
          obtain ⟨d0, d1⟩ := HZN.out W9 HB9.out
          clear a0 a1 hb7 hb8 hb9
          go_wp2_with fail
          refine (HSB.out W9 HB9.out).mono ?_
          rintro _ W10 ⟨A10, n10, c10, M10, rfl, ho10, hM10, hb10⟩
          have HB10 := Lib.hid (HB9.out.trans (hb10.mono HB9.out.size))
          go_wp2_with fail
          refine (zsub_any (N := Nj) (N' := N' + Nj) (HRA.out _ (HWR.out _ HB10.out)).1 (rd_of' ho10 hM10.out.1 (sh_zl HZ10.out)) HKB.out.2.2.1 (Nat.le_trans hM10.out.2 HKB.out.2.1) HBD2.out.1 HBD2.out.2).mono ?_
          rintro _ W11 ⟨A11, n11, c11, M11, rfl, ho11, hM11, hb11⟩
          have HB11 := Lib.hid (HB10.out.trans (hb11.mono HB10.out.size))
          have hst' := Pz.ex_step hst.out (HM2.out.up1 (HL2.out.trans HMS.out)) HC.out.2 HCV.out HCZ.out (by rw [HLA.out, HKP.out.1, HMS.out, Nat.add_assoc]) (show k < m1 - m by have := HKP.out; have := HMS.out; have := HKK.out.1; omega) hM9.out (fun i => (hM8.out.1 i).trans (by unfold sh; rfl)) hM11.out (fun i => (hM10.out.1 i).trans (by show (if i < k then 0 else Pz.co K2 (i - k) * y) = _; rw [HM2.out.2]))
          have HFIN := Lib.hid (show n11 + (j + 1) ≤ m1 ∧ n9 ≤ m1 ∧ n11 < la by
            have e1 := hst'.2
            have e2 := ho11.len
            have e3 := ho9.len
            have e4 := Pz.nz_len hst'.1.nq hst'.1.upq
            have := HKP.out
            have := HMS.out
            have := HKK.out.1
            omega)
          have HST' := Lib.hid hst'.1
          have HSB8 := Lib.hid (HBG.out _ (HBW.out _ (HWR.out _ HB8.out))).size
          have HSB10 := Lib.hid (HBG.out _ (HBW.out _ (HWR.out _ HB10.out))).size
          have HO11 := Lib.hid (ho11.base HSB10.out)
          have HO9 := Lib.hid ((ho9.base HSB8.out).next (hb10.trans (hb11.mono hb10.size)))
          have HBF := Lib.hid (HBW.out _ (HWR.out _ HB11.out))
          clear hst' ho7 ho8 ho9 ho10 ho11 hb10 hb11 d0 d1
          go_wp2
          go_roundw
          case rel => exact ⟨j + 1, n11, c11, A11, M11, n9, c9, A9, M9, rfl, rfl, HO11.out, HO9.out, HST', HFIN.out.1, HFIN.out.2.1, HBF.out⟩
          case measure => simp only [slLen]; exact HFIN.out.2.2
        · have HP := Lib.hid (show ¬ Pz.Dvs (Pz.co L') (Pz.co L) from fun hd => by
            have h1 := Pz.exd_rest hst.out.eq hst.out.upq hd
            have h2 := Pz.dvs_top (p := k) (HM2.out.up1 (HL2.out.trans HMS.out)) (HM2.out.top (HL2.out.trans HMS.out)) (r := Pz.co K) (fun i hi => Pz.co_ge (by rw [HLA.out]; have := HMS.out; have := HKP.out; omega)) h1
            apply e1
            rw [HXV.out, HLV.out]
            exact Int.tmod_eq_zero_of_dvd h2)
          have HBE := Lib.hid (HBG.out _ (HBW.out _ HB6.out))
          clear hy e1 e2 hst
          go_wp2
          go_ret2
          exact ⟨none, 0, 0, [], 30, rfl, OwZs.nil _ _, Lib.hid (.inr ⟨rfl, rfl, HP.out⟩), HBE.out⟩
      · have hZ6 := HZ5.out.store s5 A5 n5 c5
        have hO6 : RdZ ((W5.setCell ⟨wr.heap.size, 0, none⟩ (.bool s5)).setCell ⟨wr.heap.size, 1, none⟩ (.slice A5 n5 c5)) ((W5.setCell ⟨wr.heap.size, 0, none⟩ (.bool s5)).setCell ⟨wr.heap.size, 1, none⟩ (.slice A5 n5 c5)).heap.size s5 A5 n5 c5 y := (ho5.keep (keep_set2 HZ5.out (.bool s5) (.slice A5 n5 c5))).rd
        have hB6 := (HB5.out.setCell (p := ⟨wr.heap.size, 0, none⟩) (Nat.le_refl _) (.bool s5)).setCell (p := ⟨wr.heap.size, 1, none⟩) (Nat.le_refl _) (.slice A5 n5 c5)
        clear a0 a1 a2 a3 hb5 ho5 kz0 kz1 kf0 kf1
        generalize (W5.setCell ⟨wr.heap.size, 0, none⟩ (.bool s5)).setCell ⟨wr.heap.size, 1, none⟩ (.slice A5 n5 c5) = W6 at hZ6 hO6 hB6 ⊢
        generalize wr.heap.size = gc at hZ6 ⊢
        clear HZN HDA HD
        have HX6 := Lib.hid (And.intro hZ6 (And.intro hO6 hB6))
        have HB6 := Lib.hid hB6
        clear hZ6 hO6 hB6
        rcases hy.out with ⟨e1, e2, rfl⟩ | ⟨e1, e2, rfl⟩
        · have HCV := Lib.hid (show Pz.co L' m * y = Pz.co K (k + m) by rw [← HLV.out, ← HXV.out, e2]; exact Int.mul_tdiv_cancel' (Int.dvd_of_tmod_eq_zero e1))
          have HCZ := Lib.hid (show Zz.zl y ≤ Zz.zl (Pz.co K (k + m)) by rw [e2, ← HXV.out]; exact Zz.zl_tdiv x l)
          clear hy e1 e2
          have HN5 := Lib.hid (show n5 ≤ Nj by rw [HYZ.out.2]; exact HYZ.out.1)
          have HOF := Lib.hid (fun W : World => of_any 1 (by omega) (by omega) W)
          have HRY := Lib.hid (show ∀ W : World, Below W6.heap.size W6 W → RdZ W W.heap.size s5 A5 n5 c5 y from fun W hb => HX6.out.2.1.next hb)
          have HWR := Lib.hid (show ∀ W : World, Below W6.heap.size W6 W → Below wr.heap.size wr W from fun W hb => HB6.out.trans (hb.mono HB6.out.size))
          have HKB := Lib.hid (show k + 1 ≤ 4398046511103 ∧ k + m2 ≤ 4398046511103 ∧ la ≤ 4398046511103 ∧ lq ≤ 4398046511103 ∧ m2 + k ≤ 4398046511103 by have := HKP.out; have := HKK.out; omega)
          have HSH := Lib.hid (show ∀ (W : World) (s : Bool) (A : Option Addr) (n c : Nat) (z : Int), Below W6.heap.size W6 W → RdZ W W.heap.size s A n c z → n ≤ 1 → Calls Try.prog 28 #[.slice (some ⟨W.heap.size, 0, none⟩) 1 1, .agg #[.bool s5, .slice A5 n5 c5], .int .i64 k] (W.alloc (.cells #[.bool s, .slice A n c] 40)) (RetV (sh k fun i => Pz.co [z] i * y) (k + 1) (W.alloc (.cells #[.bool s, .slice A n c] 40))) from fun W s A n c z hb hz h1 => zshifted_any (N := 1) (N' := Nj) k (zs_one hz h1) ((HRY.out W hb).next ((Below.refl _ _).alloc (Nat.le_refl _) _)) (by have := HKB.out; omega) HN5.out (by omega) (by omega))
          have HSB := Lib.hid (show ∀ W : World, Below W6.heap.size W6 W → Calls Try.prog 28 #[.slice (some ad) m2 c2, .agg #[.bool s5, .slice A5 n5 c5], .int .i64 k] W (RetV (sh k fun i => Pz.co K2 i * y) (k + m2) W) from fun W hb => zshifted_any (N := N') (N' := Nj) k (HRX.out W (HBW.out W (HWR.out W hb))) (HRY.out W hb) HKB.out.2.2.2.2 HN5.out (by omega) (by omega))
          have HZ10 := Lib.hid (show ∀ i, Zz.zl (Pz.co K2 i * y) ≤ N' + Nj from fun i => by
            have e1 := Zz.zl_mul (Pz.co K2 i) y
            have e2 := HC.out.2 i
            have e3 := HYZ.out.1
            rw [← HM2.out.2] at e2
            omega)
          have HBD2 := Lib.hid (show Nj ≤ 8796093022207 ∧ N' + Nj ≤ 8796093022207 by omega)
          have HD6 := Lib.hid (Below.refl W6.heap.size W6).drew
          have HZN := Lib.hid (show ∀ W : World, Below W6.heap.size W6 W → (W.cell? ⟨gc, 0, none⟩ = some (.bool s5) ∧ W.cell? ⟨gc, 1, none⟩ = some (.slice A5 n5 c5)) from fun W hb => ⟨(HX6.out.1.next hb).c0, (HX6.out.1.next hb).c1⟩)
          obtain ⟨a0, a1⟩ := HZN.out W6 (Below.refl _ _)
          go_upto_region 10 with fail
          go_region_held3 (fun w' => w'.cell? ⟨gc, 0, none⟩ = some (.bool s5) ∧ w'.cell? ⟨gc, 1, none⟩ = some (.slice A5 n5 c5)) (first | exact HZN.out _ HB9.out | exact HZN.out _ HB8.out | exact HZN.out _ (HB7.out.alloc HB7.out.size _) | exact HZN.out _ HB7.out | exact HZN.out _ HD6.out)
            (first
              | (go_at_call 29; refine (HOF.out _).mono ?_; rintro _ W7 ⟨s7, A7, n7, c7, z7, rfl, ho7, hz7, hb7⟩; obtain rfl : z7 = 1 := hz7.out; have HN7 := Lib.hid (Nat.le_trans (Nat.le_of_eq ho7.len) (Zz.zl_small (z := 1) (by decide))); have HB7 := Lib.hid (HD6.out.trans (hb7.mono HD6.out.size)))
              | (go_at_call 28; refine (HSH.out W7 _ _ _ _ _ HB7.out ho7.rd HN7.out).mono ?_; rintro _ W8 ⟨A8, n8, c8, M8, rfl, ho8, hM8, hb8⟩; have HB8 := Lib.hid ((HB7.out.alloc HB7.out.size (.cells #[.bool s7, .slice A7 n7 c7] 40)).trans (hb8.mono (HB7.out.alloc HB7.out.size _).size)); have HR8 := Lib.hid (rd_of' ho8 hM8.out.1 (sh_zl (one_zl HYZ.out.1))))
              | (go_at_call 14; refine (zadd_any (N := Nj) (N' := Nj) (HRA.out _ (HWR.out _ HB8.out)).2 HR8.out HKB.out.2.2.2.1 (Nat.le_trans hM8.out.2 HKB.out.1) HBD2.out.1 HBD2.out.1).mono ?_; rintro _ W9 ⟨A9, n9, c9, M9, rfl, ho9, hM9, hb9⟩; have HB9 := Lib.hid (HB8.out.trans (hb9.mono HB8.out.size))))
          obtain ⟨d0, d1⟩ := HZN.out W9 HB9.out
          clear a0 a1 hb7 hb8 hb9
          go_wp2_with fail
          refine (HSB.out W9 HB9.out).mono ?_
          rintro _ W10 ⟨A10, n10, c10, M10, rfl, ho10, hM10, hb10⟩
          have HB10 := Lib.hid (HB9.out.trans (hb10.mono HB9.out.size))
          go_wp2_with fail
          refine (zsub_any (N := Nj) (N' := N' + Nj) (HRA.out _ (HWR.out _ HB10.out)).1 (rd_of' ho10 hM10.out.1 (sh_zl HZ10.out)) HKB.out.2.2.1 (Nat.le_trans hM10.out.2 HKB.out.2.1) HBD2.out.1 HBD2.out.2).mono ?_
          rintro _ W11 ⟨A11, n11, c11, M11, rfl, ho11, hM11, hb11⟩
          have HB11 := Lib.hid (HB10.out.trans (hb11.mono HB10.out.size))
          have hst' := Pz.ex_step hst.out (HM2.out.up1 (HL2.out.trans HMS.out)) HC.out.2 HCV.out HCZ.out (by rw [HLA.out, HKP.out.1, HMS.out, Nat.add_assoc]) (show k < m1 - m by have := HKP.out; have := HMS.out; have := HKK.out.1; omega) hM9.out (fun i => (hM8.out.1 i).trans (by unfold sh; rfl)) hM11.out (fun i => (hM10.out.1 i).trans (by show (if i < k then 0 else Pz.co K2 (i - k) * y) = _; rw [HM2.out.2]))
          have HFIN := Lib.hid (show n11 + (j + 1) ≤ m1 ∧ n9 ≤ m1 ∧ n11 < la by
            have e1 := hst'.2
            have e2 := ho11.len
            have e3 := ho9.len
            have e4 := Pz.nz_len hst'.1.nq hst'.1.upq
            have := HKP.out
            have := HMS.out
            have := HKK.out.1
            omega)
          have HST' := Lib.hid hst'.1
          have HSB8 := Lib.hid (HBG.out _ (HBW.out _ (HWR.out _ HB8.out))).size
          have HSB10 := Lib.hid (HBG.out _ (HBW.out _ (HWR.out _ HB10.out))).size
          have HO11 := Lib.hid (ho11.base HSB10.out)
          have HO9 := Lib.hid ((ho9.base HSB8.out).next (hb10.trans (hb11.mono hb10.size)))
          have HBF := Lib.hid (HBW.out _ (HWR.out _ HB11.out))
          clear hst' ho7 ho8 ho9 ho10 ho11 hb10 hb11 d0 d1
          go_wp2
          go_roundw
          case rel => exact ⟨j + 1, n11, c11, A11, M11, n9, c9, A9, M9, rfl, rfl, HO11.out, HO9.out, HST', HFIN.out.1, HFIN.out.2.1, HBF.out⟩
          case measure => simp only [slLen]; exact HFIN.out.2.2
        · have HP := Lib.hid (show ¬ Pz.Dvs (Pz.co L') (Pz.co L) from fun hd => by
            have h1 := Pz.exd_rest hst.out.eq hst.out.upq hd
            have h2 := Pz.dvs_top (p := k) (HM2.out.up1 (HL2.out.trans HMS.out)) (HM2.out.top (HL2.out.trans HMS.out)) (r := Pz.co K) (fun i hi => Pz.co_ge (by rw [HLA.out]; have := HMS.out; have := HKP.out; omega)) h1
            apply e1
            rw [HXV.out, HLV.out]
            exact Int.tmod_eq_zero_of_dvd h2)
          have HBE := Lib.hid (HBG.out _ (HBW.out _ HB6.out))
          clear hy e1 e2 hst
          go_wp2
          go_ret2
          exact ⟨none, 0, 0, [], 30, rfl, OwZs.nil _ _, Lib.hid (.inr ⟨rfl, rfl, HP.out⟩), HBE.out⟩
end Go.Proofs.Ytipbpdiahemmpaa

/- Reference 07: degree, lead, the exact division. -/
namespace Go.Proofs.Ytipbpdiahemmpaa
open Go.RowKit Go.IntWalk
attribute [local go_sem ↓] Go.wp_at_zero Go.wp_at_succ

set_option maxHeartbeats 400000 in
theorem rzDegree_any {N : Nat} {A : Option Addr} {n c : Nat} {L M : List Int} {w : World} (h : RdZs w w.heap.size N A n c L) (hM : Pz.IsP (Pz.co L) M) (hn : n ≤ 4398046511103) (hN : N ≤ 17592186044416) :
    Calls Try.prog 7 #[.slice A n c] w fun e w' => ∃ y : Int, e = .returned (.int .i64 y) ∧ Hid (y = (M.length : Int) - 1) ∧ Below w.heap.size w w' := by
  have HM := Lib.hid hM
  have HL := Lib.hid h.len
  clear hM
  go_enter Try.func7, Try.ntmps7
  go_wp2_with fail
  refine (rzNorm_any h hn hN).mono ?_
  rintro _ W2 ⟨A2, n2, c2, M2, rfl, ho2, hM2, hb2⟩
  have HE := Lib.hid (show M.length = n2 by rw [← ho2.len, hM2.out.unique HM.out])
  have hn2 : n2 ≤ 4398046511103 := by
    rw [← HE.out]
    exact Nat.le_trans (HM.out.len fun i hi => Pz.co_ge (by rw [HL.out]; exact hi)) hn
  go_wp2
  go_ret
  exact ⟨_, rfl, Lib.hid (by rw [HE.out]), hb2⟩

set_option maxRecDepth 100000 in
set_option maxHeartbeats 1000000 in
theorem rzLead_any {N : Nat} {A : Option Addr} {n c : Nat} {L M : List Int} {w : World} (h : RdZs w w.heap.size N A n c L) (hM : Pz.IsP (Pz.co L) M) {m : Nat} (hm : M.length = m + 1) (hn : n ≤ 4398046511103) (hN : N ≤ 17592186044416) :
    Calls Try.prog 34 #[.slice A n c] w (RetS (Pz.co L m) N w) := by
  have HM := Lib.hid hM
  have HC := Lib.hid (zl_co h)
  have hR := ZC.new w false none 0 0
  have hB1 : Below w.heap.size w (w.alloc (.cells #[.bool false, .slice none 0 0] 40)) := (Below.refl _ _).alloc (Nat.le_refl _) _
  have h1 := h.next hB1
  have HMM := Lib.hid hm
  clear h hM hm
  go_enter Try.func34, Try.ntmps34
  go_wp2_with fail
  generalize w.alloc (.cells #[.bool false, .slice none 0 0] 40) = W1 at *
  refine (rzNorm_any h1 hn hN).mono ?_
  rintro _ W2 ⟨A2, n2, c2, M2, rfl, ho2, hM2, hb2⟩
  obtain rfl := hM2.out.unique HM.out
  have HE := Lib.hid (show n2 = m + 1 by rw [← ho2.len, HMM.out])
  have hR2 := hR.next hb2
  have hB2 := hB1.trans (hb2.mono hB1.size)
  have hr2 := rd_of (N := N) ho2 HM.out HC.out
  obtain ⟨ad, s3, A3, n3, c3, l, rfl, hbk, hx0, hx1, hrl, hn3, hl⟩ := zs_at hr2 (show m < n2 by rw [HE.out]; exact Nat.lt_succ_self _)
  have hb : ((n2 : Int) == 0) = false := by simp; have := HE.out; omega
  have hmi : (n2 : Int) - 1 = (m : Int) := by have := HE.out; omega
  have hmlt : (m : Int) < (n2 : Int) := by have := HE.out; omega
  have hmb : m ≤ 4398046511103 := by
    have h5 := HM.out.len (k := n) fun i hi => Pz.co_ge (by rw [h1.len]; exact hi)
    have := HMM.out
    omega
  have f0 := hR2.fz 0
  have f1 := hR2.fz 1
  have k0 := hR2.c0
  have k1 := hR2.c1
  have hZ6 := hR2.store s3 A3 n3 c3
  have HLV := Lib.hid (show l = Pz.co L m by rw [← HM.out.2]; exact (Pz.co_get hl.out).symm)
  have HR6 := Lib.hid (show RdZ ((W2.setCell ⟨w.heap.size, 0, none⟩ (.bool s3)).setCell ⟨w.heap.size, 1, none⟩ (.slice A3 n3 c3)) ((W2.setCell ⟨w.heap.size, 0, none⟩ (.bool s3)).setCell ⟨w.heap.size, 1, none⟩ (.slice A3 n3 c3)).heap.size s3 A3 n3 c3 l by
    obtain ⟨g, e, e1, _, e3, e4, e5⟩ := ow_at ho2 (show m < n2 by rw [HE.out]; exact Nat.lt_succ_self _)
    injection e1 with e1
    subst e1
    have hx0' : W2.cell? ⟨g, m * 2, none⟩ = some (.bool s3) := by rw [← add_base g (m * 2)]; exact hx0
    have hx1' : W2.cell? ⟨g, m * 2 + 1, none⟩ = some (.slice A3 n3 c3) := by
      have := hx1
      rw [add_base g (m * 2)] at this
      exact this
    rw [e3] at hx0'
    rw [e4] at hx1'
    injection hx0' with hx0'
    injection hx0' with hx0'
    injection hx1' with hx1'
    injection hx1' with y1 y2 y3
    rw [← hx0', ← y1, ← y2, ← y3]
    have := (e5.keep (keep_set2 hR2 (.bool e.1) (.slice e.2.1 e.2.2.1 e.2.2.2))).rd
    rw [HLV.out, ← HM.out.2]
    exact this)
  have HB6 := Lib.hid ((hB2.setCell (p := ⟨w.heap.size, 0, none⟩) (Nat.le_refl _) (.bool s3)).setCell (p := ⟨w.heap.size, 1, none⟩) (Nat.le_refl _) (.slice A3 n3 c3))
  clear h1 hM2 ho2 hR2 hR hB1 hB2 hb2 hrl hr2 hl hbk
  go_wp2_with fail
  generalize (W2.setCell ⟨w.heap.size, 0, none⟩ (.bool s3)).setCell ⟨w.heap.size, 1, none⟩ (.slice A3 n3 c3) = W6 at *
  exact bodyPost_ret (by simp [results, Try.results34, go_sem, hZ6.c0, hZ6.c1]) rfl ⟨_, _, _, _, _, rfl, HR6.out, hn3, Lib.hid HLV.out, HB6.out⟩

theorem sing_zl {x : Int} {N : Nat} (h : Zz.zl x ≤ N) (i : Nat) : Zz.zl (Pz.co [x] i) ≤ N := by
  match i with
  | 0 => simpa [Pz.co] using h
  | i + 1 => rw [Pz.co_ge (by simp), Zz.zl_zero]; exact Nat.zero_le _
/-- The quotient comes back, or that there is none. -/
def RetEb (N : Nat) (a b : Nat → Int) (w : World) (e : Ending) (w' : World) : Prop :=
  ∃ (A : Option Addr) (n c : Nat) (Q : List Int) (k : Bool), e = .returned (.tuple #[.slice A n c, .bool k]) ∧ OwZs w' w.heap.size A n c Q ∧ Hid ((k = true ∧ Pz.Nz Q ∧ (∀ t, a t = Pz.cv (Pz.co Q) b t) ∧ ∀ i, Zz.zl (Pz.co Q i) ≤ N) ∨ (k = false ∧ ¬ Pz.Dvs b a)) ∧ Below w.heap.size w w'

set_option maxRecDepth 100000 in
set_option maxHeartbeats 8000000 in
theorem rzExact_any {N N' : Nat} {A A' : Option Addr} {n c n' c' : Nat} {L L' M1 M2 : List Int} {w : World} (h : RdZs w w.heap.size N A n c L) (h' : RdZs w w.heap.size N' A' n' c' L') (hM1 : Pz.IsP (Pz.co L) M1) (hM2 : Pz.IsP (Pz.co L') M2) {m : Nat} (hm : M2.length = m + 1) (hn : n ≤ 1048576) (hn' : n' ≤ 1048576) (hN : N + (n + 1) * (N' + 1) ≤ 1000000000000) :
    Calls Try.prog 11 #[.slice A n c, .slice A' n' c'] w (RetEb (N + (n + 1) * (N' + 1)) (Pz.co L) (Pz.co L') w) := by
  have HC := Lib.hid (And.intro (zl_co h) (zl_co h'))
  have HLN := Lib.hid (And.intro h.len h'.len)
  have HM1 := Lib.hid hM1
  have HM2 := Lib.hid hM2
  have HBD := Lib.hid (show ∀ j, j ≤ n + 1 → N + j * (N' + 1) ≤ N + (n + 1) * (N' + 1) from fun j hj => Nat.add_le_add_left (Nat.mul_le_mul_right _ hj) _)
  have hNN : N' ≤ 1000000000000 ∧ N ≤ 1000000000000 := by
    have := HBD.out 1 (by omega)
    omega
  obtain ⟨hN'b, hNb⟩ := hNN
  have HNN := Lib.hid hN
  clear hN hM1 hM2
  go_enter Try.func11, Try.ntmps11
  go_wp2_with fail
  refine (rzNorm_any h (by omega) (by omega)).mono ?_
  rintro _ W1 ⟨A1, m1, c1, K1, rfl, ho1, hK1, hb1⟩
  go_wp2_with fail
  refine (rzNorm_any (h'.next hb1) (by omega) (by omega)).mono ?_
  rintro _ W2 ⟨A2, m2, c2, K2, rfl, ho2, hK2, hb2⟩
  obtain rfl := hK1.out.unique HM1.out
  obtain rfl := hK2.out.unique HM2.out
  have hl1 := ho1.len
  have hl2 := ho2.len
  have hm1n : m1 ≤ n := by rw [← hl1]; exact HM1.out.len fun i hi => Pz.co_ge (by rw [HLN.out.1]; exact hi)
  have hm2n : m2 ≤ n' := by rw [← hl2]; exact HM2.out.len fun i hi => Pz.co_ge (by rw [HLN.out.2]; exact hi)
  have hm2 : m2 = m + 1 := by omega
  have HB := Lib.hid (hb1.trans (hb2.mono hb1.size))
  have ho1 := ho1.next hb2
  have HL1 := Lib.hid hl1
  have HL2 := Lib.hid hl2
  have hr2 := rd_of (N := N') ho2 HM2.out HC.out.2
  have HL0 := Lib.hid (show Pz.co L' m ≠ 0 from HM2.out.top (by omega))
  have HMS := Lib.hid hm2
  have HRX := Lib.hid (show ∀ W : World, Below W2.heap.size W2 W → RdZs W W.heap.size N' A2 m2 c2 K2 from fun W hb => hr2.next hb)
  have HBG := Lib.hid (show ∀ W : World, Below W2.heap.size W2 W → Below w.heap.size w W from fun W hb => HB.out.trans (hb.mono HB.out.size))
  have HST0 := Lib.hid (show Pz.Ex (Pz.co L) (Pz.co L') N N' (m1 - m) 0 [] K1 from Pz.ex_zero HM1.out HC.out.1)
  clear hb1 hb2 hK1 hK2 hl1 hl2 hm h h' hm2 hr2 ho2
  go_wp2_with fail
  go_loopw [0, 6] (fun av qv wr => ∃ (j la cA : Nat) (AA : Option Addr) (K : List Int) (lq cq : Nat) (AQ : Option Addr) (Q : List Int), av = .slice AA la cA ∧ qv = .slice AQ lq cq ∧ OwZs wr w.heap.size AA la cA K ∧ OwZs wr w.heap.size AQ lq cq Q ∧ Hid (Pz.Ex (Pz.co L) (Pz.co L') N N' (m1 - m) j Q K) ∧ la + j ≤ m1 ∧ lq ≤ m1 ∧ Below W2.heap.size W2 wr) (fun av _ _ => slLen av)
  case atStart => exact ⟨0, m1, c1, A1, K1, 0, 0, none, [], rfl, rfl, ho1, OwZs.nil _ _, HST0, by omega, Nat.zero_le _, Below.refl _ _⟩
  case round =>
    clear ho1 HST0
    obtain ⟨j, la, cA, AA, K, lq, cq, AQ, Q, rfl, rfl, hoa, hoq, hst, hlj, hlq, hBg⟩ := hrel
    obtain ⟨Nj, hNj⟩ : ∃ Nj, Nj = N + j * (N' + 1) := ⟨_, rfl⟩
    have hNjb : Nj ≤ 1000000000000 := by rw [hNj]; exact Nat.le_trans (HBD.out j (by omega)) HNN.out
    have hrq : RdZs wr wr.heap.size Nj AQ lq cq Q := rd_st hoq (by rw [hNj]; exact hst.out.zq)
    have hra : RdZs wr wr.heap.size Nj AA la cA K := rd_st hoa (by rw [hNj]; exact hst.out.zk)
    have HLA := Lib.hid hoa.len
    have HLQ := Lib.hid hoq.len
    have HNJ := Lib.hid hNj
    have HJN := Lib.hid (show j ≤ n + 1 by omega)
    clear hNj
    by_cases hla : la < m2
    · have hlai : (la : Int) < (m2 : Int) := by omega
      have hlb : decide (m2 ≤ la) = false := by simp; omega
      have HBE := Lib.hid (HBG.out _ hBg)
      have HO := Lib.hid hoq
      rcases Nat.eq_zero_or_pos la with h0 | h0
      · subst h0
        have HP := Lib.hid (show Pz.Nz Q ∧ (∀ t, Pz.co L t = Pz.cv (Pz.co Q) (Pz.co L') t) ∧ ∀ i, Zz.zl (Pz.co Q i) ≤ N + (n + 1) * (N' + 1) from ⟨hst.out.nq, Pz.exd_end hst.out.eq (fun t => Pz.co_ge (by rw [HLA.out]; exact Nat.zero_le _)), fun i => Nat.le_trans (hst.out.zq i) (HBD.out j HJN.out)⟩)
        clear hoa hoq hst hra hrq hBg hla
        go_wp2
        go_ret2
        exact ⟨_, _, _, Q, true, rfl, HO.out, Lib.hid (.inl ⟨rfl, HP.out⟩), HBE.out⟩
      · have h0i : ((la : Int) == 0) = false := by simp; omega
        have HP := Lib.hid (show ¬ Pz.Dvs (Pz.co L') (Pz.co L) from fun hd => by
          have h1 := Pz.exd_rest hst.out.eq hst.out.upq hd
          have h2 := Pz.dvs_low (HM2.out.up1 (HL2.out.trans HMS.out)) (HM2.out.top (HL2.out.trans HMS.out)) (r := Pz.co K) (fun i hi => Pz.co_ge (by rw [HLA.out]; have := HMS.out; omega)) h1 (K.length - 1)
          exact Pz.nz_top hst.out.nk (by rw [HLA.out]; exact h0) h2)
        clear hoa hoq hst hra hrq hBg hla
        go_wp2
        go_ret2
        exact ⟨_, _, _, Q, false, rfl, HO.out, Lib.hid (.inr ⟨rfl, HP.out⟩), HBE.out⟩
    · obtain ⟨k, hk⟩ : ∃ k, la = k + m2 := ⟨la - m2, by omega⟩
      have hki : (la : Int) - (m2 : Int) = (k : Int) := by omega
      have hlai : (m2 : Int) ≤ (la : Int) := by omega
      have hlan : m2 ≤ la := by omega
      have h0i : (0 : Int) < (la : Int) := by have := HMS.out; omega
      have h0n : 0 < la := by have := HMS.out; omega
      have HKP := Lib.hid hk
      have HKL := Lib.hid (show K.length = k + m + 1 by rw [HLA.out, hk, HMS.out, Nat.add_assoc])
      have HKK := Lib.hid (And.intro hlj hlq)
      have HOA := Lib.hid (And.intro hoa hoq)
      have HBW := Lib.hid (show ∀ W : World, Below wr.heap.size wr W → Below W2.heap.size W2 W from fun W hb => hBg.trans (hb.mono hBg.size))
      have HRA := Lib.hid (show ∀ W : World, Below wr.heap.size wr W → RdZs W W.heap.size Nj AA la cA K ∧ RdZs W W.heap.size Nj AQ lq cq Q from fun W hb => ⟨hra.next hb, hrq.next hb⟩)
      clear hla hk hoa hoq hra hrq hBg
      go_wp2_with fail
      refine (rzLead_any (HRA.out wr (Below.refl _ _)).1 (Pz.IsP.self hst.out.nk) HKL.out (by omega) (by omega)).mono ?_
      rintro _ W3 ⟨s3, A3, n3, c3, x, rfl, hr3, hn3, hx, hb3⟩
      go_wp2_with fail
      refine (rzLead_any (HRX.out W3 (HBW.out W3 hb3)) (Pz.IsP.self HM2.out.1) (m := m) (HL2.out.trans HMS.out) (by omega) (by omega)).mono ?_
      rintro _ W4 ⟨s4, A4, n4, c4, l, rfl, hr4, hn4, hl, hb4⟩
      have HLV := Lib.hid (show l = Pz.co L' m by rw [hl.out, HM2.out.2])
      have hb34 := hb3.trans (hb4.mono hb3.size)
      go_wp2_with fail
      refine (rIExact_any (hr3.next hb4) hr4 (by omega) (by omega) (by rw [HLV.out]; exact HL0.out)).mono ?_
      rintro _ W5 ⟨s5, A5, n5, c5, y, kk, rfl, ho5, hy, hb5⟩
      have hb35 := hb34.trans (hb5.mono hb34.size)
      have HB5 := Lib.hid hb35
      have HYZ := Lib.hid (show Zz.zl y ≤ Nj ∧ n5 = Zz.zl y from ⟨by
        rcases hy.out with ⟨_, e2, _⟩ | ⟨_, e2, _⟩
        · rw [e2]; refine Nat.le_trans (Zz.zl_tdiv x l) ?_; rw [hx.out, HNJ.out]; exact hst.out.zk _
        · rw [e2, Zz.zl_zero]; exact Nat.zero_le _, ho5.len⟩)
      obtain ⟨W6, HW6⟩ : ∃ W, W = W5.alloc (.cells #[.bool s5, .slice A5 n5 c5] 40) := ⟨_, rfl⟩
      have hb6 : Below W5.heap.size W5 W6 := by rw [HW6]; exact (Below.refl _ _).alloc (Nat.le_refl _) _
      have hZ6 : ZC W6 W5.heap.size s5 A5 n5 c5 := by rw [HW6]; exact ZC.new W5 s5 A5 n5 c5
      have hO6 := ho5.rd.next hb6
      have hb36 := hb35.trans (hb6.mono hb35.size)
      have HW6 := Lib.hid HW6
      have HX6 := Lib.hid (And.intro hZ6 (And.intro hO6 hb36))
      rcases hy.out with ⟨e1, e2, rfl⟩ | ⟨e1, e2, rfl⟩
      · have HCV := Lib.hid (show Pz.co L' m * y = Pz.co K (k + m) by rw [← HLV.out, ← hx.out, e2]; exact Int.mul_tdiv_cancel' (Int.dvd_of_tmod_eq_zero e1))
        have HCZ := Lib.hid (show Zz.zl y ≤ Zz.zl (Pz.co K (k + m)) by rw [e2, ← hx.out]; exact Zz.zl_tdiv x l)
        clear hy e1 e2 hb3 hb4 hb5 hb34 hb35 hb36 hb6 hZ6 hO6 ho5 hr3 hr4 hx hl
        have HN5 := Lib.hid (show n5 ≤ Nj by rw [HYZ.out.2]; exact HYZ.out.1)
        have HG6 := Lib.hid (show W6.heap.size = W5.heap.size + 1 by rw [HW6.out]; simp)
        have HKB := Lib.hid (show 1 + k ≤ 4398046511103 ∧ m2 + k ≤ 4398046511103 ∧ la ≤ 4398046511103 ∧ lq ≤ 4398046511103 by have := HKP.out; have := HKK.out; omega)
        go_wp2_with fail
        rw [← HW6.out, ← HG6.out]
        clear HW6
        clear HW6
        have hO6 := HX6.out.2.1
        have ha6 : Below W6.heap.size W6 (W6.alloc (.cells #[.bool s5, .slice A5 n5 c5] 40)) := (Below.refl _ _).alloc (Nat.le_refl _) _
        refine (rzShift_any k (zs_one hO6 HN5.out) (fun e => by cases e) HKB.out.1 (by omega)).mono ?_
        rintro _ W7 ⟨A7, n7, c7, M7, rfl, ho7, hM7, hb7⟩
        have hb67 := ha6.trans (hb7.mono (by simp))
        have hb37 := HX6.out.2.2.trans (hb67.mono HX6.out.2.2.size)
        have HR7 := Lib.hid (rd_of (N := Nj) ho7 hM7.out (sh_zl (sing_zl HYZ.out.1)))
        have hn7 : n7 ≤ 1 + k := by
          rw [← ho7.len]
          exact hM7.out.len fun t ht => by
            unfold sh
            rw [if_neg (by omega)]
            exact Pz.co_ge (by simp; omega)
        go_wp2_with fail
        refine (rzAdd_any (N := Nj) (N' := Nj) (HRA.out _ hb37).2 HR7.out HKB.out.2.2.2 (Nat.le_trans hn7 HKB.out.1) (by omega) (by omega)).mono ?_
        rintro _ W8 ⟨A8, n8, c8, M8, rfl, ho8, hM8, hb8⟩
        have hb68 := hb67.trans (hb8.mono hb67.size)
        have hb38 := hb37.trans (hb8.mono hb37.size)
        have hZ8 := HX6.out.1.next hb68
        have k0 := hZ8.c0
        have k1 := hZ8.c1
        go_wp2_with fail
        clear k0 k1
        refine (rzScale_any (N := N') (N' := Nj) (HRX.out W8 (HBW.out _ hb38)) (hO6.next hb68) (by omega) HN5.out (by omega) (by omega)).mono ?_
        rintro _ W9 ⟨A9, n9, c9, M9, rfl, ho9, hM9, hb9⟩
        have hb39 := hb38.trans (hb9.mono hb38.size)
        have hZ10 : ∀ i, Zz.zl (Pz.co K2 i * y) ≤ N' + Nj := fun i => by
          have e1 := Zz.zl_mul (Pz.co K2 i) y
          have e2 := HC.out.2 i
          have e3 := HYZ.out.1
          rw [← HM2.out.2] at e2
          omega
        have hn9 : n9 ≤ m2 := by
          rw [← ho9.len, ← HL2.out]
          exact hM9.out.len fun t ht => by rw [Pz.co_ge ht, Int.zero_mul]
        have HNIL := Lib.hid ho9.nilOk
        have hr9 := rd_of (N := N' + Nj) ho9 hM9.out hZ10
        go_wp2_with fail
        refine (rzShift_any k hr9 HNIL.out (by have := HKB.out.2.1; omega) (by omega)).mono ?_
        rintro _ W10 ⟨A10, n10, c10, M10, rfl, ho10, hM10, hb10⟩
        have hb310 := hb39.trans (hb10.mono hb39.size)
        have hr10 := rd_of (N := N' + Nj) ho10 hM10.out (sh_zl fun i => by rw [hM9.out.2]; exact hZ10 i)
        have hn10 : n10 ≤ m2 + k := by
          rw [← ho10.len]
          exact hM10.out.len fun t ht => by
            unfold sh
            rw [if_neg (by omega)]
            exact Pz.co_ge (by rw [ho9.len]; omega)
        go_wp2_with fail
        refine (rzSub_any (N := Nj) (N' := N' + Nj) (HRA.out _ hb310).1 hr10 HKB.out.2.2.1 (by have := HKB.out.2.1; omega) (by omega) (by omega)).mono ?_
        rintro _ W11 ⟨A11, n11, c11, M11, rfl, ho11, hM11, hb11⟩
        have hb311 := hb310.trans (hb11.mono hb310.size)
        have hst' := Pz.ex_step' hst.out (HM2.out.up1 (HL2.out.trans HMS.out)) HC.out.2 HCV.out HCZ.out HKL.out (show k < m1 - m by have := HKP.out; have := HMS.out; have := HKK.out.1; omega) hM8.out (fun i => hM7.out.2 i) hM11.out (fun i => (hM10.out.2 i).trans (by show (if i < k then 0 else Pz.co M9 (i - k)) = _; rw [hM9.out.2]; show (if i < k then 0 else Pz.co K2 (i - k) * y) = _; rw [HM2.out.2]))
        have HFIN := Lib.hid (show n11 + (j + 1) ≤ m1 ∧ n8 ≤ m1 ∧ n11 < la by
          have e1 := hst'.2
          have e2 := ho11.len
          have e3 := ho8.len
          have e4 := Pz.nz_len hst'.1.nq hst'.1.upq
          have := HKP.out
          have := HMS.out
          have := HKK.out.1
          omega)
        have HST' := Lib.hid hst'.1
        have HS7 := (HBG.out _ (HBW.out _ hb37)).size
        have HS10 := (HBG.out _ (HBW.out _ hb310)).size
        have HO11 := Lib.hid (ho11.base HS10)
        have HO8 := Lib.hid ((ho8.base HS7).next (hb9.trans ((hb10.trans (hb11.mono hb10.size)).mono hb9.size)))
        have HBF := Lib.hid (HBW.out _ hb311)
        clear hst' ho7 ho8 ho9 ho10 ho11 hb7 hb8 hb9 hb10 hb11 hb37 hb38 hb39 hb310 hb311 hb67 hb68 hr9 hr10 hZ8 hO6 ha6 hZ10
        go_wp2
        go_roundw
        case rel => exact ⟨j + 1, n11, c11, A11, M11, n8, c8, A8, M8, rfl, rfl, HO11.out, HO8.out, HST', HFIN.out.1, HFIN.out.2.1, HBF.out⟩
        case measure => simp only [slLen]; exact HFIN.out.2.2
      · have HP := Lib.hid (show ¬ Pz.Dvs (Pz.co L') (Pz.co L) from fun hd => by
          have h1 := Pz.exd_rest hst.out.eq hst.out.upq hd
          have h2 := Pz.dvs_top (p := k) (HM2.out.up1 (HL2.out.trans HMS.out)) (HM2.out.top (HL2.out.trans HMS.out)) (r := Pz.co K) (fun i hi => Pz.co_ge (by rw [HKL.out]; exact hi)) h1
          apply e1
          rw [hx.out, HLV.out]
          exact Int.tmod_eq_zero_of_dvd h2)
        have HBE := Lib.hid (HBG.out _ (HBW.out _ hb36))
        clear hy e1 e2 hst hb3 hb4 hb5 hb34 hb35 hb36 hb6 hZ6 hO6 ho5 hr3 hr4 hx hl
        go_wp2
        go_ret2
        rw [← HW6.out]
        exact ⟨none, 0, 0, [], false, rfl, OwZs.nil _ _, Lib.hid (.inr ⟨rfl, HP.out⟩), HBE.out⟩
end Go.Proofs.Ytipbpdiahemmpaa

/- Reference 07: division without fractions. -/
namespace Go.Proofs.Ytipbpdiahemmpaa
open Go.RowKit Go.IntWalk
attribute [local go_sem ↓] Go.wp_at_zero Go.wp_at_succ

/-- Quotient and rest come back. -/
def RetPr (l : Int) (S m N : Nat) (a b : Nat → Int) (w : World) (e : Ending) (w' : World) : Prop :=
  ∃ (A : Option Addr) (n c : Nat) (Q : List Int) (A' : Option Addr) (n' c' : Nat) (R : List Int), e = .returned (.tuple #[.slice A n c, .slice A' n' c']) ∧ OwZs w' w.heap.size A n c Q ∧ OwZs w' w.heap.size A' n' c' R ∧ Hid (Pz.Nz Q ∧ Pz.Nz R ∧ Pz.Psd l S a b (Pz.co Q) (Pz.co R) ∧ Pz.Up (Pz.co R) m ∧ Pz.Up (Pz.co Q) S ∧ (∀ i, Zz.zl (Pz.co Q i) ≤ N) ∧ (∀ i, Zz.zl (Pz.co R i) ≤ N)) ∧ Below w.heap.size w w'
theorem zs_built (w : World) (t : TypeId) (b : Nat) (hb : b ≤ w.heap.size) (ht : t = 40) : OwZs (w.alloc (.cells #[] t)) b (some ⟨w.heap.size, 0, none⟩) 0 0 [] := by
  subst ht
  exact ⟨[], ⟨rfl, .inr ⟨w.heap.size, 0, _, rfl, hb, heap_alloc_new w _, Nat.le_refl _, Nat.zero_le _, rfl, rfl⟩⟩, rfl, rfl, fun j e z he _ => by simp at he⟩

set_option maxRecDepth 100000 in
set_option maxHeartbeats 8000000 in
theorem rzPseudo_any {N N' : Nat} {A A' : Option Addr} {n c n' c' : Nat} {L L' M1 M2 : List Int} {w : World} (h : RdZs w w.heap.size N A n c L) (h' : RdZs w w.heap.size N' A' n' c' L') (hM1 : Pz.IsP (Pz.co L) M1) (hM2 : Pz.IsP (Pz.co L') M2) {m : Nat} (hm : M2.length = m + 1) (hn : n ≤ 1048576) (hn' : n' ≤ 1048576) (hN : N + (n + 1) * (N' + 1) ≤ 2199023255551) :
    Calls Try.prog 9 #[.slice A n c, .slice A' n' c'] w (RetPr (Pz.co L' m) (M1.length - m) m (N + (n + 1) * (N' + 1)) (Pz.co L) (Pz.co L') w) := by
  have HC := Lib.hid (And.intro (zl_co h) (zl_co h'))
  have HLN := Lib.hid (And.intro h.len h'.len)
  have HM1 := Lib.hid hM1
  have HM2 := Lib.hid hM2
  have HBD := Lib.hid (show ∀ j, j ≤ n + 1 → N + j * (N' + 1) ≤ N + (n + 1) * (N' + 1) from fun j hj => Nat.add_le_add_left (Nat.mul_le_mul_right _ hj) _)
  have hNN : N' ≤ 2199023255551 ∧ N ≤ 2199023255551 := by
    have := HBD.out 1 (by omega)
    omega
  obtain ⟨hN'b, hNb⟩ := hNN
  have HNN := Lib.hid hN
  clear hN hM1 hM2
  go_enter Try.func9, Try.ntmps9
  go_wp2_with fail
  refine (rzNorm_any h' (by omega) (by omega)).mono ?_
  rintro _ W1 ⟨A2, m2, c2, K2, rfl, ho2, hK2, hb1⟩
  go_wp2_with fail
  refine (rzNorm_any (h.next hb1) (by omega) (by omega)).mono ?_
  rintro _ W2 ⟨A1, m1, c1, K1, rfl, ho1, hK1, hb2⟩
  obtain rfl := hK1.out.unique HM1.out
  obtain rfl := hK2.out.unique HM2.out
  have hl1 := ho1.len
  have hl2 := ho2.len
  have hm1n : m1 ≤ n := by rw [← hl1]; exact HM1.out.len fun i hi => Pz.co_ge (by rw [HLN.out.1]; exact hi)
  have hm2n : m2 ≤ n' := by rw [← hl2]; exact HM2.out.len fun i hi => Pz.co_ge (by rw [HLN.out.2]; exact hi)
  have hm2 : m2 = m + 1 := by omega
  have HB := Lib.hid (hb1.trans (hb2.mono hb1.size))
  have ho2 := ho2.next hb2
  have hr2 := rd_of (N := N') ho2 HM2.out HC.out.2
  obtain ⟨W3, HW3⟩ : ∃ W, W = W2.alloc (.cells #[] 40) := ⟨_, rfl⟩
  have hb3 : Below W2.heap.size W2 W3 := by rw [HW3]; exact (Below.refl _ _).alloc (Nat.le_refl _) _
  have hq3 : OwZs W3 w.heap.size (some ⟨W2.heap.size, 0, none⟩) 0 0 [] := by rw [HW3]; exact zs_built W2 _ _ HB.out.size rfl
  have ho1 := (ho1.base hb1.size).next hb3
  have hr3 := hr2.next hb3
  have HL1 := Lib.hid hl1
  have HL2 := Lib.hid hl2
  have HMS := Lib.hid hm2
  have HB3 := Lib.hid (HB.out.trans (hb3.mono HB.out.size))
  have HW3 := Lib.hid HW3
  clear hb1 hb2 hb3 hl1 hl2 hm hm2 hK1 hK2 h h' hr2 ho2
  go_wp2_with fail
  rw [← HW3.out]
  clear HW3
  clear HW3
  refine (rzLead_any hr3 (Pz.IsP.self HM2.out.1) (m := m) (HL2.out.trans HMS.out) (by omega) (by omega)).mono ?_
  rintro _ W4 ⟨s4, A4, n4, c4, l, rfl, hr4, hn4, hl, hb4⟩
  have HLV := Lib.hid (show l = Pz.co L' m by rw [hl.out, HM2.out.2])
  obtain ⟨W5, HW5⟩ : ∃ W, W = W4.alloc (.cells #[.bool s4, .slice A4 n4 c4] 40) := ⟨_, rfl⟩
  have hZ5 : ZC W5 W4.heap.size s4 A4 n4 c4 := by rw [HW5]; exact ZC.new W4 s4 A4 n4 c4
  have hb5 : Below W4.heap.size W4 W5 := by rw [HW5]; exact (Below.refl _ _).alloc (Nat.le_refl _) _
  have HB5 := Lib.hid ((HB3.out.trans (hb4.mono HB3.out.size)).trans (hb5.mono (HB3.out.trans (hb4.mono HB3.out.size)).size))
  have hr5 := (hr3.next hb4).next hb5
  have hr4 := hr4.next hb5
  have ho1 := (ho1.next hb4).next hb5
  have hq5 := (hq3.next hb4).next hb5
  have HRX := Lib.hid (show ∀ W : World, Below W5.heap.size W5 W → RdZs W W.heap.size N' A2 m2 c2 K2 from fun W hb => hr5.next hb)
  have HRL := Lib.hid (show ∀ W : World, Below W5.heap.size W5 W → RdZ W W.heap.size s4 A4 n4 c4 l from fun W hb => hr4.next hb)
  have HBG := Lib.hid (show ∀ W : World, Below W5.heap.size W5 W → Below w.heap.size w W from fun W hb => HB5.out.trans (hb.mono HB5.out.size))
  have HST0 := Lib.hid (show Pz.St l (Pz.co L) (Pz.co L') N N' (m1 - m) 0 [] K1 from Pz.st_zero HM1.out HC.out.1)
  obtain ⟨g, hg⟩ : ∃ g, g = W4.heap.size := ⟨_, rfl⟩
  have HW5 := Lib.hid HW5
  have hsv : ∃ kv : Int, (m1 : Int) - (m2 : Int) = kv := ⟨_, rfl⟩
  obtain ⟨kv, hkv⟩ := hsv
  have HKV := Lib.hid hkv
  clear hr3 hq3 hl hb4 hb5 hr4 hr5 hkv
  go_wp2_with fail
  rw [← HW5.out, HKV.out]
  clear HW5
  clear HW5
  rw [← hg] at hZ5 ⊢
  have HG := Lib.hid (show g < W5.heap.size from hZ5.lt)
  clear hg
  go_loopw [6, 7, 9] (fun av qv sv wr => ∃ (j la cA : Nat) (AA : Option Addr) (K : List Int) (lq cq : Nat) (AQ : Option Addr) (Q : List Int) (k : Int), av = .slice AA la cA ∧ qv = .slice AQ lq cq ∧ sv = .int .i64 k ∧ OwZs wr w.heap.size AA la cA K ∧ OwZs wr w.heap.size AQ lq cq Q ∧ Hid (Pz.St l (Pz.co L) (Pz.co L') N N' (m1 - m) j Q K) ∧ Hid (k = kv - j ∧ j ≤ m1 - m ∧ la ≤ m1 ∧ (0 ≤ k → (la : Int) ≤ k + m2) ∧ (k < 0 → la ≤ m)) ∧ lq ≤ m1 ∧ Below W5.heap.size W5 wr ∧ ZC wr g s4 A4 n4 c4) (fun _ _ sv _ => (intOf sv + 1).toNat)
  case atStart => exact ⟨0, m1, c1, A1, K1, 0, 0, _, [], kv, rfl, rfl, rfl, ho1, hq5, HST0, Lib.hid (by have := HKV.out; have := HMS.out; omega), Nat.zero_le _, Below.refl _ _, hZ5⟩
  case round =>
    clear ho1 hq5 HST0 hZ5
    obtain ⟨j, la, cA, AA, K, lq, cq, AQ, Q, k, rfl, rfl, rfl, hoa, hoq, hst, HJ, hlq, hBg, hZ⟩ := hrel
    obtain ⟨Nj, hNj⟩ : ∃ Nj, Nj = N + j * (N' + 1) := ⟨_, rfl⟩
    have HJN := Lib.hid (show j ≤ n + 1 by have := HJ.out; omega)
    have hNjb : Nj ≤ 2199023255551 := by rw [hNj]; exact Nat.le_trans (HBD.out j HJN.out) HNN.out
    have hrq : RdZs wr wr.heap.size Nj AQ lq cq Q := rd_st hoq (by rw [hNj]; exact hst.out.zq)
    have hra : RdZs wr wr.heap.size Nj AA la cA K := rd_st hoa (by rw [hNj]; exact hst.out.zk)
    have HLA := Lib.hid hoa.len
    have HLQ := Lib.hid hoq.len
    have HNJ := Lib.hid hNj
    clear hNj
    by_cases hk0 : k < 0
    · have HP := Lib.hid (show Pz.Nz Q ∧ Pz.Nz K ∧ Pz.Psd (Pz.co L' m) (K1.length - m) (Pz.co L) (Pz.co L') (Pz.co Q) (Pz.co K) ∧ Pz.Up (Pz.co K) m ∧ Pz.Up (Pz.co Q) (K1.length - m) ∧ (∀ i, Zz.zl (Pz.co Q i) ≤ N + (n + 1) * (N' + 1)) ∧ (∀ i, Zz.zl (Pz.co K i) ≤ N + (n + 1) * (N' + 1)) by
        have hs := hst.out
        have hbd := HBD.out j HJN.out
        have hj : j = m1 - m := by have := HJ.out; have := HKV.out; have := HMS.out; omega
        have hla : la ≤ m := HJ.out.2.2.2.2 hk0
        rw [HL1.out, ← hj, ← HLV.out]
        rw [← hj] at hs
        exact ⟨hs.nq, hs.nk, hs.eq, fun i hi => Pz.co_ge (by rw [HLA.out]; omega), hs.upq, fun i => Nat.le_trans (hs.zq i) hbd, fun i => Nat.le_trans (hs.zk i) hbd⟩)
      have HO := Lib.hid (And.intro hoq hoa)
      have HBE := Lib.hid (HBG.out _ hBg)
      clear hoa hoq hst hra hrq hBg hZ
      go_wp2
      go_ret2
      exact ⟨_, _, _, Q, _, _, _, K, rfl, HO.out.1, HO.out.2, HP, HBE.out⟩
    · obtain ⟨kn, hkn⟩ : ∃ kn : Nat, k = (kn : Int) := ⟨k.toNat, by omega⟩
      have HJ2 := Lib.hid (show (kn : Int) = kv - j ∧ j < m1 - m ∧ la ≤ m1 ∧ la ≤ kn + m + 1 ∧ kn ≤ m1 by have h1 := HJ.out; have h2 := HKV.out; have h3 := HMS.out; have h4 := h1.2.2.2.1 (by omega); omega)
      subst hkn
      obtain ⟨p, hp⟩ : ∃ p, p = kn + m := ⟨_, rfl⟩
      have hpi : (kn : Int) + (m2 : Int) - 1 = (p : Int) := by have := HMS.out; omega
      have hk0i : (0 : Int) ≤ (kn : Int) := by omega
      have hknb : kn ≤ 1048576 := by have := HJ2.out; omega
      have HPV := Lib.hid hp
      clear hk0 HJ hp
      go_wp2_with fail
      refine (rzat_any p hra).mono ?_
      rintro _ W6 ⟨s6, A6, n6, c6, x, rfl, hr6, hn6, hx, hb6⟩
      have HXV := Lib.hid (show x = Pz.co K (kn + m) by rw [hx.out, HPV.out])
      obtain ⟨W7, HW7⟩ : ∃ W, W = W6.alloc (.cells #[.bool s6, .slice A6 n6 c6] 40) := ⟨_, rfl⟩
      have hb7 : Below W6.heap.size W6 W7 := by rw [HW7]; exact (Below.refl _ _).alloc (Nat.le_refl _) _
      have hZ7 : ZC W7 W6.heap.size s6 A6 n6 c6 := by rw [HW7]; exact ZC.new W6 s6 A6 n6 c6
      have hr7 := hr6.next hb7
      have hb67 := hb6.trans (hb7.mono hb6.size)
      have hZg := (hZ.next hb6).next hb7
      have HBW7 := Lib.hid (show ∀ W : World, Below W7.heap.size W7 W → Below W5.heap.size W5 W from fun W hb => (hBg.trans (hb67.mono hBg.size)).trans (hb.mono (hBg.trans (hb67.mono hBg.size)).size))
      have HW7 := Lib.hid HW7
      have HRQ := Lib.hid (show ∀ W : World, Below W7.heap.size W7 W → RdZs W W.heap.size Nj AQ lq cq Q ∧ RdZs W W.heap.size Nj AA la cA K ∧ RdZ W W.heap.size s6 A6 n6 c6 x from fun W hb => ⟨(hrq.next hb67).next hb, (hra.next hb67).next hb, hr7.next hb⟩)
      clear hx hr6 hrq hra hoa hoq hBg hb6 hb7 hb67
      go_upto_region 8 with fail
      rw [← HW7.out]
      clear HW7
      clear HW7
      obtain ⟨gc, hgc⟩ : ∃ gc, gc = W6.heap.size := ⟨_, rfl⟩
      rw [← hgc] at hZ7 ⊢
      have HCE := Lib.hid (show ∀ W : World, Below W7.heap.size W7 W → (W.cell? ⟨g, 0, none⟩ = some (.bool s4) ∧ W.cell? ⟨g, 1, none⟩ = some (.slice A4 n4 c4) ∧ W.cell? ⟨gc, 0, none⟩ = some (.bool s6) ∧ W.cell? ⟨gc, 1, none⟩ = some (.slice A6 n6 c6)) from fun W hb => ⟨(hZg.next hb).c0, (hZg.next hb).c1, (hZ7.next hb).c0, (hZ7.next hb).c1⟩)
      have HZG := Lib.hid (show ∀ W : World, Below W7.heap.size W7 W → ZC W g s4 A4 n4 c4 from fun W hb => hZg.next hb)
      have HKB := Lib.hid (show lq ≤ 4398046511103 ∧ la ≤ 4398046511103 ∧ m2 ≤ 4398046511103 ∧ 1 + kn ≤ 4398046511103 ∧ m2 + kn ≤ 4398046511103 by have := HJ2.out; omega)
      have HNB := Lib.hid (show Nj ≤ 4398046511102 ∧ N' ≤ 4398046511103 ∧ Nj + N' ≤ 4398046511102 ∧ N' + Nj ≤ 4398046511102 by omega)
      have HSQ := Lib.hid (show ∀ W : World, Below W7.heap.size W7 W → Calls Try.prog 21 #[.slice AQ lq cq, .agg #[.bool s4, .slice A4 n4 c4]] W (RetP (fun i => Pz.co Q i * l) W) from fun W hb => rzScale_any (N := Nj) (N' := N') (HRQ.out W hb).1 (HRL.out W (HBW7.out W hb)) HKB.out.1 hn4 (by omega) (by omega))
      have HSA := Lib.hid (show ∀ W : World, Below W7.heap.size W7 W → Calls Try.prog 21 #[.slice AA la cA, .agg #[.bool s4, .slice A4 n4 c4]] W (RetP (fun i => Pz.co K i * l) W) from fun W hb => rzScale_any (N := Nj) (N' := N') (HRQ.out W hb).2.1 (HRL.out W (HBW7.out W hb)) HKB.out.2.1 hn4 (by omega) (by omega))
      have HSB := Lib.hid (show ∀ W : World, Below W7.heap.size W7 W → Calls Try.prog 21 #[.slice A2 m2 c2, .agg #[.bool s6, .slice A6 n6 c6]] W (RetP (fun i => Pz.co K2 i * x) W) from fun W hb => rzScale_any (N := N') (N' := Nj) (HRX.out W (HBW7.out W hb)) (HRQ.out W hb).2.2 HKB.out.2.2.1 hn6 (by omega) (by omega))
      have HSH := Lib.hid (show ∀ (W : World) (b : Nat), RdZs W W.heap.size Nj (some ⟨b, 0, none⟩) 1 1 [x] → Calls Try.prog 36 #[.slice (some ⟨b, 0, none⟩) 1 1, .int .i64 kn] W (RetP (sh kn (Pz.co [x])) W) from fun W b hr => rzShift_any kn hr (fun e => by cases e) HKB.out.2.2.2.1 (by omega))
      have HXZ := Lib.hid (show Zz.zl x ≤ Nj by rw [HXV.out, HNJ.out]; exact hst.out.zk _)
      have HZQ := Lib.hid (show (∀ i, Zz.zl (Pz.co Q i * l) ≤ Nj + N') ∧ (∀ i, Zz.zl (Pz.co K i * l) ≤ Nj + N') ∧ (∀ i, Zz.zl (Pz.co K2 i * x) ≤ N' + Nj) from ⟨fun i => by
        have e1 := Zz.zl_mul (Pz.co Q i) l
        have e2 := hst.out.zq i
        have e3 := HC.out.2 m
        rw [← HLV.out] at e3
        rw [← HNJ.out] at e2
        omega, fun i => by
        have e1 := Zz.zl_mul (Pz.co K i) l
        have e2 := hst.out.zk i
        have e3 := HC.out.2 m
        rw [← HLV.out] at e3
        rw [← HNJ.out] at e2
        omega, fun i => by
        have e1 := Zz.zl_mul (Pz.co K2 i) x
        have e2 := HC.out.2 i
        have e3 := HXZ.out
        rw [← HM2.out.2] at e2
        omega⟩)
      have HD := Lib.hid (Below.refl W7.heap.size W7).drew
      have HDA := Lib.hid ((Below.refl W7.heap.size W7).alloc (Nat.le_refl _) (.cells #[.bool s6, .slice A6 n6 c6] 40)).drew
      have HRB := Lib.hid ((zs_one (HRQ.out W7 (Below.refl _ _)).2.2 hn6).next ((Below.refl _ _).drew))
      clear hZg hZ7 hgc hr7 hZ
      go_region_held3 (fun w' => w'.cell? ⟨g, 0, none⟩ = some (.bool s4) ∧ w'.cell? ⟨g, 1, none⟩ = some (.slice A4 n4 c4) ∧ w'.cell? ⟨gc, 0, none⟩ = some (.bool s6) ∧ w'.cell? ⟨gc, 1, none⟩ = some (.slice A6 n6 c6))
        (first | exact HCE.out _ HB10.out | exact HCE.out _ HB9.out | exact HCE.out _ HB8.out | exact HCE.out _ (HB8.out.alloc HB8.out.size _) | exact HCE.out _ HD.out | exact HCE.out _ HDA.out)
        (first
          | (go_at_call 21; refine (HSQ.out _ HD.out).mono ?_; rintro _ W8 ⟨A8, n8, c8, M8, rfl, ho8, hM8, hb8⟩; have HB8 := Lib.hid (HD.out.trans hb8); have HR8 := Lib.hid (rd_of (N := Nj + N') ho8 hM8.out HZQ.out.1); have HL8 := Lib.hid (Nat.le_trans (len_scaled ho8 hM8.out (Nat.le_of_eq HLQ.out)) HKB.out.1); have HRB8 := Lib.hid (zs_one (HRQ.out W8 HB8.out).2.2 hn6); have HA8 := Lib.hid ((Below.refl W8.heap.size W8).alloc (Nat.le_refl _) (.cells #[.bool s6, .slice A6 n6 c6] 40)))
          | (go_at_call 21; refine (HSQ.out _ HDA.out).mono ?_; rintro _ W8 ⟨A8, n8, c8, M8, rfl, ho8, hM8, hb8⟩; have HB8 := Lib.hid (HDA.out.trans (hb8.mono HDA.out.size)); have HR8 := Lib.hid (rd_of (N := Nj + N') ho8 hM8.out HZQ.out.1); have HL8 := Lib.hid (Nat.le_trans (len_scaled ho8 hM8.out (Nat.le_of_eq HLQ.out)) HKB.out.1); have HRB8 := Lib.hid (HRB.out.next hb8); have HA8 := Lib.hid (Below.refl W8.heap.size W8))
          | (go_at_call 36; refine (HSH.out _ _ HRB8.out).mono ?_; rintro _ W9 ⟨A9, n9, c9, M9, rfl, ho9, hM9, hb9⟩; have HA9 := Lib.hid (HA8.out.trans (hb9.mono HA8.out.size)); have HB9 := Lib.hid (HB8.out.trans (HA9.out.mono HB8.out.size)); have HR9 := Lib.hid (rd_of (N := Nj) ho9 hM9.out (sh_zl (sing_zl HXZ.out))); have HL9 := Lib.hid (show n9 ≤ 1 + kn by rw [← ho9.len]; exact hM9.out.len fun t ht => by unfold sh; rw [if_neg (by omega)]; exact Pz.co_ge (by simp; omega)))
          | (go_at_call 15; refine (rzAdd_any (N := Nj + N') (N' := Nj) (HR8.out.next HA9.out) HR9.out HL8.out (Nat.le_trans HL9.out HKB.out.2.2.2.1) (Nat.le_trans HNB.out.2.2.1 (by decide)) (Nat.le_trans HNB.out.1 (by decide))).mono ?_; rintro _ W10 ⟨A10, n10, c10, M10, rfl, ho10, hM10, hb10⟩; have HB10 := Lib.hid (HB9.out.trans (hb10.mono HB9.out.size))))
      all_goals
        have HX10 := Lib.hid (And.intro (ho10.base (Nat.le_trans (HBG.out _ (HBW7.out _ HB9.out)).size (Nat.le_refl _))) (And.intro hM8.out (And.intro hM9.out hM10.out)))
        have HD10 := Lib.hid HB10.out.drew
        have HY10 := Lib.hid (Below.refl W10.heap.size W10).drew
        clear hb8 hb9 hb10 ho8 ho9 ho10
        go_upto_region 9 with fail
        go_region_held3 (fun w' => w'.cell? ⟨g, 0, none⟩ = some (.bool s4) ∧ w'.cell? ⟨g, 1, none⟩ = some (.slice A4 n4 c4) ∧ w'.cell? ⟨gc, 0, none⟩ = some (.bool s6) ∧ w'.cell? ⟨gc, 1, none⟩ = some (.slice A6 n6 c6))
          (first | exact HCE.out _ HB14.out | exact HCE.out _ HB13.out | exact HCE.out _ HB12.out | exact HCE.out _ HB11.out | exact HCE.out _ HD10.out)
          (first
            | (have hx := HB11.out; clear hx; go_at_call 21; refine (HSB.out _ HB11.out).mono ?_; rintro _ W12 ⟨A12, n12, c12, M12, rfl, ho12, hM12, hb12⟩; have HB12 := Lib.hid (HB11.out.trans (hb12.mono HB11.out.size)); have HA12 := Lib.hid hb12; have HR12 := Lib.hid (rd_of (N := N' + Nj) ho12 hM12.out HZQ.out.2.2); have HNIL := Lib.hid ho12.nilOk; have HL12 := Lib.hid (len_scaled ho12 hM12.out (Nat.le_of_eq HL2.out)))
            | (go_at_call 21; refine (HSA.out _ HD10.out).mono ?_; rintro _ W11 ⟨A11, n11, c11, M11, rfl, ho11, hM11, hb11⟩; have HB11 := Lib.hid (HD10.out.trans (hb11.mono HD10.out.size)); have HA11 := Lib.hid (HY10.out.trans hb11); have HR11 := Lib.hid (rd_of (N := Nj + N') ho11 hM11.out HZQ.out.2.1); have HL11 := Lib.hid (Nat.le_trans (len_scaled ho11 hM11.out (Nat.le_of_eq HLA.out)) HKB.out.2.1))
            | (go_at_call 36; refine (rzShift_any kn HR12.out HNIL.out (Nat.le_trans (Nat.add_le_add_right HL12.out _) HKB.out.2.2.2.2) (Nat.le_trans HNB.out.2.2.2 (by decide))).mono ?_; rintro _ W13 ⟨A13, n13, c13, M13, rfl, ho13, hM13, hb13⟩; have HB13 := Lib.hid (HB12.out.trans (hb13.mono HB12.out.size)); have HA13 := Lib.hid (HA12.out.trans (hb13.mono HA12.out.size)); have HR13 := Lib.hid (rd_of (N := N' + Nj) ho13 hM13.out (sh_zl fun i => by rw [hM12.out.2]; exact HZQ.out.2.2 i)); have HL13 := Lib.hid (show n13 ≤ m2 + kn by rw [← ho13.len]; have h12 := HL12.out; have h13 := ho12.len; exact hM13.out.len fun t ht => by unfold sh; rw [if_neg (by omega)]; exact Pz.co_ge (by omega)))
            | (go_at_call 17; refine (rzSub_any (N := Nj + N') (N' := N' + Nj) (HR11.out.next HA13.out) HR13.out HL11.out (Nat.le_trans HL13.out HKB.out.2.2.2.2) HNB.out.2.2.1 HNB.out.2.2.2).mono ?_; rintro _ W14 ⟨A14, n14, c14, M14, rfl, ho14, hM14, hb14⟩; have HB14 := Lib.hid (HB13.out.trans (hb14.mono HB13.out.size))))
        have hst' := Pz.st_step' hst.out (HM2.out.up1 (HL2.out.trans HMS.out)) HC.out.2 HLV.out (show K.length ≤ kn + m + 1 by rw [HLA.out]; exact HJ2.out.2.2.2.1) (show kn < m1 - m by have := HJ2.out; have := HKV.out; have := HMS.out; omega) HX10.out.2.2.2 HX10.out.2.1.2 (fun i => (HX10.out.2.2.1.2 i).trans (by unfold sh; rw [HXV.out])) hM14.out hM11.out.2 (fun i => (hM13.out.2 i).trans (by show (if i < kn then 0 else Pz.co M12 (i - kn)) = _; rw [hM12.out.2]; show (if i < kn then 0 else Pz.co K2 (i - kn) * x) = _; rw [HM2.out.2, HXV.out]))
        have HFIN := Lib.hid (show ((kn : Int) - 1 = kv - ((j + 1 : Nat) : Int) ∧ j + 1 ≤ m1 - m ∧ n14 ≤ m1 ∧ (0 ≤ (kn : Int) - 1 → (n14 : Int) ≤ (kn : Int) - 1 + m2) ∧ ((kn : Int) - 1 < 0 → n14 ≤ m)) ∧ n10 ≤ m1 by
          have e1 := hst'.2
          have e2 := ho14.len
          have e3 := HX10.out.1.len
          have e4 := Pz.nz_len hst'.1.nq hst'.1.upq
          have := HJ2.out
          have := HMS.out
          have := HKV.out
          omega)
        have HST' := Lib.hid hst'.1
        have HO14 := Lib.hid (ho14.base (HBG.out _ (HBW7.out _ HB13.out)).size)
        have HO10 := Lib.hid (HX10.out.1.next (HA11.out.trans ((HA13.out.trans (hb14.mono HA13.out.size)).mono HA11.out.size)))
        have HBF := Lib.hid (HBW7.out _ HB14.out)
        have HZF := Lib.hid (HZG.out _ HB14.out)
        clear hst' ho11 ho12 ho13 ho14 hb11 hb12 hb13 hb14
        go_wp2
        go_roundw
        case rel => exact ⟨j + 1, n14, c14, A14, M14, n10, c10, A10, M10, _, rfl, rfl, rfl, HO14.out, HO10.out, HST', Lib.hid HFIN.out.1, HFIN.out.2, HBF.out, HZF.out⟩
        case measure => simp only [intOf]; omega
end Go.Proofs.Ytipbpdiahemmpaa
