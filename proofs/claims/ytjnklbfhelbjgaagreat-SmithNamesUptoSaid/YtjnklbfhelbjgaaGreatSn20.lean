/- rat.Common; qpoly.parts. -/
import Derived.Test.YtjnklbfhelbjgaaGreatSn19
import Derived.Test.YtjnklbfhelbjgaaGreatSn17
import Derived.Test.YtjnklbfhelbjgaaGreatSn09
import Derived.Test.YtjnklbfhelbjgaaGreatSn08
import Derived.Deep.RegionWith
import Derived.Test.YtjnklbfhelbjgaaGreatSn16
import Derived.Shelf.Small.Bits
import Derived.Test.YtjnklbfhelbjgaaGreatProg
import Derived.Test.YtjnklbfhelbjgaaGreatSn10
namespace Go.Proofs.YtjnklbfhelbjgaaGreat
open Go.RowKit Go.IntWalk
attribute [local go_sem ↓] Go.wp_at_zero Go.wp_at_succ
set_option maxRecDepth 100000 in
set_option maxHeartbeats 4000000 in
theorem common_any {N M : Nat} {A : Option Addr} {n c : Nat} {L : List Rat} {w : World} (h : RdQs w w.heap.size N A n c (L.map pr)) (hS : ∀ j, Zz.zl (denF 1 (L.take j)) ≤ M) (hn : n ≤ 1048576) (hN : N ≤ 200000000000) (hM : M ≤ 200000000000) (h1N : 1 ≤ N) :
  Calls Tryz.prog 118 #[.slice A n c] w fun e w' => ∃ (s : Bool) (A : Option Addr) (n c : Nat) (y : Int) (A' : Option Addr) (n' c' : Nat) (P : List Int) (kk : Int), e = .returned (.tuple #[.agg #[.bool s, .slice A n c], .slice A' n' c', .int .i64 kk]) ∧ OwZ w' w.heap.size s A n c y ∧ OwZs w' w.heap.size A' n' c' P ∧ Hid (y = denL L ∧ P = numL L ∧ kk = 0) ∧ Below w.heap.size w w' := by
 have heg := enters_of Tryz.func170 (by kernel_rfl) rfl
 have HSL := Lib.hid (h.szp h1N)
 have HS := Lib.hid hS
 obtain ⟨W1, HW1⟩ : ∃ W, W = w.alloc (.cells #[.bool false, .slice none 0 0] 25) := ⟨_, rfl⟩
 have hR : ZC W1 w.heap.size false none 0 0 := by rw [HW1]; exact ZC.new w false none 0 0
 have hB : Below w.heap.size w W1 := by rw [HW1]; exact (Below.refl w.heap.size w).alloc (Nat.le_refl _) _
 have HW1 := Lib.hid HW1
 have h1 := h.next hB
 clear hS
 go_enter Tryz.func118, Tryz.ntmps118
 go_wp2_with fail
 rw [← HW1.out]
 clear HW1
 clear HW1
 refine (made_common (d := denL L) (P := numL L) h1 hn (by omega) (fun p hp => by
  obtain ⟨x, _, rfl⟩ := List.mem_map.1 hp
  exact pr_ne x) heg (fun W A' c' b hb _ ho => by
  rw [map_qval_pr] at ho
  exact common_in ho HSL.out.mem HS.out hn hN hM h1N)).mono ?_
 rintro _ W2 ⟨s2, A2, n2, c2, y, A3, n3, c3, P, kk, rfl, ho, hoz, hy, hb2⟩
 obtain ⟨W3, HW3⟩ : ∃ W, W = W2.alloc (.cells #[.bool s2, .slice A2 n2 c2, .slice A3 n3 c3] 194) := ⟨_, rfl⟩
 have hb3 : Below W2.heap.size W2 W3 := by rw [HW3]; exact (Below.refl _ _).alloc (Nat.le_refl _) _
 have hC : CC W3 W2.heap.size s2 A2 n2 c2 A3 n3 c3 := by rw [HW3]; exact CC.new W2 s2 A2 n2 c2 A3 n3 c3
 have hb13 := hb2.trans (hb3.mono hb2.size)
 have hR3 := hR.next hb13
 have HB3 := Lib.hid (hB.trans (hb13.mono hB.size))
 have HLT := Lib.hid (show w.heap.size < W1.heap.size ∧ W1.heap.size ≤ W2.heap.size from ⟨hR.lt, hb2.size⟩)
 have HO3 := Lib.hid (And.intro (ho.next hb3) (hoz.next hb3))
 have q0 := hC.c0
 have q1 := hC.c1
 have q2 := hC.c2
 have HC := Lib.hid hC
 have HR := Lib.hid hR3
 have HW3 := Lib.hid HW3
 clear ho hoz hb2 hb3 hb13 hR hB h1 h hC hR3
 go_upto_region 2 with fail
 rw [← HW3.out]
 clear HW3
 clear HW3
 generalize W2.heap.size = gc at *
 have r0 := HR.out.c0
 have r1 := HR.out.c1
 have f0 := HR.out.fz 0
 have f1 := HR.out.fz 1
 have HD := Lib.hid (And.intro (HC.out.next (Below.refl W3.heap.size W3).drew) (HR.out.next (Below.refl W3.heap.size W3).drew))
 have d0 := HD.out.1.c0
 have d1 := HD.out.1.c1
 have d2 := HD.out.1.c2
 have d3 := HD.out.2.c0
 have d4 := HD.out.2.c1
 have d5 := HD.out.2.fz 0
 have d6 := HD.out.2.fz 1
 have hF := (HD.out.1.far (p := ⟨w.heap.size, 0, none⟩) (by have := HLT.out; simp; omega) (.bool s2)).far (p := ⟨w.heap.size, 1, none⟩) (by have := HLT.out; simp; omega) (.slice A2 n2 c2)
 have e2 := hF.c2
 have hlt : w.heap.size < W1.heap.size := HLT.out.1
 have HO9 := Lib.hid (And.intro (((HO3.out.1.keep (keep_set2 HR.out (.bool s2) (.slice A2 n2 c2))).next (Below.refl _ _).drew).base (Nat.le_of_lt hlt)) ((((HO3.out.2.far (p := ⟨w.heap.size, 0, none⟩) hlt (.bool s2)).far (p := ⟨w.heap.size, 1, none⟩) hlt (.slice A2 n2 c2)).next (Below.refl _ _).drew).base (Nat.le_of_lt hlt)))
 have HR9 := Lib.hid ((HR.out.store s2 A2 n2 c2).next (Below.refl _ _).drew)
 have hB9 := below_put2 HB3.out (Nat.le_refl w.heap.size) (.bool s2) (.slice A2 n2 c2)
 have HB9 := Lib.hid (hB9.trans ((Below.refl _ _).drew.mono hB9.size))
 clear hB9
 clear hF hlt
 go_region_with (fail)
 all_goals
  clear q0 q1 q2 r0 r1 f0 f1 d0 d1 d2 d3 d4 d5 d6 e2
  go_wp2
  generalize ((W3.setCell ⟨w.heap.size, 0, none⟩ (.bool s2)).setCell ⟨w.heap.size, 1, none⟩ (.slice A2 n2 c2)).drew = W9 at *
  have z0 := HR9.out.c0
  have z1 := HR9.out.c1
  exact bodyPost_ret (by simp [results, Tryz.results118, go_sem, z0, z1]) rfl ⟨s2, A2, n2, c2, y, A3, n3, c3, P, kk, rfl, HO9.out.1, HO9.out.2, hy, HB9.out⟩
def RetPt (d : Int) (P : List Int) (w : World) (e : Ending) (w' : World) : Prop :=
 ∃ (s : Bool) (A : Option Addr) (n c : Nat) (y : Int) (A' : Option Addr) (n' c' : Nat) (Q : List Int), e = .returned (.tuple #[.agg #[.bool s, .slice A n c], .slice A' n' c']) ∧ OwZ w' w.heap.size s A n c y ∧ OwZs w' w.heap.size A' n' c' Q ∧ Hid (y = d ∧ Q = P) ∧ Below w.heap.size w w'
set_option maxRecDepth 100000 in
set_option maxHeartbeats 4000000 in
theorem parts_any {N M : Nat} {A : Option Addr} {n c : Nat} {L : List Rat} {w : World} (h : RdQs w w.heap.size N A n c (L.map pr)) (hS : ∀ j, Zz.zl (denF 1 (L.take j)) ≤ M) (hn : n ≤ 1048576) (hN : N ≤ 200000000000) (hM : M ≤ 200000000000) (h1N : 1 ≤ N) :
  Calls Tryz.prog 217 #[.slice A n c] w (RetPt (denL L) (numL L) w) := by
 obtain ⟨W1, HW1⟩ : ∃ W, W = w.alloc (.cells #[.bool false, .slice none 0 0] 25) := ⟨_, rfl⟩
 have hR : ZC W1 w.heap.size false none 0 0 := by rw [HW1]; exact ZC.new w false none 0 0
 have hB : Below w.heap.size w W1 := by rw [HW1]; exact (Below.refl w.heap.size w).alloc (Nat.le_refl _) _
 have HW1 := Lib.hid HW1
 have h1 := h.next hB
 go_enter Tryz.func217, Tryz.ntmps217
 go_wp2_with fail
 rw [← HW1.out]
 clear HW1
 clear HW1
 refine (common_any h1 hS hn hN hM h1N).mono ?_
 rintro _ W2 ⟨s2, A2, n2, c2, y, A3, n3, c3, P, kk, rfl, ho, hoz, hy, hb2⟩
 obtain ⟨W3, HW3⟩ : ∃ W, W = W2.alloc (.cells #[.bool s2, .slice A2 n2 c2] 25) := ⟨_, rfl⟩
 have hb3 : Below W2.heap.size W2 W3 := by rw [HW3]; exact (Below.refl _ _).alloc (Nat.le_refl _) _
 have hC : ZC W3 W2.heap.size s2 A2 n2 c2 := by rw [HW3]; exact ZC.new W2 s2 A2 n2 c2
 have hb13 := hb2.trans (hb3.mono hb2.size)
 have hR3 := hR.next hb13
 have hB3 := hB.trans (hb13.mono hB.size)
 have hlt : w.heap.size < W1.heap.size := hR.lt
 have HV := Lib.hid (And.intro hy.out.1 hy.out.2.1)
 have HO9 := Lib.hid (And.intro (((ho.next hb3).keep (keep_set2 hR3 (.bool s2) (.slice A2 n2 c2))).base (Nat.le_of_lt hlt)) ((((hoz.next hb3).far (p := ⟨w.heap.size, 0, none⟩) hlt (.bool s2)).far (p := ⟨w.heap.size, 1, none⟩) hlt (.slice A2 n2 c2)).base (Nat.le_of_lt hlt)))
 have HR9 := Lib.hid (hR3.store s2 A2 n2 c2)
 have HB9 := Lib.hid (below_put2 hB3 (Nat.le_refl w.heap.size) (.bool s2) (.slice A2 n2 c2))
 have q0 := hC.c0
 have q1 := hC.c1
 have r0 := hR3.c0
 have r1 := hR3.c1
 have f0 := hR3.fz 0
 have f1 := hR3.fz 1
 rw [HW3] at q0 q1 r0 r1 f0 f1
 have HW3 := Lib.hid HW3
 clear ho hoz hb2 hb3 hb13 hR hB h1 h hC hR3 hB3 hlt hy
 go_wp2_with fail
 rw [← HW3.out]
 clear HW3 q0 q1 r0 r1 f0 f1
 clear HW3
 generalize (W3.setCell ⟨w.heap.size, 0, none⟩ (.bool s2)).setCell ⟨w.heap.size, 1, none⟩ (.slice A2 n2 c2) = W9 at *
 have z0 := HR9.out.c0
 have z1 := HR9.out.c1
 exact bodyPost_ret (by simp [results, Tryz.results217, go_sem, z0, z1]) rfl ⟨s2, A2, n2, c2, y, A3, n3, c3, P, rfl, HO9.out.1, HO9.out.2, HV, HB9.out⟩
end Go.Proofs.YtjnklbfhelbjgaaGreat

/- Products over one denominator. -/
namespace Pq
def pcv (a b : Nat → Rat) : Nat → Nat → Rat
 | 0, _ => 0
 | k + 1, t => pcv a b k t + (if k ≤ t then a k * b (t - k) else 0)
theorem pcv_succ (a b : Nat → Rat) (k t : Nat) : pcv a b (k + 1) t = pcv a b k t + (if k ≤ t then a k * b (t - k) else 0) := rfl
theorem pcv_cv (a b : Nat → Rat) (t : Nat) : ∀ n, pcv a b n t = cv (fun i => if i < n then a i else 0) b t
 | 0 => by
   rw [show (fun i => if i < 0 then a i else 0) = fun _ => (0 : Rat) from funext fun i => if_neg (Nat.not_lt_zero i), cv_zero_left]
   rfl
 | n + 1 => by
   have e : (fun i => if i < n + 1 then a i else 0) = fun i => (if i < n then a i else 0) + mono (a n) n i := by
    funext i
    unfold mono
    by_cases h1 : i < n
    ·rw [if_pos h1, if_pos (by omega), if_neg (by omega), Rat.add_zero]
    ·by_cases h2 : i = n
     ·subst h2
      rw [if_pos (by omega), if_neg h1, if_pos rfl, Rat.zero_add]
     ·rw [if_neg (by omega), if_neg h1, if_neg h2, Rat.add_zero]
   rw [pcv_succ, pcv_cv a b t n, e, cv_add_left, cv_mono]
theorem pcv_all {a : Nat → Rat} (b : Nat → Rat) {n : Nat} (h : Up a n) (t : Nat) : pcv a b n t = cv a b t := by
 rw [pcv_cv]
 congr 1
 funext i
 by_cases h1 : i < n
 ·rw [if_pos h1]
 ·rw [if_neg h1, h i (by omega)]
end Pq
namespace Go.Proofs.YtjnklbfhelbjgaaGreat
open Go.RowKit Go.IntWalk
theorem pcv_int {S T : Nat} {a b : Nat → Rat} {Z Y : Nat → Int} {D E : Int} (h : Com S a Z D) (h' : Com T b Y E) (t : Nat) : ∀ n, Pq.pcv a b n t = ((Pz.cvp Z Y n t : Int) : Rat) / ((D : Rat) * (E : Rat))
 | 0 => by
   show (0 : Rat) = _
   rw [Pz.cvp_zero, show ((0 : Int) : Rat) = 0 from rfl, Rat.div_def, Rat.zero_mul]
 | n + 1 => by
   have hD := int_ne h.ne
   have hE := int_ne h'.ne
   rw [Pq.pcv_succ, pcv_int h h' t n, Pz.cvp_succ, h.at_, h'.at_, divInt_div, divInt_div]
   by_cases h1 : n ≤ t
   ·rw [if_pos h1, if_pos h1, Rat.intCast_add, Rat.intCast_mul]
    grind
   ·rw [if_neg h1, if_neg h1, Int.add_zero, Rat.add_zero]
theorem com_pcv {S T n : Nat} {a b : Nat → Rat} {Z Y : Nat → Int} {D E : Int} (h : Com S a Z D) (h' : Com T b Y E) (hn : n < 4294967295) : Com (S + T + 1) (Pq.pcv a b n) (Pz.cvp Z Y n) (D * E) :=
 ⟨Int.mul_ne_zero h.ne h'.ne, fun t => by rw [pcv_int h h' t n, divInt_div, Rat.intCast_mul], fun t => Pz.cvp_zl h.sz h'.sz hn t, by have e1 := Zz.zl_mul D E; have e2 := h.dz; have e3 := h'.dz; omega⟩
theorem den_dvd' (z : Int) {d : Int} (hd : d ≠ 0) : ((Rat.divInt z d).den : Int) ∣ d := by
 rw [Rat.den_divInt, if_neg hd]
 exact Int.ofNat_dvd_left.2 (Nat.div_dvd_of_dvd (Nat.gcd_dvd_left _ _))
theorem com_den {S : Nat} {L : List Rat} {Z : Nat → Int} {D : Int} (h : Com S (Pq.co L) Z D) {x : Rat} (hx : x ∈ L) : (x.den : Int) ∣ D := by
 obtain ⟨i, _, rfl⟩ := Pq.mem_co hx
 rw [h.at_]
 exact den_dvd' _ h.ne
theorem denF_dvd_of {D : Int} : ∀ (L : List Rat) (g : Int), g ∣ D → (∀ x ∈ L, (x.den : Int) ∣ D) → denF g L ∣ D
 | [], g, h, _ => h
 | x :: L, g, h, hx => by
   refine denF_dvd_of L _ ?_ fun y hy => hx y (List.mem_cons_of_mem _ hy)
   have h1 : g.natAbs ∣ D.natAbs := Int.natAbs_dvd_natAbs.2 h
   have h2 : x.den ∣ D.natAbs := by
    have := Int.natAbs_dvd_natAbs.2 (hx x (List.mem_cons_self ..))
    simpa using this
   exact Int.ofNat_dvd_left.2 (Nat.lcm_dvd h1 h2)
theorem zl_dvd {x D : Int} (h : x ∣ D) (hD : D ≠ 0) : Zz.zl x ≤ Zz.zl D := Zz.zl_of_le (Nat.le_of_dvd (Int.natAbs_pos.2 hD) (Int.natAbs_dvd_natAbs.2 h))
theorem com_denF {S : Nat} {L : List Rat} {Z : Nat → Int} {D : Int} (h : Com S (Pq.co L) Z D) (j : Nat) : Zz.zl (denF 1 (L.take j)) ≤ S :=
 Nat.le_trans (zl_dvd (denF_dvd_of _ 1 (Int.one_dvd D) fun _ hx => com_den h (List.mem_of_mem_take hx)) h.ne) h.dz
theorem co_numL (L : List Rat) (i : Nat) : Pz.co (numL L) i = (Pq.co L i).num * (denL L).tdiv (Pq.co L i).den := by
 unfold numL
 rcases Nat.lt_or_ge i L.length with h | h
 ·rw [Pz.co_get (by rw [List.getElem?_map, Pq.get_co h]; rfl)]
 ·rw [Pz.co_ge (by rw [List.length_map]; exact h), Pq.co_ge h]
  show (0 : Int) = 0 * _
  rw [Int.zero_mul]
theorem parts_com {S : Nat} {L : List Rat} {Z : Nat → Int} {D : Int} (h : Com S (Pq.co L) Z D) : Com S (Pq.co L) (Pz.co (numL L)) (denL L) := by
 have hp := denF_pos L 1 (by decide)
 have hne : denL L ≠ 0 := by show denF 1 L ≠ 0; omega
 have hdv : ∀ i, ((Pq.co L i).den : Int) ∣ denL L := fun i => by
  rcases Nat.lt_or_ge i L.length with h1 | h1
  ·exact den_dvd L 1 _ (List.mem_of_getElem? (Pq.get_co h1))
  ·rw [Pq.co_ge h1]; exact Int.one_dvd _
 have hdd : denL L ∣ D := denF_dvd_of L 1 (Int.one_dvd D) fun _ hx => com_den h hx
 refine ⟨hne, fun i => ?_, fun i => ?_, Nat.le_trans (zl_dvd hdd h.ne) h.dz⟩
 ·obtain ⟨k, hk⟩ := hdv i
  have hx := qden_ne (Pq.co L i)
  rw [co_numL, hk, Int.mul_tdiv_cancel_left _ hx]
  conv => lhs; rw [← Rat.num_divInt_den (Pq.co L i)]
  rw [Rat.divInt_eq_divInt_iff hx (by rw [← hk]; exact hne)]
  grind
 ·obtain ⟨k, hk⟩ := hdv i
  obtain ⟨u, hu⟩ := hdd
  have hx := qden_ne (Pq.co L i)
  have e : Z i = Pz.co (numL L) i * u := by
   have h2 := h.at_ i
   rw [← Rat.num_divInt_den (Pq.co L i)] at h2
   have h3 := (Rat.divInt_eq_divInt_iff hx h.ne).1 h2
   rw [co_numL, hk, Int.mul_tdiv_cancel_left _ hx]
   have h4 : ((Pq.co L i).den : Int) * Z i = ((Pq.co L i).den : Int) * ((Pq.co L i).num * k * u) := by
    rw [hu, hk] at h3
    rw [Int.mul_comm _ (Z i), ← h3]
    grind
   exact Int.eq_of_mul_eq_mul_left hx h4
  have hu0 : u ≠ 0 := by
   rintro rfl
   rw [Int.mul_zero] at hu
   exact h.ne hu
  refine Nat.le_trans (Zz.zl_of_le ?_) (h.sz i)
  rw [e, Int.natAbs_mul]
  exact Nat.le_mul_of_pos_right _ (Int.natAbs_pos.2 hu0)
end Go.Proofs.YtjnklbfhelbjgaaGreat

/- zpoly: the product. -/
namespace Go.Proofs.YtjnklbfhelbjgaaGreat
open Go.RowKit Go.IntWalk
attribute [local go_sem ↓] Go.wp_at_zero Go.wp_at_succ
theorem isp_zl {f : Nat → Int} {M : List Int} {N : Nat} (h : Pz.IsP f M) (hf : ∀ i, Zz.zl (f i) ≤ N) : ∀ z ∈ M, Zz.zl z ≤ N := fun z hz => by
 obtain ⟨i, _, rfl⟩ := Pz.mem_co hz
 rw [h.2]
 exact hf i
set_option maxRecDepth 100000 in
set_option maxHeartbeats 8000000 in
theorem zmul_any {N N' : Nat} {A A' : Option Addr} {n c n' c' : Nat} {L L' : List Int} {w : World} (h : RdZs w w.heap.size N A n c L) (h' : RdZs w w.heap.size N' A' n' c' L') (hn : n ≤ 4294967290) (hn' : n' ≤ 4294967290) (hN : N ≤ 2199023255551) (hN' : N' ≤ 2199023255551) :
  Calls Tryz.prog 219 #[.slice A n c, .slice A' n' c'] w (RetP (Pz.cvp (Pz.co L) (Pz.co L') n) w) := by
 have HC := Lib.hid (And.intro (zl_co h) (zl_co h'))
 have HLN := Lib.hid (And.intro h.len h'.len)
 go_enter Tryz.func219, Tryz.ntmps219
 go_wp2_with fail
 refine (znorm_any h (by omega) (by omega)).mono ?_
 rintro _ W1 ⟨A1, m1, c1, M1, rfl, ho1, hM1, hb1⟩
 go_wp2_with fail
 refine (znorm_any (h'.next hb1) (by omega) (by omega)).mono ?_
 rintro _ W2 ⟨A2, m2, c2, M2, rfl, ho2, hM2, hb2⟩
 have hr1 := (ho1.next hb2).rd (N := N) (isp_zl hM1.out HC.out.1)
 have hr2 := ho2.rd (N := N') (isp_zl hM2.out HC.out.2)
 have hm1 : m1 ≤ n := by rw [← ho1.len]; exact hM1.out.len fun i hi => Pz.co_ge (by rw [HLN.out.1]; exact hi)
 have hm2 : m2 ≤ n' := by rw [← ho2.len]; exact hM2.out.len fun i hi => Pz.co_ge (by rw [HLN.out.2]; exact hi)
 have HLM := Lib.hid (And.intro ho1.len ho2.len)
 have HB := Lib.hid (hb1.trans (hb2.mono hb1.size))
 have HEQ := Lib.hid (show ∀ t, Pz.cvp (Pz.co L) (Pz.co L') n t = Pz.cvp (Pz.co M1) (Pz.co M2) m1 t from fun t => by
  rw [Pz.cvp_congr (fun i => (hM1.out.2 i).symm) (fun i => (hM2.out.2 i).symm)]
  exact Pz.cvp_stop' (fun i hi => Pz.co_ge (by rw [HLM.out.1]; exact hi)) hm1 t)
 have HCM := Lib.hid (show (∀ i, Zz.zl (Pz.co M1 i) ≤ N) ∧ (∀ i, Zz.zl (Pz.co M2 i) ≤ N') from ⟨fun i => by rw [hM1.out.2]; exact HC.out.1 i, fun i => by rw [hM2.out.2]; exact HC.out.2 i⟩)
 clear ho1 ho2 hb1 hb2 h h'
 rcases Nat.eq_zero_or_pos m1 with e1 | e1
 ·subst e1
  go_wp2
  go_ret
  exact ⟨none, 0, 0, [], rfl, OwZs.nil _ _, Lib.hid ⟨Pz.nz_nil, fun t => by rw [HEQ.out t, Pz.co_nil]; rfl⟩, HB.out⟩
 rcases Nat.eq_zero_or_pos m2 with e2 | e2
 ·subst e2
  have hmb : ((m1 : Int) == 0) = false := by simp; omega
  go_wp2
  go_ret
  exact ⟨none, 0, 0, [], rfl, OwZs.nil _ _, Lib.hid ⟨Pz.nz_nil, fun t => by
   rw [HEQ.out t, Pz.co_nil]
   have e3 : ∀ i, Pz.cvp (Pz.co M1) (Pz.co M2) i t = 0 := by
    intro i
    induction i with
    | zero => rfl
    | succ i ih =>
      rw [Pz.cvp_succ, ih, Pz.co_ge (L := M2) (i := t - i) (by rw [HLM.out.2]; omega)]
      simp
   exact (e3 m1).symm⟩, HB.out⟩
 have hmb : ((m1 : Int) == 0) = false := by simp; omega
 have hmb' : ((m2 : Int) == 0) = false := by simp; omega
 obtain ⟨m, hm⟩ : ∃ m, m = m1 + m2 - 1 := ⟨_, rfl⟩
 have hmi : (m1 : Int) + m2 - 1 = m := by omega
 have hmk := make_zs m (by omega)
 have hZ0 := ZB.made W2 m
 have hE0 := EntF.zeros (W2.alloc (.cells (zcs (List.replicate m (false, none, 0, 0))).toArray 25)) w.heap.size m
 have hbm : Below W2.heap.size W2 (W2.alloc (.cells (zcs (List.replicate m (false, none, 0, 0))).toArray 25)) := (Below.refl _ _).alloc (Nat.le_refl _) _
 have HM := Lib.hid hm
 clear hm
 go_wp2_with fail
 obtain ⟨g, hg⟩ : ∃ g, g = W2.heap.size := ⟨_, rfl⟩
 generalize W2.alloc (.cells (zcs (List.replicate m (false, none, 0, 0))).toArray 25) = W3 at *
 rw [← hg] at hZ0 hr1 hr2 hbm ⊢
 have HG := Lib.hid (show w.heap.size ≤ g by rw [hg]; exact HB.out.size)
 have HBG := Lib.hid (show ∀ W : World, Below g W2 W → Below w.heap.size w W from fun W hb => HB.out.trans (hb.mono HG.out))
 have HR1 := Lib.hid hr1
 have HR2 := Lib.hid hr2
 clear hmk hg hr1 hr2
 go_loopw [31] (fun iv wr => ∃ (i : Nat) (E : List Ent), iv = .int .i64 i ∧ i ≤ m1 ∧ ZB wr g E ∧ Hid (E.length = m) ∧ EntF wr w.heap.size E (Pz.cvp (Pz.co M1) (Pz.co M2) i) ∧ Below g W2 wr) (fun iv _ => m1 - (intOf iv).toNat)
 case atStart => exact ⟨0, _, rfl, Nat.zero_le _, hZ0, Lib.hid (by simp), hE0, hbm⟩
 case round =>
  clear hZ0 hE0 hbm
  obtain ⟨i, E, rfl, hi, hZ, hEl, hE, hBg⟩ := hrel
  have hB := HBG.out _ hBg
  by_cases him : i = m1
  ·subst him
   have ho := (hZ.own hE HG.out hEl.out (by unfold maxLen; omega))
   have hrd := ho.rd (N := N + N' + 1) (fun z hz => by
    obtain ⟨t, _, rfl⟩ := List.mem_map.1 hz
    exact Pz.cvp_zl HCM.out.1 HCM.out.2 (by omega) t)
   go_wp2_with fail
   refine (znorm_any hrd (by omega) (by omega)).mono ?_
   rintro _ W4 ⟨A4, n4, c4, M4, rfl, ho4, hM4, hb4⟩
   go_wp2
   go_ret
   refine ⟨_, _, _, M4, rfl, ho4.base hB.size, Lib.hid (hM4.out.congr fun t => ?_), hB.trans (hb4.mono hB.size)⟩
   rw [HEQ.out t]
   rcases Nat.lt_or_ge t m with ht | ht
   ·rw [Pz.co_get (z := Pz.cvp (Pz.co M1) (Pz.co M2) i t) (by rw [List.getElem?_map, List.getElem?_range ht]; rfl)]
   ·rw [Pz.co_ge (by simpa using ht), Pz.cvp_above (k := m2) (fun i hi => Pz.co_ge (by rw [HLM.out.2]; exact hi)) (by have := HM.out; omega)]
  ·have hil : i < m1 := by omega
   clear him
   have hili : (i : Int) < (m1 : Int) := by omega
   obtain ⟨ad, s, A3, n3, c3, x, rfl, hbk, hx0, hx1, hrx, hn3, hx⟩ := zs_at HR1.out hil
   obtain ⟨hy0, hy1⟩ := zs_cells hBg hbk hx0 hx1
   obtain ⟨W4, HW4⟩ : ∃ W, W = wr.alloc (.cells #[.bool s, .slice A3 n3 c3] 25) := ⟨_, rfl⟩
   have hX : ZC W4 wr.heap.size s A3 n3 c3 := by rw [HW4]; exact ZC.new wr s A3 n3 c3
   have hb4 : Below wr.heap.size wr W4 := by rw [HW4]; exact (Below.refl _ _).alloc (Nat.le_refl _) _
   have HW4 := Lib.hid HW4
   have HX := Lib.hid (show Pz.co M1 i = x from Pz.co_get hx.out)
   go_wp2_with fail
   rw [← HW4.out]
   clear HW4 hx0 hx1 hx hy0 hy1
   clear HW4
   obtain ⟨gx, hgx⟩ : ∃ g, g = wr.heap.size := ⟨_, rfl⟩
   rw [← hgx] at hX ⊢
   have HGX := Lib.hid (show g < gx by rw [hgx]; exact hZ.lt)
   clear hgx
   have hZ4 := hZ.next hb4
   have hE4 := hE.next hb4
   have hB4 := hBg.trans (hb4.mono (Nat.le_of_lt hZ.lt))
   have HRX := Lib.hid hrx
   clear hZ hE hB hBg hrx hb4
   go_loopw [38] (fun kv wr => ∃ (k : Nat) (E : List Ent), kv = .int .i64 k ∧ k ≤ m2 ∧ ZB wr g E ∧ Hid (E.length = m) ∧ EntF wr w.heap.size E (Pz.cvm (Pz.co M1) (Pz.co M2) i k) ∧ Below g W2 wr ∧ ZC wr gx s A3 n3 c3) (fun kv _ => m2 - (intOf kv).toNat)
   case atStart => exact ⟨0, E, rfl, Nat.zero_le _, hZ4, hEl, hE4.congr fun t => (Pz.cvm_zero _ _ _ _).symm, hB4, hX⟩
   case round =>
    clear hZ4 hE4 hB4 hX hEl
    obtain ⟨k, E, rfl, hk, hZ, hEl, hE, hBg, hX⟩ := hrel
    by_cases hkm : k = m2
    ·subst hkm
     go_wp2
     go_roundw
     case rel => exact ⟨i + 1, E, by go_num, by omega, hZ, hEl, hE.congr fun t => Pz.cvm_end (fun j hj => Pz.co_ge (by rw [HLM.out.2]; exact hj)) i t, hBg⟩
     case measure => simp [intOf]; omega
    ·have hkl : k < m2 := by omega
     clear hkm
     have hkli : (k : Int) < (m2 : Int) := by omega
     obtain ⟨ad', s', A5, n5, c5, y, rfl, hbk', hx0, hx1, hry, hn5, hy⟩ := zs_at HR2.out hkl
     obtain ⟨hy0, hy1⟩ := zs_cells hBg hbk' hx0 hx1
     obtain ⟨t, ht⟩ : ∃ t, t = i + k := ⟨_, rfl⟩
     have hti : (i : Int) + k = (t : Int) := by omega
     have htl : t < m := by have := HM.out; omega
     have htli : (t : Int) < (m : Int) := by omega
     have htw : IntKind.i64.wrap ((i : Int) + k) = (t : Int) := by rw [IntWalk.i64_in _ (by omega)]; exact hti
     have ht0 : (0 : Int) ≤ (t : Int) := by omega
     obtain ⟨W5, HW5⟩ : ∃ W, W = wr.alloc (.cells #[.bool s', .slice A5 n5 c5] 25) := ⟨_, rfl⟩
     have hY : ZC W5 wr.heap.size s' A5 n5 c5 := by rw [HW5]; exact ZC.new wr s' A5 n5 c5
     have hb5 : Below wr.heap.size wr W5 := by rw [HW5]; exact (Below.refl _ _).alloc (Nat.le_refl _) _
     have HW5 := Lib.hid HW5
     have HYV := Lib.hid (show Pz.co M2 k = y from Pz.co_get hy.out)
     go_upto_region 11 with fail
     rw [← HW5.out]
     clear HW5 hx0 hx1 hy0 hy1 hy
     clear HW5
     obtain ⟨gy, hgy⟩ : ∃ g, g = wr.heap.size := ⟨_, rfl⟩
     rw [← hgy] at hY ⊢
     clear hgy
     have hZ5 := hZ.next hb5
     have HX5 := Lib.hid (hX.next hb5)
     have HY5 := Lib.hid hY
     have HZ5 := Lib.hid hZ5
     have HE5 := Lib.hid (hE.next hb5)
     have HB5 := Lib.hid (hBg.trans (hb5.mono (Nat.le_of_lt hZ.lt)))
     have HRY := Lib.hid hry
     have HT := Lib.hid ht
     obtain ⟨e, he⟩ : ∃ e, E[t]? = some e := ⟨E[t]'(by rw [hEl.out]; exact htl), List.getElem?_eq_getElem _⟩
     obtain ⟨s0, A0, n0, c0⟩ := e
     have HE0 := Lib.hid (HE5.out t _ he)
     have HEE := Lib.hid he
     have HN0 := Lib.hid (show n0 ≤ N + N' + 1 by
      have e3 := HE0.out.len
      simp only at e3
      rw [e3]
      exact Pz.cvm_zl HCM.out.1 HCM.out.2 (by omega) k t)
     clear hZ hX hY hb5 hE hBg hry ht he hZ5 hti
     have HBD := Lib.hid (Below.refl W5.heap.size W5).drew
     have HGS := Lib.hid (show g ≤ W5.heap.size from Nat.le_of_lt HZ5.out.lt)
     have HMU := Lib.hid (imul_any (((HRX.out.below HB5.out).more HGS.out).next HBD.out) (((HRY.out.below HB5.out).more HGS.out).next HBD.out) (by omega) (by omega))
     have HLX := Lib.hid (show Zz.zl x ≤ N ∧ Zz.zl y ≤ N' from ⟨by rw [← HX.out]; exact HCM.out.1 i, by rw [← HYV.out]; exact HCM.out.2 k⟩)
     obtain ⟨k0, k1⟩ := HZ5.out.cells HEE.out
     have hx0 := HX5.out.c0
     have hx1 := HX5.out.c1
     have hy0 := HY5.out.c0
     have hy1 := HY5.out.c1
     simp only at k0 k1
     go_region_with (first
      | (go_at_call 146; refine HMU.out.mono ?_; rintro _ W6 ⟨s6, A6, n6, c6, z6, rfl, ho6, hz6, hb6⟩; have HB6 := Lib.hid (HBD.out.trans hb6); have la0 := ((HZ5.out.next HB6.out).cells HEE.out).1; have la1 := ((HZ5.out.next HB6.out).cells HEE.out).2; simp only at la0 la1)
      | (go_at_call 167; refine (add_any (HE0.out.next HB6.out).rd ho6.rd (by have := HN0.out; omega) (by rw [ho6.len, hz6.out]; have := Zz.zl_mul x y; have := HLX.out; omega)).mono ?_; rintro _ W7 ⟨s7, A7, n7, c7, z7, rfl, ho7, hz7, hb7⟩; have HB7 := Lib.hid (HB6.out.trans (hb7.mono HB6.out.size)); have lb0 := ((HZ5.out.next HB7.out).cells HEE.out).1; have lb1 := ((HZ5.out.next HB7.out).cells HEE.out).2; have lf0 := (HZ5.out.next HB7.out).frozen (t * 2); have lf1 := (HZ5.out.next HB7.out).frozen (t * 2 + 1); simp only at lb0 lb1))
     all_goals
      have HZ7 := Lib.hid ((HZ5.out.next HB7.out).store t (s7, A7, n7, c7))
      have HE7 := Lib.hid ((HE5.out.next HB7.out).store (j := t) (e := (s7, A7, n7, c7)) (z := z7) (HZ5.out.next HB7.out) (ho7.base (Nat.le_trans HG.out (Nat.le_trans HGS.out HB6.out.size))))
      have HX7 := Lib.hid (((HX5.out.next HB7.out).far (p := ⟨g, t * 2, none⟩) (Nat.ne_of_gt HGX.out) (.bool s7)).far (p := ⟨g, t * 2 + 1, none⟩) (Nat.ne_of_gt HGX.out) (.slice A7 n7 c7))
      have HBF := Lib.hid (((HB5.out.trans (HB7.out.mono HGS.out)).setCell (p := ⟨g, t * 2, none⟩) (Nat.le_refl _) (.bool s7)).setCell (p := ⟨g, t * 2 + 1, none⟩) (Nat.le_refl _) (.slice A7 n7 c7))
      have HFA := Lib.hid (show z7 = Pz.cvm (Pz.co M1) (Pz.co M2) i k (i + k) + Pz.co M1 i * Pz.co M2 k by rw [hz7.out, hz6.out, HT.out, HX.out, HYV.out])
      clear k0 k1 hx0 hx1 hy0 hy1 la0 la1 lb0 lb1 lf0 lf1 hb6 hb7 ho6 ho7
      go_wp2
      go_roundw
      case rel => exact ⟨k + 1, E.set t (s7, A7, n7, c7), by go_num, by omega, HZ7.out, Lib.hid (by rw [List.length_set]; exact hEl.out), HE7.out.congr fun u => by rw [Pz.cvm_step, HT.out, HFA.out], HBF.out, HX7.out⟩
      case measure => simp [intOf]; omega
end Go.Proofs.YtjnklbfhelbjgaaGreat

/- qpoly.mul. -/
namespace Go.Proofs.YtjnklbfhelbjgaaGreat
open Go.RowKit Go.IntWalk
attribute [local go_sem ↓] Go.wp_at_zero Go.wp_at_succ
set_option maxRecDepth 100000 in
set_option maxHeartbeats 4000000 in
theorem qmul_poly {N S T : Nat} {A A' : Option Addr} {n c n' c' : Nat} {La Lb : List Rat} {Z Y : Nat → Int} {D E : Int} {w : World} (h : RdQs w w.heap.size N A n c (La.map pr)) (h' : RdQs w w.heap.size N A' n' c' (Lb.map pr)) (hC : Com S (Pq.co La) Z D) (hC' : Com T (Pq.co Lb) Y E) (hnn : n + n' ≤ 1048576) (hN : N ≤ 200000000000) (hST : S + T + 1 ≤ 200000000000) (h1N : 1 ≤ N) :
  Calls Tryz.prog 183 #[.slice A n c, .slice A' n' c'] w (RetPq (Pq.cv (Pq.co La) (Pq.co Lb)) w) := by
 have hla := h.lenp
 have hlb := h'.lenp
 have HPC := Lib.hid (And.intro (parts_com hC) (parts_com hC'))
 have HDN := Lib.hid (And.intro (com_denF hC) (com_denF hC'))
 have HL := Lib.hid (And.intro hla hlb)
 have hn : n ≤ 1048576 := by omega
 have hn' : n' ≤ 1048576 := by omega
 clear hla hlb hC hC'
 go_enter Tryz.func183, Tryz.ntmps183
 go_wp2_with fail
 refine (parts_any h HDN.out.1 hn hN (by omega) h1N).mono ?_
 rintro _ W2 ⟨s2, A2, n2, c2, y2, A3, n3, c3, P, rfl, ho2, ho3, hv2, hb2⟩
 obtain ⟨rfl, rfl⟩ := hv2.out
 obtain ⟨W3, HW3⟩ : ∃ W, W = W2.alloc (.cells #[.bool s2, .slice A2 n2 c2] 25) := ⟨_, rfl⟩
 have hb3 : Below W2.heap.size W2 W3 := by rw [HW3]; exact (Below.refl _ _).alloc (Nat.le_refl _) _
 have hX : ZC W3 W2.heap.size s2 A2 n2 c2 := by rw [HW3]; exact ZC.new W2 s2 A2 n2 c2
 have hb13 := hb2.trans (hb3.mono hb2.size)
 have h'3 := h'.next hb13
 have ho2 := ho2.next hb3
 have ho3 := ho3.next hb3
 have HW3 := Lib.hid HW3
 clear hb2 hb3 h h' hv2
 go_wp2_with fail
 rw [← HW3.out]
 clear HW3
 clear HW3
 generalize W2.heap.size = g2 at *
 refine (parts_any h'3 HDN.out.2 hn' hN (by omega) h1N).mono ?_
 rintro _ W4 ⟨s4, A4, n4, c4, y4, A5, n5, c5, Q, rfl, ho4, ho5, hv4, hb4⟩
 obtain ⟨rfl, rfl⟩ := hv4.out
 obtain ⟨W5, HW5⟩ : ∃ W, W = W4.alloc (.cells #[.bool s4, .slice A4 n4 c4] 25) := ⟨_, rfl⟩
 have hb5 : Below W4.heap.size W4 W5 := by rw [HW5]; exact (Below.refl _ _).alloc (Nat.le_refl _) _
 have hY : ZC W5 W4.heap.size s4 A4 n4 c4 := by rw [HW5]; exact ZC.new W4 s4 A4 n4 c4
 have hb35 := hb4.trans (hb5.mono hb4.size)
 have hX5 := hX.next hb35
 have ho2 := ho2.next hb35
 have ho3 := ho3.next hb35
 have ho4 := ho4.next hb5
 have ho5 := ho5.next hb5
 have HB5 := Lib.hid (hb13.trans (hb35.mono hb13.size))
 have HLP := Lib.hid (show n3 = n ∧ n5 = n' from ⟨by rw [← ho3.len, ← HL.out.1]; exact List.length_map .., by rw [← ho5.len, ← HL.out.2]; exact List.length_map ..⟩)
 have HW5 := Lib.hid HW5
 clear hb4 hb5 hb13 hb35 hX h'3 hv4
 go_upto_region 3 with fail
 rw [← HW5.out]
 clear HW5
 clear HW5
 generalize W4.heap.size = g4 at *
 have HCE := Lib.hid (show ∀ W : World, Below W5.heap.size W5 W → W.cell? ⟨g2, 0, none⟩ = some (.bool s2) ∧ W.cell? ⟨g2, 1, none⟩ = some (.slice A2 n2 c2) ∧ W.cell? ⟨g4, 0, none⟩ = some (.bool s4) ∧ W.cell? ⟨g4, 1, none⟩ = some (.slice A4 n4 c4) from fun W hb => ⟨(hX5.next hb).c0, (hX5.next hb).c1, (hY.next hb).c0, (hY.next hb).c1⟩)
 have HZ := Lib.hid (show ∀ W : World, Below W5.heap.size W5 W → RdZ W W.heap.size s2 A2 n2 c2 (denL La) ∧ RdZ W W.heap.size s4 A4 n4 c4 (denL Lb) ∧ RdZs W W.heap.size S A3 n3 c3 (numL La) ∧ RdZs W W.heap.size T A5 n5 c5 (numL Lb) from fun W hb => ⟨(ho2.next hb).rd, (ho4.next hb).rd, rd_st (ho3.next hb) HPC.out.1.sz, rd_st (ho5.next hb) HPC.out.2.sz⟩)
 have HNN := Lib.hid (show n2 ≤ S ∧ n4 ≤ T from ⟨by rw [ho2.len]; exact HPC.out.1.dz, by rw [ho4.len]; exact HPC.out.2.dz⟩)
 have HBD := Lib.hid (Below.refl W5.heap.size W5).drew
 have hn3 : n3 ≤ 1048576 := by rw [HLP.out.1]; exact hn
 have hn5 : n5 ≤ 1048576 := by rw [HLP.out.2]; exact hn'
 obtain ⟨a0, a1, b0, b1⟩ := HCE.out W5 (Below.refl _ _)
 clear ho2 ho3 ho4 ho5 hX5 hY
 go_region_held3 (fun w' => w'.cell? ⟨g2, 0, none⟩ = some (.bool s2) ∧ w'.cell? ⟨g2, 1, none⟩ = some (.slice A2 n2 c2) ∧ w'.cell? ⟨g4, 0, none⟩ = some (.bool s4) ∧ w'.cell? ⟨g4, 1, none⟩ = some (.slice A4 n4 c4))
  (first | exact HCE.out _ HB8.out | exact HCE.out _ HB7.out | exact HCE.out _ HB6.out | exact HCE.out _ HBD.out)
  (first
   | (go_at_call 218; refine (qover_any (N := S + T + 1) HR6.out ho7.rd HN7.out HN6.out hST HNZ.out).mono ?_; rintro _ W8 ⟨A8, n8, c8, M8, rfl, ho8, hM8, hb8⟩; have HB8 := Lib.hid (HB7.out.trans (hb8.mono HB7.out.size)))
   | (have hx := HB6.out; clear hx; go_at_call 146; refine (imul_any (HZ.out _ HB6.out).1 (HZ.out _ HB6.out).2.1 (by have := HNN.out; omega) (by have := HNN.out; omega)).mono ?_; rintro _ W7 ⟨s7, A7, n7, c7, y7, rfl, ho7, hy7, hb7⟩; have HB7 := Lib.hid (HB6.out.trans (hb7.mono HB6.out.size)); have HR6 := Lib.hid (HR6.out.next hb7); have HN7 := Lib.hid (show n7 ≤ S + T + 1 by { rw [ho7.len, hy7.out]; have e1 := Zz.zl_mul (denL La) (denL Lb); have e2 := HPC.out.1.dz; have e3 := HPC.out.2.dz; omega }); have HNZ := Lib.hid (show y7 ≠ 0 by { rw [hy7.out]; exact Int.mul_ne_zero HPC.out.1.ne HPC.out.2.ne }))
   | (go_at_call 219; refine (zmul_any (HZ.out _ HBD.out).2.2.1 (HZ.out _ HBD.out).2.2.2 (by omega) (by omega) (by omega) (by omega)).mono ?_; rintro _ W6 ⟨A6, n6, c6, M6, rfl, ho6, hM6, hb6⟩; have HB6 := Lib.hid (HBD.out.trans hb6); have HR6 := Lib.hid (rd_of' ho6 hM6.out.2 (fun t => (com_pcv HPC.out.1 HPC.out.2 (n := n3) (by omega)).sz t)); have HN6 := Lib.hid (show n6 ≤ 1048576 by { rw [← ho6.len]; exact Nat.le_trans (Pz.nz_len hM6.out.1 (k := n3 + n5) fun i hi => by { rw [hM6.out.2]; exact Pz.cvp_above (k := n5) (fun t ht => Pz.co_ge (by { show (List.map _ Lb).length ≤ t; rw [List.length_map, HL.out.2, ← HLP.out.2]; exact ht })) (by omega) }) (by rw [HLP.out.1, HLP.out.2]; exact hnn) })))
 all_goals
  have HF := Lib.hid (HB5.out.trans (HB8.out.mono HB5.out.size))
  have HO := Lib.hid (ho8.base (b' := w.heap.size) (Nat.le_trans HB5.out.size HB7.out.size))
  have HV := Lib.hid (show Pq.IsP (Pq.cv (Pq.co La) (Pq.co Lb)) M8 from hM8.out.congr fun i => by
   have e1 := (com_pcv HPC.out.1 HPC.out.2 (n := n3) (by omega)).at_ i
   rw [hM6.out.2, hy7.out, ← e1]
   exact Pq.pcv_all _ (fun k hk => Pq.co_ge (by rw [HL.out.1, ← HLP.out.1]; exact hk)) i)
  clear a0 a1 b0 b1 hb6 hb7 hb8 ho6 ho7 ho8
  go_wp2
  go_ret
  exact ⟨_, _, _, M8, rfl, HO.out, HV, HF.out⟩
end Go.Proofs.YtjnklbfhelbjgaaGreat

/- qpoly.Gcd along told chains; the examples' chains. -/
namespace Go.Proofs.YtjnklbfhelbjgaaGreat
open Go.RowKit Go.IntWalk
attribute [local go_sem ↓] Go.wp_at_zero Go.wp_at_succ
end Go.Proofs.YtjnklbfhelbjgaaGreat
