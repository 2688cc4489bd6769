/- zpoly: one step of the chain. -/
import Derived.Test.YtipbpdiahemmpaaGreatQ17
namespace Go.Proofs.YtipbpdiahemmpaaGreat
open Go.RowKit Go.IntWalk
attribute [local go_sem ↓] Go.wp_at_zero Go.wp_at_succ

/-- A list and an integer in memory: slice and cells. -/
structure KV where
  A : Option Addr
  n : Nat
  c : Nat
structure IV where
  s : Bool
  A : Option Addr
  n : Nat
  c : Nat
/-- The six cells of a chain. -/
def KC (w : World) (g : Nat) (a b : KV) (x y : IV) : Prop := w.heap[g]? = some (.cells #[.slice a.A a.n a.c, .slice b.A b.n b.c, .bool x.s, .slice x.A x.n x.c, .bool y.s, .slice y.A y.n y.c] 213 (0, 0))
section
variable {w w' : World} {g B : Nat} {a b a' b' : KV} {x y x' : IV}
theorem KC.lt (h : KC w g a b x y) : g < w.heap.size := (Array.getElem?_eq_some_iff.1 h).1
theorem KC.cs (h : KC w g a b x y) : w.cell? ⟨g, 0, none⟩ = some (.slice a.A a.n a.c) ∧ w.cell? ⟨g, 1, none⟩ = some (.slice b.A b.n b.c) ∧ w.cell? ⟨g, 2, none⟩ = some (.bool x.s) ∧ w.cell? ⟨g, 3, none⟩ = some (.slice x.A x.n x.c) ∧ w.cell? ⟨g, 4, none⟩ = some (.bool y.s) ∧ w.cell? ⟨g, 5, none⟩ = some (.slice y.A y.n y.c) :=
  ⟨(cell_of_row w g 0 _ _ _ h).trans rfl, (cell_of_row w g 1 _ _ _ h).trans rfl, (cell_of_row w g 2 _ _ _ h).trans rfl, (cell_of_row w g 3 _ _ _ h).trans rfl, (cell_of_row w g 4 _ _ _ h).trans rfl, (cell_of_row w g 5 _ _ _ h).trans rfl⟩
theorem KC.fz (h : KC w g a b x y) (j : Nat) : w.frozen? ⟨g, j, none⟩ = false := frozen_of_row w g j _ _ h
theorem KC.next (h : KC w g a b x y) (hb : Below w.heap.size w w') : KC w' g a b x y := (hb.block g h.lt).trans h
theorem KC.put01 (h : KC w g a b x y) (a' b' : KV) : KC ((w.setCell ⟨g, 0, none⟩ (.slice a'.A a'.n a'.c)).setCell ⟨g, 1, none⟩ (.slice b'.A b'.n b'.c)) g a' b' x y := by
  unfold KC at *
  simp [World.setCell, Array.getElem?_modify, h]
theorem KC.put23 (h : KC w g a b x y) (x' : IV) : KC ((w.setCell ⟨g, 2, none⟩ (.bool x'.s)).setCell ⟨g, 3, none⟩ (.slice x'.A x'.n x'.c)) g a b x' y := by
  unfold KC at *
  simp [World.setCell, Array.getElem?_modify, h]
theorem KC.put45 (h : KC w g a b x y) (x' : IV) : KC ((w.setCell ⟨g, 4, none⟩ (.bool x'.s)).setCell ⟨g, 5, none⟩ (.slice x'.A x'.n x'.c)) g a b x x' := by
  unfold KC at *
  simp [World.setCell, Array.getElem?_modify, h]
theorem KC.heapcell (h : KC w g a b x y) (u v : Value) : ((w.setCell ⟨g, 2, none⟩ u).setCell ⟨g, 3, none⟩ v).cell? ⟨g, 0, none⟩ = some (.slice a.A a.n a.c) := by
  unfold KC at h
  simp [World.setCell, World.cell?, Array.getElem?_modify, h]
theorem KC.new (w : World) (a b : KV) (x y : IV) : KC (w.alloc (.cells #[.slice a.A a.n a.c, .slice b.A b.n b.c, .bool x.s, .slice x.A x.n x.c, .bool y.s, .slice y.A y.n y.c] 213)) w.heap.size a b x y := heap_alloc_new w _
theorem keepT_chain (h : KC w g a b x y) (j j' : Nat) (u v : Value) : KeepT w ((w.setCell ⟨g, j, none⟩ u).setCell ⟨g, j', none⟩ v) := fun i cs f e => by
  have hne : i ≠ g := by
    rintro rfl
    unfold KC at h
    rw [h] at e
    simp at e
  rw [Below.heap_setCell _ (⟨g, j', none⟩ : Addr) _ i hne, Below.heap_setCell _ (⟨g, j, none⟩ : Addr) _ i hne]
  exact e
theorem zs_chain {b0 : Nat} {A : Option Addr} {n c : Nat} {L : List Int} (hz : OwZs w b0 A n c L) (h : KC w g a b x y) (j j' : Nat) (u v : Value) : OwZs ((w.setCell ⟨g, j, none⟩ u).setCell ⟨g, j', none⟩ v) b0 A n c L := by
  obtain ⟨E, hr, hE, hel⟩ := hz
  have hk := keepT_chain h j j' u v
  refine ⟨E, ⟨hr.1, ?_⟩, hE, ⟨hel.1, fun j e z he hz => (hel.2 j e z he hz).keep hk⟩⟩
  rcases hr.2 with h0 | ⟨g2, cap, cur, h1, h2, h3, h4⟩
  · exact .inl h0
  · have hne : g2 ≠ g := by
      rintro rfl
      unfold KC at h
      rw [h] at h3
      simp at h3
    exact .inr ⟨g2, cap, cur, h1, h2, ((Below.heap_setCell _ (⟨g, j', none⟩ : Addr) _ g2 hne).trans (Below.heap_setCell _ (⟨g, j, none⟩ : Addr) _ g2 hne)).trans h3, h4⟩
theorem below_chain (hb : Below B w w') (hg : B ≤ g) (j j' : Nat) (u v : Value) : Below B w ((w'.setCell ⟨g, j, none⟩ u).setCell ⟨g, j', none⟩ v) :=
  (hb.setCell (p := ⟨g, j, none⟩) hg _).setCell (p := ⟨g, j', none⟩) hg _
end
/-- A chain's state. -/
structure CS (w : World) (b0 g : Nat) (a b : KV) (x y : IV) (La Lb : List Int) (gv hv : Int) : Prop where
  kc : KC w g a b x y
  oa : OwZs w b0 a.A a.n a.c La
  ob : OwZs w b0 b.A b.n b.c Lb
  og : OwZ w b0 x.s x.A x.n x.c gv
  oh : OwZ w b0 y.s y.A y.n y.c hv
theorem CS.next {w w' : World} {b0 g : Nat} {a b : KV} {x y : IV} {La Lb : List Int} {gv hv : Int} (h : CS w b0 g a b x y La Lb gv hv) (hb : Below w.heap.size w w') : CS w' b0 g a b x y La Lb gv hv := ⟨h.kc.next hb, h.oa.next hb, h.ob.next hb, h.og.next hb, h.oh.next hb⟩

set_option maxRecDepth 100000 in
set_option maxHeartbeats 2000000 in
theorem step_zero {w : World} {b0 g : Nat} {a b : KV} {x y : IV} {La : List Int} {gv hv : Int} (h : CS w b0 g a b x y La [] gv hv) :
    Calls Tryz.prog 261 #[.pointer (some ⟨g, 0, none⟩)] w fun e w' => e = .returned (.bool false) ∧ Below w.heap.size w w' := by
  obtain ⟨k0, k1, k2, k3, k4, k5⟩ := h.kc.cs
  have hn : b.n = 0 := h.ob.len.symm
  rw [hn] at k1
  go_enter Tryz.func261, Tryz.ntmps261
  go_wp2
  go_ret
  exact ⟨rfl, Below.refl _ _⟩

set_option maxRecDepth 100000 in
set_option maxHeartbeats 8000000 in
theorem step_go {w : World} {b0 g : Nat} {a b : KV} {x y : IV} {La Lb Q R : List Int} {gv hv : Int} (h : CS w b0 g a b x y La Lb gv hv) (hb0 : b0 ≤ w.heap.size) (hza : Pz.Nz La) (hzb : Pz.Nz Lb) {m : Nat} (hlb : Lb.length = m + 1) (hla : La.length = m + 2) (hm : m ≤ 100)
    (hsa : ∀ z ∈ La, z.natAbs < 4294967296) (hsb : ∀ z ∈ Lb, z.natAbs < 4294967296) (hsg : gv.natAbs < 65536) (hsh : hv.natAbs < 65536) (hg0 : gv ≠ 0) (hh0 : hv ≠ 0) (hp : Pz.Psd (Pz.co Lb m) 2 (Pz.co La) (Pz.co Lb) (Pz.co Q) (Pz.co R)) (hQ : Pz.Up (Pz.co Q) 2) (hR : Pz.Nz R) (hRu : R.length ≤ m) :
    Calls Tryz.prog 261 #[.pointer (some ⟨g, 0, none⟩)] w fun e w' => ∃ (b' : KV) (x' y' : IV), e = .returned (.bool true) ∧ CS w' b0 g b b' x' y' Lb (R.map (exq (gv * hv))) (Pz.co Lb m) (Pz.co Lb m) ∧ Below g w w' := by
  have H := Lib.hid h
  have hbn : b.n = m + 1 := by rw [← hlb]; exact h.ob.len.symm
  have han : a.n = m + 2 := by rw [← hla]; exact h.oa.len.symm
  obtain ⟨k0, k1, k2, k3, k4, k5⟩ := h.kc.cs
  rw [han] at k0
  rw [hbn] at k1
  have HN := Lib.hid (And.intro han hbn)
  have HXX := Lib.hid (show ∀ W : World, Below w.heap.size w W → (W.cell? ⟨g, 0, none⟩ = some (.slice a.A (m + 2) a.c) ∧ W.cell? ⟨g, 1, none⟩ = some (.slice b.A (m + 1) b.c) ∧ W.cell? ⟨g, 2, none⟩ = some (.bool x.s) ∧ W.cell? ⟨g, 3, none⟩ = some (.slice x.A x.n x.c) ∧ W.cell? ⟨g, 4, none⟩ = some (.bool y.s) ∧ W.cell? ⟨g, 5, none⟩ = some (.slice y.A y.n y.c)) from fun W hb => by
    have := (H.out.kc.next hb).cs
    rw [han, hbn] at this
    exact this)
  clear han hbn h
  go_enter Tryz.func261, Tryz.ntmps261
  go_wp2_with fail
  have HD1 := Lib.hid (Below.refl w.heap.size w).drew
  go_upto_region 3 with fail
  go_region_held3 (fun w' => w'.cell? ⟨g, 0, none⟩ = some (.slice a.A (m + 2) a.c) ∧ w'.cell? ⟨g, 1, none⟩ = some (.slice b.A (m + 1) b.c) ∧ w'.cell? ⟨g, 2, none⟩ = some (.bool x.s) ∧ w'.cell? ⟨g, 3, none⟩ = some (.slice x.A x.n x.c) ∧ w'.cell? ⟨g, 4, none⟩ = some (.bool y.s) ∧ w'.cell? ⟨g, 5, none⟩ = some (.slice y.A y.n y.c)) (exact HXX.out _ HD1.out) (fail)
  clear k0 k1 k2 k3 k4 k5
  obtain ⟨k0, k1, k2, k3, k4, k5⟩ := HXX.out _ HD1.out
  generalize w.drew = W2 at *
  have HD2 := Lib.hid (HD1.out.trans ((Below.refl W2.heap.size W2).drew.mono HD1.out.size))
  have hwd : IntKind.i64.wrap ((m : Int) + 2 - ((m : Int) + 1)) = 1 := by rw [show (m : Int) + 2 - ((m : Int) + 1) = 1 by omega]; decide +kernel
  rw [hwd]
  clear hwd
  have HLA := Lib.hid (show ∀ W : World, Below w.heap.size w W → RdZs W W.heap.size 1 a.A (m + 2) a.c La ∧ RdZs W W.heap.size 1 b.A (m + 1) b.c Lb from fun W hb => by
    have h1 := (H.out.oa.next hb).rd (N := 1) (fun z hz => Zz.zl_small (hsa z hz))
    have h2 := (H.out.ob.next hb).rd (N := 1) (fun z hz => Zz.zl_small (hsb z hz))
    rw [HN.out.1] at h1
    rw [HN.out.2] at h2
    exact ⟨h1, h2⟩)
  have HP := Lib.hid hp
  have HZN := Lib.hid (And.intro hza hzb)
  have HLL := Lib.hid (And.intro hla hlb)
  have HGH := Lib.hid (And.intro (And.intro hsg hsh) (And.intro hg0 hh0))
  have HQR := Lib.hid (And.intro hQ (And.intro hR hRu))
  have HB0 := Lib.hid hb0
  have HSB := Lib.hid (show ∀ i, (Pz.co Lb i).natAbs < 4294967296 from fun i => by
    rcases Nat.lt_or_ge i Lb.length with h1 | h1
    · exact hsb _ (List.mem_of_getElem? (Pz.get_co h1))
    · rw [Pz.co_ge h1]; decide)
  clear hp hza hzb hla hlb hsg hsh hg0 hh0 hQ hR hRu hb0 hsa hsb
  go_upto_region 4 with fail
  go_region_held3 (fun w' => w'.cell? ⟨g, 0, none⟩ = some (.slice a.A (m + 2) a.c) ∧ w'.cell? ⟨g, 1, none⟩ = some (.slice b.A (m + 1) b.c) ∧ w'.cell? ⟨g, 2, none⟩ = some (.bool x.s) ∧ w'.cell? ⟨g, 3, none⟩ = some (.slice x.A x.n x.c) ∧ w'.cell? ⟨g, 4, none⟩ = some (.bool y.s) ∧ w'.cell? ⟨g, 5, none⟩ = some (.slice y.A y.n y.c))
    (first | exact HXX.out _ HB3.out | exact HXX.out _ HD2.out)
    (first
      | (go_at_call 98; refine (zpseudo_any (N := 1) (N' := 1) (M1 := La) (M2 := Lb) (m := m) (HLA.out _ HD2.out).1 (HLA.out _ HD2.out).2 (Pz.IsP.self HZN.out.1) (Pz.IsP.self HZN.out.2) HLL.out.2 (by omega) (by omega) (by omega)).mono ?_; rintro _ W3 ⟨A3, n3, c3, Q3, A4, n4, c4, R4, rfl, hoq, hor, hqr, hb3⟩; have HB3 := Lib.hid (HD2.out.trans (hb3.mono HD2.out.size))))
  have HR4 := Lib.hid (show R4 = R by
    obtain ⟨q1, q2, q3, q4, q5, _⟩ := hqr.out
    have e2 : La.length - m = 2 := by rw [HLL.out.1]; omega
    rw [e2] at q3 q5
    have hb1 : Pz.Up (Pz.co Lb) (m + 1) := by rw [← HLL.out.2]; exact Pz.up_co Lb
    have ht : Pz.co Lb m ≠ 0 := by
      have := Pz.nz_top HZN.out.2 (by rw [HLL.out.2]; omega)
      rwa [HLL.out.2] at this
    exact Pz.nz_ext q2 HQR.out.2.1 (Pz.psd_unique q3 HP.out hb1 ht q5 HQR.out.1 q4 ((Pz.up_co R).mono HQR.out.2.2)).2)
  have HOR := Lib.hid hor
  have hn4 : n4 ≤ 100 := by
    rw [← hor.len, HR4.out]
    have := HQR.out.2.2
    omega
  have HSR := Lib.hid (show ∀ z ∈ R4, Zz.zl z ≤ 1000 from fun z hz => by
    obtain ⟨i, _, rfl⟩ := Pz.mem_co hz
    have := hqr.out.2.2.2.2.2.2 i
    omega)
  clear hoq hor hqr hb3 k0 k1 k2 k3 k4 k5
  obtain ⟨k0, k1, k2, k3, k4, k5⟩ := HXX.out _ HB3.out
  go_wp2_with fail
  refine (zPow_any (k := 1) (H.out.oh.next HB3.out) (by have := HGH.out.1.2; omega) (.inr rfl)).mono ?_
  rintro _ W4 ⟨s5, A5, n5, c5, p, rfl, hop, hpv, hb4⟩
  obtain ⟨W5, HW5⟩ : ∃ W, W = W4.alloc (.cells #[.bool s5, .slice A5 n5 c5] 28) := ⟨_, rfl⟩
  have hb5 : Below W4.heap.size W4 W5 := by rw [HW5]; exact (Below.refl _ _).alloc (Nat.le_refl _) _
  have hP5 : ZC W5 W4.heap.size s5 A5 n5 c5 := by rw [HW5]; exact ZC.new W4 s5 A5 n5 c5
  have hb35 := hb4.trans (hb5.mono hb4.size)
  have HB5 := Lib.hid (HB3.out.trans (hb35.mono HB3.out.size))
  have HP5 := Lib.hid (And.intro hP5 ((hop.base (b' := b0) (Nat.le_trans HB0.out HB3.out.size)).next hb5))
  have HR5 := Lib.hid ((HOR.out.base (b' := b0) (Nat.le_trans HB0.out HD2.out.size)).next hb35)
  have HPV := Lib.hid (show p = hv by rw [hpv.out, Int.pow_succ, Int.pow_zero, Int.one_mul])
  have HPN := Lib.hid (show n5 ≤ 1 by rw [hop.len, HPV.out]; exact Zz.zl_small (by have := HGH.out.1.2; omega))
  have HGP := Lib.hid (show g < W4.heap.size by have := H.out.kc.lt; have := HB3.out.size; have := hb4.size; omega)
  have HXN := Lib.hid (show x.n ≤ 1 by rw [H.out.og.len]; exact Zz.zl_small (by have := HGH.out.1.1; omega))
  have HW5 := Lib.hid HW5
  clear hop hb4 hb5 hP5 hb35 k0 k1 k2 k3 k4 k5
  go_upto_region 6 with fail
  rw [← HW5.out]
  clear HW5
  clear HW5
  generalize W4.heap.size = gp at *
  go_cut [] from 52 to 69 (fun V => ∃ (b' : KV), KC V g b b' x y ∧ OwZs V b0 b.A b.n b.c Lb ∧ OwZs V b0 b'.A b'.n b'.c (R.map (exq (gv * hv))) ∧ OwZ V b0 x.s x.A x.n x.c gv ∧ OwZ V b0 y.s y.A y.n y.c hv ∧ Hid (W5.heap.size ≤ V.heap.size) ∧ Below g w V)
  case first =>
    have HBD := Lib.hid (HB5.out.trans ((Below.refl W5.heap.size W5).drew.mono HB5.out.size))
    have HYY := Lib.hid (show ∀ W : World, Below W5.heap.size W5 W → ((W.cell? ⟨g, 1, none⟩ = some (.slice b.A (m + 1) b.c) ∧ W.cell? ⟨g, 2, none⟩ = some (.bool x.s) ∧ W.cell? ⟨g, 3, none⟩ = some (.slice x.A x.n x.c)) ∧ W.cell? ⟨gp, 0, none⟩ = some (.bool s5) ∧ W.cell? ⟨gp, 1, none⟩ = some (.slice A5 n5 c5)) ∧ OwZ W b0 s5 A5 n5 c5 p ∧ OwZs W b0 A4 n4 c4 R4 ∧ CS W b0 g a b x y La Lb gv hv from fun W hb => by
      have h2 := HXX.out W (HB5.out.trans (hb.mono HB5.out.size))
      exact ⟨⟨⟨h2.2.1, h2.2.2.1, h2.2.2.2.1⟩, (HP5.out.1.next hb).c0, (HP5.out.1.next hb).c1⟩, HP5.out.2.next hb, HR5.out.next hb, H.out.next (HB5.out.trans (hb.mono HB5.out.size))⟩)
    obtain ⟨⟨⟨k1, k2, k3⟩, k6, k7⟩, _⟩ := HYY.out W5 (Below.refl _ _)
    have HBD5 := Lib.hid (Below.refl W5.heap.size W5).drew
    obtain ⟨⟨⟨l1, l2, l3⟩, l6, l7⟩, _⟩ := HYY.out _ HBD5.out
    go_region_with (first
      | (go_at_call 87; refine (by_any (N := 1000) ((HYY.out _ HB6.out).2.2.1.rd (N := 1000) HSR.out) ho6.rd (by omega) (by have := HN6.out; omega) (by omega) HZ6.out).mono ?_; rintro _ W7 ⟨A7, n7, c7, M7, rfl, ho7, hM7, hb7⟩; have HB7 := Lib.hid (HB6.out.trans (hb7.mono HB6.out.size)); have p1 := (HYY.out _ HB7.out).1.1.1; have f0 := ((HYY.out _ HB7.out).2.2.2.kc).fz 0; have f1 := ((HYY.out _ HB7.out).2.2.2.kc).fz 1; have p0 := ((HYY.out _ HB7.out).2.2.2.kc).cs.1)
      | (go_at_call 216; refine (imul_any (HYY.out _ HBD5.out).2.2.2.og.rd (HYY.out _ HBD5.out).2.1.rd (by have := HXN.out; omega) (by have := HPN.out; omega)).mono ?_; rintro _ W6 ⟨s6, A6, n6, c6, y6, rfl, ho6, hy6, hb6⟩; have HB6 := Lib.hid (HBD5.out.trans hb6); have q1 := (HYY.out _ HB6.out).1.1.1; have HN6 := Lib.hid (show n6 ≤ 2 by { rw [ho6.len, hy6.out]; have e1 := Zz.zl_mul gv p; have e2 := HXN.out; have e3 := HPN.out; rw [(HYY.out _ HB6.out).2.2.2.og.len] at e2; rw [(HYY.out _ HB6.out).2.1.len] at e3; omega }); have HZ6 := Lib.hid (show y6 ≠ 0 by { rw [hy6.out, HPV.out]; exact Int.mul_ne_zero HGH.out.2.1 HGH.out.2.2 })))
    all_goals
      have hcs := (HYY.out _ HB7.out).2.2.2
      have hk := hcs.kc.put01 b ⟨A7, n7, c7⟩
      have h1 := zs_chain hcs.ob hcs.kc 0 1 (.slice b.A b.n b.c) (.slice A7 n7 c7)
      have h2 := zs_chain (ho7.base (b' := b0) (by have := HB0.out; have := HB5.out.size; have := HB6.out.size; omega)) hcs.kc 0 1 (.slice b.A b.n b.c) (.slice A7 n7 c7)
      have h3 := hcs.og.keep (keepT_chain hcs.kc 0 1 (.slice b.A b.n b.c) (.slice A7 n7 c7))
      have h4 := hcs.oh.keep (keepT_chain hcs.kc 0 1 (.slice b.A b.n b.c) (.slice A7 n7 c7))
      have h5 := below_chain ((HB5.out.trans (HB7.out.mono HB5.out.size)).mono (Nat.le_of_lt H.out.kc.lt)) (Nat.le_refl g) 0 1 (.slice b.A b.n b.c) (.slice A7 n7 c7)
      have h6 : M7 = R.map (exq (gv * hv)) := by rw [hM7.out, HR4.out, hy6.out, HPV.out]
      rw [h6] at h2
      rw [HN.out.2] at hk h1 h2 h3 h4 h5
      have HALL := Lib.hid (And.intro hk (And.intro h1 (And.intro h2 (And.intro h3 (And.intro h4 h5)))))
      have HSZ := Lib.hid HB7.out.size
      clear hk h1 h2 h3 h4 h5 hcs k1 k2 k3 k6 k7 l1 l2 l3 l6 l7 q1 p1 p0 f0 f1 hb6 hb7 ho6 ho7
      go_wp2
      go_meet
      exact ⟨⟨A7, n7, c7⟩, HALL.out.1, by rw [HN.out.2]; exact HALL.out.2.1, HALL.out.2.2.1, HALL.out.2.2.2.1, HALL.out.2.2.2.2.1, Lib.hid (by have := HSZ.out; simp; omega), HALL.out.2.2.2.2.2⟩
  case rest =>
    clear HXX HLA HR5 HP5
    obtain ⟨b', hk, hob, hob', hog, hoh, hsz, hBg⟩ := hcut
    have hbn : b.n = m + 1 := HN.out.2
    obtain ⟨ad, s8, A8, n8, c8, hA, hbk, hx0, hx1, hot⟩ := zo_at hob (show m < b.n by omega)
    have HOT := Lib.hid hot
    have HKK := Lib.hid hk
    have HBG := Lib.hid hBg
    have HAL := Lib.hid (And.intro hob (And.intro hob' (And.intro hog hoh)))
    have HTV := Lib.hid (show (Pz.co Lb m).natAbs < 4294967296 from HSB.out m)
    have HLT := Lib.hid hk.lt
    have hk0 := hk.cs.1
    rw [hbn, hA] at hk0
    have HGA := Lib.hid (show ¬ ad.block = g from fun e => by
      have h1 := hk.cs.1
      have h2 := hk
      unfold KC at h2
      obtain ⟨E, hr, hE, hel⟩ := hob
      rcases hr.2 with ⟨e1, e2⟩ | ⟨g2, cap, cur, e1, e2, e3, _⟩
      · rw [hbn] at e2; omega
      · injection e1 with e1 _ _
        rw [hA] at e1
        injection e1 with e1
        rw [e1] at e
        have e : g2 = g := e
        rw [e, h2] at e3
        simp at e3)
    have HXX := Lib.hid (show ∀ W : World, Below wc.heap.size wc W → (W.cell? ⟨g, 0, none⟩ = some (.slice (some ad) (m + 1) b.c) ∧ W.cell? (ad.add (m * 2)) = some (.bool s8) ∧ W.cell? ⟨(ad.add (m * 2)).block, (ad.add (m * 2)).off + 1, none⟩ = some (.slice A8 n8 c8)) from fun W hb => by
      refine ⟨?_, (hb.cell (p := ad.add (m * 2)) (by rw [add_blk]; exact hbk)).trans hx0, (hb.cell (p := ⟨(ad.add (m * 2)).block, (ad.add (m * 2)).off + 1, none⟩) (by show (ad.add (m * 2)).block < _; rw [add_blk]; exact hbk)).trans hx1⟩
      have h1 := (HKK.out.next hb).cs.1
      rw [hbn, hA] at h1
      exact h1)
    have HXP := Lib.hid (show ∀ (W : World) (u v : Value), Below wc.heap.size wc W → (((W.setCell ⟨g, 2, none⟩ u).setCell ⟨g, 3, none⟩ v).cell? ⟨g, 0, none⟩ = some (.slice (some ad) (m + 1) b.c) ∧ ((W.setCell ⟨g, 2, none⟩ u).setCell ⟨g, 3, none⟩ v).cell? (ad.add (m * 2)) = some (.bool s8) ∧ ((W.setCell ⟨g, 2, none⟩ u).setCell ⟨g, 3, none⟩ v).cell? ⟨(ad.add (m * 2)).block, (ad.add (m * 2)).off + 1, none⟩ = some (.slice A8 n8 c8)) from fun W u v hb => by
      obtain ⟨e0, e1, e2⟩ := HXX.out W hb
      have hne : (ad.add (m * 2)).block ≠ g := by rw [add_blk]; exact HGA.out
      have hcell : ∀ (p : Addr), p.block ≠ g → ((W.setCell ⟨g, 2, none⟩ u).setCell ⟨g, 3, none⟩ v).cell? p = W.cell? p := fun p hp => World.cell?_of_block ((Below.heap_setCell _ (⟨g, 3, none⟩ : Addr) _ _ hp).trans (Below.heap_setCell _ (⟨g, 2, none⟩ : Addr) _ _ hp))
      refine ⟨?_, (hcell _ hne).trans e1, (hcell ⟨(ad.add (m * 2)).block, (ad.add (m * 2)).off + 1, none⟩ hne).trans e2⟩
      have h3 := (HKK.out.next hb).heapcell u v
      rw [hbn, hA] at h3
      exact h3)
    have HDR := Lib.hid (Below.refl wc.heap.size wc).drew
    have f2 := (HKK.out.next HDR.out).fz 2
    have f3 := (HKK.out.next HDR.out).fz 3
    have v2 := (HKK.out.next HDR.out).cs.2.2.1
    have v3 := (HKK.out.next HDR.out).cs.2.2.2.1
    have f2' := HKK.out.fz 2
    have f3' := HKK.out.fz 3
    have v2' := HKK.out.cs.2.2.1
    have v3' := HKK.out.cs.2.2.2.1
    obtain ⟨y0, y1, y2⟩ := HXX.out wc (Below.refl _ _)
    have hw1 : IntKind.i64.wrap (m : Int) = (m : Int) := by rw [IntWalk.i64_in _ (by omega)]
    have hm0 : (0 : Int) ≤ (m : Int) := by omega
    have hm1 : (m : Int) < (m : Int) + 1 := by omega
    clear hk hob hob' hog hoh hBg hx0 hx1 hot hk0 hbn
    go_wp2_with fail
    go_region_held3 (fun w' => w'.cell? ⟨g, 0, none⟩ = some (.slice (some ad) (m + 1) b.c) ∧ w'.cell? (ad.add (m * 2)) = some (.bool s8) ∧ w'.cell? ⟨(ad.add (m * 2)).block, (ad.add (m * 2)).off + 1, none⟩ = some (.slice A8 n8 c8))
      (first | exact HXX.out _ HDR.out | exact HXP.out _ _ _ HDR.out | exact HXP.out _ _ _ (Below.refl _ _)) (fail)
    have HCS := Lib.hid (show CS (((wc.setCell ⟨g, 2, none⟩ (.bool s8)).setCell ⟨g, 3, none⟩ (.slice A8 n8 c8)).drew) b0 g b b' ⟨s8, A8, n8, c8⟩ y Lb (R.map (exq (gv * hv))) (Pz.co Lb m) hv from
      ⟨(HKK.out.put23 ⟨s8, A8, n8, c8⟩).next (Below.refl _ _).drew, (zs_chain HAL.out.1 HKK.out 2 3 _ _).next (Below.refl _ _).drew, (zs_chain HAL.out.2.1 HKK.out 2 3 _ _).next (Below.refl _ _).drew, (HOT.out.keep (keepT_chain HKK.out 2 3 _ _)).next (Below.refl _ _).drew, (HAL.out.2.2.2.keep (keepT_chain HKK.out 2 3 _ _)).next (Below.refl _ _).drew⟩)
    have hB8 := below_chain HBG.out (Nat.le_refl g) 2 3 (.bool s8) (.slice A8 n8 c8)
    have HB8 := Lib.hid (hB8.trans ((Below.refl _ _).drew.mono (Nat.le_trans (Nat.le_of_lt H.out.kc.lt) hB8.size)))
    have HSZ8 := Lib.hid (show b0 ≤ (((wc.setCell ⟨g, 2, none⟩ (.bool s8)).setCell ⟨g, 3, none⟩ (.slice A8 n8 c8)).drew).heap.size by
      have h1 := hsz.out
      have h2 := HB5.out.size
      have h3 := HB0.out
      show b0 ≤ ((wc.setCell ⟨g, 2, none⟩ (.bool s8)).setCell ⟨g, 3, none⟩ (.slice A8 n8 c8)).heap.size
      simp
      omega)
    clear hB8 f2 f3 v2 v3 f2' f3' v2' v3' y0 y1 y2 hw1 hm0 hm1 hsz
    generalize (((wc.setCell ⟨g, 2, none⟩ (.bool s8)).setCell ⟨g, 3, none⟩ (.slice A8 n8 c8)).drew) = V8 at *
    obtain ⟨-, -, q2, q3, q4, q5⟩ := HCS.out.kc.cs
    go_wp2_with fail
    clear q2 q3 q4 q5
    refine (zPow_any (k := 1) HCS.out.og HTV.out (.inr rfl)).mono ?_
    rintro _ V9 ⟨s9, A9, n9, c9, p9, rfl, ho9, hp9, hb9⟩
    obtain ⟨V10, HV10⟩ : ∃ W, W = V9.alloc (.cells #[.bool s9, .slice A9 n9 c9] 28) := ⟨_, rfl⟩
    have hb10 : Below V9.heap.size V9 V10 := by rw [HV10]; exact (Below.refl _ _).alloc (Nat.le_refl _) _
    have hP10 : ZC V10 V9.heap.size s9 A9 n9 c9 := by rw [HV10]; exact ZC.new V9 s9 A9 n9 c9
    have hb810 := hb9.trans (hb10.mono hb9.size)
    have HB10 := Lib.hid hb810
    have HC10 := Lib.hid (HCS.out.next hb810)
    have HO10 := Lib.hid (And.intro hP10 ((ho9.base (b' := b0) HSZ8.out).next hb10))
    have HV9 := Lib.hid (show p9 = Pz.co Lb m by rw [hp9.out, Int.pow_succ, Int.pow_zero, Int.one_mul])
    obtain ⟨-, -, q2, q3, q4, q5⟩ := HC10.out.kc.cs
    rw [HV10] at q2 q3 q4 q5
    have HV10 := Lib.hid HV10
    clear ho9 hb9 hb10 hP10 hb810 hp9
    go_wp2_with fail
    rw [← HV10.out]
    clear HV10 q2 q3 q4 q5
    clear HV10
    generalize V9.heap.size = g9 at *
    refine (zPow_any (k := 0) HC10.out.oh (by have := HGH.out.1.2; omega) (.inl rfl)).mono ?_
    rintro _ V11 ⟨s11, A11, n11, c11, p11, rfl, ho11, hp11, hb11⟩
    obtain ⟨V12, HV12⟩ : ∃ W, W = V11.alloc (.cells #[.bool s11, .slice A11 n11 c11] 28) := ⟨_, rfl⟩
    have hb12 : Below V11.heap.size V11 V12 := by rw [HV12]; exact (Below.refl _ _).alloc (Nat.le_refl _) _
    have hP12 : ZC V12 V11.heap.size s11 A11 n11 c11 := by rw [HV12]; exact ZC.new V11 s11 A11 n11 c11
    have hb1012 := hb11.trans (hb12.mono hb11.size)
    have HB12 := Lib.hid (HB10.out.trans (hb1012.mono HB10.out.size))
    have HC12 := Lib.hid (HC10.out.next hb1012)
    have HO12 := Lib.hid (And.intro (And.intro (HO10.out.1.next hb1012) (HO10.out.2.next hb1012)) (And.intro hP12 (ho11.next hb12)))
    have HV11 := Lib.hid (show p11 = 1 by rw [hp11.out, Int.pow_zero])
    have HN12 := Lib.hid (show n9 ≤ 1 ∧ n11 ≤ 1 from ⟨by rw [HO10.out.2.len, HV9.out]; exact Zz.zl_small HTV.out, by rw [ho11.len, HV11.out]; exact Zz.zl_small (by decide)⟩)
    have q0 := HO12.out.1.1.c0
    have q1 := HO12.out.1.1.c1
    have q2 := hP12.c0
    have q3 := hP12.c1
    rw [HV12] at q0 q1 q2 q3
    have HV12 := Lib.hid HV12
    clear ho11 hb11 hb12 hP12 hb1012 hp11
    go_wp2_with fail
    rw [← HV12.out]
    clear HV12 q0 q1 q2 q3
    clear HV12
    refine (exact_any HO12.out.1.2.rd HO12.out.2.2.rd (by have := HN12.out; omega) (by have := HN12.out; omega) (by rw [HV11.out]; decide)).mono ?_
    rintro _ V13 ⟨s13, A13, n13, c13, p13, e13, rfl, ho13, hp13, hb13⟩
    have HV13 := Lib.hid (show p13 = Pz.co Lb m by
      rcases hp13.out with ⟨_, f2, _⟩ | ⟨f1, _, _⟩
      · rw [f2, HV11.out, HV9.out, Int.tdiv_one]
      · exact absurd (by rw [HV11.out]; exact Int.tmod_one _) f1)
    have hC13 := HC12.out.next hb13
    obtain ⟨-, -, -, -, q4, q5⟩ := hC13.kc.cs
    have f4 := hC13.kc.fz 4
    have f5 := hC13.kc.fz 5
    have HOT13 := ho13.base (b' := b0) (Nat.le_trans HSZ8.out HB12.out.size)
    rw [HV13.out] at HOT13
    have HF := Lib.hid (show CS ((V13.setCell ⟨g, 4, none⟩ (.bool s13)).setCell ⟨g, 5, none⟩ (.slice A13 n13 c13)) b0 g b b' ⟨s8, A8, n8, c8⟩ ⟨s13, A13, n13, c13⟩ Lb (R.map (exq (gv * hv))) (Pz.co Lb m) (Pz.co Lb m) from
      ⟨hC13.kc.put45 ⟨s13, A13, n13, c13⟩, zs_chain hC13.oa hC13.kc 4 5 _ _, zs_chain hC13.ob hC13.kc 4 5 _ _, hC13.og.keep (keepT_chain hC13.kc 4 5 _ _), HOT13.keep (keepT_chain hC13.kc 4 5 _ _)⟩)
    have HBF := Lib.hid (below_chain (HB8.out.trans ((HB12.out.trans (hb13.mono HB12.out.size)).mono (Nat.le_of_lt HCS.out.kc.lt))) (Nat.le_refl g) 4 5 (.bool s13) (.slice A13 n13 c13))
    clear hC13 HOT13 ho13 hb13 hp13
    go_wp2
    go_ret
    exact ⟨b', _, _, rfl, HF.out, HBF.out⟩
end Go.Proofs.YtipbpdiahemmpaaGreat
