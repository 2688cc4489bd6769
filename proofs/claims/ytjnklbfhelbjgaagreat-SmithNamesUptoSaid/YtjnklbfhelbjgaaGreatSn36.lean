/- qmat.At. -/
import Derived.Test.YtjnklbfhelbjgaaGreatSn35
import Derived.Test.YtjnklbfhelbjgaaGreatSn31
import Derived.Test.YtjnklbfhelbjgaaGreatSn26
import Derived.Test.YtjnklbfhelbjgaaGreatSn23
namespace Go.Proofs.YtjnklbfhelbjgaaGreat
open Go.RowKit Go.IntWalk
attribute [local go_sem ↓] Go.wp_at_zero Go.wp_at_succ
set_option maxRecDepth 100000 in
set_option maxHeartbeats 8000000 in
theorem mAt_any {N K i j : Nat} {s : Bool} {A G : Option Addr} {n c r k : Nat} {d : Int} {RR : List RawRow} {R : RawRow} {x : Bool × List Nat} {w : World} (h : RdZ w w.heap.size s A n c d) (h' : RdRss w w.heap.size N K G r k RR) (hd : d ≠ 0) (hev : Evn RR) (hn : n ≤ 400000000000) (hN : N ≤ 400000000000) (hr : r ≤ 1048576) (_hK : K ≤ 1048576) (hi : RR[i]? = some R) (hj : R[j]? = some x) :
  Calls Tryz.prog 161 #[.agg #[.bool s, .slice A n c, .slice G r k], .int .i64 i, .int .i64 j] w (RetQ (Rat.divInt (toZ x) d) w) := by
 have hil : i < r := by
  rw [← h'.len]
  exact (List.getElem?_eq_some_iff.1 hi).1
 obtain ⟨ad, A1, n1, c1, rfl, hbk, hx, hrs, hn1⟩ := h'.at_ i R hi
 have hjl : j < n1 := by
  rw [← hrs.len]
  exact (List.getElem?_eq_some_iff.1 hj).1
 obtain ⟨ae, A2, n2, c2, rfl, hbk2, hy0, hy1, hru, hn2⟩ := hrs.at_ j x hj
 have hcl : colsOf RR = n1 := by rw [← hrs.len, hev R (List.mem_of_getElem? hi)]
 obtain ⟨W1, HW1⟩ : ∃ W, W = w.alloc (.cells #[.bool s, .slice A n c, .slice (some ad) r k] 28) := ⟨_, rfl⟩
 have hP : MC W1 w.heap.size s A n c (some ad) r k := by rw [HW1]; exact MC.new w s A n c (some ad) r k
 have hb1 : Below w.heap.size w W1 := by rw [HW1]; exact (Below.refl _ _).alloc (Nat.le_refl _) _
 obtain ⟨W2, HW2⟩ : ∃ W, W = W1.alloc (.cells #[.bool false, .slice none 0 0, .bool false, .slice none 0 0] 47) := ⟨_, rfl⟩
 have hM : QC W2 W1.heap.size false none 0 0 false none 0 0 := by rw [HW2]; exact QC.new W1 false none 0 0 false none 0 0
 have hb2 : Below W1.heap.size W1 W2 := by rw [HW2]; exact (Below.refl _ _).alloc (Nat.le_refl _) _
 have hb02 := hb1.trans (hb2.mono hb1.size)
 have hs1 : W1.heap.size = w.heap.size + 1 := by rw [HW1]; simp
 obtain ⟨gp, hgp⟩ : ∃ g, g = w.heap.size := ⟨_, rfl⟩
 obtain ⟨gr, hgr⟩ : ∃ g, g = w.heap.size + 1 := ⟨_, rfl⟩
 rw [hs1, ← hgr] at hM
 rw [← hgp] at hP
 have HX := Lib.hid (show ∀ W, Below W2.heap.size W2 W → MC W gp s A n c (some ad) r k ∧ QC W gr false none 0 0 false none 0 0 ∧ RdZ W W.heap.size s A n c d ∧ RdRss W W.heap.size N K (some ad) r k RR ∧ RdZ W W.heap.size x.1 A2 n2 c2 (toZ x) from fun W hb => ⟨(hP.next hb2).next hb, hM.next hb, (h.next hb02).next hb, (h'.next hb02).next hb, ((show RdZ w w.heap.size x.1 A2 n2 c2 (toZ x) from ⟨x.2, hru, rfl⟩).next hb02).next hb⟩)
 have HC := Lib.hid (show ∀ W, Below W2.heap.size W2 W → W.cell? ⟨gp, 0, none⟩ = some (.bool s) ∧ W.cell? ⟨gp, 1, none⟩ = some (.slice A n c) ∧ W.cell? ⟨gp, 2, none⟩ = some (.slice (some ad) r k) ∧ W.cell? (ad.add i) = some (.slice (some ae) n1 c1) ∧ W.cell? (ae.add (j * 2)) = some (.bool x.1) ∧ W.cell? ⟨(ae.add (j * 2)).block, (ae.add (j * 2)).off + 1, none⟩ = some (.slice A2 n2 c2) from fun W hb => by
  have hbw := hb02.trans (hb.mono hb02.size)
  exact ⟨(HX.out W hb).1.c0, (HX.out W hb).1.c1, (HX.out W hb).1.c2, (hbw.cell (p := ad.add i) (by rw [add_blk]; exact hbk)).trans hx, (hbw.cell (p := ae.add (j * 2)) (by rw [add_blk]; exact hbk2)).trans hy0, (hbw.cell (p := ⟨(ae.add (j * 2)).block, (ae.add (j * 2)).off + 1, none⟩) (by show (ae.add (j * 2)).block < _; rw [add_blk]; exact hbk2)).trans hy1⟩)
 have HCP := Lib.hid (show ∀ (W : World) (t : Bool) (D : Option Addr) (q m : Nat) (t' : Bool) (D' : Option Addr) (q' m' : Nat), Below W2.heap.size W2 W → ((putQ W gr t D q m t' D' q' m').cell? ⟨gp, 0, none⟩ = some (.bool s) ∧ (putQ W gr t D q m t' D' q' m').cell? ⟨gp, 1, none⟩ = some (.slice A n c) ∧ (putQ W gr t D q m t' D' q' m').cell? ⟨gp, 2, none⟩ = some (.slice (some ad) r k) ∧ (putQ W gr t D q m t' D' q' m').cell? (ad.add i) = some (.slice (some ae) n1 c1) ∧ (putQ W gr t D q m t' D' q' m').cell? (ae.add (j * 2)) = some (.bool x.1) ∧ (putQ W gr t D q m t' D' q' m').cell? ⟨(ae.add (j * 2)).block, (ae.add (j * 2)).off + 1, none⟩ = some (.slice A2 n2 c2)) from fun W t D q m t' D' q' m' hb => by
  obtain ⟨e0, e1, e2, e3, e4, e5⟩ := HC.out W hb
  have hP := below_putQ (Below.refl gr W) (Nat.le_refl gr) t D q m t' D' q' m'
  exact ⟨(hP.cell (p := ⟨gp, 0, none⟩) (by show gp < gr; omega)).trans e0, (hP.cell (p := ⟨gp, 1, none⟩) (by show gp < gr; omega)).trans e1, (hP.cell (p := ⟨gp, 2, none⟩) (by show gp < gr; omega)).trans e2, (hP.cell (p := ad.add i) (by rw [add_blk]; omega)).trans e3, (hP.cell (p := ae.add (j * 2)) (by rw [add_blk]; omega)).trans e4, (hP.cell (p := ⟨(ae.add (j * 2)).block, (ae.add (j * 2)).off + 1, none⟩) (by show (ae.add (j * 2)).block < _; rw [add_blk]; omega)).trans e5⟩)
 have HB := Lib.hid (And.intro hb02 (show w.heap.size ≤ gr by omega))
 have HG := Lib.hid (And.intro hgp hgr)
 have HD := Lib.hid hd
 have HCH := Lib.hid (show chk d RR = 0 by unfold chk; rw [if_neg hd, if_pos hev])
 have HLN := Lib.hid (show RR.length = r ∧ colsOf RR = n1 ∧ n2 ≤ N from ⟨h'.len, hcl, hn2⟩)
 have hili : (i : Int) < (r : Int) := by omega
 have hjli : (j : Int) < (n1 : Int) := by omega
 have hi0 : ¬(i : Int) < 0 := by omega
 have hj0 : ¬(j : Int) < 0 := by omega
 have hir : ¬(r : Int) ≤ (i : Int) := by omega
 have hjr : ¬(n1 : Int) ≤ (j : Int) := by omega
 rw [HW1] at HW2
 have HW2 := Lib.hid HW2
 unfold putQ at HCP
 clear h h' hP hM hb1 hb2 hb02 hs1 hgp hgr hd hev HW1 hi hj hx hrs hn1 hy0 hy1 hru hn2 hcl hbk hbk2 hil hjl
 go_enter Tryz.func161, Tryz.ntmps161
 go_wp2_with fail
 rw [← HW2.out, ← HG.out.2, ← HG.out.1]
 clear HW2
 clear HW2
 refine (mSize_any (HX.out _ (Below.refl _ _)).2.2.1 (HX.out _ (Below.refl _ _)).2.2.2.1 (by omega) hr).mono ?_
 rintro _ W3 ⟨v1, v2, v3, rfl, hv, hb3⟩
 obtain ⟨rfl, rfl, rfl⟩ : v1 = (r : Int) ∧ v2 = (n1 : Int) ∧ v3 = 0 := by
  rcases hv.out with ⟨_, h1, h2, h3⟩ | ⟨h0, _⟩
  ·rw [HLN.out.1] at h1
   rw [HLN.out.2.1] at h2
   exact ⟨h1, h2, h3⟩
  ·exact absurd HCH.out h0
 have HB3 := Lib.hid hb3
 clear hv hb3
 go_upto_region 6 with fail
 have HBD := Lib.hid (show Below W2.heap.size W2 W3.drew from HB3.out.trans ((Below.refl W3.heap.size W3).drew.mono HB3.out.size))
 clear hi0 hj0 hir hjr
 go_region_held3 (fun W => W.cell? ⟨gp, 0, none⟩ = some (.bool s) ∧ W.cell? ⟨gp, 1, none⟩ = some (.slice A n c) ∧ W.cell? ⟨gp, 2, none⟩ = some (.slice (some ad) r k) ∧ W.cell? (ad.add i) = some (.slice (some ae) n1 c1) ∧ W.cell? (ae.add (j * 2)) = some (.bool x.1) ∧ W.cell? ⟨(ae.add (j * 2)).block, (ae.add (j * 2)).off + 1, none⟩ = some (.slice A2 n2 c2))
  (first | exact HC.out _ HBD.out | exact HC.out _ HB8.out | exact HCP.out _ _ _ _ _ _ _ _ _ HB8.out)
  (first
   | (go_at_call 83; refine (qmake_any (HX.out _ HBD.out).2.2.2.2 (HX.out _ HBD.out).2.2.1 (by have := HLN.out.2.2; omega) (by omega) HD.out).mono ?_; rintro _ W8 ⟨s5, A5, n5, c5, s6, A6, n6, c6, y5, rfl, ho5, hy5, hb8⟩; obtain rfl := hy5.out; have HB8 : Hid (Below W2.heap.size W2 W8) := Lib.hid (HBD.out.trans (hb8.mono HBD.out.size)); have hR8 := (HX.out _ HB8.out).2.1; have r0 := hR8.c0; have r1 := hR8.c1; have r2 := hR8.c2; have r3 := hR8.c3; have f0 := hR8.fz 0; have f1 := hR8.fz 1; have f2 := hR8.fz 2; have f3 := hR8.fz 3; clear hR8))
 all_goals
  have hR := (HX.out _ HB8.out).2.1
  have hw3 : w.heap.size ≤ W3.drew.heap.size := Nat.le_trans HB.out.1.size HBD.out.size
  have HR9 := Lib.hid (hR.store s5 A5 n5 c5 s6 A6 n6 c6)
  have HO9 := Lib.hid ((ho5.base (b' := w.heap.size) hw3).keep (keep_putQ hR s5 A5 n5 c5 s6 A6 n6 c6))
  have HB9 := Lib.hid (below_putQ (HB.out.1.trans (HB8.out.mono HB.out.1.size)) HB.out.2 s5 A5 n5 c5 s6 A6 n6 c6)
  unfold putQ at HR9 HO9 HB9
  clear r0 r1 r2 r3 f0 f1 f2 f3 hR ho5 hb8 hy5 hw3
  generalize (((W8.setCell ⟨gr, 0, none⟩ (.bool s5)).setCell ⟨gr, 1, none⟩ (.slice A5 n5 c5)).setCell ⟨gr, 2, none⟩ (.bool s6)).setCell ⟨gr, 3, none⟩ (.slice A6 n6 c6) = W9 at *
  have z0 := HR9.out.c0
  have z1 := HR9.out.c1
  have z2 := HR9.out.c2
  have z3 := HR9.out.c3
  go_wp2
  exact bodyPost_ret (by simp [results, Tryz.results161, go_sem, z0, z1, z2, z3]) rfl ⟨_, _, _, _, _, _, _, _, _, rfl, HO9.out, Lib.hid rfl, HB9.out⟩
end Go.Proofs.YtjnklbfhelbjgaaGreat

/- smith: the identity of two rows. -/
namespace Go.Proofs.YtjnklbfhelbjgaaGreat
open Go.RowKit Go.IntWalk
attribute [local go_sem ↓] Go.wp_at_zero Go.wp_at_succ
set_option maxRecDepth 100000 in
set_option maxHeartbeats 8000000 in
theorem identity_two (w : World) : Calls Tryz.prog 77 #[.int .i64 2] w (RetTb w.heap.size ⟨[1], [], [], [1]⟩ w) := by
 obtain ⟨i1, hjf, hy0, hy1, hy2⟩ := info_parts infoRow
 have hmk := make_p2
 obtain ⟨W1, HW1⟩ : ∃ W, W = w.alloc (.cells #[.slice none 0 0, .int .i64 2] 102) := ⟨_, rfl⟩
 have hb1 : Below w.heap.size w W1 := by rw [HW1]; exact (Below.refl _ _).alloc (Nat.le_refl _) _
 obtain ⟨go, hgo⟩ : ∃ g, g = w.heap.size := ⟨_, rfl⟩
 have HN0 := Lib.hid (show PX W1 go 102 [.slice none 0 0, .int .i64 2] by rw [HW1, hgo]; exact PX.new w _ [.slice none 0 0, .int .i64 2])
 have HGW := Lib.hid (show w.heap.size ≤ go by rw [hgo]; exact Nat.le_refl _)
 have HB0 := Lib.hid hb1
 have HW1 := Lib.hid HW1
 clear hb1
 go_enter Tryz.func77, Tryz.ntmps77
 go_wp2_with fail
 rw [← HW1.out, ← hgo]
 clear HW1 hgo
 clear HW1
 refine wp_loop_rounds 3 ?_
 rw [rounds_succ]
 obtain ⟨R0, HR0⟩ : ∃ W, W = W1.alloc (.cells #[.slice none 0 0, .slice none 0 0] 73) := ⟨_, rfl⟩
 have hb2 : Below W1.heap.size W1 R0 := by rw [HR0]; exact (Below.refl _ _).alloc (Nat.le_refl _) _
 obtain ⟨gn0, hgn0⟩ : ∃ g, g = W1.heap.size := ⟨_, rfl⟩
 have HP0 := Lib.hid (show PX R0 gn0 73 [.slice none 0 0, .slice none 0 0] by rw [HR0, hgn0]; exact PX.new W1 _ [.slice none 0 0, .slice none 0 0])
 have HG0 := Lib.hid (show w.heap.size ≤ gn0 by rw [hgn0]; exact HB0.out.size)
 have HBA0 := Lib.hid (HB0.out.trans (hb2.mono HB0.out.size))
 have HNA0 := Lib.hid (HN0.out.next hb2)
 have HR0 := Lib.hid HR0
 clear hb2
 go_wp2_with fail
 rw [← HR0.out, ← hgn0]
 clear HR0 hgn0
 clear HR0
 refine (constant_any R0).mono ?_
 rintro _ C0 ⟨B0, M0, l0, rfl, ho, hb⟩
 have hpc := HP0.out.next hb
 have q0 := hpc.cell (i := 0) rfl
 have f0 := hpc.frozen 0
 have HPS0 := Lib.hid (show PX (C0.setCell ⟨gn0, 0, none⟩ (.slice B0 M0 l0)) gn0 73 [.slice B0 M0 l0, .slice none 0 0] from hpc.store 0 _)
 have HKS := Lib.hid (hpc.keepS (.inl rfl) 0 (.slice B0 M0 l0))
 have HOS := Lib.hid (show OwQp (C0.setCell ⟨gn0, 0, none⟩ (.slice B0 M0 l0)) w.heap.size B0 M0 l0 [1] from (ho.base HBA0.out.size).keep HKS.out.q)
 have HBS0 := Lib.hid (show Below w.heap.size w (C0.setCell ⟨gn0, 0, none⟩ (.slice B0 M0 l0)) from (HBA0.out.trans (hb.mono HBA0.out.size)).setCell (p := ⟨gn0, 0, none⟩) HG0.out _)
 have HNS := Lib.hid (show PX (C0.setCell ⟨gn0, 0, none⟩ (.slice B0 M0 l0)) go 102 [.slice none 0 0, .int .i64 2] from (HNA0.out.next hb).far ((HNA0.out.next hb).ne hpc (by decide)) _)
 have m0 := HNS.out.cell (i := 0) rfl
 have hba : Below (C0.setCell ⟨gn0, 0, none⟩ (.slice B0 M0 l0)).heap.size (C0.setCell ⟨gn0, 0, none⟩ (.slice B0 M0 l0)) ((C0.setCell ⟨gn0, 0, none⟩ (.slice B0 M0 l0)).alloc (.cells #[.slice (some ⟨gn0, 0, none⟩) 2 2] 30)) := (Below.refl _ _).alloc (Nat.le_refl _) _
 have m0' : ((C0.setCell ⟨gn0, 0, none⟩ (.slice B0 M0 l0)).alloc (.cells #[.slice (some ⟨gn0, 0, none⟩) 2 2] 30)).cell? ⟨go, 0, none⟩ = some (.slice none 0 0) := (HNS.out.next hba).cell (i := 0) rfl
 have HSN := Lib.hid (show ∀ j u, [.slice (some ⟨gn0, 0, none⟩) 2 2][j]? = some u → ((C0.setCell ⟨gn0, 0, none⟩ (.slice B0 M0 l0)).alloc (.cells #[.slice (some ⟨gn0, 0, none⟩) 2 2] 30)).cell? ((⟨C0.heap.size, 0, none⟩ : Addr).add j) = some u by
  have h1 := tcell_new (C0.setCell ⟨gn0, 0, none⟩ (.slice B0 M0 l0)) (.slice (some ⟨gn0, 0, none⟩) 2 2) 30
  rw [World.size_setCell] at h1
  exact h1)
 clear ho hb hpc
 go_wp2_with (at_builtin; (refine wpList_append_own _ rfl _ _ 45 rfl w.heap.size 30 i1 (.slice none 0 0) 1 24 Tryz.underlying45 hjf hy0 hy1 hy2 rfl (by decide) _ _ _ rfl (World.ownsRow_nil _ _ _ _) ⟨C0.heap.size, 0, none⟩ 1 1 [.slice (some ⟨gn0, 0, none⟩) 2 2] rfl rfl HSN.out (by simp [Value.oneCell']) (by decide) (by decide) (by have h1 := HBS0.out.size; rw [World.size_alloc]; omega) ?_); intro v' Y0 hown' hgrow _; (obtain ⟨A0, Q0, rfl, e1, e2, hU⟩ := U1.first (x := (B0, M0, l0)) (y := (none, 0, 0)) HNS.out HGW.out HPS0.out HG0.out ⟨Nat.le_refl _, by decide⟩ (HOS.out) (OwQp.nil _ _ _) hown' hgrow))
 obtain ⟨X0, HX0⟩ : ∃ W, W = Y0.setCell ⟨go, 0, none⟩ (.slice A0 1 Q0) := ⟨_, rfl⟩
 have HB1 := Lib.hid (show Below w.heap.size w X0 by
  rw [HX0]
  exact (((HBS0.out.alloc HBS0.out.size (.cells #[.slice (some ⟨gn0, 0, none⟩) 2 2] 30)).grown hgrow (by have h1 := HBS0.out.size; rw [World.size_alloc]; omega) (own_block (World.ownsRow_nil w w.heap.size 30 1))).setCell (p := ⟨go, 0, none⟩) HGW.out _))
 rw [← HX0] at hU
 have HU0 := Lib.hid hU
 rw [← HX0]
 clear hU hown' hgrow e1 e2 m0 m0' q0 f0 hba HX0
 rw [rounds_succ]
 obtain ⟨R1, HR1⟩ : ∃ W, W = X0.alloc (.cells #[.slice none 0 0, .slice none 0 0] 73) := ⟨_, rfl⟩
 have hb2 : Below X0.heap.size X0 R1 := by rw [HR1]; exact (Below.refl _ _).alloc (Nat.le_refl _) _
 obtain ⟨gn1, hgn1⟩ : ∃ g, g = X0.heap.size := ⟨_, rfl⟩
 have HP1 := Lib.hid (show PX R1 gn1 73 [.slice none 0 0, .slice none 0 0] by rw [HR1, hgn1]; exact PX.new X0 _ [.slice none 0 0, .slice none 0 0])
 have HG1 := Lib.hid (show w.heap.size ≤ gn1 by rw [hgn1]; exact HB1.out.size)
 have HBA1 := Lib.hid (HB1.out.trans (hb2.mono HB1.out.size))
 have HNA1 := Lib.hid (HU0.out.next hb2)
 have HNE := Lib.hid (show gn0 ≠ gn1 by have h1 := HU0.out.r0.lt; rw [hgn1]; omega)
 have HR1 := Lib.hid HR1
 clear hb2
 go_wp2_with fail
 rw [← HR1.out, ← hgn1]
 clear HR1 hgn1
 clear HR1
 refine (constant_any R1).mono ?_
 rintro _ C1 ⟨B1, m1, l1, rfl, ho, hb⟩
 have hpc := HP1.out.next hb
 have q0 := hpc.cell (i := 1) rfl
 have f0 := hpc.frozen 1
 have HPS1 := Lib.hid (show PX (C1.setCell ⟨gn1, 1, none⟩ (.slice B1 m1 l1)) gn1 73 [.slice none 0 0, .slice B1 m1 l1] from hpc.store 1 _)
 have HKS := Lib.hid (hpc.keepS (.inl rfl) 1 (.slice B1 m1 l1))
 have HOS := Lib.hid (show OwQp (C1.setCell ⟨gn1, 1, none⟩ (.slice B1 m1 l1)) w.heap.size B1 m1 l1 [1] from (ho.base HBA1.out.size).keep HKS.out.q)
 have HBS1 := Lib.hid (show Below w.heap.size w (C1.setCell ⟨gn1, 1, none⟩ (.slice B1 m1 l1)) from (HBA1.out.trans (hb.mono HBA1.out.size)).setCell (p := ⟨gn1, 1, none⟩) HG1.out _)
 have HNS := Lib.hid (show U1 (C1.setCell ⟨gn1, 1, none⟩ (.slice B1 m1 l1)) w.heap.size w.heap.size go A0 Q0 gn0 2 (B0, M0, l0) (none, 0, 0) [1] [] from (HNA1.out.next hb).put hpc HNE.out 1 _)
 have m0 := HNS.out.hd.cell (i := 0) rfl
 have hba : Below (C1.setCell ⟨gn1, 1, none⟩ (.slice B1 m1 l1)).heap.size (C1.setCell ⟨gn1, 1, none⟩ (.slice B1 m1 l1)) ((C1.setCell ⟨gn1, 1, none⟩ (.slice B1 m1 l1)).alloc (.cells #[.slice (some ⟨gn1, 0, none⟩) 2 2] 30)) := (Below.refl _ _).alloc (Nat.le_refl _) _
 have m0' : ((C1.setCell ⟨gn1, 1, none⟩ (.slice B1 m1 l1)).alloc (.cells #[.slice (some ⟨gn1, 0, none⟩) 2 2] 30)).cell? ⟨go, 0, none⟩ = some (.slice A0 1 Q0) := (HNS.out.hd.next hba).cell (i := 0) rfl
 have HSN := Lib.hid (show ∀ j u, [.slice (some ⟨gn1, 0, none⟩) 2 2][j]? = some u → ((C1.setCell ⟨gn1, 1, none⟩ (.slice B1 m1 l1)).alloc (.cells #[.slice (some ⟨gn1, 0, none⟩) 2 2] 30)).cell? ((⟨C1.heap.size, 0, none⟩ : Addr).add j) = some u by
  have h1 := tcell_new (C1.setCell ⟨gn1, 1, none⟩ (.slice B1 m1 l1)) (.slice (some ⟨gn1, 0, none⟩) 2 2) 30
  rw [World.size_setCell] at h1
  exact h1)
 clear ho hb hpc
 go_wp2_with (at_builtin; (refine wpList_append_own _ rfl _ _ 45 rfl w.heap.size 30 i1 (.slice none 0 0) 1 24 Tryz.underlying45 hjf hy0 hy1 hy2 rfl (by decide) _ _ _ rfl (HNS.out.own.alloc _) ⟨C1.heap.size, 0, none⟩ 1 1 [.slice (some ⟨gn1, 0, none⟩) 2 2] rfl rfl HSN.out (by simp [Value.oneCell']) (by decide) (by decide) (by have h1 := HBS1.out.size; rw [World.size_alloc]; omega) ?_); intro v' Y1 hown' hgrow _; (obtain ⟨A1, Q1, rfl, e1, e2, hU⟩ := HNS.out.second (z := (none, 0, 0)) (u := (B1, m1, l1)) HPS1.out HNE.out HG1.out (Nat.le_refl _) ⟨Nat.le_refl _, by decide⟩ (OwQp.nil _ _ _) (HOS.out) hown' hgrow))
 obtain ⟨X1, HX1⟩ : ∃ W, W = Y1.setCell ⟨go, 0, none⟩ (.slice A1 2 Q1) := ⟨_, rfl⟩
 have HB2 := Lib.hid (show Below w.heap.size w X1 by
  rw [HX1]
  exact (((HBS1.out.alloc HBS1.out.size (.cells #[.slice (some ⟨gn1, 0, none⟩) 2 2] 30)).grown hgrow (by have h1 := HBS1.out.size; rw [World.size_alloc]; omega) (own_block HNS.out.own)).setCell (p := ⟨go, 0, none⟩) HGW.out _))
 rw [← HX1] at hU
 have HU1 := Lib.hid hU
 rw [← HX1]
 clear hU hown' hgrow e1 e2 m0 m0' q0 f0 hba HX1
 rw [rounds_succ]
 go_wp2
 go_ret
 exact ⟨_, rfl, HU1.out, HB2.out⟩
end Go.Proofs.YtjnklbfhelbjgaaGreat
