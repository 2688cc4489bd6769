/- modpoly: the sum, the product. -/
import Derived.Test.YtmgacikdgbedfaaGreatDoorM12
import Derived.Test.YtmgacikdgbedfaaGreatDoorM4
import Derived.Shelf.Abstract
namespace Go.Proofs.YtmgacikdgbedfaaGreatDoor
open Go.RowKit Go.IntWalk
attribute [local go_sem ↓] Go.wp_at_zero Go.wp_at_succ

set_option maxRecDepth 100000 in
set_option maxHeartbeats 1000000 in
theorem mMul_none {A A' : Option Addr} {n c n' c' : Nat} {w : World} (p : Nat) (hpr : ¬ Nt.Pr p) (hp : p < 4294967296) (hT : Tabs w) :
    Calls Tryz.prog 12 #[.slice A n c, .slice A' n' c', .int .u32 p] w (RetNE 40 w) := by
  have HP := Lib.hid hpr
  have hB0 := below1 w (.cells #[.slice A n c, .slice A' n' c'] 23)
  have hT0 := hT.below hB0
  clear hpr
  go_enter Tryz.func12, Tryz.ntmps12
  go_wp2_with fail
  refine (mall_none p HP.out hp hT0).mono ?_
  rintro _ w1 ⟨rfl, hb1⟩
  have HB := Lib.hid ((hB0.trans (hb1.mono hB0.size)).alloc (Nat.le_trans hB0.size hb1.size) (.cells #[.int .u64 0] 51))
  go_wp2
  go_ret2
  exact ⟨rfl, HB.out⟩
set_option maxRecDepth 100000 in
set_option maxHeartbeats 1000000 in
theorem mMul_ok {A A' : Option Addr} {n c n' c' : Nat} {L L' : List Nat} {w : World} (p : Nat) (hpr : Nt.Pr p) (hp : p < 4294967296) (h : RdU w w.heap.size A n c L) (h' : RdU w w.heap.size A' n' c' L') (hn : n ≤ 1099511627776) (hn' : n' ≤ 1099511627776) (hT : Tabs w) :
    Calls Tryz.prog 12 #[.slice A n c, .slice A' n' c', .int .u32 p] w (RetPE (fun R => Pm.Pn p R ∧ Pm.Cg p (Pm.co R) (Pm.cv (Pm.co L) (Pm.co L'))) w) := by
  have HP := Lib.hid hpr
  have h0 := hpr.pos
  clear hpr
  go_enter Tryz.func12, Tryz.ntmps12
  go_wp2_with fail
  refine (mall2_any p HP.out hp h h' hn hn' hT).mono ?_
  rintro _ w1 ⟨g, A1, n1, c1, M1, A2, n2, c2, M2, rfl, hg, hcg0, hcg1, hp1, hp2, hM, hn1, hn2, hb1⟩
  have hB2 := below1 w1 (.cells #[.int .u64 p] 51)
  have hcb : (w1.alloc (.cells #[.int .u64 p] 51)).cell? ⟨w1.heap.size, 0, none⟩ = some (.int .u64 p) := by go_simp
  have HC0 := Lib.hid ((hB2.cell (p := ⟨g, 0, none⟩) hg).trans hcg0)
  have HC1 := Lib.hid ((hB2.cell (p := ⟨g, 1, none⟩) hg).trans hcg1)
  have hP1 := hp1.next hB2
  have hP2 := hp2.next hB2
  have hT2 := (hT.below hb1).below hB2
  have HB := Lib.hid (hb1.trans (hB2.mono hb1.size))
  have hsz : w1.heap.size < (w1.alloc (.cells #[.int .u64 p] 51)).heap.size := by simp
  have HCB := Lib.hid hcb
  clear hcb hcg0 hcg1 hB2 hp1 hp2
  go_wp2_with fail
  generalize w1.alloc (.cells #[.int .u64 p] 51) = W2 at HC0 HC1 HCB hP1 hP2 hT2 HB hsz ⊢
  have hgl : g < W2.heap.size := Nat.lt_trans hg hsz
  have hc0 := HC0.out
  have hc1 := HC1.out
  have hcb := HCB.out
  have hr1 := hP1.rd.drew
  have hr2 := hP2.rd.drew
  have hTd := hT2.drew
  have HSZ := Lib.hid (HB.out.size)
  have HE := Lib.hid (mtimes_any p HP.out hp hr1 hr2 (by omega) (by omega) hM.out.1 hM.out.2.2.1)
  go_region_held3 (fun w' => w'.cell? ⟨w1.heap.size, 0, none⟩ = some (.int .u64 p) ∧ w'.cell? ⟨g, 0, none⟩ = some (.slice A1 n1 c1) ∧ w'.cell? ⟨g, 1, none⟩ = some (.slice A2 n2 c2)) (go_keep)
    (first
      | (go_at_call 37; refine HE.out.mono ?_; rintro _ w3 ⟨A3, n3, c3, M3, rfl, hp3, hM3, hb3⟩; have hcb3 := (hb3.cell (p := ⟨w1.heap.size, 0, none⟩) hsz).trans hcb; have hc03 := (hb3.cell (p := ⟨g, 0, none⟩) hgl).trans hc0; have hc13 := (hb3.cell (p := ⟨g, 1, none⟩) hgl).trans hc1)
      | (go_at_call 32; refine (mtold_any hp3).mono ?_; rintro _ _ ⟨A4, c4, rfl, hp4, rfl⟩))
  have HF := Lib.hid (HB.out.drew.trans (hb3.mono HB.out.size))
  have HP4 := Lib.hid (hp4.base HSZ.out)
  have HM3 := Lib.hid (pn_cg hM3.out (Pm.Cg.cv hM.out.2.1 hM.out.2.2.2))
  clear hcb3 hc03 hc13
  go_wp2
  go_ret2
  exact ⟨A4, n3, c4, M3, rfl, HP4.out, HM3.out, HF.out⟩
set_option maxRecDepth 100000 in
set_option maxHeartbeats 1000000 in
theorem mAdd_none {A A' : Option Addr} {n c n' c' : Nat} {w : World} (p : Nat) (hpr : ¬ Nt.Pr p) (hp : p < 4294967296) (hT : Tabs w) :
    Calls Tryz.prog 10 #[.slice A n c, .slice A' n' c', .int .u32 p] w (RetNE 40 w) := by
  have HP := Lib.hid hpr
  have hB0 := below1 w (.cells #[.slice A n c, .slice A' n' c'] 23)
  have hT0 := hT.below hB0
  clear hpr
  go_enter Tryz.func10, Tryz.ntmps10
  go_wp2_with fail
  refine (mall_none p HP.out hp hT0).mono ?_
  rintro _ w1 ⟨rfl, hb1⟩
  have HB := Lib.hid ((hB0.trans (hb1.mono hB0.size)).alloc (Nat.le_trans hB0.size hb1.size) (.cells #[.int .u64 0] 51))
  go_wp2
  go_ret2
  exact ⟨rfl, HB.out⟩
set_option maxRecDepth 100000 in
set_option maxHeartbeats 1000000 in
theorem mAdd_ok {A A' : Option Addr} {n c n' c' : Nat} {L L' : List Nat} {w : World} (p : Nat) (hpr : Nt.Pr p) (hp : p < 4294967296) (h : RdU w w.heap.size A n c L) (h' : RdU w w.heap.size A' n' c' L') (hn : n ≤ 1099511627776) (hn' : n' ≤ 1099511627776) (hT : Tabs w) :
    Calls Tryz.prog 10 #[.slice A n c, .slice A' n' c', .int .u32 p] w (RetPE (fun R => Pm.Pn p R ∧ Pm.Cg p (Pm.co R) (fun k => Pm.co L k + Pm.co L' k)) w) := by
  have HP := Lib.hid hpr
  have h0 := hpr.pos
  have HDO := Lib.hid (show ∀ (W : World) (x y : Nat), x < p → y < p → Calls Tryz.prog 35 #[.agg #[.int .u64 p], .int .u32 x, .int .u32 y] W (RetC p ((x : Int) + y) W) from fun W x y hx hy => fadd_any p x y h0 hp (by omega) (by omega) W)
  clear hpr
  go_enter Tryz.func10, Tryz.ntmps10
  go_wp2_with fail
  refine (mall2_any p HP.out hp h h' hn hn' hT).mono ?_
  rintro _ w1 ⟨g, A1, n1, c1, M1, A2, n2, c2, M2, rfl, hg, hcg0, hcg1, hp1, hp2, hM, hn1, hn2, hb1⟩
  have hB2 := below1 w1 (.cells #[.int .u64 p] 51)
  have hcb : (w1.alloc (.cells #[.int .u64 p] 51)).cell? ⟨w1.heap.size, 0, none⟩ = some (.int .u64 p) := by go_simp
  have HC0 := Lib.hid ((hB2.cell (p := ⟨g, 0, none⟩) hg).trans hcg0)
  have HC1 := Lib.hid ((hB2.cell (p := ⟨g, 1, none⟩) hg).trans hcg1)
  have hP1 := hp1.next hB2
  have hP2 := hp2.next hB2
  have hT2 := (hT.below hb1).below hB2
  have HB := Lib.hid (hb1.trans (hB2.mono hb1.size))
  have hsz : w1.heap.size < (w1.alloc (.cells #[.int .u64 p] 51)).heap.size := by simp
  have HCB := Lib.hid hcb
  clear hcb hcg0 hcg1 hB2 hp1 hp2
  go_wp2_with fail
  generalize w1.alloc (.cells #[.int .u64 p] 51) = W2 at HC0 HC1 HCB hP1 hP2 hT2 HB hsz ⊢
  have hgl : g < W2.heap.size := Nat.lt_trans hg hsz
  have hc0 := HC0.out
  have hc1 := HC1.out
  have hcb := HCB.out
  have hr1 := hP1.rd.drew
  have hr2 := hP2.rd.drew
  have hTd := hT2.drew
  have HSZ := Lib.hid (HB.out.size)
  have HE := Lib.hid (meach_any (F := fun x y => x + y) p h0 hp (enters_of Tryz.func35 (by kernel_rfl) rfl) HDO.out rfl hr1 hr2 (by omega) (by omega) hM.out.1.2 hM.out.2.2.1.2)
  go_region_held3 (fun w' => w'.cell? ⟨w1.heap.size, 0, none⟩ = some (.int .u64 p) ∧ w'.cell? ⟨g, 0, none⟩ = some (.slice A1 n1 c1) ∧ w'.cell? ⟨g, 1, none⟩ = some (.slice A2 n2 c2)) (go_keep)
    (first
      | (go_at_call 34; refine HE.out.mono ?_; rintro _ w3 ⟨A3, n3, c3, M3, rfl, hp3, hM3, hb3⟩; have hcb3 := (hb3.cell (p := ⟨w1.heap.size, 0, none⟩) hsz).trans hcb; have hc03 := (hb3.cell (p := ⟨g, 0, none⟩) hgl).trans hc0; have hc13 := (hb3.cell (p := ⟨g, 1, none⟩) hgl).trans hc1)
      | (go_at_call 32; refine (mtold_any hp3).mono ?_; rintro _ _ ⟨A4, c4, rfl, hp4, rfl⟩))
  have HF := Lib.hid (HB.out.drew.trans (hb3.mono HB.out.size))
  have HP4 := Lib.hid (hp4.base HSZ.out)
  have HM3 := Lib.hid (pn_cg hM3.out (Pm.Cg.add hM.out.2.1 hM.out.2.2.2))
  clear hcb3 hc03 hc13
  go_wp2
  go_ret2
  exact ⟨A4, n3, c4, M3, rfl, HP4.out, HM3.out, HF.out⟩
end Go.Proofs.YtmgacikdgbedfaaGreatDoor
