/- modpoly, the document's example: the splitter. -/
import Derived.Test.YtmgacikdgbedfaaGreatDoorF1
import Derived.Test.YtmgacikdgbedfaaGreatDoorPm6
namespace Go.Proofs.YtmgacikdgbedfaaGreatDoor
open Go.RowKit Go.IntWalk
attribute [local go_sem ↓] Go.wp_at_zero Go.wp_at_succ

theorem fld_sub (W : World) (x y : Nat) (hx : x < 7) (hy : y < 7) : Calls Tryz.prog 36 #[.agg #[.int .u64 7], .int .u32 x, .int .u32 y] W (RetC 7 ((x : Int) - y) W) := fsub_any 7 x y (by omega) (by omega) (by omega) (by omega) W
theorem sub_six {O R : List Nat} (hO : O = [0, 1]) (h : Pm.Pn 7 R ∧ Pm.Cg 7 (Pm.co R) (fun k => Pm.co O k - Pm.co [1] k)) : R = [6, 1] := by
  subst hO
  refine Pm.known (by omega) h.1 Pm.b7_pn h.2 2 (fun k hk => ?_) (fun k hk => ?_) (by decide)
  · match k, hk with
    | 0, _ => exact Pm.cz_int (by decide)
    | 1, _ => exact Pm.cz_int (by decide)
  · rw [Pm.co_zero (show [0, 1].length ≤ k from hk), Pm.co_zero (show [1].length ≤ k by simp; omega)]; rfl
set_option maxRecDepth 100000 in
set_option maxHeartbeats 4000000 in
theorem split_ex {A A' : Option Addr} {c c' : Nat} {w : World} (h : RdU w w.heap.size A 2 c [0, 1]) (h' : RdU w w.heap.size A' 3 c' Pm.a7) (hT : Tabs w) :
    Calls Tryz.prog 109 #[.agg #[.int .u64 7], .slice A 2 c, .slice A' 3 c', .int .i64 1] w (RetQ (· = [6, 1]) w) := by
  have hB0 := below1 w (.cells #[.int .u64 7] 51)
  have hR0 := h.next hB0
  have hR0' := h'.next hB0
  have hT0 := hT.below hB0
  have HCB := Lib.hid (show (w.alloc (.cells #[.int .u64 7] 51)).cell? ⟨w.heap.size, 0, none⟩ = some (.int .u64 7) by go_simp)
  have hsz : w.heap.size < (w.alloc (.cells #[.int .u64 7] 51)).heap.size := by simp
  go_enter Tryz.func109, Tryz.ntmps109
  go_wp2_with fail
  generalize w.alloc (.cells #[.int .u64 7] 51) = W1 at hR0 hR0' hT0 HCB hsz hB0 ⊢
  obtain ⟨gb, hgb⟩ : ∃ gb, gb = w.heap.size := ⟨_, rfl⟩
  rw [← hgb] at HCB hsz ⊢
  have hgw : w.heap.size ≤ gb := by omega
  clear hgb
  refine (mrest_any 7 Pm.pr7' (by omega) hR0 hR0' (by omega) (by omega) Pm.x7_pn Pm.a7_pn (by omega) hT0).mono ?_
  rintro _ w2 ⟨A2, n2, c2, R2, rfl, hp2, hr2, hb2⟩
  have hR2 := Pm.rm_x hr2.out.1
  subst hR2
  obtain rfl : n2 = 2 := hp2.len.symm
  have hcb2 := (hb2.cell (p := ⟨gb, 0, none⟩) hsz).trans HCB.out
  have hA2 := hR0'.next hb2
  have hT2 := hT0.below hb2
  have HB2 := Lib.hid (hB0.trans (hb2.mono hB0.size))
  have hs2 := Nat.lt_of_lt_of_le hsz hb2.size
  have hx2 := hp2.rd
  clear hr2 hR0 hR0' hT0 hb2 hB0 HCB
  go_wp2_with fail
  go_loop [11, 12, 45] (fun nv xv iv => nv = .slice A2 2 c2 ∧ xv = .slice A2 2 c2 ∧ iv = .int .i64 0) (fun _ _ _ => 0)
  case atStart => exact ⟨rfl, rfl, rfl⟩
  case round =>
    obtain ⟨rfl, rfl, rfl⟩ := hrel
    have hxd := hx2.drew
    have hAd := hA2.drew
    have hTd := hT2.drew
    have hB3 := below1 w2 (.cells #[.int .u32 1] 24)
    have hU3 : UB (w2.alloc (.cells #[.int .u32 1] 24)) w2.heap.size [1] := UB.new w2 [1]
    have hw1 : Dg.Wd [1] := fun x hx => by simp at hx; omega
    have HPA : Hid (Calls Tryz.prog 78 #[.agg #[.int .u64 7], .slice A2 2 c2, .int .u64 3, .slice A' 3 c'] (w2.alloc (.cells #[.int .u32 1] 24)).drew (RetQ (Pq 7 [0, 1] 3 Pm.a7) (w2.alloc (.cells #[.int .u32 1] 24)).drew)) :=
      Lib.hid (mpow_any 7 3 Pm.pr7' (by omega) (by omega) (hx2.next hB3).drew (hA2.next hB3).drew (by omega) (by omega) Pm.x7_pn Pm.a7_pn (by omega) (hT2.below hB3).drew)
    have HPB : Hid (Calls Tryz.prog 78 #[.agg #[.int .u64 7], .slice A2 2 c2, .int .u64 3, .slice A' 3 c'] w2.drew (RetQ (Pq 7 [0, 1] 3 Pm.a7) w2.drew)) :=
      Lib.hid (mpow_any 7 3 Pm.pr7' (by omega) (by omega) hxd hAd (by omega) (by omega) Pm.x7_pn Pm.a7_pn (by omega) hTd)
    have HEG := Lib.hid (enters_of Tryz.func36 (by kernel_rfl) rfl)
    have HE : Hid (∀ (W : World) (A3 : Option Addr) (c3 g1 : Nat), RdU W W.heap.size A3 2 c3 [0, 1] → RdU W W.heap.size (some ⟨g1, 0, none⟩) 1 1 [1] →
        Calls Tryz.prog 34 #[.agg #[.int .u64 7], .slice A3 2 c3, .slice (some ⟨g1, 0, none⟩) 1 1, .func (.func 36) #[.agg #[.int .u64 7]] #[]] W (RetPo 7 (fun k => Pm.co [0, 1] k - Pm.co [1] k) W)) :=
      Lib.hid fun W A3 c3 g1 ha hb => meach_any (F := fun x y => x - y) 7 (by omega) (by omega) HEG.out fld_sub rfl ha hb (by omega) (by omega) (fun x hx => by simp at hx; omega) (fun x hx => by simp at hx; omega)
    have HBD := Lib.hid hB3.drew
    have HU3 := Lib.hid (hU3.drewN 1)
    have HLT := Lib.hid (show gb < (w2.alloc (.cells #[.int .u32 1] 24)).drew.heap.size by simp [World.drew]; omega)
    have HSZ := Lib.hid (show w2.heap.size < (w2.alloc (.cells #[.int .u32 1] 24)).drew.heap.size by simp [World.drew])
    have HBA := Lib.hid (show (w2.alloc (.cells #[.int .u32 1] 24)).drew.cell? ⟨gb, 0, none⟩ = some (.int .u64 7) from (hB3.cell (p := ⟨gb, 0, none⟩) hs2).trans hcb2)
    have HONE : Hid (∀ W : World, UB W w2.heap.size [1] → RdU W W.heap.size (some ⟨w2.heap.size, 0, none⟩) 1 1 [1]) := Lib.hid fun W hu => hu.rd hw1 hu.lt (k := 1) (Nat.le_refl _) (by unfold maxLen; simp)
    have HONB : Hid (∀ W : World, RdU (W.alloc (.cells #[.int .u32 1] 24)) (W.alloc (.cells #[.int .u32 1] 24)).heap.size (some ⟨W.heap.size, 0, none⟩) 1 1 [1]) := Lib.hid fun W => (UB.new W [1]).rd hw1 (UB.new W [1]).lt (k := 1) (Nat.le_refl _) (by unfold maxLen; simp)
    clear hxd hAd hTd hU3 hB3
    go_wp2_with fail
    have hs6 : IntKind.u64.wrap 6 = 6 := by decide
    have hs3 : IntKind.u64.wrap 3 = 3 := by decide
    go_region_held3 (fun w' => w'.cell? ⟨gb, 0, none⟩ = some (.int .u64 7)) (go_keep)
      (first
        | (go_at_call 78; first
            | ((with_reducible refine HPA.out.mono ?_); rintro _ w3 ⟨A3, n3, c3, R3, rfl, hp3, hr3, hb3⟩; have HR3 := Pm.pw_x (n := 1) hr3.out.1 hr3.out.2.1 hr3.out.2.2; subst HR3; obtain rfl : n3 = 2 := hp3.len.symm; have hcb3 := (hb3.cell (p := ⟨gb, 0, none⟩) HLT.out).trans HBA.out; have HON := Lib.hid (HONE.out w3 (HU3.out.below hb3 HSZ.out)))
            | ((with_reducible refine HPB.out.mono ?_); rintro _ w3 ⟨A3, n3, c3, R3, rfl, hp3, hr3, hb3⟩; have HR3 := Pm.pw_x (n := 1) hr3.out.1 hr3.out.2.1 hr3.out.2.2; subst HR3; obtain rfl : n3 = 2 := hp3.len.symm; have hcb3 := (hb3.cell (p := ⟨gb, 0, none⟩) hs2).trans hcb2))
        | (go_at_call 34; first
            | ((with_reducible refine (HE.out w3 A3 c3 _ hp3.rd HON.out).mono ?_); rintro _ w4 ⟨A4, n4, c4, R4, rfl, hp4, hr4, hb4⟩; have hcb4 := (hb4.cell (p := ⟨gb, 0, none⟩) (Nat.lt_of_lt_of_le HLT.out hb3.size)).trans hcb3; have HBX := Lib.hid ((HBD.out.trans (hb3.mono HBD.out.size)).trans (hb4.mono (Nat.le_trans HBD.out.size hb3.size))); have HPX := Lib.hid (hp4.base (Nat.le_trans HB2.out.size (Nat.le_trans HBD.out.size hb3.size))))
            | (refine (HE.out _ A3 c3 _ (hp3.rd.next (below1 w3 _)) (HONB.out w3)).mono ?_; rintro _ w4 ⟨A4, n4, c4, R4, rfl, hp4, hr4, hb4⟩; have hcb4 := (((below1 w3 (.cells #[.int .u32 1] 24)).trans (hb4.mono (below1 w3 (.cells #[.int .u32 1] 24)).size)).cell (p := ⟨gb, 0, none⟩) (Nat.lt_of_lt_of_le hs2 hb3.size)).trans hcb3; have HBX := Lib.hid ((((Below.refl w2.heap.size w2).drew.trans hb3).trans ((below1 w3 (.cells #[.int .u32 1] 24)).mono hb3.size)).trans (hb4.mono (Nat.le_trans hb3.size (below1 w3 (.cells #[.int .u32 1] 24)).size))); have HPX := Lib.hid (hp4.base (Nat.le_trans HB2.out.size (Nat.le_trans hb3.size (below1 w3 (.cells #[.int .u32 1] 24)).size))))))
    all_goals
      clear hb4 hcb4 hp4 hs6 hs3
      go_wp2
      go_ret
      exact ⟨A4, n4, c4, R4, rfl, HPX.out, Lib.hid (sub_six rfl hr4.out), HB2.out.trans (HBX.out.mono HB2.out.size)⟩
end Go.Proofs.YtmgacikdgbedfaaGreatDoor
