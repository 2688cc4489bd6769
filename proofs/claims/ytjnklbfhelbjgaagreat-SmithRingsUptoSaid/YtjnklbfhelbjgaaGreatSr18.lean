/- Sr18. -/
import Derived.Test.YtjnklbfhelbjgaaGreatSr11
import Derived.Handy
import Derived.WalkSpells
import Derived.BigRegion
import Derived.Deep.RegionHeld3
import Derived.Deep.DrawnRows
import Derived.Test.YtjnklbfhelbjgaaGreatSr00
set_option maxRecDepth 100000
set_option maxHeartbeats 32000000
set_option linter.all false
namespace Go.Proofs.YtjnklbfhelbjgaaGreat
open Go.RowKit Go.IntWalk
attribute [local go_sem ↓] Go.wp_at_zero Go.wp_at_succ
def RetT (b t:Nat)(M:M2)(w:World)(e:Ending)(w':World):Prop:=e=.returned (.tuple #[])/\Tb w' b t M/\Below b w w'/\KeepS w w'
theorem swap_to {b t:Nat}{i j:Int}{M:M2}{w:World}(h:Tb w b t M)(hb:b<=w.heap.size)(hij:(i=0/\j=0) ∨ (i=1/\j=1)) :
  Calls Tryz.prog 278 #[.agg #[.int .i64 i,.int .i64 j],.pointer (some ⟨t,0,none⟩)] w (RetT b t (M.swap i j) w):=by
 obtain ⟨gr,cr,g0,c0,g1,c1,x,y,z,u,h⟩:=h
 obtain ⟨W1,HW1⟩:∃ W,W=w.alloc (.cells #[.int .i64 i,.int .i64 j] 221):=⟨_,rfl⟩
 have hb1:Below w.heap.size w W1:=by rw [HW1];exact bA
 have hX:PX W1 w.heap.size 221 [.int .i64 i,.int .i64 j]:=by rw [HW1];exact PX.new w _ [.int .i64 i,.int .i64 j]
 have e0:=hX.cell (i:=0) rfl
 have e1:=hX.cell (i:=1) rfl
 have h1:=h.next hb1
 obtain ⟨k0,k1,k2,k3,_⟩:=h1.cells
 have f0:=h1.rw.frozen 0
 have f1:=h1.rw.frozen 1
 have HB1:=ah hb1
 have HH:=ah h1
 have HW1:=ah HW1
 have HBB:=ah hb
 obtain ⟨gb,hgb⟩:∃ g,g=w.heap.size:=⟨_,rfl⟩
 rw [<- hgb] at e0 e1
 have HNE:=ah (show gr ≠ gb by rw [hgb];exact (HH.out.rw.ne hX (by decide)))
 have HX0:=ah (show PX W1 gb 221 [.int .i64 i,.int .i64 j] by rw [hgb];exact hX)
 clear h1 hb1 hX h hb
 have hn1:¬ t=gr:=HH.out.ht
 have hn2:¬ gb=gr:=HNE.out.symm
 clear HNE
 have HBB2:=ah (HB1.out.mono HBB.out)
 have HKS:=ah (KeepS.below HB1.out)
 rcases hij with ⟨rfl,rfl⟩ | ⟨rfl,rfl⟩
 ·have HS1:=ah (show (W1.setCell ⟨gr,0,none⟩ (.slice (some ⟨g0,0,none⟩) 2 c0)).drew.cell? ⟨t,0,none⟩=some (.slice (some ⟨gr,0,none⟩) 2 cr)/\(W1.setCell ⟨gr,0,none⟩ (.slice (some ⟨g0,0,none⟩) 2 c0)).drew.cell? ⟨gb,0,none⟩=some (.int .i64 0)/\(W1.setCell ⟨gr,0,none⟩ (.slice (some ⟨g0,0,none⟩) 2 c0)).drew.cell? ⟨gb,1,none⟩=some (.int .i64 0)/\(W1.setCell ⟨gr,0,none⟩ (.slice (some ⟨g0,0,none⟩) 2 c0)).drew.cell? ⟨gr,0,none⟩=some (.slice (some ⟨g0,0,none⟩) 2 c0) from ⟨(HH.out.same0.next bR.drew).hd.cell rfl,((HX0.out.far hn2 _).next bR.drew).cell rfl,((HX0.out.far hn2 _).next bR.drew).cell rfl,(HH.out.same0.next bR.drew).rw.cell rfl⟩)
  have HS2:=ah (show ((W1.setCell ⟨gr,0,none⟩ (.slice (some ⟨g0,0,none⟩) 2 c0)).setCell ⟨gr,0,none⟩ (.slice (some ⟨g0,0,none⟩) 2 c0)).drew.cell? ⟨t,0,none⟩=some (.slice (some ⟨gr,0,none⟩) 2 cr)/\((W1.setCell ⟨gr,0,none⟩ (.slice (some ⟨g0,0,none⟩) 2 c0)).setCell ⟨gr,0,none⟩ (.slice (some ⟨g0,0,none⟩) 2 c0)).drew.cell? ⟨gb,0,none⟩=some (.int .i64 0)/\((W1.setCell ⟨gr,0,none⟩ (.slice (some ⟨g0,0,none⟩) 2 c0)).setCell ⟨gr,0,none⟩ (.slice (some ⟨g0,0,none⟩) 2 c0)).drew.cell? ⟨gb,1,none⟩=some (.int .i64 0)/\((W1.setCell ⟨gr,0,none⟩ (.slice (some ⟨g0,0,none⟩) 2 c0)).setCell ⟨gr,0,none⟩ (.slice (some ⟨g0,0,none⟩) 2 c0)).drew.cell? ⟨gr,0,none⟩=some (.slice (some ⟨g0,0,none⟩) 2 c0) from ⟨(HH.out.same0.same0.next bR.drew).hd.cell rfl,(((HX0.out.far hn2 _).far hn2 _).next bR.drew).cell rfl,(((HX0.out.far hn2 _).far hn2 _).next bR.drew).cell rfl,(HH.out.same0.same0.next bR.drew).rw.cell rfl⟩)
  go_enter Tryz.func278,Tryz.ntmps278
  go_wp2_with fail
  rw [<- HW1.out,<- hgb]
  clear HW1 hgb
  clear HW1
  go_region_held3 (fun W=>W.cell? ⟨t,0,none⟩=some (.slice (some ⟨gr,0,none⟩) 2 cr)/\W.cell? ⟨gb,0,none⟩=some (.int .i64 0)/\W.cell? ⟨gb,1,none⟩=some (.int .i64 0)/\W.cell? ⟨gr,0,none⟩=some (.slice (some ⟨g0,0,none⟩) 2 c0))
   (first | exact ⟨k0,e0,e1,k2⟩ | exact HS1.out | exact HS2.out)
   (fail)
  all_goals
   go_wp2
   go_returns
   exact ⟨rfl,⟨_,_,_,_,_,_,_,_,_,_,HH.out.same0.same0.next bR.drew⟩,((HBB2.out.setCell (p:=⟨gr,0,none⟩) HH.out.br (.slice (some ⟨g0,0,none⟩) 2 c0)).setCell (p:=⟨gr,0,none⟩) HH.out.br (.slice (some ⟨g0,0,none⟩) 2 c0)).drew,(HKS.out.trans ((HH.out.rw.keepS (.inr rfl) 0 (.slice (some ⟨g0,0,none⟩) 2 c0)).trans ((HH.out.rw.store 0 (.slice (some ⟨g0,0,none⟩) 2 c0)).keepS (.inr rfl) 0 (.slice (some ⟨g0,0,none⟩) 2 c0)))).trans (.below bR.drew)⟩
 ·have HS1:=ah (show (W1.setCell ⟨gr,1,none⟩ (.slice (some ⟨g1,0,none⟩) 2 c1)).drew.cell? ⟨t,0,none⟩=some (.slice (some ⟨gr,0,none⟩) 2 cr)/\(W1.setCell ⟨gr,1,none⟩ (.slice (some ⟨g1,0,none⟩) 2 c1)).drew.cell? ⟨gb,0,none⟩=some (.int .i64 1)/\(W1.setCell ⟨gr,1,none⟩ (.slice (some ⟨g1,0,none⟩) 2 c1)).drew.cell? ⟨gb,1,none⟩=some (.int .i64 1)/\(W1.setCell ⟨gr,1,none⟩ (.slice (some ⟨g1,0,none⟩) 2 c1)).drew.cell? ⟨gr,1,none⟩=some (.slice (some ⟨g1,0,none⟩) 2 c1) from ⟨(HH.out.same1.next bR.drew).hd.cell rfl,((HX0.out.far hn2 _).next bR.drew).cell rfl,((HX0.out.far hn2 _).next bR.drew).cell rfl,(HH.out.same1.next bR.drew).rw.cell rfl⟩)
  have HS2:=ah (show ((W1.setCell ⟨gr,1,none⟩ (.slice (some ⟨g1,0,none⟩) 2 c1)).setCell ⟨gr,1,none⟩ (.slice (some ⟨g1,0,none⟩) 2 c1)).drew.cell? ⟨t,0,none⟩=some (.slice (some ⟨gr,0,none⟩) 2 cr)/\((W1.setCell ⟨gr,1,none⟩ (.slice (some ⟨g1,0,none⟩) 2 c1)).setCell ⟨gr,1,none⟩ (.slice (some ⟨g1,0,none⟩) 2 c1)).drew.cell? ⟨gb,0,none⟩=some (.int .i64 1)/\((W1.setCell ⟨gr,1,none⟩ (.slice (some ⟨g1,0,none⟩) 2 c1)).setCell ⟨gr,1,none⟩ (.slice (some ⟨g1,0,none⟩) 2 c1)).drew.cell? ⟨gb,1,none⟩=some (.int .i64 1)/\((W1.setCell ⟨gr,1,none⟩ (.slice (some ⟨g1,0,none⟩) 2 c1)).setCell ⟨gr,1,none⟩ (.slice (some ⟨g1,0,none⟩) 2 c1)).drew.cell? ⟨gr,1,none⟩=some (.slice (some ⟨g1,0,none⟩) 2 c1) from ⟨(HH.out.same1.same1.next bR.drew).hd.cell rfl,(((HX0.out.far hn2 _).far hn2 _).next bR.drew).cell rfl,(((HX0.out.far hn2 _).far hn2 _).next bR.drew).cell rfl,(HH.out.same1.same1.next bR.drew).rw.cell rfl⟩)
  go_enter Tryz.func278,Tryz.ntmps278
  go_wp2_with fail
  rw [<- HW1.out,<- hgb]
  clear HW1 hgb
  clear HW1
  go_region_held3 (fun W=>W.cell? ⟨t,0,none⟩=some (.slice (some ⟨gr,0,none⟩) 2 cr)/\W.cell? ⟨gb,0,none⟩=some (.int .i64 1)/\W.cell? ⟨gb,1,none⟩=some (.int .i64 1)/\W.cell? ⟨gr,1,none⟩=some (.slice (some ⟨g1,0,none⟩) 2 c1))
   (first | exact ⟨k0,e0,e1,k3⟩ | exact HS1.out | exact HS2.out)
   (fail)
  all_goals
   go_wp2
   go_returns
   exact ⟨rfl,⟨_,_,_,_,_,_,_,_,_,_,HH.out.same1.same1.next bR.drew⟩,((HBB2.out.setCell (p:=⟨gr,1,none⟩) HH.out.br (.slice (some ⟨g1,0,none⟩) 2 c1)).setCell (p:=⟨gr,1,none⟩) HH.out.br (.slice (some ⟨g1,0,none⟩) 2 c1)).drew,(HKS.out.trans ((HH.out.rw.keepS (.inr rfl) 1 (.slice (some ⟨g1,0,none⟩) 2 c1)).trans ((HH.out.rw.store 1 (.slice (some ⟨g1,0,none⟩) 2 c1)).keepS (.inr rfl) 1 (.slice (some ⟨g1,0,none⟩) 2 c1)))).trans (.below bR.drew)⟩
theorem make_p2 (w:World):(Instr.makeSlice 30 (.int .i64 2) (.int .i64 2)).run Tryz.prog w=.ok (.slice (some ⟨w.heap.size,0,none⟩) 2 2) (w.alloc (.cells #[.slice none 0 0,.slice none 0 0] 73)):=by
 have h:=run_make_row' 30 73 (.slice none 0 0) 24 Tryz.underlying30 infoPoly rfl .i64 .i64 2 (by omega) (by omega) w
 have e:madeCells #[Value.slice none 0 0] 2=#[.slice none 0 0,.slice none 0 0]:=by
  unfold madeCells
  apply Array.ext
  ·simp
  ·intro i h1 h2
   have h3:i=0 ∨ i=1:=by simp at h2;omega
   rcases h3 with rfl | rfl
   ·simp
   ·simp
 rw [e] at h
 exact h
def RetTb (b:Nat)(M:M2)(w:World)(e:Ending)(w':World):Prop:=∃ t',e=.returned (.pointer (some ⟨t',0,none⟩))/\Tb w' b t' M/\Below w.heap.size w w'
theorem flip_any {b t:Nat}{M:M2}{w:World}(h:Tb w b t M)(hb:b<=w.heap.size):Calls Tryz.prog 230 #[.pointer (some ⟨t,0,none⟩)] w (RetTb b M.flip w):=by
 obtain ⟨gr,cr,g0,c0,g1,c1,⟨xa,xn,xc⟩,⟨ya,yn,yc⟩,⟨za,zn,zc⟩,⟨ua,un,uc⟩,h⟩:=h
 obtain ⟨i1,hjf,hy0,hy1,hy2⟩:=info_parts infoRow
 have hmk:=make_p2
 have HBB:=ah hb
 have HT:=ah (show ∀ V,Below w.heap.size w V->T2 V b t gr cr g0 c0 g1 c1 (xa,xn,xc) (ya,yn,yc) (za,zn,zc) (ua,un,uc) M from fun V hb=>h.next hb)
 have HX:=ah (show ∀ V,Below w.heap.size w V->V.cell? ⟨t,0,none⟩=some (.slice (some ⟨gr,0,none⟩) 2 cr)/\V.cell? ⟨t,1,none⟩=some (.int .i64 2)/\V.cell? ⟨gr,0,none⟩=some (.slice (some ⟨g0,0,none⟩) 2 c0)/\V.cell? ⟨gr,1,none⟩=some (.slice (some ⟨g1,0,none⟩) 2 c1)/\V.cell? ⟨g0,0,none⟩=some (.slice xa xn xc)/\V.cell? ⟨g0,1,none⟩=some (.slice ya yn yc)/\V.cell? ⟨g1,0,none⟩=some (.slice za zn zc)/\V.cell? ⟨g1,1,none⟩=some (.slice ua un uc) from fun V hb=>(h.next hb).cells)
 obtain ⟨k0,_⟩:=HX.out w bR
 obtain ⟨W1,HW1⟩:∃ W,W=w.alloc (.cells #[.slice none 0 0,.int .i64 2] 102):=⟨_,rfl⟩
 have hb1:Below w.heap.size w W1:=by rw [HW1];exact bA
 have k1':(w.alloc (.cells #[.slice none 0 0,.int .i64 2] 102)).cell? ⟨t,1,none⟩=some (.int .i64 2):=by rw [<- HW1];exact (HX.out _ hb1).2.1
 obtain ⟨go,hgo⟩:∃ g,g=w.heap.size:=⟨_,rfl⟩
 have HN1:=ah (show PX W1 go 102 [.slice none 0 0,.int .i64 2] by rw [HW1,hgo];exact PX.new w _ [.slice none 0 0,.int .i64 2])
 have HGT:=ah (show b<=go by rw [hgo];exact hb)
 have HGW:=ah (show w.heap.size<=go by rw [hgo];exact nR)
 have HB1:=ah hb1
 have HW1:=ah HW1
 clear h hb hb1
 go_enter Tryz.func230,Tryz.ntmps230
 go_wp2_with fail
 rw [<- HW1.out,<- hgo]
 clear HW1 hgo
 clear HW1 k0 k1'
 refine wp_loop_rounds 3 ?_
 rw [rounds_succ]
 obtain ⟨k0,k1,k2,k3,k4,k5,k6,k7⟩:=HX.out _ HB1.out
 obtain ⟨W2,HW2⟩:∃ W,W=W1.alloc (.cells #[.slice none 0 0,.slice none 0 0] 73):=⟨_,rfl⟩
 have hb2:Below W1.heap.size W1 W2:=by rw [HW2];exact bA
 have HBW2:=tM HB1 hb2
 have k0':(W1.alloc (.cells #[.slice none 0 0,.slice none 0 0] 73)).cell? ⟨t,0,none⟩=some (.slice (some ⟨gr,0,none⟩) 2 cr):=by rw [<- HW2];exact (HX.out _ HBW2.out).1
 obtain ⟨gn0,hgn0⟩:∃ g,g=W1.heap.size:=⟨_,rfl⟩
 have HPW2:=ah (show PX W2 gn0 73 [.slice none 0 0,.slice none 0 0] by rw [HW2,hgn0];exact PX.new W1 _ [.slice none 0 0,.slice none 0 0])
 have HGgn0:=ah (show w.heap.size<=gn0 by rw [hgn0];exact HB1.out.size)
 have HNW2:=ah (HN1.out.next hb2)
 have HW2:=ah HW2
 clear hb2
 go_wp2_with fail
 rw [<- HW2.out,<- hgn0]
 clear HW2 hgn0
 clear HW2 k0 k1 k2 k3 k4 k5 k6 k7 k0'
 obtain ⟨k0,k1,k2,k3,k4,k5,k6,k7⟩:=HX.out _ HBW2.out
 have q0:=HPW2.out.cell (i:=0) rfl
 have q1:=HPW2.out.cell (i:=1) rfl
 have f0:=HPW2.out.frozen 0
 have f1:=HPW2.out.frozen 1
 obtain ⟨W3,HW3⟩:∃ W,W=W2.setCell ⟨gn0,0,none⟩ (.slice xa xn xc):=⟨_,rfl⟩
 have HBW3:=ah (show Below w.heap.size w W3 by rw [HW3];exact HBW2.out.setCell (p:=⟨gn0,0,none⟩) HGgn0.out _)
 have HPW3:=ah (show PX W3 gn0 73 [.slice xa xn xc,.slice none 0 0] by rw [HW3];exact HPW2.out.store 0 _)
 have HKQW3:=ah (show KeepQ W2 W3 by rw [HW3];exact (HPW2.out.keepS (.inl rfl) 0 _).q)
 have HNW3:=ah (show PX W3 go 102 [.slice none 0 0,.int .i64 2] by rw [HW3];exact HNW2.out.far (HNW2.out.ne HPW2.out (by decide)) _)
 have HW3:=ah HW3
 refine wp_loop_rounds 3 ?_
 rw [rounds_succ]
 go_wp2_with fail
 rw [<- HW3.out]
 clear HW3
 clear HW3 k0 k1 k2 k3 k4 k5 k6 k7 q0 q1 f0 f1
 obtain ⟨k0,k1,k2,k3,k4,k5,k6,k7⟩:=HX.out _ HBW3.out
 have q0:=HPW3.out.cell (i:=0) rfl
 have q1:=HPW3.out.cell (i:=1) rfl
 have f0:=HPW3.out.frozen 0
 have f1:=HPW3.out.frozen 1
 obtain ⟨W4,HW4⟩:∃ W,W=W3.setCell ⟨gn0,1,none⟩ (.slice za zn zc):=⟨_,rfl⟩
 have HBW4:=ah (show Below w.heap.size w W4 by rw [HW4];exact HBW3.out.setCell (p:=⟨gn0,1,none⟩) HGgn0.out _)
 have HPW4:=ah (show PX W4 gn0 73 [.slice xa xn xc,.slice za zn zc]/\w.heap.size<=gn0 from ⟨by rw [HW4];exact HPW3.out.store 1 _,HGgn0.out⟩)
 have HNW4:=ah (show PX W4 go 102 [.slice none 0 0,.int .i64 2] by rw [HW4];exact HNW3.out.far (HNW3.out.ne HPW3.out (by decide)) _)
 have HW4:=ah HW4
 rw [rounds_succ]
 go_wp2_with fail
 rw [<- HW4.out]
 clear HW4
 clear HW4 k0 k1 k2 k3 k4 k5 k6 k7 q0 q1 f0 f1
 rw [rounds_succ]
 have m0:=HNW4.out.cell (i:=0) rfl
 have m0':(W4.alloc (.cells #[.slice (some ⟨gn0,0,none⟩) 2 2] 30)).cell? ⟨go,0,none⟩=some (.slice none 0 0):=by
  have hb0:Below W4.heap.size W4 (W4.alloc (.cells #[.slice (some ⟨gn0,0,none⟩) 2 2] 30)):=bA
  exact (HNW4.out.next hb0).cell (i:=0) rfl
 go_wp2_with (at_builtin;go_loud (refine wpList_append_own _ rfl _ _ 45 rfl w.heap.size 30 i1 (.slice none 0 0) 1 24 Tryz.underlying45 hjf hy0 hy1 hy2 rfl (by decide) _ _ _ rfl (World.ownsRow_nil _ _ _ _) ⟨W4.heap.size,0,none⟩ 1 1 [.slice (some ⟨gn0,0,none⟩) 2 2] rfl rfl (tcell_new W4 (.slice (some ⟨gn0,0,none⟩) 2 2) 30) (by simp [Value.oneCell']) (by decide) (by decide) (by have h1:=HBW4.out.size;have h2:=HBB.out;simp;omega) ?_);intro v' w8 hown' hgrow _;obtain ⟨A_w8,c_w8,rfl,e1_w8,e2_w8,hU_w8⟩:=U1.first (x:=(xa,xn,xc)) (y:=(za,zn,zc)) HNW4.out HGW.out HPW4.out.1 HPW4.out.2 ⟨nR,by decide⟩ ((HT.out _ HBW4.out).ea) ((HT.out _ HBW4.out).ec) hown' hgrow)
 obtain ⟨W5,HW5⟩:∃ W,W=w8.setCell ⟨go,0,none⟩ (.slice A_w8 1 c_w8):=⟨_,rfl⟩
 have HBW5:=ah (show Below w.heap.size w W5 by
  rw [HW5]
  exact (((HBW4.out.alloc HBW4.out.size (.cells #[.slice (some ⟨gn0,0,none⟩) 2 2] 30)).grown hgrow (by have h1:=HBW4.out.size;simp;omega) (own_block (World.ownsRow_nil w w.heap.size 30 1))).setCell (p:=⟨go,0,none⟩) HGW.out _))
 rw [<- HW5] at hU_w8
 have HU1:=ah hU_w8
 rw [<- HW5]
 clear hU_w8 hown' hgrow e1_w8 e2_w8 m0 m0' HW5
 rw [rounds_succ]
 obtain ⟨k0,k1,k2,k3,k4,k5,k6,k7⟩:=HX.out _ HBW5.out
 obtain ⟨W12,HW12⟩:∃ W,W=W5.alloc (.cells #[.slice none 0 0,.slice none 0 0] 73):=⟨_,rfl⟩
 have hb2:Below W5.heap.size W5 W12:=by rw [HW12];exact bA
 have HBW12:=tM HBW5 hb2
 have k0':(W5.alloc (.cells #[.slice none 0 0,.slice none 0 0] 73)).cell? ⟨t,0,none⟩=some (.slice (some ⟨gr,0,none⟩) 2 cr):=by rw [<- HW12];exact (HX.out _ HBW12.out).1
 obtain ⟨gn1,hgn1⟩:∃ g,g=W5.heap.size:=⟨_,rfl⟩
 have HPW12:=ah (show PX W12 gn1 73 [.slice none 0 0,.slice none 0 0] by rw [HW12,hgn1];exact PX.new W5 _ [.slice none 0 0,.slice none 0 0])
 have HGgn1:=ah (show w.heap.size<=gn1 by rw [hgn1];exact HBW5.out.size)
 have HNW12:=ah (HU1.out.next hb2)
 have HNE:=ah (show gn0 ≠ gn1 by have h1:=HU1.out.r0.lt;rw [hgn1];omega)
 have HW12:=ah HW12
 clear hb2
 go_wp2_with fail
 rw [<- HW12.out,<- hgn1]
 clear HW12 hgn1
 clear HW12 k0 k1 k2 k3 k4 k5 k6 k7 k0'
 obtain ⟨k0,k1,k2,k3,k4,k5,k6,k7⟩:=HX.out _ HBW12.out
 have q0:=HPW12.out.cell (i:=0) rfl
 have q1:=HPW12.out.cell (i:=1) rfl
 have f0:=HPW12.out.frozen 0
 have f1:=HPW12.out.frozen 1
 obtain ⟨W13,HW13⟩:∃ W,W=W12.setCell ⟨gn1,0,none⟩ (.slice ya yn yc):=⟨_,rfl⟩
 have HBW13:=ah (show Below w.heap.size w W13 by rw [HW13];exact HBW12.out.setCell (p:=⟨gn1,0,none⟩) HGgn1.out _)
 have HPW13:=ah (show PX W13 gn1 73 [.slice ya yn yc,.slice none 0 0] by rw [HW13];exact HPW12.out.store 0 _)
 have HKQW13:=ah (show KeepQ W12 W13 by rw [HW13];exact (HPW12.out.keepS (.inl rfl) 0 _).q)
 have HNW13:=ah (show U1 W13 b w.heap.size go A_w8 c_w8 gn0 2 (xa,xn,xc) (za,zn,zc) M.a M.c by rw [HW13];exact HNW12.out.put HPW12.out HNE.out 0 _)
 have HW13:=ah HW13
 refine wp_loop_rounds 3 ?_
 rw [rounds_succ]
 go_wp2_with fail
 rw [<- HW13.out]
 clear HW13
 clear HW13 k0 k1 k2 k3 k4 k5 k6 k7 q0 q1 f0 f1
 obtain ⟨k0,k1,k2,k3,k4,k5,k6,k7⟩:=HX.out _ HBW13.out
 have q0:=HPW13.out.cell (i:=0) rfl
 have q1:=HPW13.out.cell (i:=1) rfl
 have f0:=HPW13.out.frozen 0
 have f1:=HPW13.out.frozen 1
 obtain ⟨W14,HW14⟩:∃ W,W=W13.setCell ⟨gn1,1,none⟩ (.slice ua un uc):=⟨_,rfl⟩
 have HBW14:=ah (show Below w.heap.size w W14 by rw [HW14];exact HBW13.out.setCell (p:=⟨gn1,1,none⟩) HGgn1.out _)
 have HPW14:=ah (show PX W14 gn1 73 [.slice ya yn yc,.slice ua un uc]/\w.heap.size<=gn1 from ⟨by rw [HW14];exact HPW13.out.store 1 _,HGgn1.out⟩)
 have HNW14:=ah (show U1 W14 b w.heap.size go A_w8 c_w8 gn0 2 (xa,xn,xc) (za,zn,zc) M.a M.c by rw [HW14];exact HNW13.out.put HPW13.out HNE.out 1 _)
 have HW14:=ah HW14
 rw [rounds_succ]
 go_wp2_with fail
 rw [<- HW14.out]
 clear HW14
 clear HW14 k0 k1 k2 k3 k4 k5 k6 k7 q0 q1 f0 f1
 rw [rounds_succ]
 have m0:=HNW14.out.hd.cell (i:=0) rfl
 have m0':(W14.alloc (.cells #[.slice (some ⟨gn1,0,none⟩) 2 2] 30)).cell? ⟨go,0,none⟩=some (.slice A_w8 1 c_w8):=by
  have hb0:Below W14.heap.size W14 (W14.alloc (.cells #[.slice (some ⟨gn1,0,none⟩) 2 2] 30)):=bA
  exact (HNW14.out.hd.next hb0).cell (i:=0) rfl
 go_wp2_with (at_builtin;go_loud (refine wpList_append_own _ rfl _ _ 45 rfl w.heap.size 30 i1 (.slice none 0 0) 1 24 Tryz.underlying45 hjf hy0 hy1 hy2 rfl (by decide) _ _ _ rfl (HNW14.out.own.alloc _) ⟨W14.heap.size,0,none⟩ 1 1 [.slice (some ⟨gn1,0,none⟩) 2 2] rfl rfl (tcell_new W14 (.slice (some ⟨gn1,0,none⟩) 2 2) 30) (by simp [Value.oneCell']) (by decide) (by decide) (by have h1:=HBW14.out.size;have h2:=HBB.out;simp;omega) ?_);intro v' w9 hown' hgrow _;obtain ⟨A_w9,c_w9,rfl,e1_w9,e2_w9,hU_w9⟩:=HNW14.out.second (z:=(ya,yn,yc)) (u:=(ua,un,uc)) HPW14.out.1 HNE.out HPW14.out.2 HBB.out ⟨nR,by decide⟩ ((HT.out _ HBW14.out).eb) ((HT.out _ HBW14.out).ed) hown' hgrow)
 obtain ⟨W15,HW15⟩:∃ W,W=w9.setCell ⟨go,0,none⟩ (.slice A_w9 2 c_w9):=⟨_,rfl⟩
 have HBW15:=ah (show Below w.heap.size w W15 by
  rw [HW15]
  exact (((HBW14.out.alloc HBW14.out.size (.cells #[.slice (some ⟨gn1,0,none⟩) 2 2] 30)).grown hgrow (by have h1:=HBW14.out.size;simp;omega) (own_block (HNW14.out.own))).setCell (p:=⟨go,0,none⟩) HGW.out _))
 rw [<- HW15] at hU_w9
 have HU2:=ah hU_w9
 rw [<- HW15]
 clear hU_w9 hown' hgrow e1_w9 e2_w9 m0 m0' HW15
 rw [rounds_succ]
 go_wp2
 go_ret
 exact ⟨_,rfl,HU2.out,HBW15.out⟩
def Wk (w:World)(b gw:Nat)(M:M2):Prop:=∃ t,PX w gw 191 [.pointer (some ⟨t,0,none⟩),.pointer none,.pointer none]/\b<=gw/\Tb w b t M
def RetWk (b gw:Nat)(M:M2)(w:World)(e:Ending)(w':World):Prop:=e=.returned (.tuple #[])/\Wk w' b gw M/\Below b w w'
section
variable {w w':World}{b gw t:Nat}{M:M2}
theorem Wk.next (h:Wk w b gw M)(hb:Below w.heap.size w w'):Wk w' b gw M:=by
 obtain ⟨t,h1,h2,h3⟩:=h
 exact ⟨t,h1.next hb,h2,h3.next hb⟩
theorem Tb.other {T:TypeId}{ys:List Value}(h:Tb w b t M)(hz:PX w gw T ys)(h1:T ≠ 102/\T ≠ 30/\T ≠ 73/\T ≠ 171/\T ≠ 47)(j:Nat)(u:Value):Tb (w.setCell ⟨gw,j,none⟩ u) b t M:=by
 obtain ⟨gr,cr,g0,c0,g1,c1,x,y,z,v,h⟩:=h
 have hk:=hz.keepQ h1.2.2.2.1 h1.2.2.2.2 j u
 exact ⟨gr,cr,g0,c0,g1,c1,x,y,z,v,h.hd.far (h.hd.ne hz h1.1.symm) _,h.rw.far (h.rw.ne hz h1.2.1.symm) _,h.r0.far (h.r0.ne hz h1.2.2.1.symm) _,h.r1.far (h.r1.ne hz h1.2.2.1.symm) _,h.ne,h.bt,h.br,h.b0,h.b1,h.lr,h.l0,h.l1,h.ea.keep hk,h.eb.keep hk,h.ec.keep hk,h.ed.keep hk⟩
theorem Tb.keepT (h:Tb w b t M):∃ A c,w.cell? ⟨t,0,none⟩=some (.slice A 2 c)/\w.cell? ⟨t,1,none⟩=some (.int .i64 2):=by
 obtain ⟨gr,cr,g0,c0,g1,c1,x,y,z,v,h⟩:=h
 exact ⟨_,_,h.hd.cell rfl,h.hd.cell rfl⟩
end
theorem row_swap {b gw:Nat}{i j:Int}{M:M2}{w:World}(h:Wk w b gw M)(hb:b<=w.heap.size)(hij:(i=0/\j=0) ∨ (i=1/\j=1)) :
  Calls Tryz.prog 203 #[.pointer (some ⟨gw,0,none⟩),.iface 221 (.agg #[.int .i64 i,.int .i64 j])] w (RetWk b gw ((M).swap i j) w):=by
 have HH:=ah (show _ from hij)
 obtain ⟨t,h1,h2,h3⟩:=h
 have HX:=ah h1
 have HT:=ah h3
 have HG:=ah h2
 have HBB:=ah hb
 have k0:=h1.cell (i:=0) rfl
 have HC:=ah k0
 have HBD:=ah (Below.refl w.heap.size w).drew
 have hna : ∀ W : World, Sem.run Tryz.prog (nilAhead 381 221 (.agg #[.int .i64 i, .int .i64 j]) "simile/smith.to") W = .ok (some false) W := fun W => by kernel_rfl
 clear h1 h2 h3 hb
 clear hij
 go_enter Tryz.func203,Tryz.ntmps203
 go_wp2_with fail
 go_region_held3 (fun W=>W.cell? ⟨gw,0,none⟩=some (.pointer (some ⟨t,0,none⟩)))
  (first | exact HC.out | exact ((HX.out.next HBD.out).cell (i:=0) rfl) | exact (HX2.out.cell (i:=0) rfl))
  (first
   | (go_at_call 278;refine (swap_to (HT.out.next HBD.out) (nT HBB.out HBD.out.size) HH.out).mono ?_;rintro _ W2 ⟨rfl,ht2,hb2,hk2⟩;have HX2:=ah ((HX.out.next HBD.out).keep hk2 (by decide) (by decide));have HT2:=ah ht2;have HB2:=ah ((HBD.out.mono HBB.out).trans hb2);clear ht2 hb2 hk2))
 all_goals
  have k1:=HX2.out.cell (i:=1) rfl
  go_wp2
  go_returns
  exact ⟨rfl,⟨_,HX2.out,HG.out,HT2.out⟩,HB2.out⟩
theorem column_swap {b gw:Nat}{i j:Int}{M:M2}{w:World}(h:Wk w b gw M)(hb:b<=w.heap.size)(hij:(i=0/\j=0) ∨ (i=1/\j=1)) :
  Calls Tryz.prog 204 #[.pointer (some ⟨gw,0,none⟩),.iface 221 (.agg #[.int .i64 i,.int .i64 j])] w (RetWk b gw (((M.flip).swap i j).flip) w):=by
 have HH:=ah (show _ from hij)
 obtain ⟨t,h1,h2,h3⟩:=h
 have HX:=ah h1
 have HT:=ah h3
 have HG:=ah h2
 have HBB:=ah hb
 have k0:=h1.cell (i:=0) rfl
 obtain ⟨At,ct,k1,k2⟩:=h3.keepT
 clear h1 h2 h3 hb
 clear hij
 go_enter Tryz.func204,Tryz.ntmps204
 go_wp2_with fail
 refine (flip_any HT.out HBB.out).mono ?_
 rintro _ W1 ⟨t1,rfl,ht1,hb1⟩
 have HT1:=ah ht1
 have HB1:=ah hb1
 have HX1:=ah (HX.out.next hb1)
 clear ht1 hb1 k0 k1 k2
 go_wp2_with fail
 refine (swap_to (HT1.out) (nT HBB.out HB1.out.size) HH.out).mono ?_
 rintro _ W2 ⟨rfl,ht2,hb2,hk2⟩
 have HX2:=ah (HX1.out.keep hk2 (by decide) (by decide))
 have HT2:=ah ht2
 have HB2:=ah ((HB1.out.mono HBB.out).trans hb2)
 clear ht2 hb2 hk2
 go_wp2_with fail
 refine (flip_any HT2.out (nT HBB.out HB2.out.size)).mono ?_
 rintro _ W3 ⟨t3,rfl,ht3,hb3⟩
 have hx3:=HX2.out.next hb3
 have k0:=hx3.cell (i:=0) rfl
 have f0:=hx3.frozen 0
 have HT4:=ah (ht3.other hx3 (by decide) 0 (.pointer (some ⟨t3,0,none⟩)))
 have HX4:=ah (hx3.store 0 (.pointer (some ⟨t3,0,none⟩)))
 have HB4:=ah ((HB2.out.trans (hb3.mono (nT HBB.out HB2.out.size))).setCell (p:=⟨gw,0,none⟩) HG.out (.pointer (some ⟨t3,0,none⟩)))
 have k2:=HX4.out.cell (i:=2) rfl
 clear ht3 hb3 hx3
 go_wp2
 go_returns
 exact ⟨rfl,⟨_,HX4.out,HG.out,HT4.out⟩,HB4.out⟩
end Go.Proofs.YtjnklbfhelbjgaaGreat
