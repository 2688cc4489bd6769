/- Sc26. -/
import Derived.Test.YtjnklbfhelbjgaaGreatSc24
import Derived.Test.YtjnklbfhelbjgaaGreatSc25
import Derived.Test.YtjnklbfhelbjgaaGreatSc21
import Derived.Test.YtjnklbfhelbjgaaGreatSc18
import Derived.Deep.RegionHeld3
import Derived.Deep.DrawnRows
import Derived.Test.YtjnklbfhelbjgaaGreatSc23
import Derived.Test.YtjnklbfhelbjgaaGreatSc00
set_option maxRecDepth 100000
set_option maxHeartbeats 32000000
set_option linter.all false
namespace Go.Proofs.YtjnklbfhelbjgaaGreat
open Go.RowKit Go.IntWalk
attribute [local go_sem ↓] Go.wp_at_zero Go.wp_at_succ
def M2.cl1 (M:M2)(X:List Rat):M2:=M.add 1 (pscl X (-1))
def M2.cl2 (M:M2)(X:List Rat):M2:=(M.flip.add 1 (pscl X (-1))).flip
structure ClOK (M:M2)(X R Y S:List Rat):Prop where
 t0:M.tiny
 n0:M.a ≠ []
 d0:Pq.IsD M.c M.a X R
 x0:Tiny X
 a0:M.addOK 1 (pscl X (-1))
 t1:(M.cl1 X).tiny
 n1:(M.cl1 X).a ≠ []
 d1:Pq.IsD (M.cl1 X).b (M.cl1 X).a Y S
 y1:Tiny Y
 a1:(M.cl1 X).flip.addOK 1 (pscl Y (-1))
def RetCl (b gw:Nat)(M:M2)(p:Prop) [Decidable p] (w:World)(e:Ending)(w':World):Prop:=e=.returned (.bool (decide p))/\Wk w' b gw M/\Below b w w'
theorem clear_zero {b gw:Nat}{M:M2}{X R Y S:List Rat}{w:World}(h:Wk w b gw M)(hb:b<=w.heap.size)(hok:ClOK M X R Y S) :
  Calls Tryz.prog 205 #[.pointer (some ⟨gw,0,none⟩),.int .i64 0] w (RetCl b gw ((M.cl1 X).cl2 Y) ((M.cl1 X).c=[]/\((M.cl1 X).cl2 Y).b=[]) w):=by
 have HOK:=ah hok
 have HW:=ah h
 have HV:=ah (show b<=w.heap.size/\Below b w w from ⟨hb,bR⟩)
 clear hok hb h
 go_enter Tryz.func205,Tryz.ntmps205
 obtain ⟨t0,hx0,hg0,gr0,cr0,ga0,ca0,gc0,cc0,⟨xa0,xn0,xc0⟩,⟨ya0,yn0,yc0⟩,⟨za0,zn0,zc0⟩,⟨ua0,un0,uc0⟩,hT0⟩:=HW.out
 have HT0:=ah hT0
 have HX0:=ah hx0
 have HG0:=ah hg0
 have k0:=hx0.cell (i:=0) rfl
 have k1:=hT0.hd.cell (i:=0) rfl
 have k2:=hT0.hd.cell (i:=1) rfl
 have k3:=hT0.rw.cell (i:=0) rfl
 have k4:=hT0.rw.cell (i:=1) rfl
 have k5:w.cell? ⟨ga0,0,none⟩=some (.slice xa0 xn0 xc0):=hT0.r0.cell rfl
 have k6:w.cell? ⟨ga0,1,none⟩=some (.slice ya0 yn0 yc0):=hT0.r0.cell rfl
 have k7:w.cell? ⟨gc0,0,none⟩=some (.slice za0 zn0 zc0):=hT0.r1.cell rfl
 have k8:w.cell? ⟨gc0,1,none⟩=some (.slice ua0 un0 uc0):=hT0.r1.cell rfl
 clear hx0 hT0 hg0
 go_wp2_with fail
 refine wp_loop_rounds 2 ?_
 rw [rounds_succ]
 go_upto_region 5 with fail
 have HS0:=ah (show ∀ W,Below w.heap.size w W->W.cell? ⟨gw,0,none⟩=some (.pointer (some ⟨t0,0,none⟩))/\W.cell? ⟨t0,0,none⟩=some (.slice (some ⟨gr0,0,none⟩) 2 cr0)/\W.cell? ⟨gr0,0,none⟩=some (.slice (some ⟨ga0,0,none⟩) 2 ca0)/\W.cell? ⟨ga0,0,none⟩=some (.slice xa0 xn0 xc0)/\W.cell? ⟨gr0,1,none⟩=some (.slice (some ⟨gc0,0,none⟩) 2 cc0)/\W.cell? ⟨gc0,0,none⟩=some (.slice za0 zn0 zc0) from fun W hb=>⟨(HX0.out.next hb).cell rfl,(HT0.out.next hb).hd.cell rfl,(HT0.out.next hb).rw.cell rfl,(HT0.out.next hb).r0.cell rfl,(HT0.out.next hb).rw.cell rfl,(HT0.out.next hb).r1.cell rfl⟩)
 have HM:=ah (show Wk w b gw M from ⟨_,HX0.out,HG0.out,_,_,_,_,_,_,_,_,_,_,HT0.out⟩)
 have HCD:=ah (Below.refl w.heap.size w).drew
 clear k0 k1 k2 k3 k4 k5 k6 k7 k8
 refine WA.begin [32] (S:=fun W=>W.cell? ⟨gw,0,none⟩=some (.pointer (some ⟨t0,0,none⟩))/\W.cell? ⟨t0,0,none⟩=some (.slice (some ⟨gr0,0,none⟩) 2 cr0)/\W.cell? ⟨gr0,0,none⟩=some (.slice (some ⟨ga0,0,none⟩) 2 ca0)/\W.cell? ⟨ga0,0,none⟩=some (.slice xa0 xn0 xc0)/\W.cell? ⟨gr0,1,none⟩=some (.slice (some ⟨gc0,0,none⟩) 2 cc0)/\W.cell? ⟨gc0,0,none⟩=some (.slice za0 zn0 zc0)) (by kernel_rfl) (HS0.out _ HCD.out) (fun hHeld=>?_)
 refine wtk 0 ?_
 refine wtk 1 ?_
 refine wtk 2 ?_
 refine wtk 3 ?_
 refine wtk 4 ?_
 refine wtk 5 ?_
 refine wtk 6 ?_
 refine wtk 7 ?_
 refine wtk 8 ?_
 refine wtk 9 ?_
 refine wtk 10 ?_
 refine wtk 11 ?_
 refine wtk 12 ?_
 refine wtk 13 ?_
 refine wtk 14 ?_
 refine wtk 15 ?_
 refine wtk 16 ?_
 refine wtk 17 ?_
 refine wtk 18 ?_
 refine wtk 19 ?_
 refine wtk 20 ?_
 refine wtk 21 ?_
 refine wtk 22 ?_
 refine wtk 23 ?_
 refine wtk 24 ?_
 refine wtk 25 ?_
 refine wtk 26 ?_
 refine wtk 27 ?_
 refine wtk 28 ?_
 refine WA.one (i:=29) (by kernel_rfl) rfl (fun K hK=>?_)
 rw [if_pos (by kernel_rfl)]
 go_simp
 refine (minus_any ((HT0.out.next HCD.out).ec) ((HT0.out.next HCD.out).ea) HOK.out.t0.2.2.1 HOK.out.t0.1 HOK.out.n0 HOK.out.d0 HOK.out.x0).mono ?_
 rintro _ P0 ⟨A0,n0,l0,rfl,ho0,hb0⟩
 have HE0:Hid (Below w.heap.size w P0):=tM HCD hb0
 have HO0:=ah ho0
 have HM0:=ah (HM.out.next HE0.out)
 clear ho0 hb0
 go_wp2_with fail
 refine hK.out _ _ (fun _=>(HS0.out _ HE0.out)) ?_
 have hHeld:=(HS0.out _ HE0.out)
 clear hK K
 (try simp only [Act.put,List.setIfInBounds_toArray,List.set_cons_zero,List.set_cons_succ])
 refine wtk 30 ?_
 refine wtk 31 ?_
 refine WA.one (i:=32) (by kernel_rfl) rfl (fun K hK=>?_)
 rw [if_pos (by kernel_rfl)]
 go_simp
 refine (row_add (i:=1) (j:=0) HM0.out (nT HV.out.1 HE0.out.size) HO0.out HOK.out.a0 (.inr ⟨rfl,rfl⟩)).mono ?_
 rintro _ U1 ⟨rfl,hw0,hb0⟩
 have HWU1:=ah hw0
 have HVU1:=ah (show b<=U1.heap.size/\Below b w U1 from ⟨nT (nT HV.out.1 HE0.out.size) hb0.size,(HV.out.2.trans (HE0.out.mono HV.out.1)).trans hb0⟩)
 clear hw0 hb0
 go_wp2_with fail
 refine hK.out _ _ (fun h=>Bool.noConfusion ((show _=true by kernel_rfl).symm.trans (h 32 (List.mem_singleton.2 rfl)))) ?_
 clear hK K
 (try simp only [Act.put,List.setIfInBounds_toArray,List.set_cons_zero,List.set_cons_succ])
 refine WA.done (by kernel_rfl) ?_ _
 clear hHeld
 obtain ⟨t1,hx1,hg1,gr1,cr1,ga1,ca1,gc1,cc1,⟨xa1,xn1,xc1⟩,⟨ya1,yn1,yc1⟩,⟨za1,zn1,zc1⟩,⟨ua1,un1,uc1⟩,hT1⟩:=HWU1.out
 have HT1:=ah hT1
 have HX1:=ah hx1
 have HG1:=ah hg1
 have k0:=hx1.cell (i:=0) rfl
 have k1:=hT1.hd.cell (i:=0) rfl
 have k2:=hT1.hd.cell (i:=1) rfl
 have k3:=hT1.rw.cell (i:=0) rfl
 have k4:=hT1.rw.cell (i:=1) rfl
 have k5:U1.cell? ⟨ga1,0,none⟩=some (.slice xa1 xn1 xc1):=hT1.r0.cell rfl
 have k6:U1.cell? ⟨ga1,1,none⟩=some (.slice ya1 yn1 yc1):=hT1.r0.cell rfl
 have k7:U1.cell? ⟨gc1,0,none⟩=some (.slice za1 zn1 zc1):=hT1.r1.cell rfl
 have k8:U1.cell? ⟨gc1,1,none⟩=some (.slice ua1 un1 uc1):=hT1.r1.cell rfl
 clear hx1 hT1 hg1
 have HZ:=ah (show zn1=0 ↔ (M.cl1 X).c=[] from by
  have e:(M.cl1 X).c.length=zn1:=HT1.out.ec.len
  rw [<- e]
  exact List.length_eq_zero_iff)
 go_wp2_with fail
 rw [rounds_succ]
 go_wp2_with fail
 refine wp_loop_rounds 2 ?_
 rw [rounds_succ]
 go_upto_region 10 with fail
 have HS1:=ah (show ∀ W,Below U1.heap.size U1 W->W.cell? ⟨gw,0,none⟩=some (.pointer (some ⟨t1,0,none⟩))/\W.cell? ⟨t1,0,none⟩=some (.slice (some ⟨gr1,0,none⟩) 2 cr1)/\W.cell? ⟨gr1,0,none⟩=some (.slice (some ⟨ga1,0,none⟩) 2 ca1)/\W.cell? ⟨ga1,0,none⟩=some (.slice xa1 xn1 xc1)/\W.cell? ⟨ga1,1,none⟩=some (.slice ya1 yn1 yc1) from fun W hb=>⟨(HX1.out.next hb).cell rfl,(HT1.out.next hb).hd.cell rfl,(HT1.out.next hb).rw.cell rfl,(HT1.out.next hb).r0.cell rfl,(HT1.out.next hb).r0.cell rfl⟩)
 have HM:=ah (show Wk U1 b gw (M.cl1 X) from ⟨_,HX1.out,HG1.out,_,_,_,_,_,_,_,_,_,_,HT1.out⟩)
 have HCD:=ah (Below.refl U1.heap.size U1).drew
 clear k0 k1 k2 k3 k4 k5 k6 k7 k8
 refine WA.begin [32] (S:=fun W=>W.cell? ⟨gw,0,none⟩=some (.pointer (some ⟨t1,0,none⟩))/\W.cell? ⟨t1,0,none⟩=some (.slice (some ⟨gr1,0,none⟩) 2 cr1)/\W.cell? ⟨gr1,0,none⟩=some (.slice (some ⟨ga1,0,none⟩) 2 ca1)/\W.cell? ⟨ga1,0,none⟩=some (.slice xa1 xn1 xc1)/\W.cell? ⟨ga1,1,none⟩=some (.slice ya1 yn1 yc1)) (by kernel_rfl) (HS1.out _ HCD.out) (fun hHeld=>?_)
 refine wtk 0 ?_
 refine wtk 1 ?_
 refine wtk 2 ?_
 refine wtk 3 ?_
 refine wtk 4 ?_
 refine wtk 5 ?_
 refine wtk 6 ?_
 refine wtk 7 ?_
 refine wtk 8 ?_
 refine wtk 9 ?_
 refine wtk 10 ?_
 refine wtk 11 ?_
 refine wtk 12 ?_
 refine wtk 13 ?_
 refine wtk 14 ?_
 refine wtk 15 ?_
 refine wtk 16 ?_
 refine wtk 17 ?_
 refine wtk 18 ?_
 refine wtk 19 ?_
 refine wtk 20 ?_
 refine wtk 21 ?_
 refine wtk 22 ?_
 refine wtk 23 ?_
 refine wtk 24 ?_
 refine wtk 25 ?_
 refine wtk 26 ?_
 refine wtk 27 ?_
 refine wtk 28 ?_
 refine WA.one (i:=29) (by kernel_rfl) rfl (fun K hK=>?_)
 rw [if_pos (by kernel_rfl)]
 go_simp
 refine (minus_any ((HT1.out.next HCD.out).eb) ((HT1.out.next HCD.out).ea) HOK.out.t1.2.1 HOK.out.t1.1 HOK.out.n1 HOK.out.d1 HOK.out.y1).mono ?_
 rintro _ P1 ⟨A1,n1,l1,rfl,ho1,hb1⟩
 have HE1:Hid (Below U1.heap.size U1 P1):=tM HCD hb1
 have HO1:=ah ho1
 have HM1:=ah (HM.out.next HE1.out)
 clear ho1 hb1
 go_wp2_with fail
 refine hK.out _ _ (fun _=>(HS1.out _ HE1.out)) ?_
 have hHeld:=(HS1.out _ HE1.out)
 clear hK K
 (try simp only [Act.put,List.setIfInBounds_toArray,List.set_cons_zero,List.set_cons_succ])
 refine wtk 30 ?_
 refine wtk 31 ?_
 refine WA.one (i:=32) (by kernel_rfl) rfl (fun K hK=>?_)
 rw [if_pos (by kernel_rfl)]
 go_simp
 refine (column_add (i:=1) (j:=0) HM1.out (nT HVU1.out.1 HE1.out.size) HO1.out HOK.out.a1 (.inr ⟨rfl,rfl⟩)).mono ?_
 rintro _ U2 ⟨rfl,hw1,hb1⟩
 have HWU2:=ah hw1
 have HVU2:=ah (show b<=U2.heap.size/\Below b w U2 from ⟨nT (nT HVU1.out.1 HE1.out.size) hb1.size,(HVU1.out.2.trans (HE1.out.mono HVU1.out.1)).trans hb1⟩)
 clear hw1 hb1
 go_wp2_with fail
 refine hK.out _ _ (fun h=>Bool.noConfusion ((show _=true by kernel_rfl).symm.trans (h 32 (List.mem_singleton.2 rfl)))) ?_
 clear hK K
 (try simp only [Act.put,List.setIfInBounds_toArray,List.set_cons_zero,List.set_cons_succ])
 refine WA.done (by kernel_rfl) ?_ _
 clear hHeld
 obtain ⟨t2,hx2,hg2,gr2,cr2,ga2,ca2,gc2,cc2,⟨xa2,xn2,xc2⟩,⟨ya2,yn2,yc2⟩,⟨za2,zn2,zc2⟩,⟨ua2,un2,uc2⟩,hT2⟩:=HWU2.out
 have HT2:=ah hT2
 have HX2:=ah hx2
 have HG2:=ah hg2
 have k0:=hx2.cell (i:=0) rfl
 have k1:=hT2.hd.cell (i:=0) rfl
 have k2:=hT2.hd.cell (i:=1) rfl
 have k3:=hT2.rw.cell (i:=0) rfl
 have k4:=hT2.rw.cell (i:=1) rfl
 have k5:U2.cell? ⟨ga2,0,none⟩=some (.slice xa2 xn2 xc2):=hT2.r0.cell rfl
 have k6:U2.cell? ⟨ga2,1,none⟩=some (.slice ya2 yn2 yc2):=hT2.r0.cell rfl
 have k7:U2.cell? ⟨gc2,0,none⟩=some (.slice za2 zn2 zc2):=hT2.r1.cell rfl
 have k8:U2.cell? ⟨gc2,1,none⟩=some (.slice ua2 un2 uc2):=hT2.r1.cell rfl
 clear hx2 hT2 hg2
 have HY:=ah (show yn2=0 ↔ ((M.cl1 X).cl2 Y).b=[] from by
  have e:((M.cl1 X).cl2 Y).b.length=yn2:=HT2.out.eb.len
  rw [<- e]
  exact List.length_eq_zero_iff)
 by_cases hz:zn1=0
 ·have hzi:(zn1:Int)=0:=by omega
  have HZ1:=ah (HZ.out.1 hz)
  clear hz
  by_cases hy:yn2=0
  ·have hyi:(yn2:Int)=0:=by omega
   have HY1:=ah (HY.out.1 hy)
   clear hy
   go_wp2_with fail
   rw [rounds_succ]
   go_wp2
   go_ret
   exact ⟨by rw [decide_eq_true ⟨HZ1.out,HY1.out⟩];rfl,HWU2.out,HVU2.out.2⟩
  ·have hyi:¬(yn2:Int)=0:=by omega
   have HY1:=ah (fun e=>hy (HY.out.2 e))
   clear hy
   go_wp2_with fail
   rw [rounds_succ]
   go_wp2
   go_ret
   exact ⟨by rw [decide_eq_false fun e=>HY1.out e.2];show Ending.returned (.bool ((yn2:Int) == 0))=_;rw [beq_eq_false_iff_ne.2 hyi],HWU2.out,HVU2.out.2⟩
 ·have hzi:¬(zn1:Int)=0:=by omega
  have HZ1:=ah (fun e=>hz (HZ.out.2 e))
  clear hz
  go_wp2_with fail
  rw [rounds_succ]
  go_wp2
  go_ret
  exact ⟨by rw [decide_eq_false fun e=>HZ1.out e.1];rfl,HWU2.out,HVU2.out.2⟩
theorem clear_one {b gw:Nat}{M:M2}{w:World}(h:Wk w b gw M) :
  Calls Tryz.prog 205 #[.pointer (some ⟨gw,0,none⟩),.int .i64 1] w (fun e w'=>e=.returned (.bool true)/\Below w.heap.size w w'):=by
 obtain ⟨t,h1,_,gr,cr,g0,c0,g1,c1,x,y,z,u,h⟩:=h
 have k0:=h1.cell (i:=0) rfl
 have k1:=h.hd.cell (i:=0) rfl
 have k2:=h.hd.cell (i:=1) rfl
 clear h1 h
 go_enter Tryz.func205,Tryz.ntmps205
 go_wp2_with fail
 refine wp_loop_rounds 1 ?_
 rw [rounds_succ]
 go_wp2_with fail
 refine wp_loop_rounds 1 ?_
 rw [rounds_succ]
 go_wp2
 go_ret
 exact ⟨rfl,bR⟩
theorem stray1_any {b b1 b2 b3 gw:Nat}{M:M2}{Af:Option Addr}{nf cf:Nat}{f X R:List Rat}{w:World}(h:Wk w b gw M)(hf:OwQp w b1 Af nf cf f)(h2:PX w b2 188 [.pointer (some ⟨gw,0,none⟩)])(h3:PX w b3 3 [.int .i64 0])(ha:Tiny M.a)(hft:Tiny f)(h0:M.a ≠ [])(hD:Pq.IsD f M.a X R) :
  Calls Tryz.prog 232 #[.slice Af nf cf,.pointer (some ⟨b2,0,none⟩),.pointer (some ⟨b3,0,none⟩)] w (fun e w'=>e=.returned (.bool (decide (R=[])))/\Below w.heap.size w w'):=by
 obtain ⟨t,h1,_,gr,cr,g0,c0,g1,c1,⟨xa,xn,xc⟩,y,z,u,h⟩:=h
 have HA:=ah (show ∀ W,Below w.heap.size w W->OwQp W b xa xn xc M.a/\OwQp W b1 Af nf cf f from fun W hb=>⟨(h.next hb).ea,hf.next hb⟩)
 have HS:=ah (show ∀ W,Below w.heap.size w W->W.cell? ⟨b2,0,none⟩=some (.pointer (some ⟨gw,0,none⟩))/\W.cell? ⟨gw,0,none⟩=some (.pointer (some ⟨t,0,none⟩))/\W.cell? ⟨t,0,none⟩=some (.slice (some ⟨gr,0,none⟩) 2 cr)/\W.cell? ⟨b3,0,none⟩=some (.int .i64 0)/\W.cell? ⟨gr,0,none⟩=some (.slice (some ⟨g0,0,none⟩) 2 c0)/\W.cell? ⟨g0,0,none⟩=some (.slice xa xn xc) from fun W hb=>⟨(h2.next hb).cell rfl,(h1.next hb).cell rfl,(h.next hb).hd.cell rfl,(h3.next hb).cell rfl,(h.next hb).rw.cell rfl,(h.next hb).r0.cell rfl⟩)
 have HD:=ah (cJ ha (cJ hft (cJ h0 hD)))
 have HBD:=ah (Below.refl w.heap.size w).drew
 clear h1 h hf h2 h3 ha hft h0 hD
 go_enter Tryz.func232,Tryz.ntmps232
 go_wp2_with fail
 go_region_held3 (fun W=>W.cell? ⟨b2,0,none⟩=some (.pointer (some ⟨gw,0,none⟩))/\W.cell? ⟨gw,0,none⟩=some (.pointer (some ⟨t,0,none⟩))/\W.cell? ⟨t,0,none⟩=some (.slice (some ⟨gr,0,none⟩) 2 cr)/\W.cell? ⟨b3,0,none⟩=some (.int .i64 0)/\W.cell? ⟨gr,0,none⟩=some (.slice (some ⟨g0,0,none⟩) 2 c0)/\W.cell? ⟨g0,0,none⟩=some (.slice xa xn xc))
  (first | exact HS.out _ HB2.out | exact HS.out _ HBD.out)
  (first
   | (go_at_call 94;refine (pdivides_any (HA.out _ HBD.out).1 (HA.out _ HBD.out).2 HD.out.1 HD.out.2.1 HD.out.2.2.1 HD.out.2.2.2).mono ?_;rintro _ W2 ⟨rfl,hb2⟩;have HB2:Hid (Below w.heap.size w W2):=tM HBD hb2;clear hb2))
 all_goals
  go_wp2
  go_ret
  exact ⟨rfl,HB2.out⟩
theorem stray_one {b gw:Nat}{M:M2}{w:World}(h:Wk w b gw M) :
  Calls Tryz.prog 206 #[.pointer (some ⟨gw,0,none⟩),.int .i64 1] w (fun e w'=>e=.returned (.tuple #[.int .i64 0,.bool false])/\Below w.heap.size w w'):=by
 obtain ⟨W1,HW1⟩:∃ W,W=w.alloc (.cells #[.pointer (some ⟨gw,0,none⟩)] 188):=⟨_,rfl⟩
 obtain ⟨W2,HW2⟩:∃ W,W=W1.alloc (.cells #[.int .i64 1] 3):=⟨_,rfl⟩
 have hb1:Below w.heap.size w W1:=by rw [HW1];exact bA
 have hb2:Below W1.heap.size W1 W2:=by rw [HW2];exact bA
 have hb02:=hb1.trans (hb2.mono hb1.size)
 have h2:PX W2 w.heap.size 188 [.pointer (some ⟨gw,0,none⟩)]:=by
  have:PX W1 w.heap.size 188 [.pointer (some ⟨gw,0,none⟩)]:=by rw [HW1];exact PX.new w _ [.pointer (some ⟨gw,0,none⟩)]
  exact this.next hb2
 have h3:PX W2 W1.heap.size 3 [.int .i64 1]:=by rw [HW2];exact PX.new W1 _ [.int .i64 1]
 have hs:W1.heap.size=w.heap.size+1:=by rw [HW1];simp
 obtain ⟨t,h1,_,gr,cr,g0,c0,g1,c1,x,y,z,u,h⟩:=h.next hb02
 have k0:=h1.cell (i:=0) rfl
 have k1:=h.hd.cell (i:=0) rfl
 have k2:=h2.cell (i:=0) rfl
 have k3:=h3.cell (i:=0) rfl
 have HB:=ah hb02
 rw [HW2] at k0 k1 k2 k3
 rw [hs] at k3
 rw [HW1] at k0 k1 k2 k3
 have HW:=ah (cJ HW1 HW2)
 clear h1 h h2 h3 hb1 hb2 hb02 hs HW1 HW2
 go_enter Tryz.func206,Tryz.ntmps206
 go_wp2_with fail
 refine wp_loop_rounds 1 ?_
 rw [rounds_succ]
 go_wp2
 go_ret2
 exact ⟨rfl,by have:=HB.out;rw [HW.out.2,HW.out.1] at this;exact this⟩
def RetSt (R:List Rat)(w:World)(e:Ending)(w':World):Prop:=e=.returned (.tuple #[.int .i64 (if R=[] then 0 else 1),.bool (decide (R ≠ []))])/\Below w.heap.size w w'
theorem stray_zero {b gw:Nat}{M:M2}{X R:List Rat}{w:World}(h:Wk w b gw M)(ht:M.tiny)(h0:M.a ≠ [])(hD:Pq.IsD M.d M.a X R) :
  Calls Tryz.prog 206 #[.pointer (some ⟨gw,0,none⟩),.int .i64 0] w (RetSt R w):=by
 obtain ⟨W1,HW1⟩:∃ W,W=w.alloc (.cells #[.pointer (some ⟨gw,0,none⟩)] 188):=⟨_,rfl⟩
 obtain ⟨W2,HW2⟩:∃ W,W=W1.alloc (.cells #[.int .i64 0] 3):=⟨_,rfl⟩
 have hb1:Below w.heap.size w W1:=by rw [HW1];exact bA
 have hb2:Below W1.heap.size W1 W2:=by rw [HW2];exact bA
 have hb02:=hb1.trans (hb2.mono hb1.size)
 have hs:W1.heap.size=w.heap.size+1:=by rw [HW1];simp
 obtain ⟨ga,hga⟩:∃ g,g=w.heap.size:=⟨_,rfl⟩
 obtain ⟨gb,hgb⟩:∃ g,g=w.heap.size+1:=⟨_,rfl⟩
 have h2:PX W2 ga 188 [.pointer (some ⟨gw,0,none⟩)]:=by
  have:PX W1 ga 188 [.pointer (some ⟨gw,0,none⟩)]:=by rw [HW1,hga];exact PX.new w _ [.pointer (some ⟨gw,0,none⟩)]
  exact this.next hb2
 have h3:PX W2 gb 3 [.int .i64 0]:=by rw [HW2,hgb,<- hs];exact PX.new W1 _ [.int .i64 0]
 have HK:=ah (cJ (h.next hb02) (cJ h2 (cJ h3 (cJ ht (cJ h0 hD)))))
 obtain ⟨t,h1,_,gr,cr,g0,c0,g1,c1,x,y,z,⟨ua,un,uc⟩,h⟩:=h.next hb02
 have HT:=ah h
 have k0:=h1.cell (i:=0) rfl
 have k1:=h.hd.cell (i:=0) rfl
 have k4:=h.hd.cell (i:=1) rfl
 have k5:=h.rw.cell (i:=1) rfl
 have k6:W2.cell? ⟨g1,1,none⟩=some (.slice ua un uc):=h.r1.cell rfl
 have k2:=h2.cell (i:=0) rfl
 have k3:=h3.cell (i:=0) rfl
 have HB:=ah hb02
 have k3':(w.alloc (.cells #[.pointer (some ⟨gw,0,none⟩)] 188)).heap.size=gb:=by rw [<- HW1,hs,hgb]
 have HWW:((w.alloc (.cells #[.pointer (some ⟨gw,0,none⟩)] 188)).alloc (.cells #[.int .i64 0] 3))=W2:=by rw [HW2,HW1]
 have HW:=ah HWW
 have HG:=ah (cJ hga hgb)
 have HF0:((w.alloc (.cells #[.pointer (some ⟨gw,0,none⟩)] 188)).alloc (.cells #[.int .i64 0] 3)).cell? ⟨w.heap.size+1,0,none⟩=some (.int .i64 0):=by rw [HWW,<- hgb];exact k3
 clear h1 h h2 h3 hb1 hb2 hb02 hs HW1 HW2 HWW ht h0 hD k3'
 go_enter Tryz.func206,Tryz.ntmps206
 go_wp2_with fail
 rw [HW.out,<- HG.out.2,<- HG.out.1]
 clear HF0 hga hgb
 clear HG HW
 refine wp_loop_rounds 2 ?_
 rw [rounds_succ]
 go_wp2_with fail
 refine wp_loop_rounds 2 ?_
 rw [rounds_succ]
 go_wp2_with fail
 refine (stray1_any HK.out.1 HT.out.ed HK.out.2.1 HK.out.2.2.1 HK.out.2.2.2.1.1 HK.out.2.2.2.1.2.2.2 HK.out.2.2.2.2.1 HK.out.2.2.2.2.2).mono ?_
 rintro _ W3 ⟨rfl,hb3⟩
 have HB3:=tM HB hb3
 obtain ⟨t3,h1,_,gr3,cr3,g03,c03,g13,c13,x3,y3,z3,u3,h⟩:=HK.out.1.next hb3
 have j0:=h1.cell (i:=0) rfl
 have j1:=h.hd.cell (i:=0) rfl
 have j4:=h.hd.cell (i:=1) rfl
 have j2:=(HK.out.2.1.next hb3).cell (i:=0) rfl
 have j3:=(HK.out.2.2.1.next hb3).cell (i:=0) rfl
 clear h1 h hb3 k0 k1 k2 k3 k4 k5 k6
 by_cases hR:R=[]
 ·have HRR:=ah hR
  rw [decide_eq_true hR]
  clear hR
  go_wp2_with fail
  rw [rounds_succ]
  go_wp2_with fail
  rw [rounds_succ]
  go_wp2
  go_ret2
  refine ⟨?_,HB3.out⟩
  rw [if_pos HRR.out,decide_eq_false (fun e=>e HRR.out)]
  rfl
 ·have HRR:=ah hR
  rw [decide_eq_false hR]
  clear hR
  go_wp2
  go_ret2
  refine ⟨?_,HB3.out⟩
  rw [if_neg HRR.out,decide_eq_true HRR.out]
  rfl
end Go.Proofs.YtjnklbfhelbjgaaGreat
