/- Sr25. -/
import Derived.Test.YtjnklbfhelbjgaaGreatSr24
import Derived.Test.YtjnklbfhelbjgaaGreatSr10
import Derived.Test.YtjnklbfhelbjgaaGreatSr11
import Derived.Test.YtjnklbfhelbjgaaGreatSr18
import Derived.Test.YtjnklbfhelbjgaaGreatSr20
import Derived.Deep.AppendLies
import Derived.Test.YtjnklbfhelbjgaaGreatSr17
import Derived.RangeFuncNested
import Derived.RangeFuncBound
import Derived.RangeFuncCalls
import Derived.RangeFuncLeaves
import Derived.RangeFuncBox
import Derived.OwnWalkIn
import Derived.TacticsInMore
import Derived.LoopNIn
import Derived.LoopIn
import Derived.Shelf.Abstract
import Derived.Test.YtjnklbfhelbjgaaGreatSr00
set_option maxRecDepth 100000
set_option maxHeartbeats 32000000
set_option linter.all false
namespace Go.Proofs.YtjnklbfhelbjgaaGreat
open Go.RowKit Go.IntWalk
attribute [local go_sem ↓] Go.wp_at_zero Go.wp_at_succ
theorem swap_self (M:M2)(i:Int):M.swap i i=M:=if_pos rfl
def M2.cols (M:M2):M2:=(M.flip.swap 0 1).flip
def lead (L:List Rat):Rat:=Pq.co L (L.length-1)
structure RdOK (M N:M2)(X R Y S Z T:List Rat):Prop where
 cl:ClOK M X R Y S
 eq:(M.cl1 X).cl2 Y=N
 z1:(M.cl1 X).c=[]
 z2:N.b=[]
 tn:N.tiny
 na:N.a ≠ []
 dv:Pq.IsD N.d N.a Z T
structure LdOK (L:List Rat):Prop where
 t:Tiny L
 ne:L ≠ []
 iq:Qs 1 (lead L)⁻¹
theorem LdOK.nz {L:List Rat}(h:LdOK L):lead L ≠ 0:=Pq.nz_top h.t.nz (List.length_pos_iff.2 h.ne)
def RetRn (b gw:Nat)(M:M2)(w:World)(e:Ending)(w':World):Prop:=e=.returned (.int .i64 2)/\Wk w' b gw M/\Below b w w'
theorem run_one {b gw:Nat}{M N K E:M2}{X R Y S Z:List Rat}{w:World}(h:Wk w b gw M)(hb:b<=w.heap.size)(ha:M.a.length=2)(hB:M.b.length=0)(hc:M.c.length=0)(hd:M.d.length=2)
  (r1:RdOK M N X R Y S Z []) (l1:LdOK N.a) (hK:N.scale 0 (lead N.a)⁻¹=K) (tK:K.tiny) (l2:LdOK K.d) (hE:K.scale 1 (lead K.d)⁻¹=E) :
  Calls Tryz.prog 163 #[.pointer (some ⟨gw,0,none⟩)] w (RetRn b gw E w):=by
 have HA:=ah (cJ r1 (cJ l1 (cJ hK (cJ tK (cJ l2 hE)))))
 have HL:=ah (cJ ha (cJ hB (cJ hc hd)))
 have HWw:=ah h
 have HVw:=ah (show b<=w.heap.size/\Below b w w from ⟨hb,bR⟩)
 clear r1 l1 hK tK l2 hE ha hB hc hd h hb
 go_enter Tryz.func163,Tryz.ntmps163
 go_wp2
 go_step3
 go_wp2
 go_step3
 go_wp2
 refine wp_loop_rounds 4 ?_
 rw [rounds_succ]
 go_wp2_with fail
 refine (least_one HWw.out HL.out.1 HL.out.2.1 HL.out.2.2.1 HL.out.2.2.2).mono ?_
 rintro _ W1 ⟨rfl,hb⟩
 have HWW1:=ah (HWw.out.next hb)
 have HVW1:=ah (show b<=W1.heap.size/\Below b w W1 from ⟨nT HVw.out.1 hb.size,HVw.out.2.trans (hb.mono HVw.out.1)⟩)
 clear hb
 go_wp2_with fail
 refine (row_swap (i:=0) (j:=0) HWW1.out HVW1.out.1 (.inl ⟨rfl,rfl⟩)).mono ?_
 rintro _ W2 ⟨rfl,hw,hb⟩
 rw [swap_self] at hw
 have HWW2:=ah hw
 have HVW2:=ah (show b<=W2.heap.size/\Below b w W2 from ⟨nT HVW1.out.1 hb.size,HVW1.out.2.trans hb⟩)
 clear hw hb
 go_wp2_with fail
 refine (column_swap (i:=0) (j:=0) HWW2.out HVW2.out.1 (.inl ⟨rfl,rfl⟩)).mono ?_
 rintro _ W3 ⟨rfl,hw,hb⟩
 rw [show ((M).flip.swap 0 0).flip=M by rw [swap_self];rfl] at hw
 have HWW3:=ah hw
 have HVW3:=ah (show b<=W3.heap.size/\Below b w W3 from ⟨nT HVW2.out.1 hb.size,HVW2.out.2.trans hb⟩)
 clear hw hb
 go_wp2_with fail
 refine (clear_zero HWW3.out HVW3.out.1 HA.out.1.cl).mono ?_
 rintro _ W4 ⟨he,hw,hb⟩
 rw [decide_eq_true ⟨HA.out.1.z1,by rw [HA.out.1.eq];exact HA.out.1.z2⟩] at he
 subst he
 rw [HA.out.1.eq] at hw
 have HWW4:=ah hw
 have HVW4:=ah (show b<=W4.heap.size/\Below b w W4 from ⟨nT HVW3.out.1 hb.size,HVW3.out.2.trans hb⟩)
 clear hw hb
 go_wp2_with fail
 refine (stray_zero HWW4.out HA.out.1.tn HA.out.1.na HA.out.1.dv).mono ?_
 rintro _ W5 ⟨he,hb⟩
 rw [if_pos rfl,decide_eq_false (fun e=>e rfl)] at he
 subst he
 have HWW5:=ah (HWW4.out.next hb)
 have HVW5:=ah (show b<=W5.heap.size/\Below b w W5 from ⟨nT HVW4.out.1 hb.size,HVW4.out.2.trans (hb.mono HVW4.out.1)⟩)
 clear hb
 obtain ⟨t5,hx5,hg5,gr5,cr5,ga5,ca5,gc5,cc5,⟨xa5,xn5,xc5⟩,y5,z5,⟨ua5,un5,uc5⟩,hT5⟩:=HWW5.out
 have k0:=hx5.cell (i:=0) rfl
 have k1:=hT5.hd.cell (i:=0) rfl
 have k3:=hT5.rw.cell (i:=0) rfl
 have k5:W5.cell? ⟨ga5,0,none⟩=some (.slice xa5 xn5 xc5):=hT5.r0.cell rfl
 have hln:(N).a.length=xn5:=hT5.ea.len
 have hl0:0 < xn5:=by rw [<- hln];exact List.length_pos_iff.2 HA.out.2.1.ne
 have h16:xn5<=16:=by rw [<- hln];exact HA.out.2.1.t.2.1
 obtain ⟨ad5,s5,A5,m5,l5,s'5,A'5,m'5,l'5,q5,rfl,hbk,j0,j1,j2,j3,hq,hqx⟩:=op_at hT5.ea (show xn5-1 < xn5 by omega)
 obtain rfl:q5=lead (N).a:=by unfold lead;rw [hln];exact (Pq.co_get hqx.out).symm
 have HQ5:=ah hq
 have HL5:=ah (show Qs 1 (lead (N).a) from HA.out.2.1.t.qs _ (gM hqx.out))
 obtain ⟨jj,hjj⟩:∃ j,j=xn5-1:=⟨_,rfl⟩
 have hwr:IntKind.i64.wrap ((xn5:Int)-1)=(jj:Int):=by rw [IntWalk.i64_in _ (by omega)];omega
 have hr0:(0:Int)<=(jj:Int):=by omega
 have hr1:(jj:Int) < (xn5:Int):=by omega
 rw [<- hjj] at j0 j1 j2 j3
 clear hx5 hT5 hg5 hln hl0 h16 hq hqx hjj hbk
 go_wp2_with fail
 refine (qinvq_any (N:=1) HQ5.out.num.rd HQ5.out.den.rd ⟨by rw [HQ5.out.num.len];exact HL5.out.1,by rw [HQ5.out.den.len];exact HL5.out.2⟩ (by decide) (by decide) HA.out.2.1.nz).mono ?_
 rintro _ W6 ⟨s5,A5,n5,l5,s6,A6,n6,l6,y5,rfl,ho5,hy5,hb⟩
 obtain rfl:=hy5.out
 have HWW6:=ah (HWW5.out.next hb)
 have HVW6:=ah (show b<=W6.heap.size/\Below b w W6 from ⟨nT HVW5.out.1 hb.size,HVW5.out.2.trans (hb.mono HVW5.out.1)⟩)
 clear hb hy5 k0 k1 k3 k5 j0 j1 j2 j3 hwr hr0 hr1
 obtain ⟨W7,HBW7⟩:∃ W,W=W6.alloc (.cells #[.bool s5,.slice A5 n5 l5,.bool s6,.slice A6 n6 l6] 47):=⟨_,rfl⟩
 have hb:Below W6.heap.size W6 W7:=by rw [HBW7];exact bA
 have HOW7:=ah (ho5.next hb)
 have HWW7:=ah (HWW6.out.next hb)
 have HVW7:=ah (show b<=W7.heap.size/\Below b w W7 from ⟨nT HVW6.out.1 hb.size,HVW6.out.2.trans (hb.mono HVW6.out.1)⟩)
 clear hb
 have HBW7:=ah HBW7
 clear ho5
 go_wp2_with fail
 rw [<- HBW7.out]
 clear HBW7
 clear HBW7
 refine (row_scale (i:=0) HWW7.out HVW7.out.1 HOW7.out ⟨HA.out.1.tn,HA.out.2.1.iq⟩ (.inl rfl)).mono ?_
 rintro _ W8 ⟨rfl,hw,hb⟩
 rw [HA.out.2.2.1] at hw
 have HWW8:=ah hw
 have HVW8:=ah (show b<=W8.heap.size/\Below b w W8 from ⟨nT HVW7.out.1 hb.size,HVW7.out.2.trans hb⟩)
 clear hw hb
 go_wp2_with fail
 rw [rounds_succ]
 go_wp2_with fail
 refine (least_three HWW8.out ⟨List.length_pos_iff.2 HA.out.2.2.2.2.1.ne,HA.out.2.2.2.2.1.t.2.1⟩).mono ?_
 rintro _ W9 ⟨rfl,hb⟩
 have HWW9:=ah (HWW8.out.next hb)
 have HVW9:=ah (show b<=W9.heap.size/\Below b w W9 from ⟨nT HVW8.out.1 hb.size,HVW8.out.2.trans (hb.mono HVW8.out.1)⟩)
 clear hb
 go_wp2_with fail
 refine (row_swap (i:=1) (j:=1) HWW9.out HVW9.out.1 (.inr ⟨rfl,rfl⟩)).mono ?_
 rintro _ W10 ⟨rfl,hw,hb⟩
 rw [swap_self] at hw
 have HWW10:=ah hw
 have HVW10:=ah (show b<=W10.heap.size/\Below b w W10 from ⟨nT HVW9.out.1 hb.size,HVW9.out.2.trans hb⟩)
 clear hw hb
 go_wp2_with fail
 refine (column_swap (i:=1) (j:=1) HWW10.out HVW10.out.1 (.inr ⟨rfl,rfl⟩)).mono ?_
 rintro _ W11 ⟨rfl,hw,hb⟩
 rw [show ((K).flip.swap 1 1).flip=K by rw [swap_self];rfl] at hw
 have HWW11:=ah hw
 have HVW11:=ah (show b<=W11.heap.size/\Below b w W11 from ⟨nT HVW10.out.1 hb.size,HVW10.out.2.trans hb⟩)
 clear hw hb
 go_wp2_with fail
 refine (clear_one HWW11.out).mono ?_
 rintro _ W12 ⟨rfl,hb⟩
 have HWW12:=ah (HWW11.out.next hb)
 have HVW12:=ah (show b<=W12.heap.size/\Below b w W12 from ⟨nT HVW11.out.1 hb.size,HVW11.out.2.trans (hb.mono HVW11.out.1)⟩)
 clear hb
 go_wp2_with fail
 refine (stray_one HWW12.out).mono ?_
 rintro _ W13 ⟨rfl,hb⟩
 have HWW13:=ah (HWW12.out.next hb)
 have HVW13:=ah (show b<=W13.heap.size/\Below b w W13 from ⟨nT HVW12.out.1 hb.size,HVW12.out.2.trans (hb.mono HVW12.out.1)⟩)
 clear hb
 obtain ⟨t13,hx13,hg13,gr13,cr13,ga13,ca13,gc13,cc13,⟨xa13,xn13,xc13⟩,y13,z13,⟨ua13,un13,uc13⟩,hT13⟩:=HWW13.out
 have k0:=hx13.cell (i:=0) rfl
 have k1:=hT13.hd.cell (i:=0) rfl
 have k3:=hT13.rw.cell (i:=1) rfl
 have k5:W13.cell? ⟨gc13,1,none⟩=some (.slice ua13 un13 uc13):=hT13.r1.cell rfl
 have hln:(K).d.length=un13:=hT13.ed.len
 have hl0:0 < un13:=by rw [<- hln];exact List.length_pos_iff.2 HA.out.2.2.2.2.1.ne
 have h16:un13<=16:=by rw [<- hln];exact HA.out.2.2.2.2.1.t.2.1
 obtain ⟨ad13,s13,A13,m13,l13,s'13,A'13,m'13,l'13,q13,rfl,hbk,j0,j1,j2,j3,hq,hqx⟩:=op_at hT13.ed (show un13-1 < un13 by omega)
 obtain rfl:q13=lead (K).d:=by unfold lead;rw [hln];exact (Pq.co_get hqx.out).symm
 have HQ13:=ah hq
 have HL13:=ah (show Qs 1 (lead (K).d) from HA.out.2.2.2.2.1.t.qs _ (gM hqx.out))
 obtain ⟨jj,hjj⟩:∃ j,j=un13-1:=⟨_,rfl⟩
 have hwr:IntKind.i64.wrap ((un13:Int)-1)=(jj:Int):=by rw [IntWalk.i64_in _ (by omega)];omega
 have hr0:(0:Int)<=(jj:Int):=by omega
 have hr1:(jj:Int) < (un13:Int):=by omega
 rw [<- hjj] at j0 j1 j2 j3
 clear hx13 hT13 hg13 hln hl0 h16 hq hqx hjj hbk
 go_wp2_with fail
 refine (qinvq_any (N:=1) HQ13.out.num.rd HQ13.out.den.rd ⟨by rw [HQ13.out.num.len];exact HL13.out.1,by rw [HQ13.out.den.len];exact HL13.out.2⟩ (by decide) (by decide) HA.out.2.2.2.2.1.nz).mono ?_
 rintro _ W14 ⟨s5,A5,n5,l5,s6,A6,n6,l6,y5,rfl,ho5,hy5,hb⟩
 obtain rfl:=hy5.out
 have HWW14:=ah (HWW13.out.next hb)
 have HVW14:=ah (show b<=W14.heap.size/\Below b w W14 from ⟨nT HVW13.out.1 hb.size,HVW13.out.2.trans (hb.mono HVW13.out.1)⟩)
 clear hb hy5 k0 k1 k3 k5 j0 j1 j2 j3 hwr hr0 hr1
 obtain ⟨W15,HBW15⟩:∃ W,W=W14.alloc (.cells #[.bool s5,.slice A5 n5 l5,.bool s6,.slice A6 n6 l6] 47):=⟨_,rfl⟩
 have hb:Below W14.heap.size W14 W15:=by rw [HBW15];exact bA
 have HOW15:=ah (ho5.next hb)
 have HWW15:=ah (HWW14.out.next hb)
 have HVW15:=ah (show b<=W15.heap.size/\Below b w W15 from ⟨nT HVW14.out.1 hb.size,HVW14.out.2.trans (hb.mono HVW14.out.1)⟩)
 clear hb
 have HBW15:=ah HBW15
 clear ho5
 go_wp2_with fail
 rw [<- HBW15.out]
 clear HBW15
 clear HBW15
 refine (row_scale (i:=1) HWW15.out HVW15.out.1 HOW15.out ⟨HA.out.2.2.2.1,HA.out.2.2.2.2.1.iq⟩ (.inr rfl)).mono ?_
 rintro _ W16 ⟨rfl,hw,hb⟩
 rw [HA.out.2.2.2.2.2] at hw
 have HWW16:=ah hw
 have HVW16:=ah (show b<=W16.heap.size/\Below b w W16 from ⟨nT HVW15.out.1 hb.size,HVW15.out.2.trans hb⟩)
 clear hw hb
 go_wp2_with fail
 rw [rounds_succ]
 go_wp2_with fail
 refine (least_none HWW16.out).mono ?_
 rintro _ Wz ⟨rfl,hb⟩
 have HWWz:=ah (HWW16.out.next hb)
 have HVWz:=ah (show b<=Wz.heap.size/\Below b w Wz from ⟨nT HVW16.out.1 hb.size,HVW16.out.2.trans (hb.mono HVW16.out.1)⟩)
 clear hb
 go_wp2
 try rw [Exit.noGoto_ret]
 go_ret
 exact ⟨rfl,HWWz.out,HVWz.out.2⟩
theorem run_two {b gw:Nat}{M N N1 N2 N3 N4 K E:M2}{X R Y S Z T X2 R2 Y2 S2 X3 R3 Y3 S3 Z3:List Rat}{w:World}(h:Wk w b gw M)(hb:b<=w.heap.size)(ha:M.a.length=2)(hB:M.b.length=0)(hc:M.c.length=0)(hd:M.d.length=2)
  (r1:RdOK M N X R Y S Z T) (hT:T ≠ []) (ok:N.addOK 0 [1]) (h1:N.add 0 [1]=N1) (c2:ClOK N1 X2 R2 Y2 S2) (h2:(N1.cl1 X2).cl2 Y2=N2)
  (ja:N2.a.length=2) (jB:N2.b.length=1) (jc:N2.c.length=0) (jd:N2.d.length=2) (h3:N2.cols=N3)
  (r3:RdOK N3 N4 X3 R3 Y3 S3 Z3 []) (l1:LdOK N4.a) (hK:N4.scale 0 (lead N4.a)⁻¹=K) (tK:K.tiny) (l2:LdOK K.d) (hE:K.scale 1 (lead K.d)⁻¹=E) :
  Calls Tryz.prog 163 #[.pointer (some ⟨gw,0,none⟩)] w (RetRn b gw E w):=by
 have HR:=ah (cJ r1 (cJ hT (cJ ok (cJ h1 (cJ c2 h2)))))
 have HA:=ah (cJ r3 (cJ l1 (cJ hK (cJ tK (cJ l2 hE)))))
 have HL:=ah (cJ ha (cJ hB (cJ hc hd)))
 have HJ:=ah (cJ ja (cJ jB (cJ jc jd)))
 have H3:=ah h3
 have HWw:=ah h
 have HVw:=ah (show b<=w.heap.size/\Below b w w from ⟨hb,bR⟩)
 clear r1 hT ok h1 c2 h2 r3 l1 hK tK l2 hE ha hB hc hd ja jB jc jd h3 h hb
 go_enter Tryz.func163,Tryz.ntmps163
 go_wp2
 go_step3
 go_wp2
 go_step3
 go_wp2
 refine wp_loop_rounds 5 ?_
 rw [rounds_succ]
 go_wp2_with fail
 refine (least_one HWw.out HL.out.1 HL.out.2.1 HL.out.2.2.1 HL.out.2.2.2).mono ?_
 rintro _ W1 ⟨rfl,hb⟩
 have HWW1:=ah (HWw.out.next hb)
 have HVW1:=ah (show b<=W1.heap.size/\Below b w W1 from ⟨nT HVw.out.1 hb.size,HVw.out.2.trans (hb.mono HVw.out.1)⟩)
 clear hb
 go_wp2_with fail
 refine (row_swap (i:=0) (j:=0) HWW1.out HVW1.out.1 (.inl ⟨rfl,rfl⟩)).mono ?_
 rintro _ W2 ⟨rfl,hw,hb⟩
 rw [swap_self] at hw
 have HWW2:=ah hw
 have HVW2:=ah (show b<=W2.heap.size/\Below b w W2 from ⟨nT HVW1.out.1 hb.size,HVW1.out.2.trans hb⟩)
 clear hw hb
 go_wp2_with fail
 refine (column_swap (i:=0) (j:=0) HWW2.out HVW2.out.1 (.inl ⟨rfl,rfl⟩)).mono ?_
 rintro _ W3 ⟨rfl,hw,hb⟩
 rw [show ((M).flip.swap 0 0).flip=M by rw [swap_self];rfl] at hw
 have HWW3:=ah hw
 have HVW3:=ah (show b<=W3.heap.size/\Below b w W3 from ⟨nT HVW2.out.1 hb.size,HVW2.out.2.trans hb⟩)
 clear hw hb
 go_wp2_with fail
 refine (clear_zero HWW3.out HVW3.out.1 HR.out.1.cl).mono ?_
 rintro _ W4 ⟨he,hw,hb⟩
 rw [decide_eq_true ⟨HR.out.1.z1,by rw [HR.out.1.eq];exact HR.out.1.z2⟩] at he
 subst he
 rw [HR.out.1.eq] at hw
 have HWW4:=ah hw
 have HVW4:=ah (show b<=W4.heap.size/\Below b w W4 from ⟨nT HVW3.out.1 hb.size,HVW3.out.2.trans hb⟩)
 clear hw hb
 go_wp2_with fail
 refine (stray_zero HWW4.out HR.out.1.tn HR.out.1.na HR.out.1.dv).mono ?_
 rintro _ W5 ⟨he,hb⟩
 rw [if_neg HR.out.2.1,decide_eq_true HR.out.2.1] at he
 subst he
 have HWW5:=ah (HWW4.out.next hb)
 have HVW5:=ah (show b<=W5.heap.size/\Below b w W5 from ⟨nT HVW4.out.1 hb.size,HVW4.out.2.trans (hb.mono HVW4.out.1)⟩)
 clear hb
 go_wp2_with fail
 refine (constant_any W5).mono ?_
 rintro _ W6 ⟨A1,n1,l1,rfl,ho,hb⟩
 have HO:=ah ho
 clear ho
 have HWW6:=ah (HWW5.out.next hb)
 have HVW6:=ah (show b<=W6.heap.size/\Below b w W6 from ⟨nT HVW5.out.1 hb.size,HVW5.out.2.trans (hb.mono HVW5.out.1)⟩)
 clear hb
 go_wp2_with fail
 refine (row_add (i:=0) (j:=1) HWW6.out HVW6.out.1 HO.out HR.out.2.2.1 (.inl ⟨rfl,rfl⟩)).mono ?_
 rintro _ W7 ⟨rfl,hw,hb⟩
 rw [HR.out.2.2.2.1] at hw
 have HWW7:=ah hw
 have HVW7:=ah (show b<=W7.heap.size/\Below b w W7 from ⟨nT HVW6.out.1 hb.size,HVW6.out.2.trans hb⟩)
 clear hw hb
 go_wp2_with fail
 refine (clear_zero HWW7.out HVW7.out.1 HR.out.2.2.2.2.1).mono ?_
 rintro _ W8 ⟨rfl,hw,hb⟩
 rw [HR.out.2.2.2.2.2] at hw
 have HWW8:=ah hw
 have HVW8:=ah (show b<=W8.heap.size/\Below b w W8 from ⟨nT HVW7.out.1 hb.size,HVW7.out.2.trans hb⟩)
 clear hw hb
 go_wp2_with fail
 rw [rounds_succ]
 go_wp2_with fail
 refine (least_two HWW8.out HJ.out.1 HJ.out.2.1 HJ.out.2.2.1 HJ.out.2.2.2).mono ?_
 rintro _ W9 ⟨rfl,hb⟩
 have HWW9:=ah (HWW8.out.next hb)
 have HVW9:=ah (show b<=W9.heap.size/\Below b w W9 from ⟨nT HVW8.out.1 hb.size,HVW8.out.2.trans (hb.mono HVW8.out.1)⟩)
 clear hb
 go_wp2_with fail
 refine (row_swap (i:=0) (j:=0) HWW9.out HVW9.out.1 (.inl ⟨rfl,rfl⟩)).mono ?_
 rintro _ W10 ⟨rfl,hw,hb⟩
 rw [swap_self] at hw
 have HWW10:=ah hw
 have HVW10:=ah (show b<=W10.heap.size/\Below b w W10 from ⟨nT HVW9.out.1 hb.size,HVW9.out.2.trans hb⟩)
 clear hw hb
 go_wp2_with fail
 refine (column_swap01 HWW10.out HVW10.out.1).mono ?_
 rintro _ W11 ⟨rfl,hw,hb⟩
 rw [show (N2.flip.swap 0 1).flip=N3 from H3.out] at hw
 have HWW11:=ah hw
 have HVW11:=ah (show b<=W11.heap.size/\Below b w W11 from ⟨nT HVW10.out.1 hb.size,HVW10.out.2.trans hb⟩)
 clear hw hb
 go_wp2_with fail
 refine (clear_zero HWW11.out HVW11.out.1 HA.out.1.cl).mono ?_
 rintro _ W12 ⟨he,hw,hb⟩
 rw [decide_eq_true ⟨HA.out.1.z1,by rw [HA.out.1.eq];exact HA.out.1.z2⟩] at he
 subst he
 rw [HA.out.1.eq] at hw
 have HWW12:=ah hw
 have HVW12:=ah (show b<=W12.heap.size/\Below b w W12 from ⟨nT HVW11.out.1 hb.size,HVW11.out.2.trans hb⟩)
 clear hw hb
 go_wp2_with fail
 refine (stray_zero HWW12.out HA.out.1.tn HA.out.1.na HA.out.1.dv).mono ?_
 rintro _ W13 ⟨he,hb⟩
 rw [if_pos rfl,decide_eq_false (fun e=>e rfl)] at he
 subst he
 have HWW13:=ah (HWW12.out.next hb)
 have HVW13:=ah (show b<=W13.heap.size/\Below b w W13 from ⟨nT HVW12.out.1 hb.size,HVW12.out.2.trans (hb.mono HVW12.out.1)⟩)
 clear hb
 obtain ⟨t13,hx13,hg13,gr13,cr13,ga13,ca13,gc13,cc13,⟨xa13,xn13,xc13⟩,y13,z13,⟨ua13,un13,uc13⟩,hT13⟩:=HWW13.out
 have k0:=hx13.cell (i:=0) rfl
 have k1:=hT13.hd.cell (i:=0) rfl
 have k3:=hT13.rw.cell (i:=0) rfl
 have k5:W13.cell? ⟨ga13,0,none⟩=some (.slice xa13 xn13 xc13):=hT13.r0.cell rfl
 have hln:(N4).a.length=xn13:=hT13.ea.len
 have hl0:0 < xn13:=by rw [<- hln];exact List.length_pos_iff.2 HA.out.2.1.ne
 have h16:xn13<=16:=by rw [<- hln];exact HA.out.2.1.t.2.1
 obtain ⟨ad13,s13,A13,m13,l13,s'13,A'13,m'13,l'13,q13,rfl,hbk,j0,j1,j2,j3,hq,hqx⟩:=op_at hT13.ea (show xn13-1 < xn13 by omega)
 obtain rfl:q13=lead (N4).a:=by unfold lead;rw [hln];exact (Pq.co_get hqx.out).symm
 have HQ13:=ah hq
 have HL13:=ah (show Qs 1 (lead (N4).a) from HA.out.2.1.t.qs _ (gM hqx.out))
 obtain ⟨jj,hjj⟩:∃ j,j=xn13-1:=⟨_,rfl⟩
 have hwr:IntKind.i64.wrap ((xn13:Int)-1)=(jj:Int):=by rw [IntWalk.i64_in _ (by omega)];omega
 have hr0:(0:Int)<=(jj:Int):=by omega
 have hr1:(jj:Int) < (xn13:Int):=by omega
 rw [<- hjj] at j0 j1 j2 j3
 clear hx13 hT13 hg13 hln hl0 h16 hq hqx hjj hbk
 go_wp2_with fail
 refine (qinvq_any (N:=1) HQ13.out.num.rd HQ13.out.den.rd ⟨by rw [HQ13.out.num.len];exact HL13.out.1,by rw [HQ13.out.den.len];exact HL13.out.2⟩ (by decide) (by decide) HA.out.2.1.nz).mono ?_
 rintro _ W14 ⟨s5,A5,n5,l5,s6,A6,n6,l6,y5,rfl,ho5,hy5,hb⟩
 obtain rfl:=hy5.out
 have HWW14:=ah (HWW13.out.next hb)
 have HVW14:=ah (show b<=W14.heap.size/\Below b w W14 from ⟨nT HVW13.out.1 hb.size,HVW13.out.2.trans (hb.mono HVW13.out.1)⟩)
 clear hb hy5 k0 k1 k3 k5 j0 j1 j2 j3 hwr hr0 hr1
 obtain ⟨W15,HBW15⟩:∃ W,W=W14.alloc (.cells #[.bool s5,.slice A5 n5 l5,.bool s6,.slice A6 n6 l6] 47):=⟨_,rfl⟩
 have hb:Below W14.heap.size W14 W15:=by rw [HBW15];exact bA
 have HOW15:=ah (ho5.next hb)
 have HWW15:=ah (HWW14.out.next hb)
 have HVW15:=ah (show b<=W15.heap.size/\Below b w W15 from ⟨nT HVW14.out.1 hb.size,HVW14.out.2.trans (hb.mono HVW14.out.1)⟩)
 clear hb
 have HBW15:=ah HBW15
 clear ho5
 go_wp2_with fail
 rw [<- HBW15.out]
 clear HBW15
 clear HBW15
 refine (row_scale (i:=0) HWW15.out HVW15.out.1 HOW15.out ⟨HA.out.1.tn,HA.out.2.1.iq⟩ (.inl rfl)).mono ?_
 rintro _ W16 ⟨rfl,hw,hb⟩
 rw [HA.out.2.2.1] at hw
 have HWW16:=ah hw
 have HVW16:=ah (show b<=W16.heap.size/\Below b w W16 from ⟨nT HVW15.out.1 hb.size,HVW15.out.2.trans hb⟩)
 clear hw hb
 go_wp2_with fail
 rw [rounds_succ]
 go_wp2_with fail
 refine (least_three HWW16.out ⟨List.length_pos_iff.2 HA.out.2.2.2.2.1.ne,HA.out.2.2.2.2.1.t.2.1⟩).mono ?_
 rintro _ W17 ⟨rfl,hb⟩
 have HWW17:=ah (HWW16.out.next hb)
 have HVW17:=ah (show b<=W17.heap.size/\Below b w W17 from ⟨nT HVW16.out.1 hb.size,HVW16.out.2.trans (hb.mono HVW16.out.1)⟩)
 clear hb
 go_wp2_with fail
 refine (row_swap (i:=1) (j:=1) HWW17.out HVW17.out.1 (.inr ⟨rfl,rfl⟩)).mono ?_
 rintro _ W18 ⟨rfl,hw,hb⟩
 rw [swap_self] at hw
 have HWW18:=ah hw
 have HVW18:=ah (show b<=W18.heap.size/\Below b w W18 from ⟨nT HVW17.out.1 hb.size,HVW17.out.2.trans hb⟩)
 clear hw hb
 go_wp2_with fail
 refine (column_swap (i:=1) (j:=1) HWW18.out HVW18.out.1 (.inr ⟨rfl,rfl⟩)).mono ?_
 rintro _ W19 ⟨rfl,hw,hb⟩
 rw [show ((K).flip.swap 1 1).flip=K by rw [swap_self];rfl] at hw
 have HWW19:=ah hw
 have HVW19:=ah (show b<=W19.heap.size/\Below b w W19 from ⟨nT HVW18.out.1 hb.size,HVW18.out.2.trans hb⟩)
 clear hw hb
 go_wp2_with fail
 refine (clear_one HWW19.out).mono ?_
 rintro _ W20 ⟨rfl,hb⟩
 have HWW20:=ah (HWW19.out.next hb)
 have HVW20:=ah (show b<=W20.heap.size/\Below b w W20 from ⟨nT HVW19.out.1 hb.size,HVW19.out.2.trans (hb.mono HVW19.out.1)⟩)
 clear hb
 go_wp2_with fail
 refine (stray_one HWW20.out).mono ?_
 rintro _ W21 ⟨rfl,hb⟩
 have HWW21:=ah (HWW20.out.next hb)
 have HVW21:=ah (show b<=W21.heap.size/\Below b w W21 from ⟨nT HVW20.out.1 hb.size,HVW20.out.2.trans (hb.mono HVW20.out.1)⟩)
 clear hb
 obtain ⟨t21,hx21,hg21,gr21,cr21,ga21,ca21,gc21,cc21,⟨xa21,xn21,xc21⟩,y21,z21,⟨ua21,un21,uc21⟩,hT21⟩:=HWW21.out
 have k0:=hx21.cell (i:=0) rfl
 have k1:=hT21.hd.cell (i:=0) rfl
 have k3:=hT21.rw.cell (i:=1) rfl
 have k5:W21.cell? ⟨gc21,1,none⟩=some (.slice ua21 un21 uc21):=hT21.r1.cell rfl
 have hln:(K).d.length=un21:=hT21.ed.len
 have hl0:0 < un21:=by rw [<- hln];exact List.length_pos_iff.2 HA.out.2.2.2.2.1.ne
 have h16:un21<=16:=by rw [<- hln];exact HA.out.2.2.2.2.1.t.2.1
 obtain ⟨ad21,s21,A21,m21,l21,s'21,A'21,m'21,l'21,q21,rfl,hbk,j0,j1,j2,j3,hq,hqx⟩:=op_at hT21.ed (show un21-1 < un21 by omega)
 obtain rfl:q21=lead (K).d:=by unfold lead;rw [hln];exact (Pq.co_get hqx.out).symm
 have HQ21:=ah hq
 have HL21:=ah (show Qs 1 (lead (K).d) from HA.out.2.2.2.2.1.t.qs _ (gM hqx.out))
 obtain ⟨jj,hjj⟩:∃ j,j=un21-1:=⟨_,rfl⟩
 have hwr:IntKind.i64.wrap ((un21:Int)-1)=(jj:Int):=by rw [IntWalk.i64_in _ (by omega)];omega
 have hr0:(0:Int)<=(jj:Int):=by omega
 have hr1:(jj:Int) < (un21:Int):=by omega
 rw [<- hjj] at j0 j1 j2 j3
 clear hx21 hT21 hg21 hln hl0 h16 hq hqx hjj hbk
 go_wp2_with fail
 refine (qinvq_any (N:=1) HQ21.out.num.rd HQ21.out.den.rd ⟨by rw [HQ21.out.num.len];exact HL21.out.1,by rw [HQ21.out.den.len];exact HL21.out.2⟩ (by decide) (by decide) HA.out.2.2.2.2.1.nz).mono ?_
 rintro _ W22 ⟨s5,A5,n5,l5,s6,A6,n6,l6,y5,rfl,ho5,hy5,hb⟩
 obtain rfl:=hy5.out
 have HWW22:=ah (HWW21.out.next hb)
 have HVW22:=ah (show b<=W22.heap.size/\Below b w W22 from ⟨nT HVW21.out.1 hb.size,HVW21.out.2.trans (hb.mono HVW21.out.1)⟩)
 clear hb hy5 k0 k1 k3 k5 j0 j1 j2 j3 hwr hr0 hr1
 obtain ⟨W23,HBW23⟩:∃ W,W=W22.alloc (.cells #[.bool s5,.slice A5 n5 l5,.bool s6,.slice A6 n6 l6] 47):=⟨_,rfl⟩
 have hb:Below W22.heap.size W22 W23:=by rw [HBW23];exact bA
 have HOW23:=ah (ho5.next hb)
 have HWW23:=ah (HWW22.out.next hb)
 have HVW23:=ah (show b<=W23.heap.size/\Below b w W23 from ⟨nT HVW22.out.1 hb.size,HVW22.out.2.trans (hb.mono HVW22.out.1)⟩)
 clear hb
 have HBW23:=ah HBW23
 clear ho5
 go_wp2_with fail
 rw [<- HBW23.out]
 clear HBW23
 clear HBW23
 refine (row_scale (i:=1) HWW23.out HVW23.out.1 HOW23.out ⟨HA.out.2.2.2.1,HA.out.2.2.2.2.1.iq⟩ (.inr rfl)).mono ?_
 rintro _ W24 ⟨rfl,hw,hb⟩
 rw [HA.out.2.2.2.2.2] at hw
 have HWW24:=ah hw
 have HVW24:=ah (show b<=W24.heap.size/\Below b w W24 from ⟨nT HVW23.out.1 hb.size,HVW23.out.2.trans hb⟩)
 clear hw hb
 go_wp2_with fail
 rw [rounds_succ]
 go_wp2_with fail
 refine (least_none HWW24.out).mono ?_
 rintro _ Wz ⟨rfl,hb⟩
 have HWWz:=ah (HWW24.out.next hb)
 have HVWz:=ah (show b<=Wz.heap.size/\Below b w Wz from ⟨nT HVW24.out.1 hb.size,HVW24.out.2.trans (hb.mono HVW24.out.1)⟩)
 clear hb
 go_wp2
 try rw [Exit.noGoto_ret]
 go_ret
 exact ⟨rfl,HWWz.out,HVWz.out.2⟩
theorem isD_of {a b Q R:List Rat}(h1:Pq.nrm Q=Q)(h2:Pq.nrm R=R)(h3:R.length < b.length)(h4:∀ i,i < a.length+Q.length+b.length+R.length->Pq.co a i=Pq.cv (Pq.co Q) (Pq.co b) i+Pq.co R i):Pq.IsD a b Q R:=by
 refine ⟨by rw [<- h1];exact Pq.nz_nrm _,by rw [<- h2];exact Pq.nz_nrm _,h3,fun i=>?_⟩
 rcases Nat.lt_or_ge i (a.length+Q.length+b.length+R.length) with h | h
 ·exact h4 i h
 ·rw [Pq.co_ge (by omega),Pq.cv_up (Pq.up_co Q) (Pq.up_co b) i (by omega),Pq.co_ge (by omega),Rat.add_zero]
theorem ldOK_of {L:List Rat}(h1:Tiny L)(h2:L ≠ [])(h3:((lead L)⁻¹).num.natAbs < 4294967296/\((lead L)⁻¹).den < 4294967296):LdOK L:=⟨h1,h2,Zz.zl_small h3.1,Zz.zl_small (by simpa using h3.2)⟩
theorem addOK1 {M:M2}{f:List Rat}(h1:M.tiny)(h2:Tiny f)(h3:Tiny (pmul f M.a))(h4:Tiny (pmul f M.b)):M.addOK 1 f:=⟨h1,h2,fun h=>absurd h (by decide),fun _=>⟨h3,h4⟩⟩
theorem addOK0 {M:M2}{f:List Rat}(h1:M.tiny)(h2:Tiny f)(h3:Tiny (pmul f M.c))(h4:Tiny (pmul f M.d)):M.addOK 0 f:=⟨h1,h2,fun _=>⟨h3,h4⟩,fun h=>absurd h (by decide)⟩
abbrev xA:M2:=⟨[-2,1],[],[],[-2,1]⟩
abbrev xB:M2:=⟨[-2,1],[],[],[-3,1]⟩
abbrev xB1:M2:=⟨[-2,1],[-3,1],[],[-3,1]⟩
abbrev xB2:M2:=⟨[-2,1],[-1],[],[-3,1]⟩
abbrev xB3:M2:=⟨[-1],[-2,1],[-3,1],[]⟩
abbrev xB4:M2:=⟨[-1],[],[],[6,-5,1]⟩
abbrev xE:M2:=⟨[1],[],[],[6,-5,1]⟩
theorem clA:ClOK xA [] [] [] []:=⟨by decide +kernel,by decide +kernel,isD_of (by decide +kernel) (by decide +kernel) (by decide +kernel) (by decide +kernel),by decide +kernel,addOK1 (by decide +kernel) (by decide +kernel) (by decide +kernel) (by decide +kernel),by decide +kernel,by decide +kernel,isD_of (by decide +kernel) (by decide +kernel) (by decide +kernel) (by decide +kernel),by decide +kernel,addOK1 (by decide +kernel) (by decide +kernel) (by decide +kernel) (by decide +kernel)⟩
theorem rdA:RdOK xA xA [] [] [] [] [1] []:=⟨clA,by decide +kernel,by decide +kernel,by decide +kernel,by decide +kernel,by decide +kernel,isD_of (by decide +kernel) (by decide +kernel) (by decide +kernel) (by decide +kernel)⟩
theorem ldA:LdOK [-2,1]:=ldOK_of (by decide +kernel) (by decide +kernel) (by decide +kernel)
theorem clB0:ClOK xB [] [] [] []:=⟨by decide +kernel,by decide +kernel,isD_of (by decide +kernel) (by decide +kernel) (by decide +kernel) (by decide +kernel),by decide +kernel,addOK1 (by decide +kernel) (by decide +kernel) (by decide +kernel) (by decide +kernel),by decide +kernel,by decide +kernel,isD_of (by decide +kernel) (by decide +kernel) (by decide +kernel) (by decide +kernel),by decide +kernel,addOK1 (by decide +kernel) (by decide +kernel) (by decide +kernel) (by decide +kernel)⟩
theorem rdB0:RdOK xB xB [] [] [] [] [1] [-1]:=⟨clB0,by decide +kernel,by decide +kernel,by decide +kernel,by decide +kernel,by decide +kernel,isD_of (by decide +kernel) (by decide +kernel) (by decide +kernel) (by decide +kernel)⟩
theorem clB1:ClOK xB1 [] [] [1] [-1]:=⟨by decide +kernel,by decide +kernel,isD_of (by decide +kernel) (by decide +kernel) (by decide +kernel) (by decide +kernel),by decide +kernel,addOK1 (by decide +kernel) (by decide +kernel) (by decide +kernel) (by decide +kernel),by decide +kernel,by decide +kernel,isD_of (by decide +kernel) (by decide +kernel) (by decide +kernel) (by decide +kernel),by decide +kernel,addOK1 (by decide +kernel) (by decide +kernel) (by decide +kernel) (by decide +kernel)⟩
theorem clB3:ClOK xB3 [3,-1] [] [2,-1] []:=⟨by decide +kernel,by decide +kernel,isD_of (by decide +kernel) (by decide +kernel) (by decide +kernel) (by decide +kernel),by decide +kernel,addOK1 (by decide +kernel) (by decide +kernel) (by decide +kernel) (by decide +kernel),by decide +kernel,by decide +kernel,isD_of (by decide +kernel) (by decide +kernel) (by decide +kernel) (by decide +kernel),by decide +kernel,addOK1 (by decide +kernel) (by decide +kernel) (by decide +kernel) (by decide +kernel)⟩
theorem rdB3:RdOK xB3 xB4 [3,-1] [] [2,-1] [] [-6,5,-1] []:=⟨clB3,by decide +kernel,by decide +kernel,by decide +kernel,by decide +kernel,by decide +kernel,isD_of (by decide +kernel) (by decide +kernel) (by decide +kernel) (by decide +kernel)⟩
theorem ldB4:LdOK [-1]:=ldOK_of (by decide +kernel) (by decide +kernel) (by decide +kernel)
theorem ldE:LdOK [6,-5,1]:=ldOK_of (by decide +kernel) (by decide +kernel) (by decide +kernel)
theorem run_A (b gw:Nat)(w:World)(h:Wk w b gw xA)(hb:b<=w.heap.size):Calls Tryz.prog 163 #[.pointer (some ⟨gw,0,none⟩)] w (RetRn b gw xA w) :=
 run_one h hb rfl rfl rfl rfl rdA ldA (K:=xA) (by decide +kernel) (by decide +kernel) ldA (by decide +kernel)
theorem run_B (b gw:Nat)(w:World)(h:Wk w b gw xB)(hb:b<=w.heap.size):Calls Tryz.prog 163 #[.pointer (some ⟨gw,0,none⟩)] w (RetRn b gw xE w) :=
 run_two (N1:=xB1) (N2:=xB2) (N3:=xB3) h hb rfl rfl rfl rfl rdB0 (by decide +kernel) (addOK0 (by decide +kernel) (by decide +kernel) (by decide +kernel) (by decide +kernel)) (by decide +kernel) clB1 (by decide +kernel) rfl rfl rfl rfl (by decide +kernel) rdB3 ldB4 (K:=xE) (by decide +kernel) (by decide +kernel) ldE (by decide +kernel)
def RetC2 (x y:Pe)(w:World)(e:Ending)(w':World):Prop:=∃ g c,e=.returned (.slice (some ⟨g,0,none⟩) 2 c)/\w.heap.size<=g/\PX w' g 73 [psl x,psl y]/\2<=c/\c<=maxLen/\Below w.heap.size w w'
theorem pclone_any {g0 c:Nat}{x y:Pe}{w:World}(h:PX w g0 73 [psl x,psl y]) :
  Calls Tryz.prog 201 #[.slice (some ⟨g0,0,none⟩) 2 c] w (RetC2 x y w):=by
 obtain ⟨i0,hi,hz0,hz1,hz2⟩:=info_parts infoPoly
 have heq:=fun (W:World)=>Lib.run_eql_slice_nil (P:=Tryz.prog) W 30 73 (some ⟨g0,0,none⟩) 2 c 0 0 Tryz.underlying30
 have hB0:Below w.heap.size w (w.alloc (.cells #[] 73)):=bA
 have HSRC:=ah (show ∀ (j:Nat) v,[psl x,psl y][j]?=some v->(w.alloc (.cells #[] 73)).cell? ((⟨g0,0,none⟩:Addr).add j)=some v from fun j v hv=>by
  rw [add_base]
  exact (h.next hB0).cell hv)
 have hown:(w.alloc (.cells #[] 73)).ownsRow w.heap.size 73 1 (.slice (some ⟨w.heap.size,0,none⟩) 0 0) 0 [] :=
  ⟨rfl,.inr ⟨w.heap.size,0,#[],rfl,nR,heap_alloc_new w _,nR,nZ,rfl,rfl⟩⟩
 have HB0:=ah hB0
 clear h hB0
 go_enter Tryz.func201,Tryz.ntmps201
 go_wp2_with (at_builtin;refine wpList_append_own _ rfl _ _ 30 rfl w.heap.size 73 i0 (.slice none 0 0) 1 24 Tryz.underlying30 hi hz0 hz1 hz2 rfl (by decide) _ _ _ rfl hown ⟨g0,0,none⟩ 2 c [psl x,psl y] rfl rfl HSRC.out (by simp [psl,Value.oneCell']) (by decide) (by decide) (by simp) ?_;intro v' w1 hown' hgrow _)
 have hB1:=HB0.out.grown hgrow (by simp) (fun k e=>by cases e;exact nR)
 rw [Nat.zero_add,List.nil_append] at hown'
 obtain ⟨A',c',rfl⟩:=row_sl hown'
 obtain ⟨g,rfl,h1,h2,h3,h4⟩:=own_px hown' (by decide)
 go_ret
 exact ⟨g,c',rfl,h1,h2,h3,h4,hB1⟩
theorem copied_any {b t:Nat}{M:M2}{w:World}(h:Tb w b t M)(hb:b<=w.heap.size):Calls Tryz.prog 162 #[.pointer (some ⟨t,0,none⟩)] w (RetTb b M w):=by
 obtain ⟨gr,cr,g0,c0,g1,c1,⟨xa,xn,xc⟩,⟨ya,yn,yc⟩,⟨za,zn,zc⟩,⟨ua,un,uc⟩,h⟩:=h
 obtain ⟨i1,hjf,hy0,hy1,hy2⟩:=info_parts infoRow
 have HBB:=ah hb
 have HT:=ah (show ∀ V,Below w.heap.size w V->T2 V b t gr cr g0 c0 g1 c1 (xa,xn,xc) (ya,yn,yc) (za,zn,zc) (ua,un,uc) M from fun V hb=>h.next hb)
 have k1:=h.hd.cell (i:=1) rfl
 obtain ⟨W1,HW1⟩:∃ W,W=w.alloc (.cells #[.slice none 0 0,.int .i64 2] 102):=⟨_,rfl⟩
 have hb1:Below w.heap.size w W1:=by rw [HW1];exact bA
 have k0':(w.alloc (.cells #[.slice none 0 0,.int .i64 2] 102)).cell? ⟨t,0,none⟩=some (.slice (some ⟨gr,0,none⟩) 2 cr):=by rw [<- HW1];exact (HT.out _ hb1).hd.cell rfl
 obtain ⟨go,hgo⟩:∃ g,g=w.heap.size:=⟨_,rfl⟩
 have HN0:=ah (show PX W1 go 102 [.slice none 0 0,.int .i64 2] by rw [HW1,hgo];exact PX.new w _ [.slice none 0 0,.int .i64 2])
 have HGW:=ah (show w.heap.size<=go by rw [hgo];exact nR)
 have HB0:=ah hb1
 have HW1:=ah HW1
 clear h hb hb1
 go_enter Tryz.func162,Tryz.ntmps162
 go_wp2_with fail
 rw [<- HW1.out,<- hgo]
 clear HW1 hgo
 clear HW1 k1 k0'
 refine wp_loop_rounds 3 ?_
 rw [rounds_succ]
 have k3:=(HT.out _ HB0.out).rw.cell (i:=0) rfl
 go_upto_region 5 with fail
 have HS0:=ah (show ∀ W,Below W1.heap.size W1 W->W.cell? ⟨go,0,none⟩=some (.slice none 0 0) from fun W hb=>(HN0.out.next hb).cell rfl)
 have HCD:=ah (Below.refl W1.heap.size W1).drew
 clear k3
 refine WA.begin [11] (S:=fun W=>W.cell? ⟨go,0,none⟩=some (.slice none 0 0)) (by kernel_rfl) (HS0.out _ HCD.out) (fun hHeld=>?_)
 refine wtk 0 ?_
 refine wtk 1 ?_
 refine wtk 2 ?_
 refine wtk 3 ?_
 refine wtk 4 ?_
 refine wtk 5 ?_
 refine WA.one (i:=6) (by kernel_rfl) rfl (fun K hK=>?_)
 rw [if_pos (by kernel_rfl)]
 go_simp
 refine (pclone_any (x:=(xa,xn,xc)) (y:=(ya,yn,yc)) (HT.out _ (HB0.out.trans (HCD.out.mono HB0.out.size))).r0).mono ?_
 rintro _ P0 ⟨n0,m0,rfl,hg0,hp0,hm0,hx0,hb0⟩
 have HE0:Hid (Below W1.heap.size W1 P0):=tM HCD hb0
 have HP0:=ah hp0
 have HG0:=ah (show w.heap.size<=n0/\2<=m0/\m0<=maxLen from ⟨by have h1:=HB0.out.size;have h2:=HCD.out.size;omega,hm0,hx0⟩)
 skip
 clear hg0 hp0 hm0 hx0 hb0
 go_wp2_with fail
 refine hK.out _ _ (fun _=>(HS0.out _ HE0.out)) ?_
 have hHeld:=(HS0.out _ HE0.out)
 clear hK K
 (try simp only [Act.put,List.setIfInBounds_toArray,List.set_cons_zero,List.set_cons_succ])
 have HA0:=ah (show Below W1.heap.size W1 (P0.alloc (.cells #[.slice (some ⟨n0,0,none⟩) 2 m0] 30)) from HE0.out.alloc HE0.out.size _)
 refine WA.one (i:=7) (by kernel_rfl) rfl (fun K hK=>?_)
 rw [if_pos (by kernel_rfl)]
 go_simp
 refine hK.out _ _ (fun _=>(HS0.out _ HA0.out)) ?_
 have hHeld:=(HS0.out _ HA0.out)
 clear hK K
 (try simp only [Act.put,List.setIfInBounds_toArray,List.set_cons_zero,List.set_cons_succ])
 refine WA.one (i:=8) (by kernel_rfl) rfl (fun K hK=>?_)
 rw [if_pos (by kernel_rfl)]
 refine wp_append_lies _ _ _ _ (by rfl) w.heap.size 30 i1 (.slice none 0 0) 1 24 Tryz.underlying45 hjf hy0 hy1 hy2 rfl (by decide) (.slice none 0 0) 0 _ (by rfl) (World.ownsRow_nil _ _ _ _) ⟨P0.heap.size,0,none⟩ 1 1 [.slice (some ⟨n0,0,none⟩) 2 m0] (by rfl) rfl (tcell_new P0 (.slice (some ⟨n0,0,none⟩) 2 m0) 30) (by simp [Value.oneCell']) (by decide) (by decide) (by decide) (by have h1:=HB0.out.size;have h2:=HA0.out.size;omega) _ rfl ?_
 intro gA cA V0 hown' hgrow _ _
 obtain ⟨A0,q0,ev,e1,e2,hU⟩:=U1.first (x:=(xa,xn,xc)) (y:=(ya,yn,yc)) (HN0.out.next HE0.out) HGW.out HP0.out HG0.out.1 HG0.out.2 ((HT.out _ (HB0.out.trans (HE0.out.mono HB0.out.size))).ea) ((HT.out _ (HB0.out.trans (HE0.out.mono HB0.out.size))).eb) hown' hgrow
 have HV0:=ah (show Below w.heap.size w V0 from (HB0.out.trans (HA0.out.mono HB0.out.size)).grown hgrow (by have h1:=HB0.out.size;have h2:=HA0.out.size;omega) (own_block (World.ownsRow_nil w w.heap.size 30 1)))
 rw [ev] at hU
 have HU:=ah hU
 rw [ev]
 clear hU hown' hgrow ev
 refine hK.out _ _ (fun _=>e1) ?_
 have hHeld:=e1
 clear hK K
 (try simp only [Act.put,List.setIfInBounds_toArray,List.set_cons_zero,List.set_cons_succ])
 refine wtk 9 ?_
 refine wtk 10 ?_
 refine WA.one (i:=11) (by kernel_rfl) rfl (fun K hK=>?_)
 rw [if_pos (by kernel_rfl)]
 go_simp
 refine hK.out _ _ (fun h=>Bool.noConfusion ((show _=true by kernel_rfl).symm.trans (h 11 (List.mem_singleton.2 rfl)))) ?_
 clear hK K
 (try simp only [Act.put,List.setIfInBounds_toArray,List.set_cons_zero,List.set_cons_succ])
 refine WA.done (by kernel_rfl) ?_ _
 obtain ⟨X0,HX0⟩:∃ W,W=V0.setCell ⟨go,0,none⟩ (.slice A0 1 q0):=⟨_,rfl⟩
 have hU:=HU.out
 rw [<- HX0] at hU
 have HU0:=ah hU
 have HB1:=ah (show Below w.heap.size w X0 by rw [HX0];exact HV0.out.setCell (p:=⟨go,0,none⟩) HGW.out _)
 rw [<- HX0]
 clear hU HX0 hHeld e1 e2
 clear HU
 have HN1:=ah HU0.out.hd
 go_wp2_with fail
 rw [rounds_succ]
 have k3:=(HT.out _ HB1.out).rw.cell (i:=1) rfl
 go_upto_region 5 with fail
 have HS1:=ah (show ∀ W,Below X0.heap.size X0 W->W.cell? ⟨go,0,none⟩=some (.slice A0 1 q0) from fun W hb=>(HN1.out.next hb).cell rfl)
 have HCD:=ah (Below.refl X0.heap.size X0).drew
 clear k3
 refine WA.begin [11] (S:=fun W=>W.cell? ⟨go,0,none⟩=some (.slice A0 1 q0)) (by kernel_rfl) (HS1.out _ HCD.out) (fun hHeld=>?_)
 refine wtk 0 ?_
 refine wtk 1 ?_
 refine wtk 2 ?_
 refine wtk 3 ?_
 refine wtk 4 ?_
 refine wtk 5 ?_
 refine WA.one (i:=6) (by kernel_rfl) rfl (fun K hK=>?_)
 rw [if_pos (by kernel_rfl)]
 go_simp
 refine (pclone_any (x:=(za,zn,zc)) (y:=(ua,un,uc)) (HT.out _ (HB1.out.trans (HCD.out.mono HB1.out.size))).r1).mono ?_
 rintro _ P1 ⟨n1,m1,rfl,hg1,hp1,hm1,hx1,hb1⟩
 have HE1:Hid (Below X0.heap.size X0 P1):=tM HCD hb1
 have HP1:=ah hp1
 have HG1:=ah (show w.heap.size<=n1/\2<=m1/\m1<=maxLen from ⟨by have h1:=HB1.out.size;have h2:=HCD.out.size;omega,hm1,hx1⟩)
 have HNE:=ah (show n0 ≠ n1 by have h1:=HU0.out.r0.lt;have h2:=HCD.out.size;omega)
 clear hg1 hp1 hm1 hx1 hb1
 go_wp2_with fail
 refine hK.out _ _ (fun _=>(HS1.out _ HE1.out)) ?_
 have hHeld:=(HS1.out _ HE1.out)
 clear hK K
 (try simp only [Act.put,List.setIfInBounds_toArray,List.set_cons_zero,List.set_cons_succ])
 have HA1:=ah (show Below X0.heap.size X0 (P1.alloc (.cells #[.slice (some ⟨n1,0,none⟩) 2 m1] 30)) from HE1.out.alloc HE1.out.size _)
 refine WA.one (i:=7) (by kernel_rfl) rfl (fun K hK=>?_)
 rw [if_pos (by kernel_rfl)]
 go_simp
 refine hK.out _ _ (fun _=>(HS1.out _ HA1.out)) ?_
 have hHeld:=(HS1.out _ HA1.out)
 clear hK K
 (try simp only [Act.put,List.setIfInBounds_toArray,List.set_cons_zero,List.set_cons_succ])
 refine WA.one (i:=8) (by kernel_rfl) rfl (fun K hK=>?_)
 rw [if_pos (by kernel_rfl)]
 refine wp_append_lies _ _ _ _ (by rfl) w.heap.size 30 i1 (.slice none 0 0) 1 24 Tryz.underlying45 hjf hy0 hy1 hy2 rfl (by decide) (.slice A0 1 q0) 1 _ (by rfl) (row_next (HU0.out.next HE1.out).own (bA)) ⟨P1.heap.size,0,none⟩ 1 1 [.slice (some ⟨n1,0,none⟩) 2 m1] (by rfl) rfl (tcell_new P1 (.slice (some ⟨n1,0,none⟩) 2 m1) 30) (by simp [Value.oneCell']) (by decide) (by decide) (by decide) (by have h1:=HB1.out.size;have h2:=HA1.out.size;omega) _ rfl ?_
 intro gA cA V1 hown' hgrow _ _
 obtain ⟨A1,q1,ev,e1,e2,hU⟩:=(HU0.out.next HE1.out).second (z:=(za,zn,zc)) (u:=(ua,un,uc)) HP1.out HNE.out HG1.out.1 HBB.out HG1.out.2 ((HT.out _ (HB1.out.trans (HE1.out.mono HB1.out.size))).ec) ((HT.out _ (HB1.out.trans (HE1.out.mono HB1.out.size))).ed) hown' hgrow
 have HV1:=ah (show Below w.heap.size w V1 from (HB1.out.trans (HA1.out.mono HB1.out.size)).grown hgrow (by have h1:=HB1.out.size;have h2:=HA1.out.size;omega) (own_block (HU0.out.next HE1.out).own))
 rw [ev] at hU
 have HU:=ah hU
 rw [ev]
 clear hU hown' hgrow ev
 refine hK.out _ _ (fun _=>e1) ?_
 have hHeld:=e1
 clear hK K
 (try simp only [Act.put,List.setIfInBounds_toArray,List.set_cons_zero,List.set_cons_succ])
 refine wtk 9 ?_
 refine wtk 10 ?_
 refine WA.one (i:=11) (by kernel_rfl) rfl (fun K hK=>?_)
 rw [if_pos (by kernel_rfl)]
 go_simp
 refine hK.out _ _ (fun h=>Bool.noConfusion ((show _=true by kernel_rfl).symm.trans (h 11 (List.mem_singleton.2 rfl)))) ?_
 clear hK K
 (try simp only [Act.put,List.setIfInBounds_toArray,List.set_cons_zero,List.set_cons_succ])
 refine WA.done (by kernel_rfl) ?_ _
 obtain ⟨X1,HX1⟩:∃ W,W=V1.setCell ⟨go,0,none⟩ (.slice A1 2 q1):=⟨_,rfl⟩
 have hU:=HU.out
 rw [<- HX1] at hU
 have HU1:=ah hU
 have HB2:=ah (show Below w.heap.size w X1 by rw [HX1];exact HV1.out.setCell (p:=⟨go,0,none⟩) HGW.out _)
 rw [<- HX1]
 clear hU HX1 hHeld e1 e2
 clear HU
 go_wp2_with fail
 rw [rounds_succ]
 go_wp2
 go_ret
 exact ⟨_,rfl,HU1.out,HB2.out⟩
theorem pnorm_any {b n c:Nat}{A:Option Addr}{P:List Rat}{w:World}(h:OwQp w b A n c P)(hP:Tiny P):Calls Tryz.prog 110 #[.slice A n c] w (RetPe P w):=by
 refine (qpnorm_any (h.rd hP.qs) (h.small hP) (by decide) (by decide)).mono ?_
 rintro e w' (⟨_,A',n',c',M,rfl,ho,hM,hb⟩ | ⟨⟨p,hp,hp0⟩,_⟩)
 ·have e0:=hM.out
  rw [pr_map,hP.1] at e0
  subst e0
  exact ⟨A',n',c',rfl,ho,hb⟩
 ·exact absurd hp0 (pr_okD _ p hp)
def RetPl2 (b:Nat)(LL:List (List Rat))(w:World)(e:Ending)(w':World):Prop:=∃ (A:Option Addr) (n c:Nat),e=.returned (.slice A n c)/\OwPs w' b A n c LL/\Below b w w'
theorem diagonal_any {b t:Nat}{M E:M2}{w:World}(h:Tb w b t M)(hb:b<=w.heap.size)(ta:Tiny E.a)(td:Tiny E.d)
  (hrun:∀ (b gw:Nat) (W:World),Wk W b gw M->b<=W.heap.size->Calls Tryz.prog 163 #[.pointer (some ⟨gw,0,none⟩)] W (RetRn b gw E W)) :
  Calls Tryz.prog 108 #[.pointer (some ⟨t,0,none⟩)] w (RetPl2 b [E.a,E.d] w):=by
 obtain ⟨i1,hjf,hy0,hy1,hy2⟩:=info_parts infoPoly
 have HT:=ah h
 have HBB:=ah hb
 have HE:=ah (cJ ta td)
 have HRUN:=ah hrun
 clear h hb ta td hrun
 go_enter Tryz.func108,Tryz.ntmps108
 go_wp2_with fail
 refine (copied_any HT.out HBB.out).mono ?_
 rintro _ W1 ⟨t1,rfl,ht1,hb1⟩
 obtain ⟨W2,HW2⟩:∃ W,W=W1.alloc (.cells #[.pointer (some ⟨t1,0,none⟩),.pointer none,.pointer none] 191):=⟨_,rfl⟩
 have hb2:Below W1.heap.size W1 W2:=by rw [HW2];exact bA
 obtain ⟨gw,hgw⟩:∃ g,g=W1.heap.size:=⟨_,rfl⟩
 have HK:=ah (show Wk W2 b gw M from ⟨t1,by rw [HW2,hgw];exact PX.new W1 _ [.pointer (some ⟨t1,0,none⟩),.pointer none,.pointer none],by rw [hgw];exact nT HBB.out hb1.size,ht1.next hb2⟩)
 have HV2:=ah (show b<=W2.heap.size/\Below b w W2 from ⟨nT (nT HBB.out hb1.size) hb2.size,(hb1.mono HBB.out).trans (hb2.mono (nT HBB.out hb1.size))⟩)
 have HW2:=ah HW2
 clear ht1 hb1 hb2
 go_wp2_with fail
 rw [<- HW2.out,<- hgw]
 clear HW2 hgw
 clear HW2
 refine (HRUN.out b gw W2 HK.out HV2.out.1).mono ?_
 rintro _ W3 ⟨rfl,hw3,hb3⟩
 have HK3:=ah hw3
 have HV3:=ah (show b<=W3.heap.size/\Below b w W3 from ⟨nT HV2.out.1 hb3.size,HV2.out.2.trans hb3⟩)
 clear hw3 hb3
 go_wp2_with fail
 refine wp_loop_rounds 3 ?_
 rw [rounds_succ]
 obtain ⟨t0,h1,_,gr0,cr0,ga0,ca0,gc0,cc0,⟨xa0,xn0,xc0⟩,y0,z0,⟨ua0,un0,uc0⟩,h⟩:=HK3.out
 have k0:=h1.cell (i:=0) rfl
 have k1:=h.hd.cell (i:=0) rfl
 have k3:=h.rw.cell (i:=0) rfl
 have k5:W3.cell? ⟨ga0,0,none⟩=some (.slice xa0 xn0 xc0):=h.r0.cell rfl
 have HQ:=ah (show OwQp W3 b xa0 xn0 xc0 E.a from h.ea)
 clear h1 h
 go_wp2_with fail
 refine (pnorm_any HQ.out HE.out.1).mono ?_
 rintro _ P0 ⟨A,n,c,rfl,ho,hb0⟩
 have HO:=ah (ho.base (b':=b) HV3.out.1)
 have HK4:=ah (HK3.out.next hb0)
 have HX0:=ah (show b<=P0.heap.size/\Below b w P0 from ⟨nT HV3.out.1 hb0.size,HV3.out.2.trans (hb0.mono HV3.out.1)⟩)
 obtain ⟨EE,hE,hEl,hEn⟩:=(OwPs.nil P0 b)
 have HEE:=ah (cJ hE (cJ hEl hEn))
 clear HQ ho hE hEl hEn hb0 k0 k1 k3 k5
 go_wp2_with (at_builtin;refine wpList_append_own _ rfl _ _ 30 rfl b 73 i1 (.slice none 0 0) 1 24 Tryz.underlying30 hjf hy0 hy1 hy2 rfl (by decide) _ _ _ rfl (HEE.out.1.alloc _) ⟨P0.heap.size,0,none⟩ 1 1 [.slice A n c] rfl rfl (tcell_new P0 (.slice A n c) 73) (by simp [Value.oneCell']) (by decide) (by decide) (by have h1:=HX0.out.1;simp;omega) ?_;intro v' Z0 hown' hgrow _)
 have hba:Below P0.heap.size P0 (P0.alloc (.cells #[.slice A n c] 73)):=bA
 obtain ⟨A0,q0,rfl,ho0⟩:=ps_more (e:=(A,n,c)) HO.out rfl (HEE.out.1.alloc _) HEE.out.2.1 (HEE.out.2.2.next hba) hown' hgrow
 have HO0:=ah (show OwPs Z0 b A0 1 q0 [E.a] from ho0)
 have HV4:=ah (show b<=Z0.heap.size/\Below b w Z0 from by
  have h2:=(HX0.out.2.alloc HX0.out.1 (.cells #[.slice A n c] 73)).grown hgrow (by have h1:=HX0.out.1;simp;omega) (own_block HEE.out.1)
  exact ⟨nT HBB.out h2.size,h2⟩)
 have HK4':=ah (show Wk Z0 b gw E from (HK4.out.next hba).next (bR.grown hgrow nR (fun k hk=>by cases hk)))
 clear HK4
 have HK4:=HK4'
 clear hown' hgrow ho0 hba HK4' HEE HO
 go_wp2_with fail
 rw [rounds_succ]
 obtain ⟨t1,h1,_,gr1,cr1,ga1,ca1,gc1,cc1,⟨xa1,xn1,xc1⟩,y1,z1,⟨ua1,un1,uc1⟩,h⟩:=HK4.out
 have k0:=h1.cell (i:=0) rfl
 have k1:=h.hd.cell (i:=0) rfl
 have k3:=h.rw.cell (i:=1) rfl
 have k5:Z0.cell? ⟨gc1,1,none⟩=some (.slice ua1 un1 uc1):=h.r1.cell rfl
 have HQ:=ah (show OwQp Z0 b ua1 un1 uc1 E.d from h.ed)
 clear h1 h
 go_wp2_with fail
 refine (pnorm_any HQ.out HE.out.2).mono ?_
 rintro _ P1 ⟨A,n,c,rfl,ho,hb1⟩
 have HO:=ah (ho.base (b':=b) HV4.out.1)
 have HK5:=ah (HK4.out.next hb1)
 have HX1:=ah (show b<=P1.heap.size/\Below b w P1 from ⟨nT HV4.out.1 hb1.size,HV4.out.2.trans (hb1.mono HV4.out.1)⟩)
 obtain ⟨EE,hE,hEl,hEn⟩:=(HO0.out.next hb1)
 have HEE:=ah (cJ hE (cJ hEl hEn))
 clear HQ ho hE hEl hEn hb1 k0 k1 k3 k5
 go_wp2_with (at_builtin;refine wpList_append_own _ rfl _ _ 30 rfl b 73 i1 (.slice none 0 0) 1 24 Tryz.underlying30 hjf hy0 hy1 hy2 rfl (by decide) _ _ _ rfl (HEE.out.1.alloc _) ⟨P1.heap.size,0,none⟩ 1 1 [.slice A n c] rfl rfl (tcell_new P1 (.slice A n c) 73) (by simp [Value.oneCell']) (by decide) (by decide) (by have h1:=HX1.out.1;simp;omega) ?_;intro v' Z1 hown' hgrow _)
 have hba:Below P1.heap.size P1 (P1.alloc (.cells #[.slice A n c] 73)):=bA
 obtain ⟨A1,q1,rfl,ho1⟩:=ps_more (e:=(A,n,c)) HO.out rfl (HEE.out.1.alloc _) HEE.out.2.1 (HEE.out.2.2.next hba) hown' hgrow
 have HO1:=ah (show OwPs Z1 b A1 2 q1 [E.a,E.d] from ho1)
 have HV5:=ah (show b<=Z1.heap.size/\Below b w Z1 from by
  have h2:=(HX1.out.2.alloc HX1.out.1 (.cells #[.slice A n c] 73)).grown hgrow (by have h1:=HX1.out.1;simp;omega) (own_block HEE.out.1)
  exact ⟨nT HBB.out h2.size,h2⟩)
 clear hown' hgrow ho1 hba HEE HO HK5
 go_wp2_with fail
 rw [rounds_succ]
 go_wp2
 go_ret
 exact ⟨_,_,_,rfl,HO1.out,HV5.out.2⟩
end Go.Proofs.YtjnklbfhelbjgaaGreat
namespace Go.Proofs.YtjnklbfhelbjgaaGreat
open Go.RowKit Go.IntWalk Go.Shelf
attribute [local go_sem] Oper.semAt_some
structure KpO (n b:Nat)(W W':World):Prop where
 lo:Below n W W'
 at_:W'.heap[b]?=W.heap[b]?
theorem KpO.refl (n b:Nat)(W:World):KpO n b W W:=⟨bR,rfl⟩
theorem KpO.trans {n b:Nat}{A B C:World}(h:KpO n b A B)(k:KpO n b B C):KpO n b A C:=⟨h.lo.trans k.lo,k.at_.trans h.at_⟩
theorem KpO.put {n b:Nat}{w:World}(hn:n<=w.heap.size)(hb:b < w.heap.size)(W:World)(l:Nat)(o o':Obj)(hw:w.heap.size<=l)(h:W.heap[l]?=some o)(hc:o.isCells=false)(hk:o.isWalk=false):KpO n b W (W.putObj l o') :=
 ⟨belowK_b hn W l o o' hw h hc hk,World.putObj_heap_other (by omega)⟩
theorem KpO.alloc {n b:Nat}{W:World}(hn:n<=W.heap.size)(hb:b < W.heap.size)(o:Obj):KpO n b W (W.alloc o):=⟨(Below.refl n W).alloc hn o,Below.heap_alloc W o b hb⟩
theorem exists_list {α:Type}{P:Nat->α->Prop}:∀ n:Nat,(∀ j,j < n->∃ x,P j x)->∃ l:List α,l.length=n/\∀ j x,l[j]?=some x->P j x
 | 0,_=>⟨[],rfl,fun j x h=>by simp at h⟩
 | n + 1, h => by
   obtain ⟨l,hl,hP⟩:=exists_list n fun j hj=>h j (by omega)
   obtain ⟨x,hx⟩:=h n (by omega)
   refine ⟨l ++ [x],by simp [hl],fun j y hy=>?_⟩
   rcases Nat.lt_or_ge j n with h1 | h1
   ·rw [List.getElem?_append_left (by omega)] at hy
    exact hP j y hy
   ·rw [List.getElem?_append_right (by omega)] at hy
    have hj:j=n:=by
     rcases Nat.eq_zero_or_pos (j-l.length) with e | e
     ·omega
     ·rw [gN (by simp;omega)] at hy;cases hy
    subst hj
    rw [hl,Nat.sub_self] at hy
    simp at hy
    rw [<- hy]
    exact hx
theorem flat_take {α:Type}{XX:List (List α)}{i:Nat}{row:List α}(h:XX[i]?=some row):(XX.take i).flatten ++ row=(XX.take (i+1)).flatten:=by
 rw [List.take_add_one,h,List.flatten_append]
 simp
theorem app_take {α:Type}{pre row:List α}{j:Nat}{x:α}(h:row[j]?=some x):(pre ++ row.take j) ++ [x]=pre ++ row.take (j+1):=by
 rw [List.take_add_one,h,List.append_assoc]
 rfl
theorem flat_lt {α:Type}{XX:List (List α)}{i j:Nat}{row:List α}(h:XX[i]?=some row)(hj:j < row.length):((XX.take i).flatten ++ row.take j).length < XX.flatten.length:=by
 have e:XX=XX.take i ++ (row :: XX.drop (i+1)):=by
  have hi:i < XX.length:=by
   rcases Nat.lt_or_ge i XX.length with h1 | h1
   ·exact h1
   ·rw [gN h1] at h;cases h
  rw [gE hi] at h
  injection h with h
  rw [<- h,<- List.drop_eq_getElem_cons hi,List.take_append_drop]
 conv=>rhs;rw [e]
 rw [List.flatten_append,List.length_append,List.length_append,List.flatten_cons,List.length_append,List.length_take]
 omega
abbrev GQ (W0:World)(b:Nat):={ q:(Ent × Ent) × Rat // OwQ W0 b q.1.1.1 q.1.1.2.1 q.1.1.2.2.1 q.1.1.2.2.2 q.1.2.1 q.1.2.2.1 q.1.2.2.2.1 q.1.2.2.2.2 q.2 }
def gQ {W0:World}{b:Nat}(x:GQ W0 b):Value:=.agg #[.bool x.1.1.1.1,.slice x.1.1.1.2.1 x.1.1.1.2.2.1 x.1.1.1.2.2.2,.bool x.1.1.2.1,.slice x.1.1.2.2.1 x.1.1.2.2.2.1 x.1.1.2.2.2.2]
structure GridQ {W0:World}{b:Nat}(w:World)(B:Nat)(A:Option Addr)(n:Nat)(XX:List (List (GQ W0 b))):Prop where
 len:XX.length=n
 at_:∀ (i:Nat) (row:List (GQ W0 b)),XX[i]?=some row->∃ (ad:Addr) (A1:Option Addr) (n1 c1:Nat),A=some ad/\ad.block < B/\w.cell? (ad.add i)=some (.slice A1 n1 c1)/\row.length=n1/\n1<=maxLen /\
  ∀ (j:Nat) (x:GQ W0 b),row[j]?=some x->∃ ad1:Addr,A1=some ad1/\ad1.block < B/\w.cell? (ad1.add (j*4))=some (.bool x.1.1.1.1)/\w.cell? ⟨(ad1.add (j*4)).block,(ad1.add (j*4)).off+1,none⟩=some (.slice x.1.1.1.2.1 x.1.1.1.2.2.1 x.1.1.1.2.2.2)/\w.cell? ⟨(ad1.add (j*4)).block,(ad1.add (j*4)).off+2,none⟩=some (.bool x.1.1.2.1)/\w.cell? ⟨(ad1.add (j*4)).block,(ad1.add (j*4)).off+3,none⟩=some (.slice x.1.1.2.2.1 x.1.1.2.2.2.1 x.1.1.2.2.2.2)
theorem GridQ.below {W0:World}{b:Nat}{w w':World}{B:Nat}{A:Option Addr}{n:Nat}{XX:List (List (GQ W0 b))}(h:GridQ w B A n XX)(hb:Below B w w'):GridQ w' B A n XX :=
 ⟨h.len,fun i row hi=>by
  obtain ⟨ad,A1,n1,c1,h1,h2,h3,h4,h5,h6⟩:=h.at_ i row hi
  refine ⟨ad,A1,n1,c1,h1,h2,(hb.cell (p:=ad.add i) (by rw [add_blk];exact h2)).trans h3,h4,h5,fun j x hx=>?_⟩
  obtain ⟨ad1,e1,e2,k0,k1,k2,k3⟩:=h6 j x hx
  have hk:(ad1.add (j*4)).block < B:=by rw [add_blk];exact e2
  exact ⟨ad1,e1,e2,(hb.cell (p:=ad1.add (j*4)) hk).trans k0,(hb.cell (p:=⟨(ad1.add (j*4)).block,(ad1.add (j*4)).off+1,none⟩) hk).trans k1,(hb.cell (p:=⟨(ad1.add (j*4)).block,(ad1.add (j*4)).off+2,none⟩) hk).trans k2,(hb.cell (p:=⟨(ad1.add (j*4)).block,(ad1.add (j*4)).off+3,none⟩) hk).trans k3⟩⟩
theorem each1Q_in (n:Nat)(hn:1<=n)(l Bs n₁:Nat){W0:World}{b:Nat}{A:Option Addr}{m c:Nat}{XX:List (List (GQ W0 b))}(hm:m<=maxLen)(J Jx:List (GQ W0 b)->World->Prop)(hJ:∀ pre W o,J pre W->J pre (W.alloc o))
  (hY:∀ pre (x:GQ W0 b) W,J pre W->pre.length < XX.flatten.length->YieldAt Fence.wide (n-1) Tryz.prog l #[gQ x] W fun e W' =>
   (e=.returned (.bool true)/\J (pre ++ [x]) W'/\KpO n₁ Bs W W') ∨ (e=.returned (.bool false)/\Jx (pre ++ [x]) W'))
  (W:World) (hR:GridQ W n₁ A m XX) (hcs:W.cell? ⟨Bs,0,none⟩=some (.slice A m c)) (hn1:n₁<=W.heap.size) (hBs:Bs < W.heap.size) (h0:J [] W) :
  CallsIn Fence.wide n Tryz.prog 168 #[.func (.yield l) #[] #[],.pointer (some ⟨Bs,0,none⟩)] W fun e W'=>(∃ v,e=.returned v) /\
   ((∃ ys,ys=XX.flatten/\J ys W') ∨ (∃ pre,True/\Jx pre W')):=by
 have HLEN:=ah hR.len
 have HR:=ah (show ∀ W',Below n₁ W W'->GridQ W' n₁ A m XX from fun W' hb=>hR.below hb)
 have HN:=ah (cJ hn1 hBs)
 unfold maxLen at hm
 clear hR hn1 hBs
 refine callsIn_of_wp Tryz.func168 rfl trivial ?_ rfl
 simp only [Tryz.ntmps168,List.size_toArray,List.length_cons,List.length_nil,Nat.reduceAdd,Nat.reduceSub,Array.replicate_succ,Array.replicate_zero,List.push_toArray,List.append_toArray,List.nil_append,List.cons_append]
 gi_wp2
 clear hcs
 gi_loopw [9] (fun iv wr=>∃ i:Nat,i<=m/\iv=.int .i64 (i:Int)/\J (XX.take i).flatten wr/\KpO n₁ Bs W wr) (fun iv _=>m-(intOf iv).toNat)
 case atStart=>exact ⟨0,nZ,rfl,by simpa using h0,KpO.refl _ _ _⟩
 case round =>
  clear h0
  obtain ⟨i,hi,rfl,hJi,hB⟩:=hrel
  by_cases him:i=m
  ·have HJ:=ah (show J XX.flatten wr by rw [List.take_of_length_le (by rw [HLEN.out,him];exact nR)] at hJi;exact hJi)
   subst him
   clear hJi hB
   gi_wp2
   go_end0
   exact ⟨⟨_,rfl⟩,.inl ⟨_,rfl,HJ.out⟩⟩
  ·have hil:i < m:=by omega
   have hili:(i:Int) < (m:Int):=by omega
   clear him
   obtain ⟨row,hrow⟩:∃ row,XX[i]?=some row:=⟨XX[i]'(by rw [HLEN.out];exact hil),gE _⟩
   obtain ⟨ad,A1,n1,c1,rfl,hbk,hx,hl,hn1,hat⟩:=(HR.out wr hB.lo).at_ i row hrow
   have HROW:=ah (cJ hrow hl)
   have HAT:=ah hat
   have HJI:=ah hJi
   have HB:=ah hB
   unfold maxLen at hn1
   clear hrow hl hJi hB hat
   obtain ⟨wo,rfl⟩:∃ V,V=wr:=⟨_,rfl⟩
   gi_wp2
   clear hx
   gi_loopw [15] (fun jv wr=>∃ j:Nat,j<=n1/\jv=.int .i64 (j:Int)/\J ((XX.take i).flatten ++ row.take j) wr/\KpO n₁ Bs wo wr) (fun jv _=>n1-(intOf jv).toNat)
   case atStart=>exact ⟨0,nZ,rfl,by simpa using HJI.out,KpO.refl _ _ _⟩
   case round =>
    obtain ⟨j,hj,rfl,hJj,hBj⟩:=hrel
    by_cases hjn:j=n1
    ·have HJ:=ah (show J (XX.take (i+1)).flatten wr by rw [List.take_of_length_le (l:=row) (by rw [HROW.out.2,hjn];exact nR),flat_take HROW.out.1] at hJj;exact hJj)
     have HBj:=ah (HB.out.trans hBj)
     subst hjn
     clear hJj hBj
     gi_wp2
     go_roundw
     case rel=>exact ⟨i+1,by omega,by go_num,HJ.out,HBj.out⟩
     case measure=>simp [intOf];omega
    ·have hjl:j < n1:=by omega
     have hjli:(j:Int) < (n1:Int):=by omega
     clear hjn
     obtain ⟨x,hxr⟩:∃ x,row[j]?=some x:=⟨row[j]'(by rw [HROW.out.2];exact hjl),gE _⟩
     obtain ⟨ad1,rfl,hbk1,k0,k1,k2,k3⟩:=HAT.out j x hxr
     obtain ⟨y0,y1,y2,y3⟩:=qs_cells hBj.lo hbk1 k0 k1 k2 k3
     have hY1:=fun W' h1=>hY ((XX.take i).flatten ++ row.take j) x W' h1 (flat_lt HROW.out.1 (by rw [HROW.out.2];exact hjl))
     have HT:=ah (show ((XX.take i).flatten ++ row.take j) ++ [x]=(XX.take i).flatten ++ row.take (j+1) from app_take hxr)
     have HKA:=ah (show ∀ o,KpO n₁ Bs wr (wr.alloc o) from fun o=>KpO.alloc (nT HN.out.1 (HB.out.trans hBj).lo.size) (Nat.lt_of_lt_of_le HN.out.2 (HB.out.trans hBj).lo.size) o)
     have HBj:=ah hBj
     clear hxr hBj k0 k1 k2 k3 hY
     obtain ⟨⟨⟨⟨s2,A2,n2,c2⟩,s3,A3,n3,c3⟩,v⟩,hv⟩:=x
     dsimp only [gQ] at y0 y1 y2 y3 hY1
     obtain ⟨fn,tmps,assign,body,hy,hRd⟩:=hY1 (wr.alloc (.cells #[.bool s2,.slice A2 n2 c2,.bool s3,.slice A3 n3 c3] 47)) (hJ _ _ _ hJj)
     clear hY1 hJj
     gi_wp2
     refine hRd.mono ?_
     rintro e W3 (⟨rfl,hJ3,hk3⟩ | ⟨rfl,hJx3⟩)
     ·have HJ3:=ah hJ3
      have HK3:=ah (HBj.out.trans ((HKA.out _).trans hk3))
      clear hJ3 hk3
      gi_wp2
      go_roundw
      case rel=>exact ⟨j+1,by omega,by go_num,by rw [<- HT.out];exact HJ3.out,HK3.out⟩
      case measure=>simp [intOf];omega
     ·have HJx3:=ah hJx3
      clear hJx3
      gi_wp2
      refine bodyPost_ret (results_none rfl _ _ _) rfl ?_
      exact ⟨⟨_,rfl⟩,.inr ⟨_,trivial,HJx3.out⟩⟩
theorem eachQ_stops (n:Nat)(hn:1<=n)(Bs n₁:Nat){W0:World}{b:Nat}{A:Option Addr}{m c:Nat}{XX:List (List (GQ W0 b))}(hm:m<=maxLen)(w:World)(hn1:n₁<=w.heap.size)(hBs:Bs < w.heap.size)(hR:GridQ w n₁ A m XX)(hcs:w.cell? ⟨Bs,0,none⟩=some (.slice A m c)) :
  SeqStopsK Fence.wide n Tryz.prog 168 #[.pointer (some ⟨Bs,0,none⟩)] (fun x:GQ W0 b=>#[gQ x]) (KpO n₁ Bs)
   (fun xs=>xs=XX.flatten) (fun _=>True) XX.flatten.length w:=by
 intro l J Jx W hW hJ _ hY h0
 exact each1Q_in n hn l Bs n₁ hm J Jx (fun pre W o h=>hJ pre W _ none h (World.grownBy_alloc W o none) (fun r e=>by cases e)) hY W (hR.below (hW.mono hn1)) ((hW.cell (p:=⟨Bs,0,none⟩) hBs).trans hcs) (nT hn1 hW.size) (Nat.lt_of_lt_of_le hBs hW.size) h0
theorem eachQ_any {A:Option Addr}{m c:Nat}(w:World) :
  Calls Tryz.prog 117 #[.slice A m c] w fun e w' =>
   e=.returned (.func (.func 168) #[] #[.pointer (some ⟨w.heap.size,0,none⟩)])/\w.alloc (.cells #[.slice A m c] 148)=w':=by
 go_enter Tryz.func117,Tryz.ntmps117
 go_wp2
 go_ret
 exact ⟨rfl,rfl⟩
abbrev GZ (W0:World)(b:Nat):={ q:Ent × (Bool × List Nat) // q.1.1=q.2.1/\RdU W0 b q.1.2.1 q.1.2.2.1 q.1.2.2.2 q.2.2/\q.1.2.2.1<=400000000000 }
def gZ {W0:World}{b:Nat}(x:GZ W0 b):Value:=.agg #[.bool x.1.1.1,.slice x.1.1.2.1 x.1.1.2.2.1 x.1.1.2.2.2]
structure GridZ {W0:World}{b:Nat}(w:World)(B:Nat)(A:Option Addr)(n:Nat)(XX:List (List (GZ W0 b))):Prop where
 len:XX.length=n
 at_:∀ (i:Nat) (row:List (GZ W0 b)),XX[i]?=some row->∃ (ad:Addr) (A1:Option Addr) (n1 c1:Nat),A=some ad/\ad.block < B/\w.cell? (ad.add i)=some (.slice A1 n1 c1)/\row.length=n1/\n1<=maxLen /\
  ∀ (j:Nat) (x:GZ W0 b),row[j]?=some x->∃ ad1:Addr,A1=some ad1/\ad1.block < B/\w.cell? (ad1.add (j*2))=some (.bool x.1.1.1)/\w.cell? ⟨(ad1.add (j*2)).block,(ad1.add (j*2)).off+1,none⟩=some (.slice x.1.1.2.1 x.1.1.2.2.1 x.1.1.2.2.2)
theorem GridZ.below {W0:World}{b:Nat}{w w':World}{B:Nat}{A:Option Addr}{n:Nat}{XX:List (List (GZ W0 b))}(h:GridZ w B A n XX)(hb:Below B w w'):GridZ w' B A n XX :=
 ⟨h.len,fun i row hi=>by
  obtain ⟨ad,A1,n1,c1,h1,h2,h3,h4,h5,h6⟩:=h.at_ i row hi
  refine ⟨ad,A1,n1,c1,h1,h2,(hb.cell (p:=ad.add i) (by rw [add_blk];exact h2)).trans h3,h4,h5,fun j x hx=>?_⟩
  obtain ⟨ad1,e1,e2,k0,k1⟩:=h6 j x hx
  have hk:(ad1.add (j*2)).block < B:=by rw [add_blk];exact e2
  exact ⟨ad1,e1,e2,(hb.cell (p:=ad1.add (j*2)) hk).trans k0,(hb.cell (p:=⟨(ad1.add (j*2)).block,(ad1.add (j*2)).off+1,none⟩) hk).trans k1⟩⟩
theorem each1Z_in (n:Nat)(hn:1<=n)(l Bs n₁:Nat){W0:World}{b:Nat}{A:Option Addr}{m c:Nat}{XX:List (List (GZ W0 b))}(hm:m<=maxLen)(J Jx:List (GZ W0 b)->World->Prop)(hJ:∀ pre W o,J pre W->J pre (W.alloc o))
  (hY:∀ pre (x:GZ W0 b) W,J pre W->pre.length < XX.flatten.length->YieldAt Fence.wide (n-1) Tryz.prog l #[gZ x] W fun e W' =>
   (e=.returned (.bool true)/\J (pre ++ [x]) W'/\KpO n₁ Bs W W') ∨ (e=.returned (.bool false)/\Jx (pre ++ [x]) W'))
  (W:World) (hR:GridZ W n₁ A m XX) (hcs:W.cell? ⟨Bs,0,none⟩=some (.slice A m c)) (hn1:n₁<=W.heap.size) (hBs:Bs < W.heap.size) (h0:J [] W) :
  CallsIn Fence.wide n Tryz.prog 211 #[.func (.yield l) #[] #[],.pointer (some ⟨Bs,0,none⟩)] W fun e W'=>(∃ v,e=.returned v) /\
   ((∃ ys,ys=XX.flatten/\J ys W') ∨ (∃ pre,True/\Jx pre W')):=by
 have HLEN:=ah hR.len
 have HR:=ah (show ∀ W',Below n₁ W W'->GridZ W' n₁ A m XX from fun W' hb=>hR.below hb)
 have HN:=ah (cJ hn1 hBs)
 unfold maxLen at hm
 clear hR hn1 hBs
 refine callsIn_of_wp Tryz.func211 rfl trivial ?_ rfl
 simp only [Tryz.ntmps211,List.size_toArray,List.length_cons,List.length_nil,Nat.reduceAdd,Nat.reduceSub,Array.replicate_succ,Array.replicate_zero,List.push_toArray,List.append_toArray,List.nil_append,List.cons_append]
 gi_wp2
 clear hcs
 gi_loopw [9] (fun iv wr=>∃ i:Nat,i<=m/\iv=.int .i64 (i:Int)/\J (XX.take i).flatten wr/\KpO n₁ Bs W wr) (fun iv _=>m-(intOf iv).toNat)
 case atStart=>exact ⟨0,nZ,rfl,by simpa using h0,KpO.refl _ _ _⟩
 case round =>
  clear h0
  obtain ⟨i,hi,rfl,hJi,hB⟩:=hrel
  by_cases him:i=m
  ·have HJ:=ah (show J XX.flatten wr by rw [List.take_of_length_le (by rw [HLEN.out,him];exact nR)] at hJi;exact hJi)
   subst him
   clear hJi hB
   gi_wp2
   go_end0
   exact ⟨⟨_,rfl⟩,.inl ⟨_,rfl,HJ.out⟩⟩
  ·have hil:i < m:=by omega
   have hili:(i:Int) < (m:Int):=by omega
   clear him
   obtain ⟨row,hrow⟩:∃ row,XX[i]?=some row:=⟨XX[i]'(by rw [HLEN.out];exact hil),gE _⟩
   obtain ⟨ad,A1,n1,c1,rfl,hbk,hx,hl,hn1,hat⟩:=(HR.out wr hB.lo).at_ i row hrow
   have HROW:=ah (cJ hrow hl)
   have HAT:=ah hat
   have HJI:=ah hJi
   have HB:=ah hB
   unfold maxLen at hn1
   clear hrow hl hJi hB hat
   obtain ⟨wo,rfl⟩:∃ V,V=wr:=⟨_,rfl⟩
   gi_wp2
   clear hx
   gi_loopw [15] (fun jv wr=>∃ j:Nat,j<=n1/\jv=.int .i64 (j:Int)/\J ((XX.take i).flatten ++ row.take j) wr/\KpO n₁ Bs wo wr) (fun jv _=>n1-(intOf jv).toNat)
   case atStart=>exact ⟨0,nZ,rfl,by simpa using HJI.out,KpO.refl _ _ _⟩
   case round =>
    obtain ⟨j,hj,rfl,hJj,hBj⟩:=hrel
    by_cases hjn:j=n1
    ·have HJ:=ah (show J (XX.take (i+1)).flatten wr by rw [List.take_of_length_le (l:=row) (by rw [HROW.out.2,hjn];exact nR),flat_take HROW.out.1] at hJj;exact hJj)
     have HBj:=ah (HB.out.trans hBj)
     subst hjn
     clear hJj hBj
     gi_wp2
     go_roundw
     case rel=>exact ⟨i+1,by omega,by go_num,HJ.out,HBj.out⟩
     case measure=>simp [intOf];omega
    ·have hjl:j < n1:=by omega
     have hjli:(j:Int) < (n1:Int):=by omega
     clear hjn
     obtain ⟨x,hxr⟩:∃ x,row[j]?=some x:=⟨row[j]'(by rw [HROW.out.2];exact hjl),gE _⟩
     obtain ⟨ad1,rfl,hbk1,k0,k1⟩:=HAT.out j x hxr
     obtain ⟨y0,y1⟩:=zs_cells hBj.lo hbk1 k0 k1
     have hY1:=fun W' h1=>hY ((XX.take i).flatten ++ row.take j) x W' h1 (flat_lt HROW.out.1 (by rw [HROW.out.2];exact hjl))
     have HT:=ah (show ((XX.take i).flatten ++ row.take j) ++ [x]=(XX.take i).flatten ++ row.take (j+1) from app_take hxr)
     have HKA:=ah (show ∀ o,KpO n₁ Bs wr (wr.alloc o) from fun o=>KpO.alloc (nT HN.out.1 (HB.out.trans hBj).lo.size) (Nat.lt_of_lt_of_le HN.out.2 (HB.out.trans hBj).lo.size) o)
     have HBj:=ah hBj
     clear hxr hBj k0 k1 hY
     obtain ⟨⟨⟨s2,A2,n2,c2⟩,v⟩,hv⟩:=x
     dsimp only [gZ] at y0 y1 hY1
     obtain ⟨fn,tmps,assign,body,hy,hRd⟩:=hY1 (wr.alloc (.cells #[.bool s2,.slice A2 n2 c2] 25)) (hJ _ _ _ hJj)
     clear hY1 hJj
     gi_wp2
     refine hRd.mono ?_
     rintro e W3 (⟨rfl,hJ3,hk3⟩ | ⟨rfl,hJx3⟩)
     ·have HJ3:=ah hJ3
      have HK3:=ah (HBj.out.trans ((HKA.out _).trans hk3))
      clear hJ3 hk3
      gi_wp2
      go_roundw
      case rel=>exact ⟨j+1,by omega,by go_num,by rw [<- HT.out];exact HJ3.out,HK3.out⟩
      case measure=>simp [intOf];omega
     ·have HJx3:=ah hJx3
      clear hJx3
      gi_wp2
      refine bodyPost_ret (results_none rfl _ _ _) rfl ?_
      exact ⟨⟨_,rfl⟩,.inr ⟨_,trivial,HJx3.out⟩⟩
theorem eachZ_stops (n:Nat)(hn:1<=n)(Bs n₁:Nat){W0:World}{b:Nat}{A:Option Addr}{m c:Nat}{XX:List (List (GZ W0 b))}(hm:m<=maxLen)(w:World)(hn1:n₁<=w.heap.size)(hBs:Bs < w.heap.size)(hR:GridZ w n₁ A m XX)(hcs:w.cell? ⟨Bs,0,none⟩=some (.slice A m c)) :
  SeqStopsK Fence.wide n Tryz.prog 211 #[.pointer (some ⟨Bs,0,none⟩)] (fun x:GZ W0 b=>#[gZ x]) (KpO n₁ Bs)
   (fun xs=>xs=XX.flatten) (fun _=>True) XX.flatten.length w:=by
 intro l J Jx W hW hJ _ hY h0
 exact each1Z_in n hn l Bs n₁ hm J Jx (fun pre W o h=>hJ pre W _ none h (World.grownBy_alloc W o none) (fun r e=>by cases e)) hY W (hR.below (hW.mono hn1)) ((hW.cell (p:=⟨Bs,0,none⟩) hBs).trans hcs) (nT hn1 hW.size) (Nat.lt_of_lt_of_le hBs hW.size) h0
theorem eachZ_any {A:Option Addr}{m c:Nat}(w:World) :
  Calls Tryz.prog 172 #[.slice A m c] w fun e w' =>
   e=.returned (.func (.func 211) #[] #[.pointer (some ⟨w.heap.size,0,none⟩)])/\w.alloc (.cells #[.slice A m c] 165)=w':=by
 go_enter Tryz.func172,Tryz.ntmps172
 go_wp2
 go_ret
 exact ⟨rfl,rfl⟩
def KeepC (W W':World):Prop:=∀ (i:Nat) (cs:Array Value) (t:TypeId) (f:Nat × Nat),W.heap[i]?=some (.cells cs t f)->W'.heap[i]?=some (.cells cs t f)
theorem keepC_own {W W':World}{row:Option Nat}(hg:W.grownBy W' row)(hr:∀ r,row=some r->∃ o:Obj,W.heap[r]?=some o/\o.isCells=false):KeepC W W':=fun _ _ _ _ hi=>(grownBy_keeps_cells hg hr hi rfl).trans hi
theorem KeepC.q {W W':World}(h:KeepC W W'):KeepQ W W':=⟨fun i c f=>h i c _ f,fun i c f=>h i c _ f⟩
theorem KeepC.i {W W':World}(h:KeepC W W'):KeepI W W':=⟨fun i c f=>h i c _ f,fun i c f=>h i c _ f⟩
theorem KeepC.row {W W':World}(h:KeepC W W'){b n k:Nat}{e:TypeId}{v:Value}{xs:List Value}(hr:W.ownsRow b e k v n xs):W'.ownsRow b e k v n xs:=by
 refine ⟨hr.1,?_⟩
 rcases hr.2 with h0 | ⟨g,cap,cur,h1,h2,h3,h4⟩
 ·exact .inl h0
 ·exact .inr ⟨g,cap,cur,h1,h2,h _ _ _ _ h3,h4⟩
variable {n:Nat}{P:Program}
theorem rangeFunc_box {α:Type}{g:Operand}{ps:Array Tmp}{assign body:Code}{Q:Exit->Act->World->Prop}{a:Act}{w:World}
  (h1:1<=n) {gf:Nat} {lb:Array Value} (hg:a.eval g=.func (.func gf) #[] lb) (eg:∀ args w,(callFunc gf args).run P w=.ok (.enter gf args) w)
  {enc:α->Value} {n₁ Bs:Nat} {S:List α->Prop} {N:Nat} (hseq:SeqStopsK Fence.wide (n-1) P gf lb (fun x=>#[enc x]) (KpO n₁ Bs) S (fun _=>True) N w)
  (hn1:n₁<=w.heap.size) (hBs:Bs < w.heap.size) (hps:1=ps.size)
  (I:List α->World->Prop) (hI:OwnFrom w.heap.size I) (hsz:∀ pre W,I pre W->w.heap.size<=W.heap.size) (h0:I [] w) (t:TypeId) (cls:α->Array Value) {fr:α->Nat->Act}
  (hassign:∀ (l:Nat) (x:α) (W:World) (K:Act->World->Prop) (B:Nat),B=W.heap.size->K (fr x B) (W.alloc (.cells (cls x) t)) ->
   assign.wpIn (Fence.wide.inRound l) (n-1-1) P (Exit.then K (fun _ _ _=>False)) { tmps:=(ps.zip #[enc x]).foldl (fun t (p,v)=>t.setIfInBounds p v) a.tmps,defers:=[] } W)
  (hbody:∀ (l:Nat) (pre:List α) (x:α) (B:Nat) (W:World),I pre W->w.heap.size<=B->W.heap[B]?=some (.cells (cls x) t (0,0))->pre.length < N->body.wpIn (Fence.wide.inRound l) (n-1-1) P (ownPostG w.heap.size (KpO n₁ Bs) I (fun _ _ _=>False) (pre ++ [x]) W) (fr x B) W)
  (hdone:∀ (D:Nat) (xs:List α) (W:World),w.heap.size<=D->S xs->I xs W->W.heap[D]?=some (.deferred (some []))->Q .normal { a with defers:={ target:=.collected D,args:=#[] } :: a.defers } W) :
  (Code.rangeFunc g ps assign body).wpIn Fence.wide n P Q a w :=
 wpIn_rangeFunc_ownH (F:=Fence.wide) rfl h1 hg trivial eg hseq KpO.trans (KpO.put hn1 hBs) bR (fun _=>hps) I (fun _ _ _=>False) hI (fun _ _ _ _ _ hs _ _=>hs) h0
  (fun x a' W=>∃ B,w.heap.size<=B/\a'=fr x B/\W.heap[B]?=some (.cells (cls x) t (0,0)))
  (fun x a' _ W W' row hs hgr hr=>by
   obtain ⟨B,h1,h2,h3⟩:=hs
   exact ⟨B,h1,h2,(keepC_own hgr (fun r e=>(hr r e).2)) _ _ _ _ h3⟩)
  (fun l pre x W K hi hK=>hassign l x W K W.heap.size rfl (hK _ _ ((KeepsOthers.alloc W _).from _) (KpO.alloc (nT hn1 (hsz _ _ hi)) (Nat.lt_of_lt_of_le hBs (hsz _ _ hi)) _) (hI.alloc _ hi) ⟨_,hsz _ _ hi,rfl,World.alloc_heap_new W _⟩))
  (fun l pre x a' W _ _ hi hx hl=>by
   obtain ⟨B,h1,h2,h3⟩:=hx
   subst h2
   exact hbody l pre x B W hi h1 h3 hl)
  hdone (fun _ _ _ _ _ _ hs _=>hs.elim)
end Go.Proofs.YtjnklbfhelbjgaaGreat
