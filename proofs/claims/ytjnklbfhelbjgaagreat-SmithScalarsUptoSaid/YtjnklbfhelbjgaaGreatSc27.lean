/- Sc27. -/
import Derived.Test.YtjnklbfhelbjgaaGreatSc26
import Derived.Test.YtjnklbfhelbjgaaGreatSc10
import Derived.Test.YtjnklbfhelbjgaaGreatSc15
import Derived.Test.YtjnklbfhelbjgaaGreatSc24
import Derived.Test.YtjnklbfhelbjgaaGreatSc21
import Derived.Deep.AppendLies
import Derived.Test.YtjnklbfhelbjgaaGreatSc14
import Derived.Test.YtjnklbfhelbjgaaGreatSc11
import Derived.Test.YtjnklbfhelbjgaaGreatSc18
import Derived.Test.YtjnklbfhelbjgaaGreatSc00
set_option maxRecDepth 100000
set_option maxHeartbeats 32000000
set_option linter.all false
namespace Go.Proofs.YtjnklbfhelbjgaaGreat
open Go.RowKit Go.IntWalk
attribute [local go_sem ↓] Go.wp_at_zero Go.wp_at_succ
theorem swap_self (M:M2)(i:Int):M.swap i i=M:=if_pos rfl
def M2.cols (M:M2):M2:=(M.flip.swap 0 1).flip
def lead (L:List Rat):Rat:=Pq.co L (L.length-1)
structure RdOK (M N:M2)(X R Y S Z T:List Rat):Prop where
 cl:ClOK M X R Y S
 eq:(M.cl1 X).cl2 Y=N
 z1:(M.cl1 X).c=[]
 z2:N.b=[]
 tn:N.tiny
 na:N.a ≠ []
 dv:Pq.IsD N.d N.a Z T
structure LdOK (L:List Rat):Prop where
 t:Tiny L
 ne:L ≠ []
 iq:Qs 1 (lead L)⁻¹
theorem LdOK.nz {L:List Rat}(h:LdOK L):lead L ≠ 0:=Pq.nz_top h.t.nz (List.length_pos_iff.2 h.ne)
def RetRn (b gw:Nat)(M:M2)(w:World)(e:Ending)(w':World):Prop:=e=.returned (.int .i64 2)/\Wk w' b gw M/\Below b w w'
theorem run_one {b gw:Nat}{M N K E:M2}{X R Y S Z:List Rat}{w:World}(h:Wk w b gw M)(hb:b<=w.heap.size)(ha:M.a.length=2)(hB:M.b.length=0)(hc:M.c.length=0)(hd:M.d.length=2)
  (r1:RdOK M N X R Y S Z []) (l1:LdOK N.a) (hK:N.scale 0 (lead N.a)⁻¹=K) (tK:K.tiny) (l2:LdOK K.d) (hE:K.scale 1 (lead K.d)⁻¹=E) :
  Calls Tryz.prog 163 #[.pointer (some ⟨gw,0,none⟩)] w (RetRn b gw E w):=by
 have HA:=ah (cJ r1 (cJ l1 (cJ hK (cJ tK (cJ l2 hE)))))
 have HL:=ah (cJ ha (cJ hB (cJ hc hd)))
 have HWw:=ah h
 have HVw:=ah (show b<=w.heap.size/\Below b w w from ⟨hb,bR⟩)
 clear r1 l1 hK tK l2 hE ha hB hc hd h hb
 go_enter Tryz.func163,Tryz.ntmps163
 go_wp2
 go_step3
 go_wp2
 go_step3
 go_wp2
 refine wp_loop_rounds 4 ?_
 rw [rounds_succ]
 go_wp2_with fail
 refine (least_one HWw.out HL.out.1 HL.out.2.1 HL.out.2.2.1 HL.out.2.2.2).mono ?_
 rintro _ W1 ⟨rfl,hb⟩
 have HWW1:=ah (HWw.out.next hb)
 have HVW1:=ah (show b<=W1.heap.size/\Below b w W1 from ⟨nT HVw.out.1 hb.size,HVw.out.2.trans (hb.mono HVw.out.1)⟩)
 clear hb
 go_wp2_with fail
 refine (row_swap (i:=0) (j:=0) HWW1.out HVW1.out.1 (.inl ⟨rfl,rfl⟩)).mono ?_
 rintro _ W2 ⟨rfl,hw,hb⟩
 rw [swap_self] at hw
 have HWW2:=ah hw
 have HVW2:=ah (show b<=W2.heap.size/\Below b w W2 from ⟨nT HVW1.out.1 hb.size,HVW1.out.2.trans hb⟩)
 clear hw hb
 go_wp2_with fail
 refine (column_swap (i:=0) (j:=0) HWW2.out HVW2.out.1 (.inl ⟨rfl,rfl⟩)).mono ?_
 rintro _ W3 ⟨rfl,hw,hb⟩
 rw [show ((M).flip.swap 0 0).flip=M by rw [swap_self];rfl] at hw
 have HWW3:=ah hw
 have HVW3:=ah (show b<=W3.heap.size/\Below b w W3 from ⟨nT HVW2.out.1 hb.size,HVW2.out.2.trans hb⟩)
 clear hw hb
 go_wp2_with fail
 refine (clear_zero HWW3.out HVW3.out.1 HA.out.1.cl).mono ?_
 rintro _ W4 ⟨he,hw,hb⟩
 rw [decide_eq_true ⟨HA.out.1.z1,by rw [HA.out.1.eq];exact HA.out.1.z2⟩] at he
 subst he
 rw [HA.out.1.eq] at hw
 have HWW4:=ah hw
 have HVW4:=ah (show b<=W4.heap.size/\Below b w W4 from ⟨nT HVW3.out.1 hb.size,HVW3.out.2.trans hb⟩)
 clear hw hb
 go_wp2_with fail
 refine (stray_zero HWW4.out HA.out.1.tn HA.out.1.na HA.out.1.dv).mono ?_
 rintro _ W5 ⟨he,hb⟩
 rw [if_pos rfl,decide_eq_false (fun e=>e rfl)] at he
 subst he
 have HWW5:=ah (HWW4.out.next hb)
 have HVW5:=ah (show b<=W5.heap.size/\Below b w W5 from ⟨nT HVW4.out.1 hb.size,HVW4.out.2.trans (hb.mono HVW4.out.1)⟩)
 clear hb
 obtain ⟨t5,hx5,hg5,gr5,cr5,ga5,ca5,gc5,cc5,⟨xa5,xn5,xc5⟩,y5,z5,⟨ua5,un5,uc5⟩,hT5⟩:=HWW5.out
 have k0:=hx5.cell (i:=0) rfl
 have k1:=hT5.hd.cell (i:=0) rfl
 have k3:=hT5.rw.cell (i:=0) rfl
 have k5:W5.cell? ⟨ga5,0,none⟩=some (.slice xa5 xn5 xc5):=hT5.r0.cell rfl
 have hln:(N).a.length=xn5:=hT5.ea.len
 have hl0:0 < xn5:=by rw [<- hln];exact List.length_pos_iff.2 HA.out.2.1.ne
 have h16:xn5<=16:=by rw [<- hln];exact HA.out.2.1.t.2.1
 obtain ⟨ad5,s5,A5,m5,l5,s'5,A'5,m'5,l'5,q5,rfl,hbk,j0,j1,j2,j3,hq,hqx⟩:=op_at hT5.ea (show xn5-1 < xn5 by omega)
 obtain rfl:q5=lead (N).a:=by unfold lead;rw [hln];exact (Pq.co_get hqx.out).symm
 have HQ5:=ah hq
 have HL5:=ah (show Qs 1 (lead (N).a) from HA.out.2.1.t.qs _ (gM hqx.out))
 obtain ⟨jj,hjj⟩:∃ j,j=xn5-1:=⟨_,rfl⟩
 have hwr:IntKind.i64.wrap ((xn5:Int)-1)=(jj:Int):=by rw [IntWalk.i64_in _ (by omega)];omega
 have hr0:(0:Int)<=(jj:Int):=by omega
 have hr1:(jj:Int) < (xn5:Int):=by omega
 rw [<- hjj] at j0 j1 j2 j3
 clear hx5 hT5 hg5 hln hl0 h16 hq hqx hjj hbk
 go_wp2_with fail
 refine (qinvq_any (N:=1) HQ5.out.num.rd HQ5.out.den.rd ⟨by rw [HQ5.out.num.len];exact HL5.out.1,by rw [HQ5.out.den.len];exact HL5.out.2⟩ (by decide) (by decide) HA.out.2.1.nz).mono ?_
 rintro _ W6 ⟨s5,A5,n5,l5,s6,A6,n6,l6,y5,rfl,ho5,hy5,hb⟩
 obtain rfl:=hy5.out
 have HWW6:=ah (HWW5.out.next hb)
 have HVW6:=ah (show b<=W6.heap.size/\Below b w W6 from ⟨nT HVW5.out.1 hb.size,HVW5.out.2.trans (hb.mono HVW5.out.1)⟩)
 clear hb hy5 k0 k1 k3 k5 j0 j1 j2 j3 hwr hr0 hr1
 obtain ⟨W7,HBW7⟩:∃ W,W=W6.alloc (.cells #[.bool s5,.slice A5 n5 l5,.bool s6,.slice A6 n6 l6] 47):=⟨_,rfl⟩
 have hb:Below W6.heap.size W6 W7:=by rw [HBW7];exact bA
 have HOW7:=ah (ho5.next hb)
 have HWW7:=ah (HWW6.out.next hb)
 have HVW7:=ah (show b<=W7.heap.size/\Below b w W7 from ⟨nT HVW6.out.1 hb.size,HVW6.out.2.trans (hb.mono HVW6.out.1)⟩)
 clear hb
 have HBW7:=ah HBW7
 clear ho5
 go_wp2_with fail
 rw [<- HBW7.out]
 clear HBW7
 clear HBW7
 refine (row_scale (i:=0) HWW7.out HVW7.out.1 HOW7.out ⟨HA.out.1.tn,HA.out.2.1.iq⟩ (.inl rfl)).mono ?_
 rintro _ W8 ⟨rfl,hw,hb⟩
 rw [HA.out.2.2.1] at hw
 have HWW8:=ah hw
 have HVW8:=ah (show b<=W8.heap.size/\Below b w W8 from ⟨nT HVW7.out.1 hb.size,HVW7.out.2.trans hb⟩)
 clear hw hb
 go_wp2_with fail
 rw [rounds_succ]
 go_wp2_with fail
 refine (least_three HWW8.out ⟨List.length_pos_iff.2 HA.out.2.2.2.2.1.ne,HA.out.2.2.2.2.1.t.2.1⟩).mono ?_
 rintro _ W9 ⟨rfl,hb⟩
 have HWW9:=ah (HWW8.out.next hb)
 have HVW9:=ah (show b<=W9.heap.size/\Below b w W9 from ⟨nT HVW8.out.1 hb.size,HVW8.out.2.trans (hb.mono HVW8.out.1)⟩)
 clear hb
 go_wp2_with fail
 refine (row_swap (i:=1) (j:=1) HWW9.out HVW9.out.1 (.inr ⟨rfl,rfl⟩)).mono ?_
 rintro _ W10 ⟨rfl,hw,hb⟩
 rw [swap_self] at hw
 have HWW10:=ah hw
 have HVW10:=ah (show b<=W10.heap.size/\Below b w W10 from ⟨nT HVW9.out.1 hb.size,HVW9.out.2.trans hb⟩)
 clear hw hb
 go_wp2_with fail
 refine (column_swap (i:=1) (j:=1) HWW10.out HVW10.out.1 (.inr ⟨rfl,rfl⟩)).mono ?_
 rintro _ W11 ⟨rfl,hw,hb⟩
 rw [show ((K).flip.swap 1 1).flip=K by rw [swap_self];rfl] at hw
 have HWW11:=ah hw
 have HVW11:=ah (show b<=W11.heap.size/\Below b w W11 from ⟨nT HVW10.out.1 hb.size,HVW10.out.2.trans hb⟩)
 clear hw hb
 go_wp2_with fail
 refine (clear_one HWW11.out).mono ?_
 rintro _ W12 ⟨rfl,hb⟩
 have HWW12:=ah (HWW11.out.next hb)
 have HVW12:=ah (show b<=W12.heap.size/\Below b w W12 from ⟨nT HVW11.out.1 hb.size,HVW11.out.2.trans (hb.mono HVW11.out.1)⟩)
 clear hb
 go_wp2_with fail
 refine (stray_one HWW12.out).mono ?_
 rintro _ W13 ⟨rfl,hb⟩
 have HWW13:=ah (HWW12.out.next hb)
 have HVW13:=ah (show b<=W13.heap.size/\Below b w W13 from ⟨nT HVW12.out.1 hb.size,HVW12.out.2.trans (hb.mono HVW12.out.1)⟩)
 clear hb
 obtain ⟨t13,hx13,hg13,gr13,cr13,ga13,ca13,gc13,cc13,⟨xa13,xn13,xc13⟩,y13,z13,⟨ua13,un13,uc13⟩,hT13⟩:=HWW13.out
 have k0:=hx13.cell (i:=0) rfl
 have k1:=hT13.hd.cell (i:=0) rfl
 have k3:=hT13.rw.cell (i:=1) rfl
 have k5:W13.cell? ⟨gc13,1,none⟩=some (.slice ua13 un13 uc13):=hT13.r1.cell rfl
 have hln:(K).d.length=un13:=hT13.ed.len
 have hl0:0 < un13:=by rw [<- hln];exact List.length_pos_iff.2 HA.out.2.2.2.2.1.ne
 have h16:un13<=16:=by rw [<- hln];exact HA.out.2.2.2.2.1.t.2.1
 obtain ⟨ad13,s13,A13,m13,l13,s'13,A'13,m'13,l'13,q13,rfl,hbk,j0,j1,j2,j3,hq,hqx⟩:=op_at hT13.ed (show un13-1 < un13 by omega)
 obtain rfl:q13=lead (K).d:=by unfold lead;rw [hln];exact (Pq.co_get hqx.out).symm
 have HQ13:=ah hq
 have HL13:=ah (show Qs 1 (lead (K).d) from HA.out.2.2.2.2.1.t.qs _ (gM hqx.out))
 obtain ⟨jj,hjj⟩:∃ j,j=un13-1:=⟨_,rfl⟩
 have hwr:IntKind.i64.wrap ((un13:Int)-1)=(jj:Int):=by rw [IntWalk.i64_in _ (by omega)];omega
 have hr0:(0:Int)<=(jj:Int):=by omega
 have hr1:(jj:Int) < (un13:Int):=by omega
 rw [<- hjj] at j0 j1 j2 j3
 clear hx13 hT13 hg13 hln hl0 h16 hq hqx hjj hbk
 go_wp2_with fail
 refine (qinvq_any (N:=1) HQ13.out.num.rd HQ13.out.den.rd ⟨by rw [HQ13.out.num.len];exact HL13.out.1,by rw [HQ13.out.den.len];exact HL13.out.2⟩ (by decide) (by decide) HA.out.2.2.2.2.1.nz).mono ?_
 rintro _ W14 ⟨s5,A5,n5,l5,s6,A6,n6,l6,y5,rfl,ho5,hy5,hb⟩
 obtain rfl:=hy5.out
 have HWW14:=ah (HWW13.out.next hb)
 have HVW14:=ah (show b<=W14.heap.size/\Below b w W14 from ⟨nT HVW13.out.1 hb.size,HVW13.out.2.trans (hb.mono HVW13.out.1)⟩)
 clear hb hy5 k0 k1 k3 k5 j0 j1 j2 j3 hwr hr0 hr1
 obtain ⟨W15,HBW15⟩:∃ W,W=W14.alloc (.cells #[.bool s5,.slice A5 n5 l5,.bool s6,.slice A6 n6 l6] 47):=⟨_,rfl⟩
 have hb:Below W14.heap.size W14 W15:=by rw [HBW15];exact bA
 have HOW15:=ah (ho5.next hb)
 have HWW15:=ah (HWW14.out.next hb)
 have HVW15:=ah (show b<=W15.heap.size/\Below b w W15 from ⟨nT HVW14.out.1 hb.size,HVW14.out.2.trans (hb.mono HVW14.out.1)⟩)
 clear hb
 have HBW15:=ah HBW15
 clear ho5
 go_wp2_with fail
 rw [<- HBW15.out]
 clear HBW15
 clear HBW15
 refine (row_scale (i:=1) HWW15.out HVW15.out.1 HOW15.out ⟨HA.out.2.2.2.1,HA.out.2.2.2.2.1.iq⟩ (.inr rfl)).mono ?_
 rintro _ W16 ⟨rfl,hw,hb⟩
 rw [HA.out.2.2.2.2.2] at hw
 have HWW16:=ah hw
 have HVW16:=ah (show b<=W16.heap.size/\Below b w W16 from ⟨nT HVW15.out.1 hb.size,HVW15.out.2.trans hb⟩)
 clear hw hb
 go_wp2_with fail
 rw [rounds_succ]
 go_wp2_with fail
 refine (least_none HWW16.out).mono ?_
 rintro _ Wz ⟨rfl,hb⟩
 have HWWz:=ah (HWW16.out.next hb)
 have HVWz:=ah (show b<=Wz.heap.size/\Below b w Wz from ⟨nT HVW16.out.1 hb.size,HVW16.out.2.trans (hb.mono HVW16.out.1)⟩)
 clear hb
 go_wp2
 try rw [Exit.noGoto_ret]
 go_ret
 exact ⟨rfl,HWWz.out,HVWz.out.2⟩
theorem run_two {b gw:Nat}{M N N1 N2 N3 N4 K E:M2}{X R Y S Z T X2 R2 Y2 S2 X3 R3 Y3 S3 Z3:List Rat}{w:World}(h:Wk w b gw M)(hb:b<=w.heap.size)(ha:M.a.length=2)(hB:M.b.length=0)(hc:M.c.length=0)(hd:M.d.length=2)
  (r1:RdOK M N X R Y S Z T) (hT:T ≠ []) (ok:N.addOK 0 [1]) (h1:N.add 0 [1]=N1) (c2:ClOK N1 X2 R2 Y2 S2) (h2:(N1.cl1 X2).cl2 Y2=N2)
  (ja:N2.a.length=2) (jB:N2.b.length=1) (jc:N2.c.length=0) (jd:N2.d.length=2) (h3:N2.cols=N3)
  (r3:RdOK N3 N4 X3 R3 Y3 S3 Z3 []) (l1:LdOK N4.a) (hK:N4.scale 0 (lead N4.a)⁻¹=K) (tK:K.tiny) (l2:LdOK K.d) (hE:K.scale 1 (lead K.d)⁻¹=E) :
  Calls Tryz.prog 163 #[.pointer (some ⟨gw,0,none⟩)] w (RetRn b gw E w):=by
 have HR:=ah (cJ r1 (cJ hT (cJ ok (cJ h1 (cJ c2 h2)))))
 have HA:=ah (cJ r3 (cJ l1 (cJ hK (cJ tK (cJ l2 hE)))))
 have HL:=ah (cJ ha (cJ hB (cJ hc hd)))
 have HJ:=ah (cJ ja (cJ jB (cJ jc jd)))
 have H3:=ah h3
 have HWw:=ah h
 have HVw:=ah (show b<=w.heap.size/\Below b w w from ⟨hb,bR⟩)
 clear r1 hT ok h1 c2 h2 r3 l1 hK tK l2 hE ha hB hc hd ja jB jc jd h3 h hb
 go_enter Tryz.func163,Tryz.ntmps163
 go_wp2
 go_step3
 go_wp2
 go_step3
 go_wp2
 refine wp_loop_rounds 5 ?_
 rw [rounds_succ]
 go_wp2_with fail
 refine (least_one HWw.out HL.out.1 HL.out.2.1 HL.out.2.2.1 HL.out.2.2.2).mono ?_
 rintro _ W1 ⟨rfl,hb⟩
 have HWW1:=ah (HWw.out.next hb)
 have HVW1:=ah (show b<=W1.heap.size/\Below b w W1 from ⟨nT HVw.out.1 hb.size,HVw.out.2.trans (hb.mono HVw.out.1)⟩)
 clear hb
 go_wp2_with fail
 refine (row_swap (i:=0) (j:=0) HWW1.out HVW1.out.1 (.inl ⟨rfl,rfl⟩)).mono ?_
 rintro _ W2 ⟨rfl,hw,hb⟩
 rw [swap_self] at hw
 have HWW2:=ah hw
 have HVW2:=ah (show b<=W2.heap.size/\Below b w W2 from ⟨nT HVW1.out.1 hb.size,HVW1.out.2.trans hb⟩)
 clear hw hb
 go_wp2_with fail
 refine (column_swap (i:=0) (j:=0) HWW2.out HVW2.out.1 (.inl ⟨rfl,rfl⟩)).mono ?_
 rintro _ W3 ⟨rfl,hw,hb⟩
 rw [show ((M).flip.swap 0 0).flip=M by rw [swap_self];rfl] at hw
 have HWW3:=ah hw
 have HVW3:=ah (show b<=W3.heap.size/\Below b w W3 from ⟨nT HVW2.out.1 hb.size,HVW2.out.2.trans hb⟩)
 clear hw hb
 go_wp2_with fail
 refine (clear_zero HWW3.out HVW3.out.1 HR.out.1.cl).mono ?_
 rintro _ W4 ⟨he,hw,hb⟩
 rw [decide_eq_true ⟨HR.out.1.z1,by rw [HR.out.1.eq];exact HR.out.1.z2⟩] at he
 subst he
 rw [HR.out.1.eq] at hw
 have HWW4:=ah hw
 have HVW4:=ah (show b<=W4.heap.size/\Below b w W4 from ⟨nT HVW3.out.1 hb.size,HVW3.out.2.trans hb⟩)
 clear hw hb
 go_wp2_with fail
 refine (stray_zero HWW4.out HR.out.1.tn HR.out.1.na HR.out.1.dv).mono ?_
 rintro _ W5 ⟨he,hb⟩
 rw [if_neg HR.out.2.1,decide_eq_true HR.out.2.1] at he
 subst he
 have HWW5:=ah (HWW4.out.next hb)
 have HVW5:=ah (show b<=W5.heap.size/\Below b w W5 from ⟨nT HVW4.out.1 hb.size,HVW4.out.2.trans (hb.mono HVW4.out.1)⟩)
 clear hb
 go_wp2_with fail
 refine (constant_any W5).mono ?_
 rintro _ W6 ⟨A1,n1,l1,rfl,ho,hb⟩
 have HO:=ah ho
 clear ho
 have HWW6:=ah (HWW5.out.next hb)
 have HVW6:=ah (show b<=W6.heap.size/\Below b w W6 from ⟨nT HVW5.out.1 hb.size,HVW5.out.2.trans (hb.mono HVW5.out.1)⟩)
 clear hb
 go_wp2_with fail
 refine (row_add (i:=0) (j:=1) HWW6.out HVW6.out.1 HO.out HR.out.2.2.1 (.inl ⟨rfl,rfl⟩)).mono ?_
 rintro _ W7 ⟨rfl,hw,hb⟩
 rw [HR.out.2.2.2.1] at hw
 have HWW7:=ah hw
 have HVW7:=ah (show b<=W7.heap.size/\Below b w W7 from ⟨nT HVW6.out.1 hb.size,HVW6.out.2.trans hb⟩)
 clear hw hb
 go_wp2_with fail
 refine (clear_zero HWW7.out HVW7.out.1 HR.out.2.2.2.2.1).mono ?_
 rintro _ W8 ⟨rfl,hw,hb⟩
 rw [HR.out.2.2.2.2.2] at hw
 have HWW8:=ah hw
 have HVW8:=ah (show b<=W8.heap.size/\Below b w W8 from ⟨nT HVW7.out.1 hb.size,HVW7.out.2.trans hb⟩)
 clear hw hb
 go_wp2_with fail
 rw [rounds_succ]
 go_wp2_with fail
 refine (least_two HWW8.out HJ.out.1 HJ.out.2.1 HJ.out.2.2.1 HJ.out.2.2.2).mono ?_
 rintro _ W9 ⟨rfl,hb⟩
 have HWW9:=ah (HWW8.out.next hb)
 have HVW9:=ah (show b<=W9.heap.size/\Below b w W9 from ⟨nT HVW8.out.1 hb.size,HVW8.out.2.trans (hb.mono HVW8.out.1)⟩)
 clear hb
 go_wp2_with fail
 refine (row_swap (i:=0) (j:=0) HWW9.out HVW9.out.1 (.inl ⟨rfl,rfl⟩)).mono ?_
 rintro _ W10 ⟨rfl,hw,hb⟩
 rw [swap_self] at hw
 have HWW10:=ah hw
 have HVW10:=ah (show b<=W10.heap.size/\Below b w W10 from ⟨nT HVW9.out.1 hb.size,HVW9.out.2.trans hb⟩)
 clear hw hb
 go_wp2_with fail
 refine (column_swap01 HWW10.out HVW10.out.1).mono ?_
 rintro _ W11 ⟨rfl,hw,hb⟩
 rw [show (N2.flip.swap 0 1).flip=N3 from H3.out] at hw
 have HWW11:=ah hw
 have HVW11:=ah (show b<=W11.heap.size/\Below b w W11 from ⟨nT HVW10.out.1 hb.size,HVW10.out.2.trans hb⟩)
 clear hw hb
 go_wp2_with fail
 refine (clear_zero HWW11.out HVW11.out.1 HA.out.1.cl).mono ?_
 rintro _ W12 ⟨he,hw,hb⟩
 rw [decide_eq_true ⟨HA.out.1.z1,by rw [HA.out.1.eq];exact HA.out.1.z2⟩] at he
 subst he
 rw [HA.out.1.eq] at hw
 have HWW12:=ah hw
 have HVW12:=ah (show b<=W12.heap.size/\Below b w W12 from ⟨nT HVW11.out.1 hb.size,HVW11.out.2.trans hb⟩)
 clear hw hb
 go_wp2_with fail
 refine (stray_zero HWW12.out HA.out.1.tn HA.out.1.na HA.out.1.dv).mono ?_
 rintro _ W13 ⟨he,hb⟩
 rw [if_pos rfl,decide_eq_false (fun e=>e rfl)] at he
 subst he
 have HWW13:=ah (HWW12.out.next hb)
 have HVW13:=ah (show b<=W13.heap.size/\Below b w W13 from ⟨nT HVW12.out.1 hb.size,HVW12.out.2.trans (hb.mono HVW12.out.1)⟩)
 clear hb
 obtain ⟨t13,hx13,hg13,gr13,cr13,ga13,ca13,gc13,cc13,⟨xa13,xn13,xc13⟩,y13,z13,⟨ua13,un13,uc13⟩,hT13⟩:=HWW13.out
 have k0:=hx13.cell (i:=0) rfl
 have k1:=hT13.hd.cell (i:=0) rfl
 have k3:=hT13.rw.cell (i:=0) rfl
 have k5:W13.cell? ⟨ga13,0,none⟩=some (.slice xa13 xn13 xc13):=hT13.r0.cell rfl
 have hln:(N4).a.length=xn13:=hT13.ea.len
 have hl0:0 < xn13:=by rw [<- hln];exact List.length_pos_iff.2 HA.out.2.1.ne
 have h16:xn13<=16:=by rw [<- hln];exact HA.out.2.1.t.2.1
 obtain ⟨ad13,s13,A13,m13,l13,s'13,A'13,m'13,l'13,q13,rfl,hbk,j0,j1,j2,j3,hq,hqx⟩:=op_at hT13.ea (show xn13-1 < xn13 by omega)
 obtain rfl:q13=lead (N4).a:=by unfold lead;rw [hln];exact (Pq.co_get hqx.out).symm
 have HQ13:=ah hq
 have HL13:=ah (show Qs 1 (lead (N4).a) from HA.out.2.1.t.qs _ (gM hqx.out))
 obtain ⟨jj,hjj⟩:∃ j,j=xn13-1:=⟨_,rfl⟩
 have hwr:IntKind.i64.wrap ((xn13:Int)-1)=(jj:Int):=by rw [IntWalk.i64_in _ (by omega)];omega
 have hr0:(0:Int)<=(jj:Int):=by omega
 have hr1:(jj:Int) < (xn13:Int):=by omega
 rw [<- hjj] at j0 j1 j2 j3
 clear hx13 hT13 hg13 hln hl0 h16 hq hqx hjj hbk
 go_wp2_with fail
 refine (qinvq_any (N:=1) HQ13.out.num.rd HQ13.out.den.rd ⟨by rw [HQ13.out.num.len];exact HL13.out.1,by rw [HQ13.out.den.len];exact HL13.out.2⟩ (by decide) (by decide) HA.out.2.1.nz).mono ?_
 rintro _ W14 ⟨s5,A5,n5,l5,s6,A6,n6,l6,y5,rfl,ho5,hy5,hb⟩
 obtain rfl:=hy5.out
 have HWW14:=ah (HWW13.out.next hb)
 have HVW14:=ah (show b<=W14.heap.size/\Below b w W14 from ⟨nT HVW13.out.1 hb.size,HVW13.out.2.trans (hb.mono HVW13.out.1)⟩)
 clear hb hy5 k0 k1 k3 k5 j0 j1 j2 j3 hwr hr0 hr1
 obtain ⟨W15,HBW15⟩:∃ W,W=W14.alloc (.cells #[.bool s5,.slice A5 n5 l5,.bool s6,.slice A6 n6 l6] 47):=⟨_,rfl⟩
 have hb:Below W14.heap.size W14 W15:=by rw [HBW15];exact bA
 have HOW15:=ah (ho5.next hb)
 have HWW15:=ah (HWW14.out.next hb)
 have HVW15:=ah (show b<=W15.heap.size/\Below b w W15 from ⟨nT HVW14.out.1 hb.size,HVW14.out.2.trans (hb.mono HVW14.out.1)⟩)
 clear hb
 have HBW15:=ah HBW15
 clear ho5
 go_wp2_with fail
 rw [<- HBW15.out]
 clear HBW15
 clear HBW15
 refine (row_scale (i:=0) HWW15.out HVW15.out.1 HOW15.out ⟨HA.out.1.tn,HA.out.2.1.iq⟩ (.inl rfl)).mono ?_
 rintro _ W16 ⟨rfl,hw,hb⟩
 rw [HA.out.2.2.1] at hw
 have HWW16:=ah hw
 have HVW16:=ah (show b<=W16.heap.size/\Below b w W16 from ⟨nT HVW15.out.1 hb.size,HVW15.out.2.trans hb⟩)
 clear hw hb
 go_wp2_with fail
 rw [rounds_succ]
 go_wp2_with fail
 refine (least_three HWW16.out ⟨List.length_pos_iff.2 HA.out.2.2.2.2.1.ne,HA.out.2.2.2.2.1.t.2.1⟩).mono ?_
 rintro _ W17 ⟨rfl,hb⟩
 have HWW17:=ah (HWW16.out.next hb)
 have HVW17:=ah (show b<=W17.heap.size/\Below b w W17 from ⟨nT HVW16.out.1 hb.size,HVW16.out.2.trans (hb.mono HVW16.out.1)⟩)
 clear hb
 go_wp2_with fail
 refine (row_swap (i:=1) (j:=1) HWW17.out HVW17.out.1 (.inr ⟨rfl,rfl⟩)).mono ?_
 rintro _ W18 ⟨rfl,hw,hb⟩
 rw [swap_self] at hw
 have HWW18:=ah hw
 have HVW18:=ah (show b<=W18.heap.size/\Below b w W18 from ⟨nT HVW17.out.1 hb.size,HVW17.out.2.trans hb⟩)
 clear hw hb
 go_wp2_with fail
 refine (column_swap (i:=1) (j:=1) HWW18.out HVW18.out.1 (.inr ⟨rfl,rfl⟩)).mono ?_
 rintro _ W19 ⟨rfl,hw,hb⟩
 rw [show ((K).flip.swap 1 1).flip=K by rw [swap_self];rfl] at hw
 have HWW19:=ah hw
 have HVW19:=ah (show b<=W19.heap.size/\Below b w W19 from ⟨nT HVW18.out.1 hb.size,HVW18.out.2.trans hb⟩)
 clear hw hb
 go_wp2_with fail
 refine (clear_one HWW19.out).mono ?_
 rintro _ W20 ⟨rfl,hb⟩
 have HWW20:=ah (HWW19.out.next hb)
 have HVW20:=ah (show b<=W20.heap.size/\Below b w W20 from ⟨nT HVW19.out.1 hb.size,HVW19.out.2.trans (hb.mono HVW19.out.1)⟩)
 clear hb
 go_wp2_with fail
 refine (stray_one HWW20.out).mono ?_
 rintro _ W21 ⟨rfl,hb⟩
 have HWW21:=ah (HWW20.out.next hb)
 have HVW21:=ah (show b<=W21.heap.size/\Below b w W21 from ⟨nT HVW20.out.1 hb.size,HVW20.out.2.trans (hb.mono HVW20.out.1)⟩)
 clear hb
 obtain ⟨t21,hx21,hg21,gr21,cr21,ga21,ca21,gc21,cc21,⟨xa21,xn21,xc21⟩,y21,z21,⟨ua21,un21,uc21⟩,hT21⟩:=HWW21.out
 have k0:=hx21.cell (i:=0) rfl
 have k1:=hT21.hd.cell (i:=0) rfl
 have k3:=hT21.rw.cell (i:=1) rfl
 have k5:W21.cell? ⟨gc21,1,none⟩=some (.slice ua21 un21 uc21):=hT21.r1.cell rfl
 have hln:(K).d.length=un21:=hT21.ed.len
 have hl0:0 < un21:=by rw [<- hln];exact List.length_pos_iff.2 HA.out.2.2.2.2.1.ne
 have h16:un21<=16:=by rw [<- hln];exact HA.out.2.2.2.2.1.t.2.1
 obtain ⟨ad21,s21,A21,m21,l21,s'21,A'21,m'21,l'21,q21,rfl,hbk,j0,j1,j2,j3,hq,hqx⟩:=op_at hT21.ed (show un21-1 < un21 by omega)
 obtain rfl:q21=lead (K).d:=by unfold lead;rw [hln];exact (Pq.co_get hqx.out).symm
 have HQ21:=ah hq
 have HL21:=ah (show Qs 1 (lead (K).d) from HA.out.2.2.2.2.1.t.qs _ (gM hqx.out))
 obtain ⟨jj,hjj⟩:∃ j,j=un21-1:=⟨_,rfl⟩
 have hwr:IntKind.i64.wrap ((un21:Int)-1)=(jj:Int):=by rw [IntWalk.i64_in _ (by omega)];omega
 have hr0:(0:Int)<=(jj:Int):=by omega
 have hr1:(jj:Int) < (un21:Int):=by omega
 rw [<- hjj] at j0 j1 j2 j3
 clear hx21 hT21 hg21 hln hl0 h16 hq hqx hjj hbk
 go_wp2_with fail
 refine (qinvq_any (N:=1) HQ21.out.num.rd HQ21.out.den.rd ⟨by rw [HQ21.out.num.len];exact HL21.out.1,by rw [HQ21.out.den.len];exact HL21.out.2⟩ (by decide) (by decide) HA.out.2.2.2.2.1.nz).mono ?_
 rintro _ W22 ⟨s5,A5,n5,l5,s6,A6,n6,l6,y5,rfl,ho5,hy5,hb⟩
 obtain rfl:=hy5.out
 have HWW22:=ah (HWW21.out.next hb)
 have HVW22:=ah (show b<=W22.heap.size/\Below b w W22 from ⟨nT HVW21.out.1 hb.size,HVW21.out.2.trans (hb.mono HVW21.out.1)⟩)
 clear hb hy5 k0 k1 k3 k5 j0 j1 j2 j3 hwr hr0 hr1
 obtain ⟨W23,HBW23⟩:∃ W,W=W22.alloc (.cells #[.bool s5,.slice A5 n5 l5,.bool s6,.slice A6 n6 l6] 47):=⟨_,rfl⟩
 have hb:Below W22.heap.size W22 W23:=by rw [HBW23];exact bA
 have HOW23:=ah (ho5.next hb)
 have HWW23:=ah (HWW22.out.next hb)
 have HVW23:=ah (show b<=W23.heap.size/\Below b w W23 from ⟨nT HVW22.out.1 hb.size,HVW22.out.2.trans (hb.mono HVW22.out.1)⟩)
 clear hb
 have HBW23:=ah HBW23
 clear ho5
 go_wp2_with fail
 rw [<- HBW23.out]
 clear HBW23
 clear HBW23
 refine (row_scale (i:=1) HWW23.out HVW23.out.1 HOW23.out ⟨HA.out.2.2.2.1,HA.out.2.2.2.2.1.iq⟩ (.inr rfl)).mono ?_
 rintro _ W24 ⟨rfl,hw,hb⟩
 rw [HA.out.2.2.2.2.2] at hw
 have HWW24:=ah hw
 have HVW24:=ah (show b<=W24.heap.size/\Below b w W24 from ⟨nT HVW23.out.1 hb.size,HVW23.out.2.trans hb⟩)
 clear hw hb
 go_wp2_with fail
 rw [rounds_succ]
 go_wp2_with fail
 refine (least_none HWW24.out).mono ?_
 rintro _ Wz ⟨rfl,hb⟩
 have HWWz:=ah (HWW24.out.next hb)
 have HVWz:=ah (show b<=Wz.heap.size/\Below b w Wz from ⟨nT HVW24.out.1 hb.size,HVW24.out.2.trans (hb.mono HVW24.out.1)⟩)
 clear hb
 go_wp2
 try rw [Exit.noGoto_ret]
 go_ret
 exact ⟨rfl,HWWz.out,HVWz.out.2⟩
theorem isD_of {a b Q R:List Rat}(h1:Pq.nrm Q=Q)(h2:Pq.nrm R=R)(h3:R.length < b.length)(h4:∀ i,i < a.length+Q.length+b.length+R.length->Pq.co a i=Pq.cv (Pq.co Q) (Pq.co b) i+Pq.co R i):Pq.IsD a b Q R:=by
 refine ⟨by rw [<- h1];exact Pq.nz_nrm _,by rw [<- h2];exact Pq.nz_nrm _,h3,fun i=>?_⟩
 rcases Nat.lt_or_ge i (a.length+Q.length+b.length+R.length) with h | h
 ·exact h4 i h
 ·rw [Pq.co_ge (by omega),Pq.cv_up (Pq.up_co Q) (Pq.up_co b) i (by omega),Pq.co_ge (by omega),Rat.add_zero]
theorem ldOK_of {L:List Rat}(h1:Tiny L)(h2:L ≠ [])(h3:((lead L)⁻¹).num.natAbs < 4294967296/\((lead L)⁻¹).den < 4294967296):LdOK L:=⟨h1,h2,Zz.zl_small h3.1,Zz.zl_small (by simpa using h3.2)⟩
theorem addOK1 {M:M2}{f:List Rat}(h1:M.tiny)(h2:Tiny f)(h3:Tiny (pmul f M.a))(h4:Tiny (pmul f M.b)):M.addOK 1 f:=⟨h1,h2,fun h=>absurd h (by decide),fun _=>⟨h3,h4⟩⟩
theorem addOK0 {M:M2}{f:List Rat}(h1:M.tiny)(h2:Tiny f)(h3:Tiny (pmul f M.c))(h4:Tiny (pmul f M.d)):M.addOK 0 f:=⟨h1,h2,fun _=>⟨h3,h4⟩,fun h=>absurd h (by decide)⟩
abbrev xA:M2:=⟨[-2,1],[],[],[-2,1]⟩
abbrev xB:M2:=⟨[-2,1],[],[],[-3,1]⟩
abbrev xB1:M2:=⟨[-2,1],[-3,1],[],[-3,1]⟩
abbrev xB2:M2:=⟨[-2,1],[-1],[],[-3,1]⟩
abbrev xB3:M2:=⟨[-1],[-2,1],[-3,1],[]⟩
abbrev xB4:M2:=⟨[-1],[],[],[6,-5,1]⟩
abbrev xE:M2:=⟨[1],[],[],[6,-5,1]⟩
theorem clA:ClOK xA [] [] [] []:=⟨by decide +kernel,by decide +kernel,isD_of (by decide +kernel) (by decide +kernel) (by decide +kernel) (by decide +kernel),by decide +kernel,addOK1 (by decide +kernel) (by decide +kernel) (by decide +kernel) (by decide +kernel),by decide +kernel,by decide +kernel,isD_of (by decide +kernel) (by decide +kernel) (by decide +kernel) (by decide +kernel),by decide +kernel,addOK1 (by decide +kernel) (by decide +kernel) (by decide +kernel) (by decide +kernel)⟩
theorem rdA:RdOK xA xA [] [] [] [] [1] []:=⟨clA,by decide +kernel,by decide +kernel,by decide +kernel,by decide +kernel,by decide +kernel,isD_of (by decide +kernel) (by decide +kernel) (by decide +kernel) (by decide +kernel)⟩
theorem ldA:LdOK [-2,1]:=ldOK_of (by decide +kernel) (by decide +kernel) (by decide +kernel)
theorem clB0:ClOK xB [] [] [] []:=⟨by decide +kernel,by decide +kernel,isD_of (by decide +kernel) (by decide +kernel) (by decide +kernel) (by decide +kernel),by decide +kernel,addOK1 (by decide +kernel) (by decide +kernel) (by decide +kernel) (by decide +kernel),by decide +kernel,by decide +kernel,isD_of (by decide +kernel) (by decide +kernel) (by decide +kernel) (by decide +kernel),by decide +kernel,addOK1 (by decide +kernel) (by decide +kernel) (by decide +kernel) (by decide +kernel)⟩
theorem rdB0:RdOK xB xB [] [] [] [] [1] [-1]:=⟨clB0,by decide +kernel,by decide +kernel,by decide +kernel,by decide +kernel,by decide +kernel,isD_of (by decide +kernel) (by decide +kernel) (by decide +kernel) (by decide +kernel)⟩
theorem clB1:ClOK xB1 [] [] [1] [-1]:=⟨by decide +kernel,by decide +kernel,isD_of (by decide +kernel) (by decide +kernel) (by decide +kernel) (by decide +kernel),by decide +kernel,addOK1 (by decide +kernel) (by decide +kernel) (by decide +kernel) (by decide +kernel),by decide +kernel,by decide +kernel,isD_of (by decide +kernel) (by decide +kernel) (by decide +kernel) (by decide +kernel),by decide +kernel,addOK1 (by decide +kernel) (by decide +kernel) (by decide +kernel) (by decide +kernel)⟩
theorem clB3:ClOK xB3 [3,-1] [] [2,-1] []:=⟨by decide +kernel,by decide +kernel,isD_of (by decide +kernel) (by decide +kernel) (by decide +kernel) (by decide +kernel),by decide +kernel,addOK1 (by decide +kernel) (by decide +kernel) (by decide +kernel) (by decide +kernel),by decide +kernel,by decide +kernel,isD_of (by decide +kernel) (by decide +kernel) (by decide +kernel) (by decide +kernel),by decide +kernel,addOK1 (by decide +kernel) (by decide +kernel) (by decide +kernel) (by decide +kernel)⟩
theorem rdB3:RdOK xB3 xB4 [3,-1] [] [2,-1] [] [-6,5,-1] []:=⟨clB3,by decide +kernel,by decide +kernel,by decide +kernel,by decide +kernel,by decide +kernel,isD_of (by decide +kernel) (by decide +kernel) (by decide +kernel) (by decide +kernel)⟩
theorem ldB4:LdOK [-1]:=ldOK_of (by decide +kernel) (by decide +kernel) (by decide +kernel)
theorem ldE:LdOK [6,-5,1]:=ldOK_of (by decide +kernel) (by decide +kernel) (by decide +kernel)
theorem run_A (b gw:Nat)(w:World)(h:Wk w b gw xA)(hb:b<=w.heap.size):Calls Tryz.prog 163 #[.pointer (some ⟨gw,0,none⟩)] w (RetRn b gw xA w) :=
 run_one h hb rfl rfl rfl rfl rdA ldA (K:=xA) (by decide +kernel) (by decide +kernel) ldA (by decide +kernel)
theorem run_B (b gw:Nat)(w:World)(h:Wk w b gw xB)(hb:b<=w.heap.size):Calls Tryz.prog 163 #[.pointer (some ⟨gw,0,none⟩)] w (RetRn b gw xE w) :=
 run_two (N1:=xB1) (N2:=xB2) (N3:=xB3) h hb rfl rfl rfl rfl rdB0 (by decide +kernel) (addOK0 (by decide +kernel) (by decide +kernel) (by decide +kernel) (by decide +kernel)) (by decide +kernel) clB1 (by decide +kernel) rfl rfl rfl rfl (by decide +kernel) rdB3 ldB4 (K:=xE) (by decide +kernel) (by decide +kernel) ldE (by decide +kernel)
def RetC2 (x y:Pe)(w:World)(e:Ending)(w':World):Prop:=∃ g c,e=.returned (.slice (some ⟨g,0,none⟩) 2 c)/\w.heap.size<=g/\PX w' g 73 [psl x,psl y]/\2<=c/\c<=maxLen/\Below w.heap.size w w'
theorem pclone_any {g0 c:Nat}{x y:Pe}{w:World}(h:PX w g0 73 [psl x,psl y]) :
  Calls Tryz.prog 201 #[.slice (some ⟨g0,0,none⟩) 2 c] w (RetC2 x y w):=by
 obtain ⟨i0,hi,hz0,hz1,hz2⟩:=info_parts infoPoly
 have heq:=fun (W:World)=>Lib.run_eql_slice_nil (P:=Tryz.prog) W 30 73 (some ⟨g0,0,none⟩) 2 c 0 0 Tryz.underlying30
 have hB0:Below w.heap.size w (w.alloc (.cells #[] 73)):=bA
 have HSRC:=ah (show ∀ (j:Nat) v,[psl x,psl y][j]?=some v->(w.alloc (.cells #[] 73)).cell? ((⟨g0,0,none⟩:Addr).add j)=some v from fun j v hv=>by
  rw [add_base]
  exact (h.next hB0).cell hv)
 have hown:(w.alloc (.cells #[] 73)).ownsRow w.heap.size 73 1 (.slice (some ⟨w.heap.size,0,none⟩) 0 0) 0 [] :=
  ⟨rfl,.inr ⟨w.heap.size,0,#[],rfl,nR,heap_alloc_new w _,nR,nZ,rfl,rfl⟩⟩
 have HB0:=ah hB0
 clear h hB0
 go_enter Tryz.func201,Tryz.ntmps201
 go_wp2_with (at_builtin;refine wpList_append_own _ rfl _ _ 30 rfl w.heap.size 73 i0 (.slice none 0 0) 1 24 Tryz.underlying30 hi hz0 hz1 hz2 rfl (by decide) _ _ _ rfl hown ⟨g0,0,none⟩ 2 c [psl x,psl y] rfl rfl HSRC.out (by simp [psl,Value.oneCell']) (by decide) (by decide) (by simp) ?_;intro v' w1 hown' hgrow _)
 have hB1:=HB0.out.grown hgrow (by simp) (fun k e=>by cases e;exact nR)
 rw [Nat.zero_add,List.nil_append] at hown'
 obtain ⟨A',c',rfl⟩:=row_sl hown'
 obtain ⟨g,rfl,h1,h2,h3,h4⟩:=own_px hown' (by decide)
 go_ret
 exact ⟨g,c',rfl,h1,h2,h3,h4,hB1⟩
theorem copied_any {b t:Nat}{M:M2}{w:World}(h:Tb w b t M)(hb:b<=w.heap.size):Calls Tryz.prog 162 #[.pointer (some ⟨t,0,none⟩)] w (RetTb b M w):=by
 obtain ⟨gr,cr,g0,c0,g1,c1,⟨xa,xn,xc⟩,⟨ya,yn,yc⟩,⟨za,zn,zc⟩,⟨ua,un,uc⟩,h⟩:=h
 obtain ⟨i1,hjf,hy0,hy1,hy2⟩:=info_parts infoRow
 have HBB:=ah hb
 have HT:=ah (show ∀ V,Below w.heap.size w V->T2 V b t gr cr g0 c0 g1 c1 (xa,xn,xc) (ya,yn,yc) (za,zn,zc) (ua,un,uc) M from fun V hb=>h.next hb)
 have k1:=h.hd.cell (i:=1) rfl
 obtain ⟨W1,HW1⟩:∃ W,W=w.alloc (.cells #[.slice none 0 0,.int .i64 2] 102):=⟨_,rfl⟩
 have hb1:Below w.heap.size w W1:=by rw [HW1];exact bA
 have k0':(w.alloc (.cells #[.slice none 0 0,.int .i64 2] 102)).cell? ⟨t,0,none⟩=some (.slice (some ⟨gr,0,none⟩) 2 cr):=by rw [<- HW1];exact (HT.out _ hb1).hd.cell rfl
 obtain ⟨go,hgo⟩:∃ g,g=w.heap.size:=⟨_,rfl⟩
 have HN0:=ah (show PX W1 go 102 [.slice none 0 0,.int .i64 2] by rw [HW1,hgo];exact PX.new w _ [.slice none 0 0,.int .i64 2])
 have HGW:=ah (show w.heap.size<=go by rw [hgo];exact nR)
 have HB0:=ah hb1
 have HW1:=ah HW1
 clear h hb hb1
 go_enter Tryz.func162,Tryz.ntmps162
 go_wp2_with fail
 rw [<- HW1.out,<- hgo]
 clear HW1 hgo
 clear HW1 k1 k0'
 refine wp_loop_rounds 3 ?_
 rw [rounds_succ]
 have k3:=(HT.out _ HB0.out).rw.cell (i:=0) rfl
 go_upto_region 5 with fail
 have HS0:=ah (show ∀ W,Below W1.heap.size W1 W->W.cell? ⟨go,0,none⟩=some (.slice none 0 0) from fun W hb=>(HN0.out.next hb).cell rfl)
 have HCD:=ah (Below.refl W1.heap.size W1).drew
 clear k3
 refine WA.begin [11] (S:=fun W=>W.cell? ⟨go,0,none⟩=some (.slice none 0 0)) (by kernel_rfl) (HS0.out _ HCD.out) (fun hHeld=>?_)
 refine wtk 0 ?_
 refine wtk 1 ?_
 refine wtk 2 ?_
 refine wtk 3 ?_
 refine wtk 4 ?_
 refine wtk 5 ?_
 refine WA.one (i:=6) (by kernel_rfl) rfl (fun K hK=>?_)
 rw [if_pos (by kernel_rfl)]
 go_simp
 refine (pclone_any (x:=(xa,xn,xc)) (y:=(ya,yn,yc)) (HT.out _ (HB0.out.trans (HCD.out.mono HB0.out.size))).r0).mono ?_
 rintro _ P0 ⟨n0,m0,rfl,hg0,hp0,hm0,hx0,hb0⟩
 have HE0:Hid (Below W1.heap.size W1 P0):=tM HCD hb0
 have HP0:=ah hp0
 have HG0:=ah (show w.heap.size<=n0/\2<=m0/\m0<=maxLen from ⟨by have h1:=HB0.out.size;have h2:=HCD.out.size;omega,hm0,hx0⟩)
 skip
 clear hg0 hp0 hm0 hx0 hb0
 go_wp2_with fail
 refine hK.out _ _ (fun _=>(HS0.out _ HE0.out)) ?_
 have hHeld:=(HS0.out _ HE0.out)
 clear hK K
 (try simp only [Act.put,List.setIfInBounds_toArray,List.set_cons_zero,List.set_cons_succ])
 have HA0:=ah (show Below W1.heap.size W1 (P0.alloc (.cells #[.slice (some ⟨n0,0,none⟩) 2 m0] 30)) from HE0.out.alloc HE0.out.size _)
 refine WA.one (i:=7) (by kernel_rfl) rfl (fun K hK=>?_)
 rw [if_pos (by kernel_rfl)]
 go_simp
 refine hK.out _ _ (fun _=>(HS0.out _ HA0.out)) ?_
 have hHeld:=(HS0.out _ HA0.out)
 clear hK K
 (try simp only [Act.put,List.setIfInBounds_toArray,List.set_cons_zero,List.set_cons_succ])
 refine WA.one (i:=8) (by kernel_rfl) rfl (fun K hK=>?_)
 rw [if_pos (by kernel_rfl)]
 refine wp_append_lies _ _ _ _ (by rfl) w.heap.size 30 i1 (.slice none 0 0) 1 24 Tryz.underlying45 hjf hy0 hy1 hy2 rfl (by decide) (.slice none 0 0) 0 _ (by rfl) (World.ownsRow_nil _ _ _ _) ⟨P0.heap.size,0,none⟩ 1 1 [.slice (some ⟨n0,0,none⟩) 2 m0] (by rfl) rfl (tcell_new P0 (.slice (some ⟨n0,0,none⟩) 2 m0) 30) (by simp [Value.oneCell']) (by decide) (by decide) (by decide) (by have h1:=HB0.out.size;have h2:=HA0.out.size;omega) _ rfl ?_
 intro gA cA V0 hown' hgrow _ _
 obtain ⟨A0,q0,ev,e1,e2,hU⟩:=U1.first (x:=(xa,xn,xc)) (y:=(ya,yn,yc)) (HN0.out.next HE0.out) HGW.out HP0.out HG0.out.1 HG0.out.2 ((HT.out _ (HB0.out.trans (HE0.out.mono HB0.out.size))).ea) ((HT.out _ (HB0.out.trans (HE0.out.mono HB0.out.size))).eb) hown' hgrow
 have HV0:=ah (show Below w.heap.size w V0 from (HB0.out.trans (HA0.out.mono HB0.out.size)).grown hgrow (by have h1:=HB0.out.size;have h2:=HA0.out.size;omega) (own_block (World.ownsRow_nil w w.heap.size 30 1)))
 rw [ev] at hU
 have HU:=ah hU
 rw [ev]
 clear hU hown' hgrow ev
 refine hK.out _ _ (fun _=>e1) ?_
 have hHeld:=e1
 clear hK K
 (try simp only [Act.put,List.setIfInBounds_toArray])
 refine wtk 9 ?_
 refine wtk 10 ?_
 refine WA.one (i:=11) (by kernel_rfl) rfl (fun K hK=>?_)
 rw [if_pos (by kernel_rfl)]
 go_simp
 refine hK.out _ _ (fun h=>Bool.noConfusion ((show _=true by kernel_rfl).symm.trans (h 11 (List.mem_singleton.2 rfl)))) ?_
 clear hK K
 (try simp only [Act.put,List.setIfInBounds_toArray,List.set_cons_zero,List.set_cons_succ])
 refine WA.done (by kernel_rfl) ?_ _
 obtain ⟨X0,HX0⟩:∃ W,W=V0.setCell ⟨go,0,none⟩ (.slice A0 1 q0):=⟨_,rfl⟩
 have hU:=HU.out
 rw [<- HX0] at hU
 have HU0:=ah hU
 have HB1:=ah (show Below w.heap.size w X0 by rw [HX0];exact HV0.out.setCell (p:=⟨go,0,none⟩) HGW.out _)
 rw [<- HX0]
 clear hU HX0 hHeld e1 e2
 clear HU
 have HN1:=ah HU0.out.hd
 go_wp2_with fail
 rw [rounds_succ]
 have k3:=(HT.out _ HB1.out).rw.cell (i:=1) rfl
 go_upto_region 5 with fail
 have HS1:=ah (show ∀ W,Below X0.heap.size X0 W->W.cell? ⟨go,0,none⟩=some (.slice A0 1 q0) from fun W hb=>(HN1.out.next hb).cell rfl)
 have HCD:=ah (Below.refl X0.heap.size X0).drew
 clear k3
 refine WA.begin [11] (S:=fun W=>W.cell? ⟨go,0,none⟩=some (.slice A0 1 q0)) (by kernel_rfl) (HS1.out _ HCD.out) (fun hHeld=>?_)
 refine wtk 0 ?_
 refine wtk 1 ?_
 refine wtk 2 ?_
 refine wtk 3 ?_
 refine wtk 4 ?_
 refine wtk 5 ?_
 refine WA.one (i:=6) (by kernel_rfl) rfl (fun K hK=>?_)
 rw [if_pos (by kernel_rfl)]
 go_simp
 refine (pclone_any (x:=(za,zn,zc)) (y:=(ua,un,uc)) (HT.out _ (HB1.out.trans (HCD.out.mono HB1.out.size))).r1).mono ?_
 rintro _ P1 ⟨n1,m1,rfl,hg1,hp1,hm1,hx1,hb1⟩
 have HE1:Hid (Below X0.heap.size X0 P1):=tM HCD hb1
 have HP1:=ah hp1
 have HG1:=ah (show w.heap.size<=n1/\2<=m1/\m1<=maxLen from ⟨by have h1:=HB1.out.size;have h2:=HCD.out.size;omega,hm1,hx1⟩)
 have HNE:=ah (show n0 ≠ n1 by have h1:=HU0.out.r0.lt;have h2:=HCD.out.size;omega)
 clear hg1 hp1 hm1 hx1 hb1
 go_wp2_with fail
 refine hK.out _ _ (fun _=>(HS1.out _ HE1.out)) ?_
 have hHeld:=(HS1.out _ HE1.out)
 clear hK K
 (try simp only [Act.put,List.setIfInBounds_toArray,List.set_cons_zero,List.set_cons_succ])
 have HA1:=ah (show Below X0.heap.size X0 (P1.alloc (.cells #[.slice (some ⟨n1,0,none⟩) 2 m1] 30)) from HE1.out.alloc HE1.out.size _)
 refine WA.one (i:=7) (by kernel_rfl) rfl (fun K hK=>?_)
 rw [if_pos (by kernel_rfl)]
 go_simp
 refine hK.out _ _ (fun _=>(HS1.out _ HA1.out)) ?_
 have hHeld:=(HS1.out _ HA1.out)
 clear hK K
 (try simp only [Act.put,List.setIfInBounds_toArray,List.set_cons_zero,List.set_cons_succ])
 refine WA.one (i:=8) (by kernel_rfl) rfl (fun K hK=>?_)
 rw [if_pos (by kernel_rfl)]
 refine wp_append_lies _ _ _ _ (by rfl) w.heap.size 30 i1 (.slice none 0 0) 1 24 Tryz.underlying45 hjf hy0 hy1 hy2 rfl (by decide) (.slice A0 1 q0) 1 _ (by rfl) (row_next (HU0.out.next HE1.out).own (bA)) ⟨P1.heap.size,0,none⟩ 1 1 [.slice (some ⟨n1,0,none⟩) 2 m1] (by rfl) rfl (tcell_new P1 (.slice (some ⟨n1,0,none⟩) 2 m1) 30) (by simp [Value.oneCell']) (by decide) (by decide) (by decide) (by have h1:=HB1.out.size;have h2:=HA1.out.size;omega) _ rfl ?_
 intro gA cA V1 hown' hgrow _ _
 obtain ⟨A1,q1,ev,e1,e2,hU⟩:=(HU0.out.next HE1.out).second (z:=(za,zn,zc)) (u:=(ua,un,uc)) HP1.out HNE.out HG1.out.1 HBB.out HG1.out.2 ((HT.out _ (HB1.out.trans (HE1.out.mono HB1.out.size))).ec) ((HT.out _ (HB1.out.trans (HE1.out.mono HB1.out.size))).ed) hown' hgrow
 have HV1:=ah (show Below w.heap.size w V1 from (HB1.out.trans (HA1.out.mono HB1.out.size)).grown hgrow (by have h1:=HB1.out.size;have h2:=HA1.out.size;omega) (own_block (HU0.out.next HE1.out).own))
 rw [ev] at hU
 have HU:=ah hU
 rw [ev]
 clear hU hown' hgrow ev
 refine hK.out _ _ (fun _=>e1) ?_
 have hHeld:=e1
 clear hK K
 (try simp only [Act.put,List.setIfInBounds_toArray])
 refine wtk 9 ?_
 refine wtk 10 ?_
 refine WA.one (i:=11) (by kernel_rfl) rfl (fun K hK=>?_)
 rw [if_pos (by kernel_rfl)]
 go_simp
 refine hK.out _ _ (fun h=>Bool.noConfusion ((show _=true by kernel_rfl).symm.trans (h 11 (List.mem_singleton.2 rfl)))) ?_
 clear hK K
 (try simp only [Act.put,List.setIfInBounds_toArray,List.set_cons_zero,List.set_cons_succ])
 refine WA.done (by kernel_rfl) ?_ _
 obtain ⟨X1,HX1⟩:∃ W,W=V1.setCell ⟨go,0,none⟩ (.slice A1 2 q1):=⟨_,rfl⟩
 have hU:=HU.out
 rw [<- HX1] at hU
 have HU1:=ah hU
 have HB2:=ah (show Below w.heap.size w X1 by rw [HX1];exact HV1.out.setCell (p:=⟨go,0,none⟩) HGW.out _)
 rw [<- HX1]
 clear hU HX1 hHeld e1 e2
 clear HU
 go_wp2_with fail
 rw [rounds_succ]
 go_wp2
 go_ret
 exact ⟨_,rfl,HU1.out,HB2.out⟩
theorem pnorm_any {b n c:Nat}{A:Option Addr}{P:List Rat}{w:World}(h:OwQp w b A n c P)(hP:Tiny P):Calls Tryz.prog 110 #[.slice A n c] w (RetPe P w):=by
 refine (qpnorm_any (h.rd hP.qs) (h.small hP) (by decide) (by decide)).mono ?_
 rintro e w' (⟨_,A',n',c',M,rfl,ho,hM,hb⟩ | ⟨⟨p,hp,hp0⟩,_⟩)
 ·have e0:=hM.out
  rw [pr_map,hP.1] at e0
  subst e0
  exact ⟨A',n',c',rfl,ho,hb⟩
 ·exact absurd hp0 (pr_okD _ p hp)
def RetPl2 (b:Nat)(LL:List (List Rat))(w:World)(e:Ending)(w':World):Prop:=∃ (A:Option Addr) (n c:Nat),e=.returned (.slice A n c)/\OwPs w' b A n c LL/\Below b w w'
theorem diagonal_any {b t:Nat}{M E:M2}{w:World}(h:Tb w b t M)(hb:b<=w.heap.size)(ta:Tiny E.a)(td:Tiny E.d)
  (hrun:∀ (b gw:Nat) (W:World),Wk W b gw M->b<=W.heap.size->Calls Tryz.prog 163 #[.pointer (some ⟨gw,0,none⟩)] W (RetRn b gw E W)) :
  Calls Tryz.prog 108 #[.pointer (some ⟨t,0,none⟩)] w (RetPl2 b [E.a,E.d] w):=by
 obtain ⟨i1,hjf,hy0,hy1,hy2⟩:=info_parts infoPoly
 have HT:=ah h
 have HBB:=ah hb
 have HE:=ah (cJ ta td)
 have HRUN:=ah hrun
 clear h hb ta td hrun
 go_enter Tryz.func108,Tryz.ntmps108
 go_wp2_with fail
 refine (copied_any HT.out HBB.out).mono ?_
 rintro _ W1 ⟨t1,rfl,ht1,hb1⟩
 obtain ⟨W2,HW2⟩:∃ W,W=W1.alloc (.cells #[.pointer (some ⟨t1,0,none⟩),.pointer none,.pointer none] 191):=⟨_,rfl⟩
 have hb2:Below W1.heap.size W1 W2:=by rw [HW2];exact bA
 obtain ⟨gw,hgw⟩:∃ g,g=W1.heap.size:=⟨_,rfl⟩
 have HK:=ah (show Wk W2 b gw M from ⟨t1,by rw [HW2,hgw];exact PX.new W1 _ [.pointer (some ⟨t1,0,none⟩),.pointer none,.pointer none],by rw [hgw];exact nT HBB.out hb1.size,ht1.next hb2⟩)
 have HV2:=ah (show b<=W2.heap.size/\Below b w W2 from ⟨nT (nT HBB.out hb1.size) hb2.size,(hb1.mono HBB.out).trans (hb2.mono (nT HBB.out hb1.size))⟩)
 have HW2:=ah HW2
 clear ht1 hb1 hb2
 go_wp2_with fail
 rw [<- HW2.out,<- hgw]
 clear HW2 hgw
 clear HW2
 refine (HRUN.out b gw W2 HK.out HV2.out.1).mono ?_
 rintro _ W3 ⟨rfl,hw3,hb3⟩
 have HK3:=ah hw3
 have HV3:=ah (show b<=W3.heap.size/\Below b w W3 from ⟨nT HV2.out.1 hb3.size,HV2.out.2.trans hb3⟩)
 clear hw3 hb3
 go_wp2_with fail
 refine wp_loop_rounds 3 ?_
 rw [rounds_succ]
 obtain ⟨t0,h1,_,gr0,cr0,ga0,ca0,gc0,cc0,⟨xa0,xn0,xc0⟩,y0,z0,⟨ua0,un0,uc0⟩,h⟩:=HK3.out
 have k0:=h1.cell (i:=0) rfl
 have k1:=h.hd.cell (i:=0) rfl
 have k3:=h.rw.cell (i:=0) rfl
 have k5:W3.cell? ⟨ga0,0,none⟩=some (.slice xa0 xn0 xc0):=h.r0.cell rfl
 have HQ:=ah (show OwQp W3 b xa0 xn0 xc0 E.a from h.ea)
 clear h1 h
 go_wp2_with fail
 refine (pnorm_any HQ.out HE.out.1).mono ?_
 rintro _ P0 ⟨A,n,c,rfl,ho,hb0⟩
 have HO:=ah (ho.base (b':=b) HV3.out.1)
 have HK4:=ah (HK3.out.next hb0)
 have HX0:=ah (show b<=P0.heap.size/\Below b w P0 from ⟨nT HV3.out.1 hb0.size,HV3.out.2.trans (hb0.mono HV3.out.1)⟩)
 obtain ⟨EE,hE,hEl,hEn⟩:=(OwPs.nil P0 b)
 have HEE:=ah (cJ hE (cJ hEl hEn))
 clear HQ ho hE hEl hEn hb0 k0 k1 k3 k5
 go_wp2_with (at_builtin;refine wpList_append_own _ rfl _ _ 30 rfl b 73 i1 (.slice none 0 0) 1 24 Tryz.underlying30 hjf hy0 hy1 hy2 rfl (by decide) _ _ _ rfl (HEE.out.1.alloc _) ⟨P0.heap.size,0,none⟩ 1 1 [.slice A n c] rfl rfl (tcell_new P0 (.slice A n c) 73) (by simp [Value.oneCell']) (by decide) (by decide) (by have h1:=HX0.out.1;simp;omega) ?_;intro v' Z0 hown' hgrow _)
 have hba:Below P0.heap.size P0 (P0.alloc (.cells #[.slice A n c] 73)):=bA
 obtain ⟨A0,q0,rfl,ho0⟩:=ps_more (e:=(A,n,c)) HO.out rfl (HEE.out.1.alloc _) HEE.out.2.1 (HEE.out.2.2.next hba) hown' hgrow
 have HO0:=ah (show OwPs Z0 b A0 1 q0 [E.a] from ho0)
 have HV4:=ah (show b<=Z0.heap.size/\Below b w Z0 from by
  have h2:=(HX0.out.2.alloc HX0.out.1 (.cells #[.slice A n c] 73)).grown hgrow (by have h1:=HX0.out.1;simp;omega) (own_block HEE.out.1)
  exact ⟨nT HBB.out h2.size,h2⟩)
 have HK4':=ah (show Wk Z0 b gw E from (HK4.out.next hba).next (bR.grown hgrow nR (fun k hk=>by cases hk)))
 clear HK4
 have HK4:=HK4'
 clear hown' hgrow ho0 hba HK4' HEE HO
 go_wp2_with fail
 rw [rounds_succ]
 obtain ⟨t1,h1,_,gr1,cr1,ga1,ca1,gc1,cc1,⟨xa1,xn1,xc1⟩,y1,z1,⟨ua1,un1,uc1⟩,h⟩:=HK4.out
 have k0:=h1.cell (i:=0) rfl
 have k1:=h.hd.cell (i:=0) rfl
 have k3:=h.rw.cell (i:=1) rfl
 have k5:Z0.cell? ⟨gc1,1,none⟩=some (.slice ua1 un1 uc1):=h.r1.cell rfl
 have HQ:=ah (show OwQp Z0 b ua1 un1 uc1 E.d from h.ed)
 clear h1 h
 go_wp2_with fail
 refine (pnorm_any HQ.out HE.out.2).mono ?_
 rintro _ P1 ⟨A,n,c,rfl,ho,hb1⟩
 have HO:=ah (ho.base (b':=b) HV4.out.1)
 have HK5:=ah (HK4.out.next hb1)
 have HX1:=ah (show b<=P1.heap.size/\Below b w P1 from ⟨nT HV4.out.1 hb1.size,HV4.out.2.trans (hb1.mono HV4.out.1)⟩)
 obtain ⟨EE,hE,hEl,hEn⟩:=(HO0.out.next hb1)
 have HEE:=ah (cJ hE (cJ hEl hEn))
 clear HQ ho hE hEl hEn hb1 k0 k1 k3 k5
 go_wp2_with (at_builtin;refine wpList_append_own _ rfl _ _ 30 rfl b 73 i1 (.slice none 0 0) 1 24 Tryz.underlying30 hjf hy0 hy1 hy2 rfl (by decide) _ _ _ rfl (HEE.out.1.alloc _) ⟨P1.heap.size,0,none⟩ 1 1 [.slice A n c] rfl rfl (tcell_new P1 (.slice A n c) 73) (by simp [Value.oneCell']) (by decide) (by decide) (by have h1:=HX1.out.1;simp;omega) ?_;intro v' Z1 hown' hgrow _)
 have hba:Below P1.heap.size P1 (P1.alloc (.cells #[.slice A n c] 73)):=bA
 obtain ⟨A1,q1,rfl,ho1⟩:=ps_more (e:=(A,n,c)) HO.out rfl (HEE.out.1.alloc _) HEE.out.2.1 (HEE.out.2.2.next hba) hown' hgrow
 have HO1:=ah (show OwPs Z1 b A1 2 q1 [E.a,E.d] from ho1)
 have HV5:=ah (show b<=Z1.heap.size/\Below b w Z1 from by
  have h2:=(HX1.out.2.alloc HX1.out.1 (.cells #[.slice A n c] 73)).grown hgrow (by have h1:=HX1.out.1;simp;omega) (own_block HEE.out.1)
  exact ⟨nT HBB.out h2.size,h2⟩)
 clear hown' hgrow ho1 hba HEE HO HK5
 go_wp2_with fail
 rw [rounds_succ]
 go_wp2
 go_ret
 exact ⟨_,_,_,rfl,HO1.out,HV5.out.2⟩
def RetMe (d:Int)(LL:List (List Int))(w:World)(e:Ending)(w':World):Prop :=
 ∃ (s:Bool) (A:Option Addr) (n c:Nat) (G:Option Addr) (r k:Nat),e=.returned (.tuple #[.agg #[.bool s,.slice A n c,.slice G r k],.int .i64 0])/\OwZ w' w.heap.size s A n c d/\OwMs w' w.heap.size G r k LL/\Below w.heap.size w w'
theorem mNorm_any {N K:Nat}{s:Bool}{A G:Option Addr}{n c r k:Nat}{d:Int}{RR:List RawRow}{w:World}(h:RdZ w w.heap.size s A n c d)(h':RdRss w w.heap.size N K G r k RR)(hd:d ≠ 0)(hev:Evn RR)(hn:n<=400000000000)(hN:N<=400000000000)(hr:r<=1048576)(hK:K<=1048576)(hc:colsOf RR ≠ 0) :
  Calls Tryz.prog 160 #[.agg #[.bool s,.slice A n c,.slice G r k]] w (RetMe (d.tdiv (mG d (zss RR))) (mN d (zss RR)) w):=by
 obtain ⟨W1,HW1⟩:∃ W,W=w.alloc (.cells #[.bool s,.slice A n c,.slice G r k] 28):=⟨_,rfl⟩
 have hP:MC W1 w.heap.size s A n c G r k:=by rw [HW1];exact MC.new w s A n c G r k
 have hb1:Below w.heap.size w W1:=by rw [HW1];exact bA
 obtain ⟨W2,HW2⟩:∃ W,W=W1.alloc (.cells #[.bool false,.slice none 0 0,.slice none 0 0] 28):=⟨_,rfl⟩
 have hM:MC W2 W1.heap.size false none 0 0 none 0 0:=by rw [HW2];exact MC.new W1 false none 0 0 none 0 0
 have hb2:Below W1.heap.size W1 W2:=by rw [HW2];exact bA
 have hb02:=hb1.trans (hb2.mono hb1.size)
 have hs1:W1.heap.size=w.heap.size+1:=by rw [HW1];simp
 obtain ⟨gp,hgp⟩:∃ g,g=w.heap.size:=⟨_,rfl⟩
 obtain ⟨gr,hgr⟩:∃ g,g=w.heap.size+1:=⟨_,rfl⟩
 rw [hs1,<- hgr] at hM
 rw [<- hgp] at hP
 have HX:=ah (show ∀ W,Below W2.heap.size W2 W->MC W gp s A n c G r k/\MC W gr false none 0 0 none 0 0/\RdZ W W.heap.size s A n c d/\RdRss W W.heap.size N K G r k RR from fun W hb=>⟨(hP.next hb2).next hb,hM.next hb,(h.next hb02).next hb,(h'.next hb02).next hb⟩)
 have HB:=ah (cJ hb02 (show w.heap.size<=gr by omega))
 have HG:=ah (cJ hgp hgr)
 have HD:=ah hd
 have hch:chk d RR=0:=by unfold chk;rw [if_neg hd,if_pos hev]
 have HCH:=ah hch
 rw [HW1] at HW2
 have HW2:=ah HW2
 clear h h' hP hM hb1 hb2 hb02 hs1 hgp hgr hd hev hch HW1
 go_enter Tryz.func160,Tryz.ntmps160
 go_wp2_with fail
 rw [<- HW2.out,<- HG.out.2,<- HG.out.1]
 clear HW2
 clear HW2
 refine (mcheck_any (HX.out _ bR).2.2.1 (HX.out _ bR).2.2.2 (by omega) hr).mono ?_
 rintro _ W3 ⟨v,rfl,hv,hb3⟩
 obtain rfl:v=0:=hv.out.trans HCH.out
 have q0:=(HX.out _ hb3).1.c0
 have q1:=(HX.out _ hb3).1.c1
 have q2:=(HX.out _ hb3).1.c2
 have HB3:=ah hb3
 clear hv hb3
 go_wp2_with fail
 refine (mmade_any (HX.out _ HB3.out).2.2.1 (HX.out _ HB3.out).2.2.2 HD.out hn hN hr hK hc).mono ?_
 rintro _ W8 ⟨s8,A8,n8,c8,G8,r8,k8,y8,MM,rfl,ho8,hm8,hy8,hb8⟩
 obtain ⟨rfl,rfl⟩:=hy8.out
 have hMz:=(HX.out _ (HB3.out.trans (hb8.mono HB3.out.size))).2.1
 have r0:=hMz.c0
 have r1:=hMz.c1
 have r2:=hMz.c2
 have f0:=hMz.fz 0
 have f1:=hMz.fz 1
 have f2:=hMz.fz 2
 have hlt:gr < W3.heap.size:=(HX.out _ HB3.out).2.1.lt
 have hw3:w.heap.size<=W3.heap.size:=nT HB.out.1.size HB3.out.size
 have HSS:=ah (hMz.store s8 A8 n8 c8 G8 r8 k8)
 have HU:=ah ((ho8.base (b':=w.heap.size) hw3).keep (keepI_put hMz s8 A8 n8 c8 G8 r8 k8).1)
 have HQQ:=ah ((hm8.put hMz hlt s8 A8 n8 c8 G8 r8 k8).base (b':=w.heap.size) hw3)
 have HF:=ah (below_putM ((HB.out.1.trans (HB3.out.mono HB.out.1.size)).trans (hb8.mono hw3)) HB.out.2 s8 A8 n8 c8 G8 r8 k8)
 unfold putM at HSS HU HQQ HF
 clear hMz ho8 hm8 hb8 hy8 q0 q1 q2 hlt hw3
 go_wp2_with fail
 generalize ((W8.setCell ⟨gr,0,none⟩ (.bool s8)).setCell ⟨gr,1,none⟩ (.slice A8 n8 c8)).setCell ⟨gr,2,none⟩ (.slice G8 r8 k8)=W9 at *
 have z0:=HSS.out.c0
 have z1:=HSS.out.c1
 have z2:=HSS.out.c2
 go_wp2
 exact bodyPost_ret (by simp [results,Tryz.results160,go_sem,z0,z1,z2]) rfl ⟨_,_,_,_,_,_,_,rfl,HU.out,HQQ.out,HF.out⟩
theorem mAt_any {N K i j:Nat}{s:Bool}{A G:Option Addr}{n c r k:Nat}{d:Int}{RR:List RawRow}{R:RawRow}{x:Bool × List Nat}{w:World}(h:RdZ w w.heap.size s A n c d)(h':RdRss w w.heap.size N K G r k RR)(hd:d ≠ 0)(hev:Evn RR)(hn:n<=400000000000)(hN:N<=400000000000)(hr:r<=1048576)(hK:K<=1048576)(hi:RR[i]?=some R)(hj:R[j]?=some x) :
  Calls Tryz.prog 161 #[.agg #[.bool s,.slice A n c,.slice G r k],.int .i64 i,.int .i64 j] w (RetQ (Rat.divInt (toZ x) d) w):=by
 have hil:i < r:=by
  rw [<- h'.len]
  exact (List.getElem?_eq_some_iff.1 hi).1
 obtain ⟨ad,A1,n1,c1,rfl,hbk,hx,hrs,hn1⟩:=h'.at_ i R hi
 have hjl:j < n1:=by
  rw [<- hrs.len]
  exact (List.getElem?_eq_some_iff.1 hj).1
 obtain ⟨ae,A2,n2,c2,rfl,hbk2,hy0,hy1,hru,hn2⟩:=hrs.at_ j x hj
 have hcl:colsOf RR=n1:=by rw [<- hrs.len,hev R (gM hi)]
 obtain ⟨W1,HW1⟩:∃ W,W=w.alloc (.cells #[.bool s,.slice A n c,.slice (some ad) r k] 28):=⟨_,rfl⟩
 have hP:MC W1 w.heap.size s A n c (some ad) r k:=by rw [HW1];exact MC.new w s A n c (some ad) r k
 have hb1:Below w.heap.size w W1:=by rw [HW1];exact bA
 obtain ⟨W2,HW2⟩:∃ W,W=W1.alloc (.cells #[.bool false,.slice none 0 0,.bool false,.slice none 0 0] 47):=⟨_,rfl⟩
 have hM:QC W2 W1.heap.size false none 0 0 false none 0 0:=by rw [HW2];exact QC.new W1 false none 0 0 false none 0 0
 have hb2:Below W1.heap.size W1 W2:=by rw [HW2];exact bA
 have hb02:=hb1.trans (hb2.mono hb1.size)
 have hs1:W1.heap.size=w.heap.size+1:=by rw [HW1];simp
 obtain ⟨gp,hgp⟩:∃ g,g=w.heap.size:=⟨_,rfl⟩
 obtain ⟨gr,hgr⟩:∃ g,g=w.heap.size+1:=⟨_,rfl⟩
 rw [hs1,<- hgr] at hM
 rw [<- hgp] at hP
 have HX:=ah (show ∀ W,Below W2.heap.size W2 W->MC W gp s A n c (some ad) r k/\QC W gr false none 0 0 false none 0 0/\RdZ W W.heap.size s A n c d/\RdRss W W.heap.size N K (some ad) r k RR/\RdZ W W.heap.size x.1 A2 n2 c2 (toZ x) from fun W hb=>⟨(hP.next hb2).next hb,hM.next hb,(h.next hb02).next hb,(h'.next hb02).next hb,((show RdZ w w.heap.size x.1 A2 n2 c2 (toZ x) from ⟨x.2,hru,rfl⟩).next hb02).next hb⟩)
 have HC:=ah (show ∀ W,Below W2.heap.size W2 W->W.cell? ⟨gp,0,none⟩=some (.bool s)/\W.cell? ⟨gp,1,none⟩=some (.slice A n c)/\W.cell? ⟨gp,2,none⟩=some (.slice (some ad) r k)/\W.cell? (ad.add i)=some (.slice (some ae) n1 c1)/\W.cell? (ae.add (j*2))=some (.bool x.1)/\W.cell? ⟨(ae.add (j*2)).block,(ae.add (j*2)).off+1,none⟩=some (.slice A2 n2 c2) from fun W hb=>by
  have hbw:=hb02.trans (hb.mono hb02.size)
  exact ⟨(HX.out W hb).1.c0,(HX.out W hb).1.c1,(HX.out W hb).1.c2,(hbw.cell (p:=ad.add i) (by rw [add_blk];exact hbk)).trans hx,(hbw.cell (p:=ae.add (j*2)) (by rw [add_blk];exact hbk2)).trans hy0,(hbw.cell (p:=⟨(ae.add (j*2)).block,(ae.add (j*2)).off+1,none⟩) (by show (ae.add (j*2)).block < _;rw [add_blk];exact hbk2)).trans hy1⟩)
 have HCP:=ah (show ∀ (W:World) (t:Bool) (D:Option Addr) (q m:Nat) (t':Bool) (D':Option Addr) (q' m':Nat),Below W2.heap.size W2 W->((putQ W gr t D q m t' D' q' m').cell? ⟨gp,0,none⟩=some (.bool s)/\(putQ W gr t D q m t' D' q' m').cell? ⟨gp,1,none⟩=some (.slice A n c)/\(putQ W gr t D q m t' D' q' m').cell? ⟨gp,2,none⟩=some (.slice (some ad) r k)/\(putQ W gr t D q m t' D' q' m').cell? (ad.add i)=some (.slice (some ae) n1 c1)/\(putQ W gr t D q m t' D' q' m').cell? (ae.add (j*2))=some (.bool x.1)/\(putQ W gr t D q m t' D' q' m').cell? ⟨(ae.add (j*2)).block,(ae.add (j*2)).off+1,none⟩=some (.slice A2 n2 c2)) from fun W t D q m t' D' q' m' hb=>by
  obtain ⟨e0,e1,e2,e3,e4,e5⟩:=HC.out W hb
  have hP:=below_putQ (Below.refl gr W) (Nat.le_refl gr) t D q m t' D' q' m'
  exact ⟨(hP.cell (p:=⟨gp,0,none⟩) (by show gp < gr;omega)).trans e0,(hP.cell (p:=⟨gp,1,none⟩) (by show gp < gr;omega)).trans e1,(hP.cell (p:=⟨gp,2,none⟩) (by show gp < gr;omega)).trans e2,(hP.cell (p:=ad.add i) (by rw [add_blk];omega)).trans e3,(hP.cell (p:=ae.add (j*2)) (by rw [add_blk];omega)).trans e4,(hP.cell (p:=⟨(ae.add (j*2)).block,(ae.add (j*2)).off+1,none⟩) (by show (ae.add (j*2)).block < _;rw [add_blk];omega)).trans e5⟩)
 have HB:=ah (cJ hb02 (show w.heap.size<=gr by omega))
 have HG:=ah (cJ hgp hgr)
 have HD:=ah hd
 have HCH:=ah (show chk d RR=0 by unfold chk;rw [if_neg hd,if_pos hev])
 have HLN:=ah (show RR.length=r/\colsOf RR=n1/\n2<=N from ⟨h'.len,hcl,hn2⟩)
 have hili:(i:Int) < (r:Int):=by omega
 have hjli:(j:Int) < (n1:Int):=by omega
 have hi0:¬(i:Int) < 0:=by omega
 have hj0:¬(j:Int) < 0:=by omega
 have hir:¬(r:Int)<=(i:Int):=by omega
 have hjr:¬(n1:Int)<=(j:Int):=by omega
 rw [HW1] at HW2
 have HW2:=ah HW2
 unfold putQ at HCP
 clear h h' hP hM hb1 hb2 hb02 hs1 hgp hgr hd hev HW1 hi hj hx hrs hn1 hy0 hy1 hru hn2 hcl hbk hbk2 hil hjl
 go_enter Tryz.func161,Tryz.ntmps161
 go_wp2_with fail
 rw [<- HW2.out,<- HG.out.2,<- HG.out.1]
 clear HW2
 clear HW2
 refine (mSize_any (HX.out _ bR).2.2.1 (HX.out _ bR).2.2.2.1 (by omega) hr).mono ?_
 rintro _ W3 ⟨v1,v2,v3,rfl,hv,hb3⟩
 obtain ⟨rfl,rfl,rfl⟩:v1=(r:Int)/\v2=(n1:Int)/\v3=0:=by
  rcases hv.out with ⟨_,h1,h2,h3⟩ | ⟨h0,_⟩
  ·rw [HLN.out.1] at h1
   rw [HLN.out.2.1] at h2
   exact ⟨h1,h2,h3⟩
  ·exact absurd HCH.out h0
 have HB3:=ah hb3
 clear hv hb3
 go_upto_region 6 with fail
 have HBD:=ah (show Below W2.heap.size W2 W3.drew from HB3.out.trans ((Below.refl W3.heap.size W3).drew.mono HB3.out.size))
 clear hi0 hj0 hir hjr
 go_region_held3 (fun W=>W.cell? ⟨gp,0,none⟩=some (.bool s)/\W.cell? ⟨gp,1,none⟩=some (.slice A n c)/\W.cell? ⟨gp,2,none⟩=some (.slice (some ad) r k)/\W.cell? (ad.add i)=some (.slice (some ae) n1 c1)/\W.cell? (ae.add (j*2))=some (.bool x.1)/\W.cell? ⟨(ae.add (j*2)).block,(ae.add (j*2)).off+1,none⟩=some (.slice A2 n2 c2))
  (first | exact HC.out _ HBD.out | exact HC.out _ HB8.out | exact HCP.out _ _ _ _ _ _ _ _ _ HB8.out)
  (first
   | (go_at_call 83;refine (qmake_any (HX.out _ HBD.out).2.2.2.2 (HX.out _ HBD.out).2.2.1 (by have:=HLN.out.2.2;omega) (by omega) HD.out).mono ?_;rintro _ W8 ⟨s5,A5,n5,c5,s6,A6,n6,c6,y5,rfl,ho5,hy5,hb8⟩;obtain rfl:=hy5.out;have HB8:Hid (Below W2.heap.size W2 W8):=tM HBD hb8;have hR8:=(HX.out _ HB8.out).2.1;have r0:=hR8.c0;have r1:=hR8.c1;have r2:=hR8.c2;have r3:=hR8.c3;have f0:=hR8.fz 0;have f1:=hR8.fz 1;have f2:=hR8.fz 2;have f3:=hR8.fz 3;clear hR8))
 all_goals
  have hR:=(HX.out _ HB8.out).2.1
  have hw3:w.heap.size<=W3.drew.heap.size:=nT HB.out.1.size HBD.out.size
  have HR9:=ah (hR.store s5 A5 n5 c5 s6 A6 n6 c6)
  have HO9:=ah ((ho5.base (b':=w.heap.size) hw3).keep (keep_putQ hR s5 A5 n5 c5 s6 A6 n6 c6))
  have HB9:=ah (below_putQ (HB.out.1.trans (HB8.out.mono HB.out.1.size)) HB.out.2 s5 A5 n5 c5 s6 A6 n6 c6)
  unfold putQ at HR9 HO9 HB9
  clear r0 r1 r2 r3 f0 f1 f2 f3 hR ho5 hb8 hy5 hw3
  generalize (((W8.setCell ⟨gr,0,none⟩ (.bool s5)).setCell ⟨gr,1,none⟩ (.slice A5 n5 c5)).setCell ⟨gr,2,none⟩ (.bool s6)).setCell ⟨gr,3,none⟩ (.slice A6 n6 c6)=W9 at *
  have z0:=HR9.out.c0
  have z1:=HR9.out.c1
  have z2:=HR9.out.c2
  have z3:=HR9.out.c3
  go_wp2
  exact bodyPost_ret (by simp [results,Tryz.results161,go_sem,z0,z1,z2,z3]) rfl ⟨_,_,_,_,_,_,_,_,_,rfl,HO9.out,ah rfl,HB9.out⟩
theorem identity_two (w:World):Calls Tryz.prog 77 #[.int .i64 2] w (RetTb w.heap.size ⟨[1],[],[],[1]⟩ w):=by
 obtain ⟨i1,hjf,hy0,hy1,hy2⟩:=info_parts infoRow
 have hmk:=make_p2
 obtain ⟨W1,HW1⟩:∃ W,W=w.alloc (.cells #[.slice none 0 0,.int .i64 2] 102):=⟨_,rfl⟩
 have hb1:Below w.heap.size w W1:=by rw [HW1];exact bA
 obtain ⟨go,hgo⟩:∃ g,g=w.heap.size:=⟨_,rfl⟩
 have HN0:=ah (show PX W1 go 102 [.slice none 0 0,.int .i64 2] by rw [HW1,hgo];exact PX.new w _ [.slice none 0 0,.int .i64 2])
 have HGW:=ah (show w.heap.size<=go by rw [hgo];exact nR)
 have HB0:=ah hb1
 have HW1:=ah HW1
 clear hb1
 go_enter Tryz.func77,Tryz.ntmps77
 go_wp2_with fail
 rw [<- HW1.out,<- hgo]
 clear HW1 hgo
 clear HW1
 refine wp_loop_rounds 3 ?_
 rw [rounds_succ]
 obtain ⟨R0,HR0⟩:∃ W,W=W1.alloc (.cells #[.slice none 0 0,.slice none 0 0] 73):=⟨_,rfl⟩
 have hb2:Below W1.heap.size W1 R0:=by rw [HR0];exact bA
 obtain ⟨gn0,hgn0⟩:∃ g,g=W1.heap.size:=⟨_,rfl⟩
 have HP0:=ah (show PX R0 gn0 73 [.slice none 0 0,.slice none 0 0] by rw [HR0,hgn0];exact PX.new W1 _ [.slice none 0 0,.slice none 0 0])
 have HG0:=ah (show w.heap.size<=gn0 by rw [hgn0];exact HB0.out.size)
 have HBA0:=tM HB0 hb2
 have HNA0:=ah (HN0.out.next hb2)
 have HR0:=ah HR0
 clear hb2
 go_wp2_with fail
 rw [<- HR0.out,<- hgn0]
 clear HR0 hgn0
 clear HR0
 refine (constant_any R0).mono ?_
 rintro _ C0 ⟨B0,M0,l0,rfl,ho,hb⟩
 have hpc:=HP0.out.next hb
 have q0:=hpc.cell (i:=0) rfl
 have f0:=hpc.frozen 0
 have HPS0:=ah (show PX (C0.setCell ⟨gn0,0,none⟩ (.slice B0 M0 l0)) gn0 73 [.slice B0 M0 l0,.slice none 0 0] from hpc.store 0 _)
 have HKS:=ah (hpc.keepS (.inl rfl) 0 (.slice B0 M0 l0))
 have HOS:=ah (show OwQp (C0.setCell ⟨gn0,0,none⟩ (.slice B0 M0 l0)) w.heap.size B0 M0 l0 [1] from (ho.base HBA0.out.size).keep HKS.out.q)
 have HBS0:=ah (show Below w.heap.size w (C0.setCell ⟨gn0,0,none⟩ (.slice B0 M0 l0)) from (HBA0.out.trans (hb.mono HBA0.out.size)).setCell (p:=⟨gn0,0,none⟩) HG0.out _)
 have HNS:=ah (show PX (C0.setCell ⟨gn0,0,none⟩ (.slice B0 M0 l0)) go 102 [.slice none 0 0,.int .i64 2] from (HNA0.out.next hb).far ((HNA0.out.next hb).ne hpc (by decide)) _)
 have m0:=HNS.out.cell (i:=0) rfl
 have hba:Below (C0.setCell ⟨gn0,0,none⟩ (.slice B0 M0 l0)).heap.size (C0.setCell ⟨gn0,0,none⟩ (.slice B0 M0 l0)) ((C0.setCell ⟨gn0,0,none⟩ (.slice B0 M0 l0)).alloc (.cells #[.slice (some ⟨gn0,0,none⟩) 2 2] 30)):=bA
 have m0':((C0.setCell ⟨gn0,0,none⟩ (.slice B0 M0 l0)).alloc (.cells #[.slice (some ⟨gn0,0,none⟩) 2 2] 30)).cell? ⟨go,0,none⟩=some (.slice none 0 0):=(HNS.out.next hba).cell (i:=0) rfl
 have HSN:=ah (show ∀ j u,[.slice (some ⟨gn0,0,none⟩) 2 2][j]?=some u->((C0.setCell ⟨gn0,0,none⟩ (.slice B0 M0 l0)).alloc (.cells #[.slice (some ⟨gn0,0,none⟩) 2 2] 30)).cell? ((⟨C0.heap.size,0,none⟩:Addr).add j)=some u by
  have h1:=tcell_new (C0.setCell ⟨gn0,0,none⟩ (.slice B0 M0 l0)) (.slice (some ⟨gn0,0,none⟩) 2 2) 30
  rw [World.size_setCell] at h1
  exact h1)
 clear ho hb hpc
 go_wp2_with (at_builtin;(refine wpList_append_own _ rfl _ _ 45 rfl w.heap.size 30 i1 (.slice none 0 0) 1 24 Tryz.underlying45 hjf hy0 hy1 hy2 rfl (by decide) _ _ _ rfl (World.ownsRow_nil _ _ _ _) ⟨C0.heap.size,0,none⟩ 1 1 [.slice (some ⟨gn0,0,none⟩) 2 2] rfl rfl HSN.out (by simp [Value.oneCell']) (by decide) (by decide) (by have h1:=HBS0.out.size;rw [World.size_alloc];omega) ?_);intro v' Y0 hown' hgrow _;(obtain ⟨A0,Q0,rfl,e1,e2,hU⟩:=U1.first (x:=(B0,M0,l0)) (y:=(none,0,0)) HNS.out HGW.out HPS0.out HG0.out ⟨nR,by decide⟩ (HOS.out) (OwQp.nil _ _ _) hown' hgrow))
 obtain ⟨X0,HX0⟩:∃ W,W=Y0.setCell ⟨go,0,none⟩ (.slice A0 1 Q0):=⟨_,rfl⟩
 have HB1:=ah (show Below w.heap.size w X0 by
  rw [HX0]
  exact (((HBS0.out.alloc HBS0.out.size (.cells #[.slice (some ⟨gn0,0,none⟩) 2 2] 30)).grown hgrow (by have h1:=HBS0.out.size;rw [World.size_alloc];omega) (own_block (World.ownsRow_nil w w.heap.size 30 1))).setCell (p:=⟨go,0,none⟩) HGW.out _))
 rw [<- HX0] at hU
 have HU0:=ah hU
 rw [<- HX0]
 clear hU hown' hgrow e1 e2 m0 m0' q0 f0 hba HX0
 rw [rounds_succ]
 obtain ⟨R1,HR1⟩:∃ W,W=X0.alloc (.cells #[.slice none 0 0,.slice none 0 0] 73):=⟨_,rfl⟩
 have hb2:Below X0.heap.size X0 R1:=by rw [HR1];exact bA
 obtain ⟨gn1,hgn1⟩:∃ g,g=X0.heap.size:=⟨_,rfl⟩
 have HP1:=ah (show PX R1 gn1 73 [.slice none 0 0,.slice none 0 0] by rw [HR1,hgn1];exact PX.new X0 _ [.slice none 0 0,.slice none 0 0])
 have HG1:=ah (show w.heap.size<=gn1 by rw [hgn1];exact HB1.out.size)
 have HBA1:=tM HB1 hb2
 have HNA1:=ah (HU0.out.next hb2)
 have HNE:=ah (show gn0 ≠ gn1 by have h1:=HU0.out.r0.lt;rw [hgn1];omega)
 have HR1:=ah HR1
 clear hb2
 go_wp2_with fail
 rw [<- HR1.out,<- hgn1]
 clear HR1 hgn1
 clear HR1
 refine (constant_any R1).mono ?_
 rintro _ C1 ⟨B1,m1,l1,rfl,ho,hb⟩
 have hpc:=HP1.out.next hb
 have q0:=hpc.cell (i:=1) rfl
 have f0:=hpc.frozen 1
 have HPS1:=ah (show PX (C1.setCell ⟨gn1,1,none⟩ (.slice B1 m1 l1)) gn1 73 [.slice none 0 0,.slice B1 m1 l1] from hpc.store 1 _)
 have HKS:=ah (hpc.keepS (.inl rfl) 1 (.slice B1 m1 l1))
 have HOS:=ah (show OwQp (C1.setCell ⟨gn1,1,none⟩ (.slice B1 m1 l1)) w.heap.size B1 m1 l1 [1] from (ho.base HBA1.out.size).keep HKS.out.q)
 have HBS1:=ah (show Below w.heap.size w (C1.setCell ⟨gn1,1,none⟩ (.slice B1 m1 l1)) from (HBA1.out.trans (hb.mono HBA1.out.size)).setCell (p:=⟨gn1,1,none⟩) HG1.out _)
 have HNS:=ah (show U1 (C1.setCell ⟨gn1,1,none⟩ (.slice B1 m1 l1)) w.heap.size w.heap.size go A0 Q0 gn0 2 (B0,M0,l0) (none,0,0) [1] [] from (HNA1.out.next hb).put hpc HNE.out 1 _)
 have m0:=HNS.out.hd.cell (i:=0) rfl
 have hba:Below (C1.setCell ⟨gn1,1,none⟩ (.slice B1 m1 l1)).heap.size (C1.setCell ⟨gn1,1,none⟩ (.slice B1 m1 l1)) ((C1.setCell ⟨gn1,1,none⟩ (.slice B1 m1 l1)).alloc (.cells #[.slice (some ⟨gn1,0,none⟩) 2 2] 30)):=bA
 have m0':((C1.setCell ⟨gn1,1,none⟩ (.slice B1 m1 l1)).alloc (.cells #[.slice (some ⟨gn1,0,none⟩) 2 2] 30)).cell? ⟨go,0,none⟩=some (.slice A0 1 Q0):=(HNS.out.hd.next hba).cell (i:=0) rfl
 have HSN:=ah (show ∀ j u,[.slice (some ⟨gn1,0,none⟩) 2 2][j]?=some u->((C1.setCell ⟨gn1,1,none⟩ (.slice B1 m1 l1)).alloc (.cells #[.slice (some ⟨gn1,0,none⟩) 2 2] 30)).cell? ((⟨C1.heap.size,0,none⟩:Addr).add j)=some u by
  have h1:=tcell_new (C1.setCell ⟨gn1,1,none⟩ (.slice B1 m1 l1)) (.slice (some ⟨gn1,0,none⟩) 2 2) 30
  rw [World.size_setCell] at h1
  exact h1)
 clear ho hb hpc
 go_wp2_with (at_builtin;(refine wpList_append_own _ rfl _ _ 45 rfl w.heap.size 30 i1 (.slice none 0 0) 1 24 Tryz.underlying45 hjf hy0 hy1 hy2 rfl (by decide) _ _ _ rfl (HNS.out.own.alloc _) ⟨C1.heap.size,0,none⟩ 1 1 [.slice (some ⟨gn1,0,none⟩) 2 2] rfl rfl HSN.out (by simp [Value.oneCell']) (by decide) (by decide) (by have h1:=HBS1.out.size;rw [World.size_alloc];omega) ?_);intro v' Y1 hown' hgrow _;(obtain ⟨A1,Q1,rfl,e1,e2,hU⟩:=HNS.out.second (z:=(none,0,0)) (u:=(B1,m1,l1)) HPS1.out HNE.out HG1.out nR ⟨nR,by decide⟩ (OwQp.nil _ _ _) (HOS.out) hown' hgrow))
 obtain ⟨X1,HX1⟩:∃ W,W=Y1.setCell ⟨go,0,none⟩ (.slice A1 2 Q1):=⟨_,rfl⟩
 have HB2:=ah (show Below w.heap.size w X1 by
  rw [HX1]
  exact (((HBS1.out.alloc HBS1.out.size (.cells #[.slice (some ⟨gn1,0,none⟩) 2 2] 30)).grown hgrow (by have h1:=HBS1.out.size;rw [World.size_alloc];omega) (own_block HNS.out.own)).setCell (p:=⟨go,0,none⟩) HGW.out _))
 rw [<- HX1] at hU
 have HU1:=ah hU
 rw [<- HX1]
 clear hU hown' hgrow e1 e2 m0 m0' q0 f0 hba HX1
 rw [rounds_succ]
 go_wp2
 go_ret
 exact ⟨_,rfl,HU1.out,HB2.out⟩
end Go.Proofs.YtjnklbfhelbjgaaGreat
