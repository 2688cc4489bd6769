/- Sc10. -/
import Derived.Test.YtjnklbfhelbjgaaGreatSc09
import Derived.Test.YtjnklbfhelbjgaaGreatSc00
set_option maxRecDepth 100000
set_option maxHeartbeats 32000000
set_option linter.all false
namespace Go.Proofs.YtjnklbfhelbjgaaGreat
open Go.RowKit Go.IntWalk
attribute [local go_sem ↓] Go.wp_at_zero Go.wp_at_succ
theorem rQMul_any {N:Nat}{s1 s2 s3 s4:Bool}{A1 A2 A3 A4:Option Addr}{n1 c1 n2 c2 n3 c3 n4 c4:Nat}{z1 d1 z2 d2:Int}{w:World}(h1:RdZ w w.heap.size s1 A1 n1 c1 z1)(h2:RdZ w w.heap.size s2 A2 n2 c2 d1)(h3:RdZ w w.heap.size s3 A3 n3 c3 z2)(h4:RdZ w w.heap.size s4 A4 n4 c4 d2)(hn:n1<=N/\n2<=N/\n3<=N/\n4<=N)(hN:N<=200000000000)(hd1:d1 ≠ 0)(hd2:d2 ≠ 0) :
  Calls Tryz.prog 124 #[.agg #[.bool s1,.slice A1 n1 c1,.bool s2,.slice A2 n2 c2],.agg #[.bool s3,.slice A3 n3 c3,.bool s4,.slice A4 n4 c4]] w (RetV4 (Rat.divInt z1 d1*Rat.divInt z2 d2) w):=by
 obtain ⟨W1,HW1⟩:∃ W,W=((w.alloc (.cells #[.bool s1,.slice A1 n1 c1,.bool s2,.slice A2 n2 c2] 47)).alloc (.cells #[.bool s3,.slice A3 n3 c3,.bool s4,.slice A4 n4 c4] 47)).alloc (.cells #[.bool false,.slice none 0 0,.bool false,.slice none 0 0] 47):=⟨_,rfl⟩
 obtain ⟨hX,hY,hR,hB⟩:=q_boxes2 w s1 s2 s3 s4 A1 A2 A3 A4 n1 c1 n2 c2 n3 c3 n4 c4 W1 HW1
 have HCE:=ah (show ∀ W:World,Below W1.heap.size W1 W->(W.cell? ⟨w.heap.size,0,none⟩=some (.bool s1)/\W.cell? ⟨w.heap.size,1,none⟩=some (.slice A1 n1 c1)/\W.cell? ⟨w.heap.size,2,none⟩=some (.bool s2)/\W.cell? ⟨w.heap.size,3,none⟩=some (.slice A2 n2 c2)/\W.cell? ⟨w.heap.size+1,0,none⟩=some (.bool s3)/\W.cell? ⟨w.heap.size+1,1,none⟩=some (.slice A3 n3 c3)/\W.cell? ⟨w.heap.size+1,2,none⟩=some (.bool s4)/\W.cell? ⟨w.heap.size+1,3,none⟩=some (.slice A4 n4 c4)) from fun W hb=>⟨(hX.next hb).c0,(hX.next hb).c1,(hX.next hb).c2,(hX.next hb).c3,(hY.next hb).c0,(hY.next hb).c1,(hY.next hb).c2,(hY.next hb).c3⟩)
 have HCP:=ah (show ∀ (W:World) (t:Bool) (D:Option Addr) (k m:Nat) (t':Bool) (D':Option Addr) (k' m':Nat),Below W1.heap.size W1 W->((putQ W (w.heap.size+1+1) t D k m t' D' k' m').cell? ⟨w.heap.size,0,none⟩=some (.bool s1)/\(putQ W (w.heap.size+1+1) t D k m t' D' k' m').cell? ⟨w.heap.size,1,none⟩=some (.slice A1 n1 c1)/\(putQ W (w.heap.size+1+1) t D k m t' D' k' m').cell? ⟨w.heap.size,2,none⟩=some (.bool s2)/\(putQ W (w.heap.size+1+1) t D k m t' D' k' m').cell? ⟨w.heap.size,3,none⟩=some (.slice A2 n2 c2)/\(putQ W (w.heap.size+1+1) t D k m t' D' k' m').cell? ⟨w.heap.size+1,0,none⟩=some (.bool s3)/\(putQ W (w.heap.size+1+1) t D k m t' D' k' m').cell? ⟨w.heap.size+1,1,none⟩=some (.slice A3 n3 c3)/\(putQ W (w.heap.size+1+1) t D k m t' D' k' m').cell? ⟨w.heap.size+1,2,none⟩=some (.bool s4)/\(putQ W (w.heap.size+1+1) t D k m t' D' k' m').cell? ⟨w.heap.size+1,3,none⟩=some (.slice A4 n4 c4)) from fun W t D k m t' D' k' m' hb=>by
  have hP:=below_putQ (Below.refl (w.heap.size+1+1) W) (Nat.le_refl (w.heap.size+1+1)) t D k m t' D' k' m'
  obtain ⟨e0,e1,e2,e3,e4,e5,e6,e7⟩:=HCE.out W hb
  have hg:w.heap.size < w.heap.size+1+1:=by omega
  have hg':w.heap.size+1 < w.heap.size+1+1:=by omega
  exact ⟨(hP.cell (p:=⟨w.heap.size,0,none⟩) hg).trans e0,(hP.cell (p:=⟨w.heap.size,1,none⟩) hg).trans e1,(hP.cell (p:=⟨w.heap.size,2,none⟩) hg).trans e2,(hP.cell (p:=⟨w.heap.size,3,none⟩) hg).trans e3,(hP.cell (p:=⟨w.heap.size+1,0,none⟩) hg').trans e4,(hP.cell (p:=⟨w.heap.size+1,1,none⟩) hg').trans e5,(hP.cell (p:=⟨w.heap.size+1,2,none⟩) hg').trans e6,(hP.cell (p:=⟨w.heap.size+1,3,none⟩) hg').trans e7⟩)
 unfold putQ at HCP
 have HX:=ah (show ∀ W:World,Below W1.heap.size W1 W->RdZ W W.heap.size s1 A1 n1 c1 z1/\RdZ W W.heap.size s2 A2 n2 c2 d1/\RdZ W W.heap.size s3 A3 n3 c3 z2/\RdZ W W.heap.size s4 A4 n4 c4 d2 from fun W hb=>⟨(h1.next hB).next hb,(h2.next hB).next hb,(h3.next hB).next hb,(h4.next hB).next hb⟩)
 have HNN:=ah hn
 have HXY:=ah (show Zz.zl z1<=N/\Zz.zl d1<=N/\Zz.zl z2<=N/\Zz.zl d2<=N from ⟨nT h1.len hn.1,nT h2.len hn.2.1,nT h3.len hn.2.2.1,nT h4.len hn.2.2.2⟩)
 have HB:=ah hB
 have HRR:=ah (show ∀ W:World,Below W1.heap.size W1 W->QC W (w.heap.size+1+1) false none 0 0 false none 0 0 from fun W hb=>hR.next hb)
 have HD:=ah (Below.refl W1.heap.size W1).drew
 have HDD:=ah (cJ hd1 hd2)
 have HW1:=ah HW1
 clear hX hY hR hB h1 h2 h3 h4 hn hd1 hd2
 obtain ⟨a0,a1,a2,a3,b0,b1,b2,b3⟩:=HCE.out W1 bR
 go_enter Tryz.func124,Tryz.ntmps124
 go_upto_region 1 with fail
 rw [<- HW1.out]
 clear HW1
 clear HW1
 go_region_held3 (fun w'=>w'.cell? ⟨w.heap.size,0,none⟩=some (.bool s1)/\w'.cell? ⟨w.heap.size,1,none⟩=some (.slice A1 n1 c1)/\w'.cell? ⟨w.heap.size,2,none⟩=some (.bool s2)/\w'.cell? ⟨w.heap.size,3,none⟩=some (.slice A2 n2 c2)/\w'.cell? ⟨w.heap.size+1,0,none⟩=some (.bool s3)/\w'.cell? ⟨w.heap.size+1,1,none⟩=some (.slice A3 n3 c3)/\w'.cell? ⟨w.heap.size+1,2,none⟩=some (.bool s4)/\w'.cell? ⟨w.heap.size+1,3,none⟩=some (.slice A4 n4 c4))
  (first | exact HCE.out _ HB6.out | exact HCE.out _ HB3.out | exact HCE.out _ HB2.out | exact HCE.out _ HD.out | exact HCP.out _ _ _ _ _ _ _ _ _ HB6.out)
  (first
   | (go_at_call 98;refine (rQMake_any ho2.rd ho3.rd HN2.out HN3.out HD5.out).mono ?_;rintro _ W6 ⟨s7,A7,n7,c7,s8,A8,n8,c8,q4,rfl,ho6,hq4,hb6⟩;have HB6:=tM HB3 hb6;have hR4:=HRR.out _ HB6.out;have r0:=hR4.c0;have r1:=hR4.c1;have r2:=hR4.c2;have r3:=hR4.c3;have f0:=hR4.fz 0;have f1:=hR4.fz 1;have f2:=hR4.fz 2;have f3:=hR4.fz 3)
   | (have hxx:=HB2.out;clear hxx;go_at_call 176;refine (rIMul_any (HX.out _ HB2.out).2.1 (HX.out _ HB2.out).2.2.2 (by have:=HNN.out;omega) (by have:=HNN.out;omega)).mono ?_;rintro _ W3 ⟨t3,D3,m3,l3,y3,rfl,ho3,hy3,hb3⟩;have HB3:=tM HB2 hb3;have ho2:=ho2.next hb3;have HN3:=ah (show m3<=1000000000000 by { rw [ho3.len,hy3.out];have e1:=Zz.zl_mul d1 d2;have e2:=HXY.out;omega });have HD5:=ah (show y3 ≠ 0 by { rw [hy3.out];exact Int.mul_ne_zero HDD.out.1 HDD.out.2 }))
   | (go_at_call 176;refine (rIMul_any (HX.out _ HD.out).1 (HX.out _ HD.out).2.2.1 (by have:=HNN.out;omega) (by have:=HNN.out;omega)).mono ?_;rintro _ W2 ⟨t2,D2,m2,l2,y2,rfl,ho2,hy2,hb2⟩;have HB2:=ah (HD.out.trans hb2);have HN2:=ah (show m2<=1000000000000 by { rw [ho2.len,hy2.out];have e1:=Zz.zl_mul z1 z2;have e2:=HXY.out;omega })))
 have hR4':=HRR.out _ HB6.out
 have HR9:=ah (hR4'.store s7 A7 n7 c7 s8 A8 n8 c8)
 have HO9:=ah ((ho6.base (b':=w.heap.size) (nT HB.out.size HB3.out.size)).keep (keep_putQ hR4' s7 A7 n7 c7 s8 A8 n8 c8))
 have HB9:=ah (below_putQ (HB.out.trans (HB6.out.mono HB.out.size)) (show w.heap.size<=w.heap.size+1+1 by omega) s7 A7 n7 c7 s8 A8 n8 c8)
 have HV:=ah (show q4=Rat.divInt z1 d1*Rat.divInt z2 d2 by rw [hq4.out,hy2.out,hy3.out,Rat.divInt_mul_divInt])
 unfold putQ at HR9 HO9 HB9
 clear a0 a1 a2 a3 b0 b1 b2 b3 r0 r1 r2 r3 f0 f1 f2 f3 hR4 hR4' ho2 ho3 ho6 hb2 hb3 hb6 hy2 hy3 hq4
 generalize (((W6.setCell ⟨w.heap.size+1+1,0,none⟩ (.bool s7)).setCell ⟨w.heap.size+1+1,1,none⟩ (.slice A7 n7 c7)).setCell ⟨w.heap.size+1+1,2,none⟩ (.bool s8)).setCell ⟨w.heap.size+1+1,3,none⟩ (.slice A8 n8 c8)=W9 at *
 have z0:=HR9.out.c0
 have z1:=HR9.out.c1
 have z2:=HR9.out.c2
 have z3:=HR9.out.c3
 go_wp2
 exact bodyPost_ret (by simp [results,Tryz.results124,go_sem,z0,z1,z2,z3]) rfl ⟨s7,A7,n7,c7,s8,A8,n8,c8,q4,rfl,HO9.out,HV,HB9.out⟩
theorem rQAdd_any {N:Nat}{s1 s2 s3 s4:Bool}{A1 A2 A3 A4:Option Addr}{n1 c1 n2 c2 n3 c3 n4 c4:Nat}{z1 d1 z2 d2:Int}{w:World}(h1:RdZ w w.heap.size s1 A1 n1 c1 z1)(h2:RdZ w w.heap.size s2 A2 n2 c2 d1)(h3:RdZ w w.heap.size s3 A3 n3 c3 z2)(h4:RdZ w w.heap.size s4 A4 n4 c4 d2)(hn:n1<=N/\n2<=N/\n3<=N/\n4<=N)(hN:N<=200000000000)(hd1:d1 ≠ 0)(hd2:d2 ≠ 0) :
  Calls Tryz.prog 123 #[.agg #[.bool s1,.slice A1 n1 c1,.bool s2,.slice A2 n2 c2],.agg #[.bool s3,.slice A3 n3 c3,.bool s4,.slice A4 n4 c4]] w (RetV4 (Rat.divInt z1 d1+Rat.divInt z2 d2) w):=by
 obtain ⟨W1,HW1⟩:∃ W,W=((w.alloc (.cells #[.bool s1,.slice A1 n1 c1,.bool s2,.slice A2 n2 c2] 47)).alloc (.cells #[.bool s3,.slice A3 n3 c3,.bool s4,.slice A4 n4 c4] 47)).alloc (.cells #[.bool false,.slice none 0 0,.bool false,.slice none 0 0] 47):=⟨_,rfl⟩
 obtain ⟨hX,hY,hR,hB⟩:=q_boxes2 w s1 s2 s3 s4 A1 A2 A3 A4 n1 c1 n2 c2 n3 c3 n4 c4 W1 HW1
 have HCE:=ah (show ∀ W:World,Below W1.heap.size W1 W->(W.cell? ⟨w.heap.size,0,none⟩=some (.bool s1)/\W.cell? ⟨w.heap.size,1,none⟩=some (.slice A1 n1 c1)/\W.cell? ⟨w.heap.size,2,none⟩=some (.bool s2)/\W.cell? ⟨w.heap.size,3,none⟩=some (.slice A2 n2 c2)/\W.cell? ⟨w.heap.size+1,0,none⟩=some (.bool s3)/\W.cell? ⟨w.heap.size+1,1,none⟩=some (.slice A3 n3 c3)/\W.cell? ⟨w.heap.size+1,2,none⟩=some (.bool s4)/\W.cell? ⟨w.heap.size+1,3,none⟩=some (.slice A4 n4 c4)) from fun W hb=>⟨(hX.next hb).c0,(hX.next hb).c1,(hX.next hb).c2,(hX.next hb).c3,(hY.next hb).c0,(hY.next hb).c1,(hY.next hb).c2,(hY.next hb).c3⟩)
 have HCP:=ah (show ∀ (W:World) (t:Bool) (D:Option Addr) (k m:Nat) (t':Bool) (D':Option Addr) (k' m':Nat),Below W1.heap.size W1 W->((putQ W (w.heap.size+1+1) t D k m t' D' k' m').cell? ⟨w.heap.size,0,none⟩=some (.bool s1)/\(putQ W (w.heap.size+1+1) t D k m t' D' k' m').cell? ⟨w.heap.size,1,none⟩=some (.slice A1 n1 c1)/\(putQ W (w.heap.size+1+1) t D k m t' D' k' m').cell? ⟨w.heap.size,2,none⟩=some (.bool s2)/\(putQ W (w.heap.size+1+1) t D k m t' D' k' m').cell? ⟨w.heap.size,3,none⟩=some (.slice A2 n2 c2)/\(putQ W (w.heap.size+1+1) t D k m t' D' k' m').cell? ⟨w.heap.size+1,0,none⟩=some (.bool s3)/\(putQ W (w.heap.size+1+1) t D k m t' D' k' m').cell? ⟨w.heap.size+1,1,none⟩=some (.slice A3 n3 c3)/\(putQ W (w.heap.size+1+1) t D k m t' D' k' m').cell? ⟨w.heap.size+1,2,none⟩=some (.bool s4)/\(putQ W (w.heap.size+1+1) t D k m t' D' k' m').cell? ⟨w.heap.size+1,3,none⟩=some (.slice A4 n4 c4)) from fun W t D k m t' D' k' m' hb=>by
  have hP:=below_putQ (Below.refl (w.heap.size+1+1) W) (Nat.le_refl (w.heap.size+1+1)) t D k m t' D' k' m'
  obtain ⟨e0,e1,e2,e3,e4,e5,e6,e7⟩:=HCE.out W hb
  have hg:w.heap.size < w.heap.size+1+1:=by omega
  have hg':w.heap.size+1 < w.heap.size+1+1:=by omega
  exact ⟨(hP.cell (p:=⟨w.heap.size,0,none⟩) hg).trans e0,(hP.cell (p:=⟨w.heap.size,1,none⟩) hg).trans e1,(hP.cell (p:=⟨w.heap.size,2,none⟩) hg).trans e2,(hP.cell (p:=⟨w.heap.size,3,none⟩) hg).trans e3,(hP.cell (p:=⟨w.heap.size+1,0,none⟩) hg').trans e4,(hP.cell (p:=⟨w.heap.size+1,1,none⟩) hg').trans e5,(hP.cell (p:=⟨w.heap.size+1,2,none⟩) hg').trans e6,(hP.cell (p:=⟨w.heap.size+1,3,none⟩) hg').trans e7⟩)
 unfold putQ at HCP
 have HX:=ah (show ∀ W:World,Below W1.heap.size W1 W->RdZ W W.heap.size s1 A1 n1 c1 z1/\RdZ W W.heap.size s2 A2 n2 c2 d1/\RdZ W W.heap.size s3 A3 n3 c3 z2/\RdZ W W.heap.size s4 A4 n4 c4 d2 from fun W hb=>⟨(h1.next hB).next hb,(h2.next hB).next hb,(h3.next hB).next hb,(h4.next hB).next hb⟩)
 have HNN:=ah hn
 have HXY:=ah (show Zz.zl z1<=N/\Zz.zl d1<=N/\Zz.zl z2<=N/\Zz.zl d2<=N from ⟨nT h1.len hn.1,nT h2.len hn.2.1,nT h3.len hn.2.2.1,nT h4.len hn.2.2.2⟩)
 have HB:=ah hB
 have HRR:=ah (show ∀ W:World,Below W1.heap.size W1 W->QC W (w.heap.size+1+1) false none 0 0 false none 0 0 from fun W hb=>hR.next hb)
 have HD:=ah (Below.refl W1.heap.size W1).drew
 have HDD:=ah (cJ hd1 hd2)
 have HW1:=ah HW1
 clear hX hY hR hB h1 h2 h3 h4 hn hd1 hd2
 obtain ⟨a0,a1,a2,a3,b0,b1,b2,b3⟩:=HCE.out W1 bR
 go_enter Tryz.func123,Tryz.ntmps123
 go_upto_region 1 with fail
 rw [<- HW1.out]
 clear HW1
 clear HW1
 go_region_held3 (fun w'=>w'.cell? ⟨w.heap.size,0,none⟩=some (.bool s1)/\w'.cell? ⟨w.heap.size,1,none⟩=some (.slice A1 n1 c1)/\w'.cell? ⟨w.heap.size,2,none⟩=some (.bool s2)/\w'.cell? ⟨w.heap.size,3,none⟩=some (.slice A2 n2 c2)/\w'.cell? ⟨w.heap.size+1,0,none⟩=some (.bool s3)/\w'.cell? ⟨w.heap.size+1,1,none⟩=some (.slice A3 n3 c3)/\w'.cell? ⟨w.heap.size+1,2,none⟩=some (.bool s4)/\w'.cell? ⟨w.heap.size+1,3,none⟩=some (.slice A4 n4 c4))
  (first | exact HCE.out _ HB6.out | exact HCE.out _ HB5.out | exact HCE.out _ HB4.out | exact HCE.out _ HB3.out | exact HCE.out _ HB2.out | exact HCE.out _ HD.out | exact HCP.out _ _ _ _ _ _ _ _ _ HB6.out)
  (first
   | (go_at_call 98;refine (rQMake_any ho4.rd ho5.rd HN4.out HN5.out HD5.out).mono ?_;rintro _ W6 ⟨s7,A7,n7,c7,s8,A8,n8,c8,q4,rfl,ho6,hq4,hb6⟩;have HB6:=tM HB5 hb6;have hR4:=HRR.out _ HB6.out;have r0:=hR4.c0;have r1:=hR4.c1;have r2:=hR4.c2;have r3:=hR4.c3;have f0:=hR4.fz 0;have f1:=hR4.fz 1;have f2:=hR4.fz 2;have f3:=hR4.fz 3)
   | (have hxx:=HB4.out;clear hxx;go_at_call 176;refine (rIMul_any (HX.out _ HB4.out).2.1 (HX.out _ HB4.out).2.2.2 (by have:=HNN.out;omega) (by have:=HNN.out;omega)).mono ?_;rintro _ W5 ⟨t5,D5,m5,l5,y5,rfl,ho5,hy5,hb5⟩;have HB5:=tM HB4 hb5;have ho4:=ho4.next hb5;have HN5:=ah (show m5<=1000000000000 by { rw [ho5.len,hy5.out];have e1:=Zz.zl_mul d1 d2;have e2:=HXY.out;omega });have HD5:=ah (show y5 ≠ 0 by { rw [hy5.out];exact Int.mul_ne_zero HDD.out.1 HDD.out.2 }))
   | (have hxx:=HB3.out;clear hxx;go_at_call 175;refine (rIAdd_any ho2.rd ho3.rd (by have:=HN2.out;omega) (by have:=HN3.out;omega)).mono ?_;rintro _ W4 ⟨t4,D4,m4,l4,y4,rfl,ho4,hy4,hb4⟩;have HB4:=tM HB3 hb4;have HN4:=ah (show m4<=1000000000000 by { rw [ho4.len,hy4.out];have e1:=Zz.zl_add y2 y3;have e3:Zz.zl y2<=400000000000:=(by { rw [hy2.out];have e4:=Zz.zl_mul z1 d2;have e2:=HXY.out;omega });have e5:Zz.zl y3<=400000000000:=(by { rw [hy3.out];have e4:=Zz.zl_mul z2 d1;have e2:=HXY.out;omega });omega }))
   | (have hxx:=HB2.out;clear hxx;go_at_call 176;refine (rIMul_any (HX.out _ HB2.out).2.2.1 (HX.out _ HB2.out).2.1 (by have:=HNN.out;omega) (by have:=HNN.out;omega)).mono ?_;rintro _ W3 ⟨t3,D3,m3,l3,y3,rfl,ho3,hy3,hb3⟩;have HB3:=tM HB2 hb3;have ho2:=ho2.next hb3;have HN3:=ah (show m3<=1000000000000 by { rw [ho3.len,hy3.out];have e1:=Zz.zl_mul z2 d1;have e2:=HXY.out;omega }))
   | (go_at_call 176;refine (rIMul_any (HX.out _ HD.out).1 (HX.out _ HD.out).2.2.2 (by have:=HNN.out;omega) (by have:=HNN.out;omega)).mono ?_;rintro _ W2 ⟨t2,D2,m2,l2,y2,rfl,ho2,hy2,hb2⟩;have HB2:=ah (HD.out.trans hb2);have HN2:=ah (show m2<=1000000000000 by { rw [ho2.len,hy2.out];have e1:=Zz.zl_mul z1 d2;have e2:=HXY.out;omega })))
 have hR4':=HRR.out _ HB6.out
 have HR9:=ah (hR4'.store s7 A7 n7 c7 s8 A8 n8 c8)
 have HO9:=ah ((ho6.base (b':=w.heap.size) (nT HB.out.size HB5.out.size)).keep (keep_putQ hR4' s7 A7 n7 c7 s8 A8 n8 c8))
 have HB9:=ah (below_putQ (HB.out.trans (HB6.out.mono HB.out.size)) (show w.heap.size<=w.heap.size+1+1 by omega) s7 A7 n7 c7 s8 A8 n8 c8)
 have HV:=ah (show q4=Rat.divInt z1 d1+Rat.divInt z2 d2 by rw [hq4.out,hy4.out,hy5.out,hy2.out,hy3.out,Rat.divInt_add_divInt _ _ HDD.out.1 HDD.out.2])
 unfold putQ at HR9 HO9 HB9
 clear a0 a1 a2 a3 b0 b1 b2 b3 r0 r1 r2 r3 f0 f1 f2 f3 hR4 hR4' ho2 ho3 ho4 ho5 ho6 hb2 hb3 hb4 hb5 hb6 hy2 hy3 hy4 hy5 hq4
 generalize (((W6.setCell ⟨w.heap.size+1+1,0,none⟩ (.bool s7)).setCell ⟨w.heap.size+1+1,1,none⟩ (.slice A7 n7 c7)).setCell ⟨w.heap.size+1+1,2,none⟩ (.bool s8)).setCell ⟨w.heap.size+1+1,3,none⟩ (.slice A8 n8 c8)=W9 at *
 have z0:=HR9.out.c0
 have z1:=HR9.out.c1
 have z2:=HR9.out.c2
 have z3:=HR9.out.c3
 go_wp2
 exact bodyPost_ret (by simp [results,Tryz.results123,go_sem,z0,z1,z2,z3]) rfl ⟨s7,A7,n7,c7,s8,A8,n8,c8,q4,rfl,HO9.out,HV,HB9.out⟩
end Go.Proofs.YtjnklbfhelbjgaaGreat
namespace Pq
def cv (a b:Nat → Rat):Nat → Rat
 | 0=>a 0*b 0
 | k+1=>a 0*b (k+1)+cv (fun i=>a (i+1)) b k
theorem cv_congr {a a' b b':Nat → Rat}{k:Nat}(h:∀ i,i ≤ k → a i=a' i)(h':∀ i,i ≤ k → b i=b' i):cv a b k=cv a' b' k:=by
 induction k generalizing a a' with
 | zero=>simp [cv,h 0 (Nat.le_refl _),h' 0 (Nat.le_refl _)]
 | succ k ih=>rw [cv,cv,h 0 (Nat.zero_le _),h' (k+1) (Nat.le_refl _),ih (fun i hi=>h (i+1) (by omega)) (fun i hi=>h' i (by omega))]
theorem cv_add_left (a b c:Nat → Rat)(k:Nat):cv (fun i=>a i+b i) c k=cv a c k+cv b c k:=by
 induction k generalizing a b with
 | zero=>simp only [cv];grind
 | succ k ih=>rw [cv,cv,cv,ih];grind
theorem cv_sub_left (a b c:Nat → Rat)(k:Nat):cv (fun i=>a i-b i) c k=cv a c k-cv b c k:=by
 induction k generalizing a b with
 | zero=>simp only [cv];grind
 | succ k ih=>rw [cv,cv,cv,ih];grind
theorem cv_zero_left (b:Nat → Rat)(k:Nat):cv (fun _=>0) b k=0:=by
 induction k with
 | zero=>simp only [cv];grind
 | succ k ih=>rw [cv,ih];grind
def mono (c:Rat)(n:Nat):Nat → Rat:=fun i=>if i=n then c else 0
theorem cv_mono (c:Rat)(b:Nat → Rat)(n k:Nat):cv (mono c n) b k=if n ≤ k then c*b (k-n) else 0:=by
 induction n generalizing k with
 | zero =>
   cases k with
   | zero=>simp [cv,mono]
   | succ k =>
     rw [cv,show (fun i=>mono c 0 (i+1))=fun _=>0 from funext fun i=>by simp [mono],cv_zero_left]
     simp [mono]
     try grind
 | succ n ih =>
   cases k with
   | zero=>simp [cv,mono]
   | succ k =>
     rw [cv,show (fun i=>mono c (n+1) (i+1))=mono c n from funext fun i=>by simp [mono],ih]
     simp [mono]
     try grind
theorem cv_one (b:Nat → Rat)(k:Nat):cv (mono 1 0) b k=b k:=by rw [cv_mono];simp
def Up (f:Nat → Rat)(n:Nat):Prop:=∀ k,n ≤ k → f k=0
theorem Up.mono {f:Nat → Rat}{n m:Nat}(h:Up f n)(hm:n ≤ m):Up f m:=fun k hk=>h k (by omega)
theorem Up.sub {f g:Nat → Rat}{n:Nat}(h:Up f n)(k:Up g n):Up (fun i=>f i-g i) n:=fun i hi=>by
 show f i-g i=0
 rw [h i hi,k i hi];grind
theorem cv_left0 {a b:Nat → Rat}(h:∀ k,a k=0)(k:Nat):cv a b k=0:=by
 rw [cv_congr (fun i _=>h i) (fun _ _=>rfl),cv_zero_left]
theorem cv_top {a b:Nat → Rat}{n m:Nat}(ha:Up a (n+1))(hb:Up b (m+1)):cv a b (n+m)=a n*b m:=by
 induction n generalizing a with
 | zero =>
   rw [Nat.zero_add]
   cases m with
   | zero=>rfl
   | succ m =>
     rw [cv,cv_left0 (fun k=>ha (k+1) (by omega))]
     grind
 | succ n ih =>
   rw [show n+1+m=(n+m)+1 by omega,cv,hb (n+m+1) (by omega),ih (a:=fun i=>a (i+1)) fun k hk=>ha (k+1) (by omega)]
   grind
theorem cv_up {a b:Nat → Rat}{n m:Nat}(ha:Up a n)(hb:Up b m):Up (cv a b) (n+m-1):=by
 intro k hk
 induction n generalizing a k with
 | zero=>exact cv_left0 (fun i=>ha i (Nat.zero_le _)) k
 | succ n ih =>
   cases k with
   | zero =>
     have:m=0:=by omega
     subst this
     rw [cv,hb 0 (Nat.le_refl _)]
     grind
   | succ k =>
     rw [cv,hb (k+1) (by omega),ih (a:=fun i=>a (i+1)) (fun k hk=>ha (k+1) (by omega)) k (by omega)]
     grind
theorem mul_zero' {a b:Rat}(h:a*b=0):a=0 ∨ b=0:=by
 rcases Classical.em (a=0) with h0 | h0
 ·exact .inl h0
 ·right
  grind
theorem no_mul {d b:Nat → Rat}{p m:Nat}(hb:Up b (m+1))(ht:b m ≠ 0)(hu:Up (cv d b) (p+m)):∀ n,Up d n → Up d p
 | 0,h=>h.mono (Nat.zero_le _)
 | n + 1, h => by
   rcases Nat.lt_or_ge n p with hn | hn
   ·exact h.mono (by omega)
   ·refine no_mul hb ht hu n fun k hk=>?_
    by_cases hkn:k=n
    ·subst hkn
     have h1:=(cv_top h hb).symm.trans (hu (k+m) (by omega))
     exact (mul_zero' h1).resolve_right ht
    ·exact h k (by omega)
theorem dv_unique {b q r q' r':Nat → Rat}{m n n':Nat}(hb:Up b (m+1))(ht:b m ≠ 0)(hq:Up q n)(hq':Up q' n')
  (e:∀ k,cv q b k+r k=cv q' b k+r' k) (hr:Up r m) (hr':Up r' m):(∀ k,q k=q' k) ∧ ∀ k,r k=r' k:=by
 have e1:∀ k,cv (fun i=>q i-q' i) b k=r' k-r k:=fun k=>by
  rw [cv_sub_left]
  have:=e k
  grind
 have hu:Up (cv (fun i=>q i-q' i) b) m:=fun k hk=>by
  rw [e1,hr k hk,hr' k hk];grind
 have hd:Up (fun i=>q i-q' i) (n+n'):=(hq.mono (by omega)).sub (hq'.mono (by omega))
 have h0:=no_mul (p:=0) hb ht (by rw [Nat.zero_add];exact hu) _ hd
 have h1:∀ k,q k=q' k:=fun k=>by
  have:=h0 k (Nat.zero_le _)
  simp only at this
  grind
 refine ⟨h1,fun k=>?_⟩
 have:=e k
 rw [cv_congr (fun i _=>h1 i) (fun _ _=>rfl)] at this
 grind
end Pq
namespace Pq
theorem up_co (L:List Rat):Up (co L) L.length:=fun _ h=>co_ge h
theorem IsP.self {M:List Rat}(h:Nz M):IsP (co M) M:=⟨h,fun _=>rfl⟩
theorem co_cons_zero (x:Rat)(L:List Rat):co (x :: L) 0=x:=rfl
theorem co_cons_succ (x:Rat)(L:List Rat)(i:Nat):co (x :: L) (i+1)=co L i:=by simp [co]
theorem co_range (f:Nat → Rat)(n i:Nat):co ((List.range n).map f) i=if i < n then f i else 0:=by
 by_cases h:i < n
 ·rw [if_pos h];exact co_get (by rw [List.getElem?_map,List.getElem?_range h];rfl)
 ·rw [if_neg h];exact co_ge (by simp;omega)
def nrm:List Rat → List Rat
 | []=>[]
 | x :: L=>if nrm L=[] ∧ x=0 then [] else x :: nrm L
theorem co_nrm:∀ (L:List Rat) (i:Nat),co (nrm L) i=co L i
 | [],_=>rfl
 | x :: L, i => by
   have ih:=co_nrm L
   unfold nrm
   split
   ·rename_i h
    cases i with
    | zero=>rw [co_nil,co_cons_zero,h.2]
    | succ i=>rw [co_nil,co_cons_succ,← ih,h.1,co_nil]
   ·cases i with
    | zero=>rfl
    | succ i=>rw [co_cons_succ,co_cons_succ,ih]
theorem nz_nrm:∀ L:List Rat,Nz (nrm L)
 | []=>nz_nil
 | x :: L => by
   have ih:=nz_nrm L
   unfold nrm
   split
   ·exact nz_nil
   ·rename_i h
    intro hne
    by_cases h0:nrm L=[]
    ·intro e
     refine h ⟨h0,?_⟩
     simpa [h0] using e
    ·rw [List.getLast_cons h0]
     exact ih h0
theorem isP_nrm (L:List Rat):IsP (co L) (nrm L):=⟨nz_nrm L,co_nrm L⟩
theorem IsP.nrm {L M:List Rat}(h:IsP (co L) M):M=nrm L:=h.unique (isP_nrm L)
theorem nrm_id {M:List Rat}(h:Nz M):nrm M=M:=(IsP.nrm (IsP.self h)).symm
theorem nrm_len (L:List Rat):(nrm L).length ≤ L.length:=nz_len (nz_nrm L) fun i hi=>by rw [co_nrm];exact co_ge hi
def dstep (b a:List Rat):List Rat:=nrm ((List.range a.length).map fun i=>co a i-(if i < a.length-b.length then 0 else co a (a.length-1) / co b (b.length-1)*co b (i-(a.length-b.length))))
theorem co_dstep {a b:List Rat}(h:b.length ≤ a.length)(i:Nat):co (dstep b a) i=co a i-(if i < a.length-b.length then 0 else co a (a.length-1) / co b (b.length-1)*co b (i-(a.length-b.length))):=by
 unfold dstep
 rw [co_nrm,co_range]
 by_cases h1:i < a.length
 ·rw [if_pos h1]
 ·rw [if_neg h1,co_ge (L:=a) (by omega),co_ge (L:=b) (i:=i-(a.length-b.length)) (by omega),Rat.mul_zero]
  split <;> grind
theorem dstep_nz (b a:List Rat):Nz (dstep b a):=nz_nrm _
theorem dstep_len {a b:List Rat}(hb:Nz b)(h0:0 < b.length)(h:b.length ≤ a.length):(dstep b a).length < a.length:=by
 have ht:=nz_top hb h0
 have:(dstep b a).length ≤ a.length-1:=nz_len (dstep_nz b a) fun i hi=>by
  rw [co_dstep h]
  rcases Nat.eq_or_lt_of_le hi with e | e
  ·rw [← e,if_neg (by omega),show a.length-1-(a.length-b.length)=b.length-1 by omega]
   grind
  ·rw [co_ge (L:=a) (by omega),co_ge (L:=b) (i:=i-(a.length-b.length)) (by omega),Rat.mul_zero]
   split <;> grind
 omega
def drest (b:List Rat):Nat → List Rat → List Rat
 | 0,a=>a
 | j+1,a=>if b.length ≤ a.length then drest b j (dstep b a) else a
theorem drest_step {a b:List Rat}(h:b.length ≤ a.length)(j:Nat):drest b (j+1) a=drest b j (dstep b a):=by
 rw [drest,if_pos h]
def IsD (a b Q R:List Rat):Prop:=Nz Q ∧ Nz R ∧ R.length < b.length ∧ ∀ i,co a i=cv (co Q) (co b) i+co R i
theorem IsD.unique {a b Q R Q' R':List Rat}(hb:Nz b)(h:IsD a b Q R)(h':IsD a b Q' R'):Q=Q' ∧ R=R':=by
 have hl:0 < b.length:=by have:=h.2.2.1;omega
 have ht:=nz_top hb hl
 have hu:Up (co b) (b.length-1+1):=by rw [Nat.sub_add_cancel hl];exact up_co b
 have hr:R.length ≤ b.length-1:=by have:=h.2.2.1;omega
 have hr':R'.length ≤ b.length-1:=by have:=h'.2.2.1;omega
 obtain ⟨e1,e2⟩:=dv_unique hu ht (up_co Q) (up_co Q') (fun k=>(h.2.2.2 k).symm.trans (h'.2.2.2 k)) ((up_co R).mono hr) ((up_co R').mono hr')
 exact ⟨nz_ext h.1 h'.1 e1,nz_ext h.2.1 h'.2.1 e2⟩
theorem dv_step {a b K:List Rat}{q:Nat → Rat}(h:b.length ≤ K.length)(e:∀ i,co a i=cv q (co b) i+co K i)(hq:q (K.length-b.length)=0)(i:Nat) :
  co a i=cv (fun t=>if t=K.length-b.length then co K (K.length-1) / co b (b.length-1) else q t) (co b) i+co (dstep b K) i:=by
 have e1:(fun t=>if t=K.length-b.length then co K (K.length-1) / co b (b.length-1) else q t)=fun t=>q t+mono (co K (K.length-1) / co b (b.length-1)) (K.length-b.length) t:=by
  funext t
  unfold mono
  by_cases h1:t=K.length-b.length
  ·rw [if_pos h1,if_pos h1,h1,hq];grind
  ·rw [if_neg h1,if_neg h1];grind
 rw [e1,cv_add_left,cv_mono,co_dstep h,e i]
 by_cases h1:K.length-b.length ≤ i
 ·rw [if_pos h1,if_neg (by omega)];grind
 ·rw [if_neg h1,if_pos (by omega)];grind
end Pq
namespace Go.Proofs.YtjnklbfhelbjgaaGreat
open Go.RowKit Go.IntWalk
attribute [local go_sem ↓] Go.wp_at_zero Go.wp_at_succ
def RetPqB (b:Nat)(f:Nat->Rat)(w:World)(e:Ending)(w':World):Prop :=
 ∃ (A:Option Addr) (n c:Nat) (M:List Rat),e=.returned (.slice A n c)/\OwQp w' b A n c M/\Hid (Pq.IsP f M)/\Below w.heap.size w w'
theorem qtrim_any {b N:Nat}{A:Option Addr}{n c:Nat}{L:List Rat}{w:World}(h:OwQp w b A n c L)(hz:∀ x ∈ L,Qs N x)(hn:n<=4398046511103)(hN:N<=17592186044416) :
  Calls Tryz.prog 164 #[.slice A n c] w (RetPqB b (Pq.co L) w):=by
 have HLEN:=ah h.len
 have H:=ah h
 have HSZ:=ah hz
 have hle:=h.le.1
 have hmx:=h.le.2
 clear h hz
 go_enter Tryz.func164,Tryz.ntmps164
 go_wp2_with fail
 go_loopw [3] (fun kv wr=>∃ k:Nat,kv=.int .i64 k/\k<=n/\Hid (∀ i,k<=i->Pq.co L i=0)/\Below w.heap.size w wr) (fun kv _=>(intOf kv).toNat)
 case atStart=>exact ⟨n,rfl,nR,ah fun i hi=>Pq.co_ge (by rw [HLEN.out];exact hi),bR⟩
 case round =>
  obtain ⟨k,rfl,hk,hZ,hB⟩:=hrel
  rcases Nat.eq_zero_or_pos k with h0 | h0
  ·subst h0
   go_wp2
   go_ret
   exact ⟨_,_,_,[],rfl,OwQp.nil _ _ _,ah ⟨Pq.nz_nil,fun i=>by rw [Pq.co_nil,hZ.out i nZ]⟩,hB⟩
  ·obtain ⟨j,rfl⟩:∃ j,k=j+1:=⟨k-1,by omega⟩
   obtain ⟨ad,s,A1,n1,c1,s',A1',n1',c1',x,rfl,hbk,hx0,hx1,hx2,hx3,hr,hx⟩:=op_at H.out (show j < n by omega)
   obtain ⟨hy0,hy1,hy2,hy3⟩:=qs_cells hB hbk hx0 hx1 hx2 hx3
   have hn1:n1<=N:=by
    rw [hr.num.len]
    exact (HSZ.out x (gM hx.out)).1
   have hr':=(hr.next hB).num.rd
   clear hx0 hx1 hx2 hx3 hy2 hy3 hr
   go_wp2_with fail
   refine (sign_any hr' (by omega)).mono ?_
   rintro _ W2 ⟨kz,rfl,hkz,hb2⟩
   have HB2:=ah (hB.trans (hb2.mono hB.size))
   have HZ:=ah (show kz=0 ↔ Pq.co L j=0 by rw [hkz.out,Int.sign_eq_zero_iff_zero,Rat.num_eq_zero,Pq.co_get hx.out])
   clear hb2 hy0 hy1 hr'
   by_cases hk0:kz=0
   ·have HC:=ah (HZ.out.1 hk0)
    subst hk0
    go_wp2
    go_roundw
    case rel=>exact ⟨j,by go_num,by omega,ah fun i hi=>by
     rcases Nat.lt_or_ge j i with h1 | h1
     ·exact hZ.out i h1
     ·rw [show i=j by omega];exact HC.out,HB2.out⟩
    case measure=>simp [intOf]
   ·have HC:=ah (mt HZ.out.2 hk0)
    have hkb:(kz == 0)=false:=by simpa using hk0
    clear hk0
    go_wp2
    go_ret
    exact ⟨_,_,_,L.take (j+1),rfl,(H.out.next HB2.out).take hk,ah ⟨Pq.nz_take (by rw [HLEN.out];exact hk) (.inr HC.out),Pq.co_take_all hZ.out⟩,HB2.out⟩
theorem qpnorm_any {N:Nat}{A:Option Addr}{n c:Nat}{L:List (Int × Int)}{w:World}(h:RdQs w w.heap.size N A n c L)(hn:n<=1048576)(hN:N<=1000000000000)(h1N:1<=N) :
  Calls Tryz.prog 110 #[.slice A n c] w fun e w'=>((∀ p ∈ L,p.2 ≠ 0)/\∃ (A':Option Addr) (n' c':Nat) (M:List Rat),e=.returned (.tuple #[.slice A' n' c',.int .i64 0])/\OwQp w' w.heap.size A' n' c' M/\Hid (M=Pq.nrm (L.map qval))/\Below w.heap.size w w') ∨ ((∃ p ∈ L,p.2=0)/\e=.returned (.tuple #[.slice none 0 0,.int .i64 6])/\Below w.heap.size w w'):=by
 have HLEN:=ah h.len
 have H:=ah h
 obtain ⟨i0,hi,hz0,hz1,hz2⟩:=info_parts infoQ
 go_enter Tryz.func110,Tryz.ntmps110
 go_wp2_with fail
 go_loopw [4,11] (fun ov iv wr=>∃ (j c':Nat) (A':Option Addr) (M:List Rat),ov=.slice A' j c'/\iv=.int .i64 j/\j<=n/\OwQs wr w.heap.size A' j c' M/\Hid (M=(L.take j).map qval)/\Hid (∀ (i:Nat) (p:Int × Int),i < j->L[i]?=some p->p.2 ≠ 0)/\Below w.heap.size w wr) (fun _ iv _=>n-(intOf iv).toNat)
 case atStart=>exact ⟨0,0,none,[],rfl,rfl,nZ,OwQs.nil _ _,ah rfl,ah fun i p hi=>absurd hi (Nat.not_lt_zero _),bR⟩
 case round =>
  obtain ⟨j,c',A',M,rfl,rfl,hj,ho,hM,hne,hB⟩:=hrel
  by_cases hjn:j=n
  ·subst hjn
   have HALL:=ah (show ∀ p ∈ L,p.2 ≠ 0 from fun p hp=>by
    obtain ⟨i,hi,e⟩:=List.mem_iff_getElem.1 hp
    exact hne.out i p (by rw [<- HLEN.out];exact hi) (by rw [gE hi,e]))
   have HML:=ah (show M=L.map qval by rw [hM.out,List.take_of_length_le (by rw [HLEN.out];exact nR)])
   have HSM:=ah (show ∀ x ∈ M,Qs N x by rw [HML.out];exact (H.out.sz HALL.out h1N).mem)
   go_wp2_with fail
   refine (qtrim_any ho.p HSM.out (by omega) (by omega)).mono ?_
   rintro _ W4 ⟨A4,n4,c4,M4,rfl,ho4,hM4,hb4⟩
   go_wp2
   exact bodyPost_ret (by simp [results,Tryz.results110,go_sem]) rfl (.inl ⟨HALL.out,_,_,_,M4,rfl,ho4,ah (by rw [<- HML.out];exact hM4.out.nrm),hB.trans (hb4.mono hB.size)⟩)
  ·have hjl:j < n:=by omega
   clear hjn
   have hjli:(j:Int) < (n:Int):=by omega
   obtain ⟨ad,s1,A1,n1,c1,s2,A2,n2,c2,z1,d1,rfl,hbk,hx0,hx1,hx2,hx3,hr1,hr2,hn1,hn2,hp⟩:=qs_at h hjl
   obtain ⟨hy0,hy1,hy2,hy3⟩:=qs_cells hB hbk hx0 hx1 hx2 hx3
   obtain ⟨W2,HW2⟩:∃ W,W=wr.alloc (.cells #[.bool s1,.slice A1 n1 c1,.bool s2,.slice A2 n2 c2] 47):=⟨_,rfl⟩
   have hb2:Below wr.heap.size wr W2:=by rw [HW2];exact bA
   have hB2:=hB.trans (hb2.mono hB.size)
   have HO:=ah (ho.next hb2)
   have HRD:=ah (cJ (hr1.next hB2) (hr2.next hB2))
   have HB2:=ah hB2
   have HNN:=ah (cJ (nT hn1 hN) (nT hn2 hN))
   have HW2:=ah HW2
   clear ho hB hb2 hB2 hr1 hr2 hx0 hx1 hx2 hx3
   go_wp2_with fail
   rw [<- HW2.out]
   clear HW2 hy0 hy1 hy2 hy3
   clear HW2
   by_cases hd0:d1=0
   ·subst hd0
    have HEX:=ah (show ∃ p ∈ L,p.2=0 from ⟨(z1,0),gM hp.out,rfl⟩)
    refine (qnorm_zero HRD.out.2 HNN.out.2).mono ?_
    rintro _ W3 ⟨rfl,hb3⟩
    have HB4:=ah ((HB2.out.trans (hb3.mono HB2.out.size)).alloc (nT HB2.out.size hb3.size) (.cells #[.bool false,.slice none 0 0,.bool false,.slice none 0 0] 47))
    go_wp2
    exact bodyPost_ret (by simp [results,Tryz.results110,go_sem]) rfl (.inr ⟨HEX.out,rfl,HB4.out⟩)
   ·have HD1:=ah hd0
    clear hd0
    refine (qnorm_any HRD.out.1 HRD.out.2 HNN.out.1 HNN.out.2 HD1.out).mono ?_
    rintro _ W3 ⟨s3,A3,n3,c3,s4,A4,n4,c4,y,rfl,ho3,hy,hb3⟩
    have hB3:=HB2.out.trans (hb3.mono HB2.out.size)
    obtain ⟨W4,HW4⟩:∃ W,W=W3.alloc (.cells #[.bool s3,.slice A3 n3 c3,.bool s4,.slice A4 n4 c4] 47):=⟨_,rfl⟩
    have hb4:Below W3.heap.size W3 W4:=by rw [HW4];exact bA
    have hB4:=hB3.trans (hb4.mono hB3.size)
    obtain ⟨E,hE,hEl,hEn⟩:=(HO.out.next hb3).next hb4
    have HO4:=ah ((ho3.base HB2.out.size).next hb4)
    rw [HW4] at hE hB4 hEn
    rw [HW4] at HO4
    have HE:=ah hE
    have HEN:=ah (cJ hEl hEn)
    have HM2:=ah (show M ++ [y]=(L.take (j+1)).map qval by rw [hM.out,hy.out];exact mapq_snoc hp.out)
    have HNE2:=ah (show ∀ (i:Nat) (p:Int × Int),i < j+1->L[i]?=some p->p.2 ≠ 0 from fun i p hi hq=>by
     rcases Nat.lt_or_ge i j with h1 | h1
     ·exact hne.out i p h1 hq
     ·rw [show i=j by omega,hp.out] at hq
      injection hq with hq
      rw [<- hq]
      exact HD1.out)
    have HB4:=ah hB4
    clear hE hEl hEn hb3 ho3 hb4 hB3 hB4 hy HO hne hM
    clear HW4
    go_wp2_with (at_builtin;refine wpList_append_own _ rfl _ _ 73 rfl w.heap.size 47 i0 (.agg #[.bool false,.slice none 0 0,.bool false,.slice none 0 0]) 4 64 Tryz.underlying73 hi hz0 hz1 hz2 rfl (by decide) _ _ _ rfl (HE.out.alloc _) ⟨W3.heap.size+1,0,none⟩ 1 1 [.bool s3,.slice A3 n3 c3,.bool s4,.slice A4 n4 c4] rfl rfl (by simpa using qcell_new (W3.alloc (.cells #[.bool s3,.slice A3 n3 c3,.bool s4,.slice A4 n4 c4] 47)) (.bool s3) (.slice A3 n3 c3) (.bool s4) (.slice A4 n4 c4) 47) (by simp [Value.oneCell']) (by unfold maxLen;omega) (by omega) (by have:=HB4.out.size;simp at this ⊢;omega) ?_;intro v' w1 hown' hgrow _)
    have hmore:=qs_more (e:=((s3,A3,n3,c3),(s4,A4,n4,c4))) (x:=y) HO4.out rfl (HE.out.alloc _) HEN.out.1 HEN.out.2 hown' hgrow
    have HB5:=ah ((HB4.out.alloc HB4.out.size (.cells #[.bool s3,.slice A3 n3 c3,.bool s4,.slice A4 n4 c4] 47)).grown hgrow (by have:=HB4.out.size;simp at this ⊢;omega) (own_block HE.out))
    obtain ⟨A5,c5,rfl,ho5⟩:=hmore
    clear hown' hgrow HE HEN HO4
    go_wp2
    go_roundw
    case rel=>exact ⟨j+1,c5,A5,M ++ [y],rfl,by go_num,by omega,ho5,HM2,HNE2,HB5.out⟩
    case measure=>simp [intOf];omega
def QB (w:World)(g:Nat)(E:List (Ent × Ent)):Prop:=w.heap[g]?=some (.cells (qcs E).toArray 47 (0,0))
def EntJ (w:World)(b:Nat)(E:List (Ent × Ent))(f:Nat->Rat)(m:Nat):Prop:=∀ (i:Nat) (e:Ent × Ent),E[i]?=some e->i < m->OwQ w b e.1.1 e.1.2.1 e.1.2.2.1 e.1.2.2.2 e.2.1 e.2.2.1 e.2.2.2.1 e.2.2.2.2 (f i)
def setQ (w:World)(g j:Nat)(e:Ent × Ent):World:=(((w.setCell ⟨g,j*4,none⟩ (.bool e.1.1)).setCell ⟨g,j*4+1,none⟩ (.slice e.1.2.1 e.1.2.2.1 e.1.2.2.2)).setCell ⟨g,j*4+2,none⟩ (.bool e.2.1)).setCell ⟨g,j*4+3,none⟩ (.slice e.2.2.1 e.2.2.2.1 e.2.2.2.2)
theorem qcs_set (E:List (Ent × Ent))(j:Nat)(e:Ent × Ent):qcs (E.set j e)=((((qcs E).set (j*4) (.bool e.1.1)).set (j*4+1) (.slice e.1.2.1 e.1.2.2.1 e.1.2.2.2)).set (j*4+2) (.bool e.2.1)).set (j*4+3) (.slice e.2.2.1 e.2.2.2.1 e.2.2.2.2):=by
 induction E generalizing j with
 | nil=>rfl
 | cons x E ih =>
   cases j with
   | zero=>rw [List.set_cons_zero,qcs_cons,qcs_cons];rfl
   | succ j =>
     rw [List.set_cons_succ,qcs_cons,qcs_cons,ih]
     rw [show (j+1)*4=j*4+4 by omega]
     rfl
section
variable {w w':World}{g b b':Nat}{E:List (Ent × Ent)}{f:Nat->Rat}{m:Nat}
theorem QB.lt (h:QB w g E):g < w.heap.size:=(Array.getElem?_eq_some_iff.1 h).1
theorem QB.frozen (h:QB w g E)(j:Nat):w.frozen? ⟨g,j,none⟩=false:=frozen_of_row w g j _ _ h
theorem QB.cells (h:QB w g E){j:Nat}{e:Ent × Ent}(he:E[j]?=some e):w.cell? ⟨g,j*4,none⟩=some (.bool e.1.1)/\w.cell? ⟨g,j*4+1,none⟩=some (.slice e.1.2.1 e.1.2.2.1 e.1.2.2.2)/\w.cell? ⟨g,j*4+2,none⟩=some (.bool e.2.1)/\w.cell? ⟨g,j*4+3,none⟩=some (.slice e.2.2.1 e.2.2.2.1 e.2.2.2.2):=by
 have hq:=qcs_at E j e he
 have hc:∀ i,i < 4->∀ v,(qc e)[i]?=some v->w.cell? ⟨g,j*4+i,none⟩=some v:=fun i hi v hv=>by
  rw [cell_of_row w g _ _ _ _ h]
  simpa using (hq i hi).trans hv
 exact ⟨hc 0 (by omega) _ rfl,hc 1 (by omega) _ rfl,hc 2 (by omega) _ rfl,hc 3 (by omega) _ rfl⟩
theorem QB.store (h:QB w g E)(j:Nat)(e:Ent × Ent):QB (setQ w g j e) g (E.set j e):=by
 unfold QB setQ at *
 rw [qcs_set]
 simp [World.setCell,Array.getElem?_modify,h]
theorem QB.next (h:QB w g E)(hb:Below w.heap.size w w'):QB w' g E:=(hb.block g h.lt).trans h
theorem keep_setQ {g:Nat}{cs:Array Value}{t:TypeId}{fr:Nat × Nat}(ht:t ≠ 171)(h:w.heap[g]?=some (.cells cs t fr))(j:Nat)(e:Ent × Ent):KeepT w (setQ w g j e):=fun i cs' f' hi=>by
 have hne:i ≠ g:=by
  rintro rfl
  rw [h] at hi
  injection hi with hi
  injection hi with _ hi
  exact ht hi
 unfold setQ
 rw [Below.heap_setCell _ (⟨g,j*4+3,none⟩:Addr) _ i hne,Below.heap_setCell _ (⟨g,j*4+2,none⟩:Addr) _ i hne,Below.heap_setCell _ (⟨g,j*4+1,none⟩:Addr) _ i hne,Below.heap_setCell _ (⟨g,j*4,none⟩:Addr) _ i hne]
 exact hi
theorem QB.keep (h:QB w g E)(j:Nat)(e:Ent × Ent):KeepT w (setQ w g j e):=keep_setQ (by decide) h j e
theorem below_setQ {B:Nat}(hb:Below B w w')(hg:B<=g)(j:Nat)(e:Ent × Ent):Below B w (setQ w' g j e) :=
 (((hb.setCell (p:=⟨g,j*4,none⟩) hg _).setCell (p:=⟨g,j*4+1,none⟩) hg _).setCell (p:=⟨g,j*4+2,none⟩) hg _).setCell (p:=⟨g,j*4+3,none⟩) hg _
theorem EntJ.next (h:EntJ w b E f m)(hb:Below w.heap.size w w'):EntJ w' b E f m:=fun i e he hi=>(h i e he hi).next hb
theorem EntJ.keep (h:EntJ w b E f m)(hk:KeepT w w'):EntJ w' b E f m:=fun i e he hi=>(h i e he hi).keep hk
theorem EntJ.store (h:EntJ w b E f m)(hz:QB w g E){e:Ent × Ent}(he:OwQ w b e.1.1 e.1.2.1 e.1.2.2.1 e.1.2.2.2 e.2.1 e.2.2.1 e.2.2.2.1 e.2.2.2.2 (f m)):EntJ (setQ w g m e) b (E.set m e) f (m+1):=by
 intro i e' h' hi
 by_cases hij:i=m
 ·subst hij
  have hl:i < E.length:=by
   rcases Nat.lt_or_ge i E.length with h1 | h1
   ·exact h1
   ·rw [gN (by rw [List.length_set];exact h1)] at h';cases h'
  rw [List.getElem?_set_self hl] at h'
  injection h' with h'
  subst h'
  exact he.keep (hz.keep i e)
 ·rw [List.getElem?_set_ne (Ne.symm hij)] at h'
  exact (h i e' h' (by omega)).keep (hz.keep m e)
theorem QB.own (h:QB w g E)(hE:EntJ w b E f m)(hb:b<=g)(hm:E.length=m)(hx:m<=maxLen):OwQp w b (some ⟨g,0,none⟩) m m ((List.range m).map f):=by
 refine ⟨E,hm,⟨by simp [hm],fun j e z he hz=>?_⟩,nR,hx,.inr ⟨g,_,rfl,hb,h,fun i v hv=>by simpa using hv⟩⟩
 have hj:j < m:=by
  rcases Nat.lt_or_ge j m with h1 | h1
  ·exact h1
  ·rw [gN (by omega)] at he;cases he
 rw [List.getElem?_map,List.getElem?_range hj] at hz
 simp at hz
 rw [<- hz]
 exact hE j e he hj
end
def zq:Ent × Ent:=((false,none,0,0),(false,none,0,0))
theorem qcs_zeros (n:Nat):(qcs (List.replicate n zq)).toArray=madeCells #[.bool false,.slice none 0 0,.bool false,.slice none 0 0] (n*4):=by
 apply Array.ext
 ·simp [qcs_len,size_madeCells]
 ·intro i h1 h2
  have hi:i < n*4:=by simpa [qcs_len] using h1
  have hj:i / 4 < n:=by omega
  have hq:=qcs_at (List.replicate n zq) (i / 4) zq (by simp [hj]) (i % 4) (by omega)
  rw [show i / 4*4+i % 4=i by omega,gE (by rw [qcs_len];simpa using hi)] at hq
  simp only [List.getElem_toArray]
  have h4:i % 4 < 4:=by omega
  have e0:some ((qcs (List.replicate n zq))[i]'(by rw [qcs_len];simpa using hi))=(#[Value.bool false,.slice none 0 0,.bool false,.slice none 0 0])[i % 4]?:=by
   rw [hq]
   rcases (show i % 4=0 ∨ i % 4=1 ∨ i % 4=2 ∨ i % 4=3 by omega) with e | e | e | e <;> rw [e] <;> rfl
  have e1:(madeCells #[Value.bool false,.slice none 0 0,.bool false,.slice none 0 0] (n*4))[i]=(#[Value.bool false,.slice none 0 0,.bool false,.slice none 0 0])[i % 4]'h4:=by
   simp [madeCells]
   rw [gE h4]
   rfl
  rw [Array.getElem?_eq_getElem h4] at e0
  injection e0 with e0
  rw [e0,e1]
theorem make_qs {t:TypeId}(ht:Tryz.prog.underlying t=some (.slice 47))(n:Nat)(hn:n<=1099511627776)(w:World) :
  (Instr.makeSlice t (.int .i64 (n:Int)) (.int .i64 (n:Int))).run Tryz.prog w=.ok (.slice (some ⟨w.heap.size,0,none⟩) n n) (w.alloc (.cells (qcs (List.replicate n zq)).toArray 47)):=by
 obtain ⟨i0,hi,hz0,hz1,hz2⟩:=info_parts infoQ
 have h:=run_make (P:=Tryz.prog) w t 47 i0 _ ht hi hz0 .i64 .i64 (n:Int) (n:Int) (by omega) (Int.le_refl _) (by rw [hz2];omega) (by omega)
 rw [hz1] at h
 rw [qcs_zeros]
 exact h
theorem QB.made (w:World)(n:Nat):QB (w.alloc (.cells (qcs (List.replicate n zq)).toArray 47)) w.heap.size (List.replicate n zq):=heap_alloc_new w _
theorem EntJ.zero (w:World)(b:Nat)(E:List (Ent × Ent))(f:Nat->Rat):EntJ w b E f 0:=fun _ _ _ hi=>absurd hi (Nat.not_lt_zero _)
theorem qval_zero {z d:Int}(hd:d ≠ 0):Rat.divInt z d=0 ↔ z=0:=by
 constructor
 ·intro e
  exact Classical.byContradiction fun h=>divInt_ne h hd e
 ·rintro rfl
  exact Rat.zero_divInt d
theorem rqnorm_any {N:Nat}{A:Option Addr}{n c:Nat}{L:List (Int × Int)}{w:World}(h:RdQs w w.heap.size N A n c L)(hd:∀ p ∈ L,p.2 ≠ 0)(hn:n<=1048576)(hN:N<=1000000000000) :
  Calls Tryz.prog 54 #[.slice A n c] w (RetPq (Pq.co (L.map qval)) w):=by
 have HLEN:=ah h.len
 have HD:=ah hd
 have hle:=h.le
 have hmx:=h.mx
 clear hd
 go_enter Tryz.func54,Tryz.ntmps54
 go_upto_block 0 with fail
 go_cut [3] from 8 to 20 (fun kv wr=>∃ k:Nat,kv=.int .i64 k/\k<=n/\Hid (∀ i,k<=i->Pq.co (L.map qval) i=0)/\Hid (k=0 ∨ Pq.co (L.map qval) (k-1) ≠ 0)/\Below w.heap.size w wr)
 case first =>
  go_wp2_with fail
  go_loopw [3] (fun kv wr=>∃ k:Nat,kv=.int .i64 k/\k<=n/\Hid (∀ i,k<=i->Pq.co (L.map qval) i=0)/\Below w.heap.size w wr) (fun kv _=>(intOf kv).toNat)
  case atStart=>exact ⟨n,rfl,nR,ah fun i hi=>Pq.co_ge (by rw [List.length_map,HLEN.out];exact hi),bR⟩
  case round =>
   obtain ⟨k,rfl,hk,hZ,hB⟩:=hrel
   rcases Nat.eq_zero_or_pos k with h0 | h0
   ·subst h0
    go_wp2
    go_meet
    exact ⟨0,rfl,nZ,hZ,ah (.inl rfl),hB⟩
   ·obtain ⟨j,rfl⟩:∃ j,k=j+1:=⟨k-1,by omega⟩
    obtain ⟨ad,s1,A1,n1,c1,s2,A2,n2,c2,z1,d1,rfl,hbk,hx0,hx1,hx2,hx3,hr1,hr2,hn1,hn2,hp⟩:=qs_at h (show j < n by omega)
    obtain ⟨hy0,hy1,hy2,hy3⟩:=qs_cells hB hbk hx0 hx1 hx2 hx3
    have HD1:=ah (show d1 ≠ 0 from HD.out _ (gM hp.out))
    have HV:=ah (show Pq.co (L.map qval) j=Rat.divInt z1 d1 from Pq.co_get (by rw [List.getElem?_map,hp.out];rfl))
    clear hx0 hx1 hx2 hx3
    go_wp2_with fail
    refine (rQSign_any (hr1.next hB) (hr2.next hB) (by omega) (by omega)).mono ?_
    rintro _ W2 ⟨kz,rfl,hkz,hb2⟩
    have hB2:=hB.trans (hb2.mono hB.size)
    have HZ:=ah (show kz=0 ↔ Pq.co (L.map qval) j=0 by
     rw [hkz.out,HV.out,qval_zero HD1.out]
     exact ⟨fun e=>e.resolve_right HD1.out,.inl⟩)
    clear hb2 hy0 hy1 hy2 hy3
    by_cases hk0:kz=0
    ·have HC:=ah (HZ.out.1 hk0)
     subst hk0
     go_wp2
     go_roundw
     case rel=>exact ⟨j,by go_num,by omega,ah fun i hi=>by
      rcases Nat.lt_or_ge j i with h1 | h1
      ·exact hZ.out i h1
      ·rw [show i=j by omega];exact HC.out,hB2⟩
     case measure=>simp [intOf]
    ·have HC:=ah (mt HZ.out.2 hk0)
     have hkb:(kz == 0)=false:=by simpa using hk0
     clear hk0
     go_wp2
     go_meet
     exact ⟨j+1,by go_num,hk,hZ,ah (.inr HC.out),hB2⟩
 case rest =>
  obtain ⟨kk,rfl,hk,hZ,HKK,hB⟩:=hcut
  have hmk:=make_qs Tryz.underlying73 kk (by omega)
  have hZ0:=QB.made wc kk
  have hB0:=hB.alloc hB.size (.cells (qcs (List.replicate kk zq)).toArray 47)
  have HNZ:=ah (show Pq.IsP (Pq.co (L.map qval)) ((L.map qval).take kk) from ⟨Pq.nz_take (by rw [List.length_map,HLEN.out];exact hk) (HKK.out),Pq.co_take_all hZ.out⟩)
  go_wp2_with fail
  obtain ⟨g,hg⟩:∃ g,g=wc.heap.size:=⟨_,rfl⟩
  generalize wc.alloc (.cells (qcs (List.replicate kk zq)).toArray 47)=W3 at *
  rw [<- hg] at hZ0 ⊢
  have HG:=ah (show w.heap.size<=g by rw [hg];exact hB.size)
  clear hmk hg
  go_loopw [25] (fun iv wr=>∃ (i:Nat) (E:List (Ent × Ent)),iv=.int .i64 i/\i<=kk/\QB wr g E/\Hid (E.length=kk)/\EntJ wr w.heap.size E (Pq.co (L.map qval)) i/\Below w.heap.size w wr) (fun iv _=>kk-(intOf iv).toNat)
  case atStart=>exact ⟨0,_,rfl,nZ,hZ0,ah (by simp),EntJ.zero _ _ _ _,hB0⟩
  case round =>
   clear hZ0 hB0
   obtain ⟨i,E,rfl,hi,hZB,hEl,hE,hBi⟩:=hrel
   by_cases hik:i=kk
   ·have hki:=hik.symm
    subst hki
    clear hik
    have HO:=ah (hZB.own hE HG.out hEl.out (by unfold maxLen;omega))
    go_wp2
    go_ret
    refine ⟨_,_,_,_,rfl,HO.out,ah ?_,hBi⟩
    have e:(List.range kk).map (Pq.co (L.map qval))=(L.map qval).take kk:=by
     apply List.ext_getElem?
     intro t
     rcases Nat.lt_or_ge t kk with ht | ht
     ·rw [List.getElem?_map,List.getElem?_range ht,List.getElem?_take_of_lt ht,Pq.get_co (by rw [List.length_map,HLEN.out];omega)]
      rfl
     ·rw [gN (by simpa using ht),gN (by rw [List.length_take];omega)]
    rw [e]
    exact HNZ.out
   ·have hil:i < kk:=by omega
    clear hik
    have hili:(i:Int) < (kk:Nat):=by omega
    have hiln:i < n:=by omega
    have hilni:(i:Int) < (n:Int):=by omega
    obtain ⟨ad,s1,A1,n1,c1,s2,A2,n2,c2,z1,d1,rfl,hbk,hx0,hx1,hx2,hx3,hr1,hr2,hn1,hn2,hp⟩:=qs_at h hiln
    obtain ⟨hy0,hy1,hy2,hy3⟩:=qs_cells hBi hbk hx0 hx1 hx2 hx3
    have HD1:=ah (show d1 ≠ 0 from HD.out _ (gM hp.out))
    have HV:=ah (show Pq.co (L.map qval) i=Rat.divInt z1 d1 from Pq.co_get (by rw [List.getElem?_map,hp.out];rfl))
    go_wp2_with fail
    refine (rQNorm_any (hr1.next hBi) (hr2.next hBi) (by omega) (by omega) HD1.out).mono ?_
    rintro _ W4 ⟨s4,A4,n4,c4,s5,A5,n5,c5,y,rfl,ho4,hz4,hb4⟩
    have hB4:=hBi.trans (hb4.mono hBi.size)
    have hZ4:=hZB.next hb4
    have hE4:=hE.next hb4
    obtain ⟨e,he⟩:∃ e,E[i]?=some e:=⟨E[i]'(by rw [hEl.out];exact hil),gE _⟩
    obtain ⟨k0,k1,k2,k3⟩:=hZ4.cells he
    have f0:=hZ4.frozen (i*4)
    have f1:=hZ4.frozen (i*4+1)
    have f2:=hZ4.frozen (i*4+2)
    have f3:=hZ4.frozen (i*4+3)
    have HZ5:=ah (hZ4.store i ((s4,A4,n4,c4),(s5,A5,n5,c5)))
    have HE5:=ah (hE4.store (e:=((s4,A4,n4,c4),(s5,A5,n5,c5))) hZ4 (by have:=ho4.base (b':=w.heap.size) hBi.size;rw [hz4.out,<- HV.out] at this;exact this))
    have HB5:=ah (below_setQ hB4 HG.out i ((s4,A4,n4,c4),(s5,A5,n5,c5)))
    unfold setQ at HZ5 HE5 HB5
    clear hx0 hx1 hx2 hx3 hy0 hy1 hy2 hy3 hr1 hr2 hb4 hZB hE hBi he hZ4 hE4 hB4 ho4
    go_wp2_with fail
    go_roundw
    case rel=>exact ⟨i+1,E.set i ((s4,A4,n4,c4),(s5,A5,n5,c5)),by go_num,by omega,HZ5.out,ah (by rw [List.length_set];exact hEl.out),HE5.out,HB5.out⟩
    case measure=>simp [intOf];omega
end Go.Proofs.YtjnklbfhelbjgaaGreat
namespace Mx
section
variable {E:Nat → Nat → Rat}{n a b t:Nat}{LL MM:List (List Rat)}
end
end Mx
namespace Go.Proofs.YtjnklbfhelbjgaaGreat
open Go.RowKit Go.IntWalk
section
variable {w w':World}{b b' B g:Nat}{A:Option Addr}{k c N:Nat}{G:List Nat}{EE:Nat->List (Ent × Ent)}{F:Nat->Nat->Rat}
end
end Go.Proofs.YtjnklbfhelbjgaaGreat
namespace Pq
def hor (a:Nat → Rat)(x:Rat)(n:Nat):Nat → Rat
 | 0=>0
 | d+1=>hor a x n d*x+a (n-1-d)
def psum (a:Nat → Rat)(x:Rat):Nat → Rat
 | 0=>0
 | i+1=>psum a x i+a i*x ^ i
theorem hor_succ (a:Nat → Rat)(x:Rat)(n d:Nat):hor a x n (d+1)=hor a x n d*x+a (n-1-d):=rfl
theorem psum_succ (a:Nat → Rat)(x:Rat)(i:Nat):psum a x (i+1)=psum a x i+a i*x ^ i:=rfl
theorem hor_psum (a:Nat → Rat)(x:Rat)(n:Nat):∀ d,d ≤ n → hor a x n d*x ^ (n-d)+psum a x (n-d)=psum a x n
 | 0,_=>by simp [hor,Rat.zero_add]
 | d + 1, h => by
   have ih:=hor_psum a x n d (by omega)
   obtain ⟨k,hk⟩:∃ k,n-d=k+1:=⟨n-d-1,by omega⟩
   rw [hk,psum_succ] at ih
   rw [hor_succ,show n-(d+1)=k by omega,show n-1-d=k by omega,← ih,Rat.pow_succ]
   generalize x ^ k=p
   generalize psum a x k=s
   generalize hor a x n d=y
   generalize a k=z
   grind
theorem hor_all (a:Nat → Rat)(x:Rat)(n:Nat):hor a x n n=psum a x n:=by
 have h:=hor_psum a x n n (Nat.le_refl _)
 rw [Nat.sub_self] at h
 simpa [psum,Rat.add_zero] using h
theorem psum_up {a:Nat → Rat}{x:Rat}{n:Nat}(h:∀ i,n ≤ i → a i=0):∀ k,psum a x (n+k)=psum a x n
 | 0=>rfl
 | k + 1 => by
   rw [show n+(k+1)=n+k+1 by omega,psum_succ,psum_up h k,h _ (by omega)]
   grind
theorem psum_congr {a b:Nat → Rat}{x:Rat}(h:∀ i,a i=b i):∀ n,psum a x n=psum b x n
 | 0=>rfl
 | n+1=>by rw [psum_succ,psum_succ,psum_congr h n,h]
end Pq
namespace Go.Proofs.YtjnklbfhelbjgaaGreat
theorem hor_qs {a:Nat->Rat}{x:Rat}{N N':Nat}(ha:∀ i,Qs N (a i))(hx:Qs N' x)(n:Nat):∀ d,Qs (1+d*(N'+N+1)) (Pq.hor a x n d)
 | 0=>Qs.zero (by omega)
 | d + 1 => by
   have ih:=hor_qs ha hx n d
   rw [Pq.hor_succ,Nat.succ_mul]
   exact ((ih.mul hx).add (ha _)).mono (by omega)
theorem psum_qs {a:Nat->Rat}{x:Rat}{N N':Nat}(ha:∀ i,Qs N (a i))(hx:Qs N' x):∀ i,∃ (z d e:Int),d ≠ 0/\e ≠ 0/\Pq.psum a x i=Rat.divInt z (d*e)/\x ^ i=Rat.divInt (x.num ^ i) e/\Zz.zl z<=2+i*(N'+N+1)/\Zz.zl d<=1+i*N/\Zz.zl e<=1+i*N'/\Zz.zl (x.num ^ i)<=1+i*N'
 | 0=>⟨0,1,1,by decide,by decide,rfl,by simp;rfl,by rw [Zz.zl_zero];omega,nT (Zz.zl_small (by decide)) (by omega),nT (Zz.zl_small (by decide)) (by omega),nT (Zz.zl_small (by simp)) (by omega)⟩
 | i + 1 => by
   obtain ⟨z,d,e,hd,he,h1,h2,h3,h4,h5,h6⟩:=psum_qs ha hx i
   have hxd:=qden_ne x
   have had:=qden_ne (a i)
   refine ⟨z*(x.den*(a i).den)+(a i).num*x.num ^ i*d*x.den,d*(a i).den,e*x.den,Int.mul_ne_zero hd had,Int.mul_ne_zero he hxd,?_,?_,?_,?_,?_,?_⟩
   ·rw [Pq.psum_succ,h1,h2]
    conv=>lhs;rw [<- Rat.num_divInt_den (a i)]
    rw [Rat.divInt_mul_divInt,Rat.divInt_add_divInt _ _ (Int.mul_ne_zero hd he) (Int.mul_ne_zero had he)]
    rw [Rat.divInt_eq_divInt_iff (Int.mul_ne_zero (Int.mul_ne_zero hd he) (Int.mul_ne_zero had he)) (Int.mul_ne_zero (Int.mul_ne_zero hd had) (Int.mul_ne_zero he hxd))]
    grind
   ·rw [Rat.pow_succ,h2]
    conv=>lhs;rw [<- Rat.num_divInt_den x]
    rw [Rat.divInt_mul_divInt]
    simp only [Rat.num_divInt_den,Int.pow_succ]
   ·have e1:=Zz.zl_add (z*(x.den*(a i).den)) ((a i).num*x.num ^ i*d*x.den)
    have e2:=Zz.zl_mul z (x.den*(a i).den)
    have e3:=Zz.zl_mul x.den (a i).den
    have e4:=Zz.zl_mul ((a i).num*x.num ^ i*d) x.den
    have e5:=Zz.zl_mul ((a i).num*x.num ^ i) d
    have e6:=Zz.zl_mul (a i).num (x.num ^ i)
    have e7:=ha i
    have e8:=e7.1
    have e9:=e7.2
    have f1:=hx.1
    have f2:=hx.2
    have f3:(i+1)*(N'+N+1)=i*(N'+N+1)+(N'+N+1):=Nat.succ_mul _ _
    have f4:i*(N'+N+1)=i*N'+i*N+i:=by rw [Nat.mul_add,Nat.mul_add,Nat.mul_one]
    omega
   ·have e2:=Zz.zl_mul d (a i).den
    have e3:=(ha i).2
    have f3:(i+1)*N=i*N+N:=Nat.succ_mul _ _
    omega
   ·have e2:=Zz.zl_mul e x.den
    have e3:=hx.2
    have f3:(i+1)*N'=i*N'+N':=Nat.succ_mul _ _
    omega
   ·have e2:=Zz.zl_mul (x.num ^ i) x.num
    have e3:=hx.1
    have f3:(i+1)*N'=i*N'+N':=Nat.succ_mul _ _
    rw [Int.pow_succ]
    omega
theorem psum_sz {a:Nat->Rat}{x:Rat}{N N':Nat}(ha:∀ i,Qs N (a i))(hx:Qs N' x)(i:Nat):Qs (2+i*(N'+N+1)) (Pq.psum a x i)/\Qs (1+i*N') (x ^ i):=by
 obtain ⟨z,d,e,hd,he,h1,h2,h3,h4,h5,h6⟩:=psum_qs ha hx i
 have f4:i*(N'+N+1)=i*N'+i*N+i:=by rw [Nat.mul_add,Nat.mul_add,Nat.mul_one]
 constructor
 ·rw [h1]
  exact Qs.divInt (Int.mul_ne_zero hd he) (by omega) (by have:=Zz.zl_mul d e;omega)
 ·rw [h2]
  exact Qs.divInt he h6 h5
end Go.Proofs.YtjnklbfhelbjgaaGreat
namespace Go.Proofs.YtjnklbfhelbjgaaGreat
open Go.RowKit Go.IntWalk
attribute [local go_sem ↓] Go.wp_at_zero Go.wp_at_succ
theorem RetQE.q {ok:Prop}{x:Rat}{w w':World}{e:Ending}(h:RetQE ok x w e w')(hk:ok):RetQ x w e w':=by
 obtain ⟨s5,A5,n5,c5,y5,s6,A6,n6,c6,y6,kk,rfl,ho5,ho6,hy,hb3⟩:=h
 rcases hy.out with ⟨_,rfl,rfl,rfl⟩ | ⟨h,_⟩
 ·exact ⟨s5,A5,n5,c5,s6,A6,n6,c6,x,rfl,⟨ho5,ho6⟩,ah rfl,hb3⟩
 ·exact absurd hk h
section
variable {N:Nat}{s1 s2 s3 s4:Bool}{A1 A2 A3 A4:Option Addr}{n1 c1 n2 c2 n3 c3 n4 c4:Nat}{x y:Rat}{w:World}
theorem qmulq_any (h1:RdZ w w.heap.size s1 A1 n1 c1 x.num)(h2:RdZ w w.heap.size s2 A2 n2 c2 (x.den:Int))(h3:RdZ w w.heap.size s3 A3 n3 c3 y.num)(h4:RdZ w w.heap.size s4 A4 n4 c4 (y.den:Int))(hn:n1<=N/\n2<=N/\n3<=N/\n4<=N)(hN:N<=200000000000) :
  Calls Tryz.prog 115 #[.agg #[.bool s1,.slice A1 n1 c1,.bool s2,.slice A2 n2 c2],.agg #[.bool s3,.slice A3 n3 c3,.bool s4,.slice A4 n4 c4]] w (RetQ (x*y) w) :=
 (qmul_any h1 h2 h3 h4 hn hN).mono fun e w' h=>by
  have:=h.q ⟨qden_ne x,qden_ne y⟩
  rwa [Rat.num_divInt_den,Rat.num_divInt_den] at this
theorem qaddq_any (h1:RdZ w w.heap.size s1 A1 n1 c1 x.num)(h2:RdZ w w.heap.size s2 A2 n2 c2 (x.den:Int))(h3:RdZ w w.heap.size s3 A3 n3 c3 y.num)(h4:RdZ w w.heap.size s4 A4 n4 c4 (y.den:Int))(hn:n1<=N/\n2<=N/\n3<=N/\n4<=N)(hN:N<=200000000000) :
  Calls Tryz.prog 116 #[.agg #[.bool s1,.slice A1 n1 c1,.bool s2,.slice A2 n2 c2],.agg #[.bool s3,.slice A3 n3 c3,.bool s4,.slice A4 n4 c4]] w (RetQ (x+y) w) :=
 (qadd_any h1 h2 h3 h4 hn hN).mono fun e w' h=>by
  have:=h.q ⟨qden_ne x,qden_ne y⟩
  rwa [Rat.num_divInt_den,Rat.num_divInt_den] at this
theorem qsubq_any (h1:RdZ w w.heap.size s1 A1 n1 c1 x.num)(h2:RdZ w w.heap.size s2 A2 n2 c2 (x.den:Int))(h3:RdZ w w.heap.size s3 A3 n3 c3 y.num)(h4:RdZ w w.heap.size s4 A4 n4 c4 (y.den:Int))(hn:n1<=N/\n2<=N/\n3<=N/\n4<=N)(hN:N<=200000000000) :
  Calls Tryz.prog 225 #[.agg #[.bool s1,.slice A1 n1 c1,.bool s2,.slice A2 n2 c2],.agg #[.bool s3,.slice A3 n3 c3,.bool s4,.slice A4 n4 c4]] w (RetQ (x-y) w) :=
 (qsub_any h1 h2 h3 h4 hn hN).mono fun e w' h=>by
  have:=h.q ⟨qden_ne x,qden_ne y⟩
  rwa [Rat.num_divInt_den,Rat.num_divInt_den] at this
theorem qquoq_any (h1:RdZ w w.heap.size s1 A1 n1 c1 x.num)(h2:RdZ w w.heap.size s2 A2 n2 c2 (x.den:Int))(h3:RdZ w w.heap.size s3 A3 n3 c3 y.num)(h4:RdZ w w.heap.size s4 A4 n4 c4 (y.den:Int))(hn:n1<=N/\n2<=N/\n3<=N/\n4<=N)(hN:N<=200000000000)(h0:y ≠ 0) :
  Calls Tryz.prog 224 #[.agg #[.bool s1,.slice A1 n1 c1,.bool s2,.slice A2 n2 c2],.agg #[.bool s3,.slice A3 n3 c3,.bool s4,.slice A4 n4 c4]] w (RetQ (x / y) w) :=
 (qquo_any h1 h2 h3 h4 hn hN (fun e=>h0 (Rat.num_eq_zero.1 e))).mono fun e w' h=>by
  have:=h.q ⟨qden_ne x,qden_ne y⟩
  rwa [Rat.num_divInt_den,Rat.num_divInt_den] at this
theorem qinvq_any (h1:RdZ w w.heap.size s1 A1 n1 c1 x.num)(h2:RdZ w w.heap.size s2 A2 n2 c2 (x.den:Int))(hn:n1<=N/\n2<=N)(hN:N<=200000000000)(h1N:1<=N)(h0:x ≠ 0) :
  Calls Tryz.prog 207 #[.agg #[.bool s1,.slice A1 n1 c1,.bool s2,.slice A2 n2 c2]] w (RetQ x⁻¹ w) :=
 (qinv_any h1 h2 hn hN h1N (fun e=>h0 (Rat.num_eq_zero.1 e))).mono fun e w' h=>by
  have:=h.q (qden_ne x)
  rwa [Rat.num_divInt_den] at this
end
theorem qp_at {w:World}{B N:Nat}{A:Option Addr}{n c:Nat}{L:List Rat}(h:RdQs w B N A n c (L.map pr)){j:Nat}(hj:j < n) :
  ∃ (ad:Addr) (s:Bool) (A1:Option Addr) (n1 c1:Nat) (s':Bool) (A1':Option Addr) (n1' c1':Nat) (x:Rat),A=some ad/\ad.block < B/\w.cell? (ad.add (j*4))=some (.bool s)/\w.cell? ⟨(ad.add (j*4)).block,(ad.add (j*4)).off+1,none⟩=some (.slice A1 n1 c1)/\w.cell? ⟨(ad.add (j*4)).block,(ad.add (j*4)).off+2,none⟩=some (.bool s')/\w.cell? ⟨(ad.add (j*4)).block,(ad.add (j*4)).off+3,none⟩=some (.slice A1' n1' c1')/\RdZ w B s A1 n1 c1 x.num/\RdZ w B s' A1' n1' c1' (x.den:Int)/\n1<=N/\n1'<=N/\Hid (L[j]?=some x):=by
 obtain ⟨ad,s1,A1,n1,c1,s2,A2,n2,c2,z1,d1,rfl,hbk,hx0,hx1,hx2,hx3,hr1,hr2,hn1,hn2,hp⟩:=qs_at h hj
 have e:=hp.out
 rw [List.getElem?_map] at e
 obtain ⟨x,hx,e⟩:=Option.map_eq_some_iff.1 e
 unfold pr at e
 injection e with e1 e2
 subst e1 e2
 exact ⟨ad,s1,A1,n1,c1,s2,A2,n2,c2,x,rfl,hbk,hx0,hx1,hx2,hx3,hr1,hr2,hn1,hn2,ah hx⟩
theorem RdQs.szp {w:World}{B N:Nat}{A:Option Addr}{n c:Nat}{L:List Rat}(h:RdQs w B N A n c (L.map pr))(hN:1<=N):SzQ N L:=by
 have:=h.sz (fun p hp=>by
  obtain ⟨x,_,rfl⟩:=List.mem_map.1 hp
  exact pr_ne x) hN
 rwa [List.map_map,show (qval ∘ pr)=id from funext qval_pr,List.map_id] at this
theorem RdQs.lenp {w:World}{B N:Nat}{A:Option Addr}{n c:Nat}{L:List Rat}(h:RdQs w B N A n c (L.map pr)):L.length=n:=by rw [<- h.len,List.length_map]
theorem take_snoc {f:Rat->Rat}{L:List Rat}{j:Nat}{x:Rat}(h:L[j]?=some x):(L.take j).map f ++ [f x]=(L.take (j+1)).map f:=by
 rw [List.take_add_one,h]
 simp
theorem qscale_any {N:Nat}{A:Option Addr}{n c:Nat}{L:List Rat}{s5 s6:Bool}{A5 A6:Option Addr}{n5 c5 n6 c6:Nat}{y:Rat}{w:World}(h:RdQs w w.heap.size N A n c (L.map pr))(h5:RdZ w w.heap.size s5 A5 n5 c5 y.num)(h6:RdZ w w.heap.size s6 A6 n6 c6 (y.den:Int))(hn5:n5<=N)(hn6:n6<=N)(hn:n<=1048576)(hN:N<=200000000000)(h1N:1<=N) :
  Calls Tryz.prog 258 #[.slice A n c,.agg #[.bool s5,.slice A5 n5 c5,.bool s6,.slice A6 n6 c6]] w (RetPq (fun i=>Pq.co L i*y) w):=by
 have HLEN:=ah h.lenp
 have HSY:=ah (show Qs N y from ⟨nT h5.len hn5,nT h6.len hn6⟩)
 have HSL:=ah (h.szp h1N)
 obtain ⟨i0,hi,hz0,hz1,hz2⟩:=info_parts infoQ
 obtain ⟨W1,HW1⟩:∃ W,W=w.alloc (.cells #[.bool s5,.slice A5 n5 c5,.bool s6,.slice A6 n6 c6] 47):=⟨_,rfl⟩
 have hC:QC W1 w.heap.size s5 A5 n5 c5 s6 A6 n6 c6:=by rw [HW1];exact QC.new w s5 A5 n5 c5 s6 A6 n6 c6
 have hB1:Below w.heap.size w W1:=by rw [HW1];exact bA
 have HCY:=ah (show ∀ W:World,Below W1.heap.size W1 W->QC W w.heap.size s5 A5 n5 c5 s6 A6 n6 c6/\RdZ W W.heap.size s5 A5 n5 c5 y.num/\RdZ W W.heap.size s6 A6 n6 c6 (y.den:Int)/\RdQs W W.heap.size N A n c (L.map pr) from fun W hb=>⟨hC.next hb,(h5.next hB1).next hb,(h6.next hB1).next hb,(h.next hB1).next hb⟩)
 have HB1:=ah hB1
 have HW1:=ah HW1
 clear hC hB1 h h5 h6
 go_enter Tryz.func258,Tryz.ntmps258
 go_wp2_with fail
 rw [<- HW1.out]
 clear HW1
 clear HW1
 go_loopw [5,12] (fun ov iv wr=>∃ (j c':Nat) (A':Option Addr) (M:List Rat),ov=.slice A' j c'/\iv=.int .i64 j/\j<=n/\OwQs wr W1.heap.size A' j c' M/\Hid (M=(L.take j).map fun x=>x*y)/\Below W1.heap.size W1 wr) (fun _ iv _=>n-(intOf iv).toNat)
 case atStart=>exact ⟨0,0,none,[],rfl,rfl,nZ,OwQs.nil _ _,ah rfl,bR⟩
 case round =>
  obtain ⟨j,c',A',M,rfl,rfl,hj,ho,hM,hB⟩:=hrel
  by_cases hjn:j=n
  ·subst hjn
   have HML:=ah (show M=L.map fun x=>x*y by rw [hM.out,List.take_of_length_le (by rw [HLEN.out];exact nR)])
   have HSM:=ah (show ∀ x ∈ M,Qs (N+N) x by
    rw [HML.out]
    intro x hx
    obtain ⟨u,hu,rfl⟩:=List.mem_map.1 hx
    exact (HSL.out.mem u hu).mul HSY.out)
   go_wp2_with fail
   refine (qtrim_any ho.p HSM.out (by omega) (by omega)).mono ?_
   rintro _ W4 ⟨A4,n4,c4,M4,rfl,ho4,hM4,hb4⟩
   go_wp2
   go_ret
   exact ⟨_,_,_,M4,rfl,ho4.base HB1.out.size,ah (hM4.out.congr fun i=>by rw [HML.out,Pq.co_map (Rat.zero_mul y)]),HB1.out.trans ((hB.trans (hb4.mono hB.size)).mono HB1.out.size)⟩
  ·have hjl:j < n:=by omega
   clear hjn
   have hjli:(j:Int) < (n:Int):=by omega
   obtain ⟨hC,hr5,hr6,hl⟩:=HCY.out wr hB
   obtain ⟨ad,s1,A1,n1,c1,s2,A2,n2,c2,x,rfl,hbk,hx0,hx1,hx2,hx3,hr1,hr2,hn1,hn2,hp⟩:=qp_at hl hjl
   obtain ⟨W2,HW2⟩:∃ W,W=wr.alloc (.cells #[.bool s1,.slice A1 n1 c1,.bool s2,.slice A2 n2 c2] 47):=⟨_,rfl⟩
   have hb2:Below wr.heap.size wr W2:=by rw [HW2];exact bA
   have hX2:QC W2 wr.heap.size s1 A1 n1 c1 s2 A2 n2 c2:=by rw [HW2];exact QC.new wr s1 A1 n1 c1 s2 A2 n2 c2
   have hB2:=hB.trans (hb2.mono hB.size)
   have a0:=hX2.c0
   have a1:=hX2.c1
   have a2:=hX2.c2
   have a3:=hX2.c3
   have b0:=(hC.next hb2).c0
   have b1:=(hC.next hb2).c1
   have b2:=(hC.next hb2).c2
   have b3:=(hC.next hb2).c3
   rw [HW2] at a0 a1 a2 a3 b0 b1 b2 b3
   have HO:=ah (ho.next hb2)
   have HRD:=ah (cJ (cJ (hr1.next hb2) (hr2.next hb2)) (cJ (hr5.next hb2) (hr6.next hb2)))
   have HB2:=ah hB2
   have HW2:=ah HW2
   clear ho hB hb2 hB2 hr1 hr2 hr5 hr6 hl hC hX2
   go_wp2_with fail
   rw [<- HW2.out]
   clear HW2 hx0 hx1 hx2 hx3 a0 a1 a2 a3 b0 b1 b2 b3
   clear HW2
   refine (qmulq_any (N:=N) HRD.out.1.1 HRD.out.1.2 HRD.out.2.1 HRD.out.2.2 ⟨hn1,hn2,hn5,hn6⟩ hN).mono ?_
   rintro _ W3 ⟨s3,A3,n3,c3,s4,A4,n4,c4,q,rfl,ho3,hq,hb3⟩
   have hB3:=HB2.out.trans (hb3.mono HB2.out.size)
   obtain ⟨W4,HW4⟩:∃ W,W=W3.alloc (.cells #[.bool s3,.slice A3 n3 c3,.bool s4,.slice A4 n4 c4] 47):=⟨_,rfl⟩
   have hb4:Below W3.heap.size W3 W4:=by rw [HW4];exact bA
   have hB4:=hB3.trans (hb4.mono hB3.size)
   obtain ⟨E,hE,hEl,hEn⟩:=(HO.out.next hb3).next hb4
   have HO4:=ah ((ho3.base HB2.out.size).next hb4)
   rw [HW4] at hE hB4 hEn
   rw [HW4] at HO4
   have HE:=ah hE
   have HEN:=ah (cJ hEl hEn)
   have HM2:=ah (show M ++ [q]=(L.take (j+1)).map (fun x=>x*y) by rw [hM.out,hq.out];exact take_snoc (f:=fun x=>x*y) hp.out)
   have HB4:=ah hB4
   clear hE hEl hEn hb3 ho3 hb4 hB3 hB4 hq HO hM
   clear HW4
   go_wp2_with (at_builtin;refine wpList_append_own _ rfl _ _ 73 rfl W1.heap.size 47 i0 (.agg #[.bool false,.slice none 0 0,.bool false,.slice none 0 0]) 4 64 Tryz.underlying73 hi hz0 hz1 hz2 rfl (by decide) _ _ _ rfl (HE.out.alloc _) ⟨W3.heap.size+1,0,none⟩ 1 1 [.bool s3,.slice A3 n3 c3,.bool s4,.slice A4 n4 c4] rfl rfl (by simpa using qcell_new (W3.alloc (.cells #[.bool s3,.slice A3 n3 c3,.bool s4,.slice A4 n4 c4] 47)) (.bool s3) (.slice A3 n3 c3) (.bool s4) (.slice A4 n4 c4) 47) (by simp [Value.oneCell']) (by unfold maxLen;omega) (by omega) (by have:=HB4.out.size;simp at this ⊢;omega) ?_;intro v' w1 hown' hgrow _)
   have hmore:=qs_more (e:=((s3,A3,n3,c3),(s4,A4,n4,c4))) (x:=q) HO4.out rfl (HE.out.alloc _) HEN.out.1 HEN.out.2 hown' hgrow
   have HB5:=ah ((HB4.out.alloc HB4.out.size (.cells #[.bool s3,.slice A3 n3 c3,.bool s4,.slice A4 n4 c4] 47)).grown hgrow (by have:=HB4.out.size;simp at this ⊢;omega) (own_block HE.out))
   obtain ⟨A9,c9,rfl,ho9⟩:=hmore
   clear hown' hgrow HE HEN HO4
   go_wp2
   go_roundw
   case rel=>exact ⟨j+1,c9,A9,M ++ [q],rfl,by go_num,by omega,ho9,HM2,HB5.out⟩
   case measure=>simp [intOf];omega
def RetSQ (x:Rat)(N:Nat)(w:World)(e:Ending)(w':World):Prop :=
 ∃ (s:Bool) (A:Option Addr) (n c:Nat) (s':Bool) (A':Option Addr) (n' c':Nat),e=.returned (.agg #[.bool s,.slice A n c,.bool s',.slice A' n' c'])/\RdZ w' w'.heap.size s A n c x.num/\RdZ w' w'.heap.size s' A' n' c' (x.den:Int)/\n<=N/\n'<=N/\Below w.heap.size w w'
theorem qat_any {N:Nat}{A:Option Addr}{n c:Nat}{L:List Rat}{w:World}(i:Nat)(h:RdQs w w.heap.size N A n c (L.map pr))(h1N:1<=N) :
  Calls Tryz.prog 114 #[.slice A n c,.int .i64 i] w (RetSQ (Pq.co L i) N w):=by
 have HLEN:=ah h.lenp
 by_cases hin:i < n
 ·obtain ⟨ad,s1,A1,n1,c1,s2,A2,n2,c2,x,rfl,hbk,hx0,hx1,hx2,hx3,hr1,hr2,hn1,hn2,hp⟩:=qp_at h hin
  have hini:(i:Int) < (n:Int):=by omega
  have hB1:Below w.heap.size w (w.alloc (.cells #[.bool false,.slice none 0 0,.bool false,.slice none 0 0] 47)):=(Below.refl w.heap.size w).alloc nR _
  have hZ3:=QC.new w s1 A1 n1 c1 s2 A2 n2 c2
  have hB3:Below w.heap.size w (w.alloc (.cells #[.bool s1,.slice A1 n1 c1,.bool s2,.slice A2 n2 c2] 47)):=(Below.refl w.heap.size w).alloc nR _
  have HR3:=ah (cJ (hr1.next hB3) (hr2.next hB3))
  have HV:=ah (Pq.co_get hp.out)
  obtain ⟨hy0,hy1,hy2,hy3⟩:=qs_cells hB1 hbk hx0 hx1 hx2 hx3
  clear hin hB1
  go_enter Tryz.func114,Tryz.ntmps114
  go_wp2
  generalize w.alloc (.cells #[.bool s1,.slice A1 n1 c1,.bool s2,.slice A2 n2 c2] 47)=W3 at *
  exact bodyPost_ret (by simp [results,Tryz.results114,go_sem,hZ3.c0,hZ3.c1,hZ3.c2,hZ3.c3]) rfl ⟨s1,A1,n1,c1,s2,A2,n2,c2,rfl,by rw [HV.out];exact HR3.out.1,by rw [HV.out];exact HR3.out.2,hn1,hn2,hB3⟩
 ·have hini:(n:Int)<=(i:Int):=by omega
  have HZ:=ah (show Pq.co L i=0 from Pq.co_ge (by rw [HLEN.out];omega))
  obtain ⟨W1,HW1⟩:∃ W,W=w.alloc (.cells #[.bool false,.slice none 0 0,.bool false,.slice none 0 0] 47):=⟨_,rfl⟩
  have hR:QC W1 w.heap.size false none 0 0 false none 0 0:=by rw [HW1];exact QC.new w false none 0 0 false none 0 0
  have hB:Below w.heap.size w W1:=by rw [HW1];exact bA
  have HW1:=ah HW1
  clear hin
  go_enter Tryz.func114,Tryz.ntmps114
  go_wp2_with fail
  rw [<- HW1.out]
  clear HW1
  clear HW1
  refine (qof_any 0 (by decide) (by decide) W1).mono ?_
  rintro _ W2 ⟨s2,A2,n2,c2,s3,A3,n3,c3,y2,rfl,ho2,hy2,hb2⟩
  obtain rfl:y2=0:=hy2.out
  have hR3:=hR.next hb2
  have hB3:=hB.trans (hb2.mono hB.size)
  have HN:=ah (show n2<=N/\n3<=N from ⟨by rw [ho2.num.len];exact (Qs.zero h1N).1,by rw [ho2.den.len];exact (Qs.zero h1N).2⟩)
  have r0:=hR3.c0
  have r1:=hR3.c1
  have r2:=hR3.c2
  have r3:=hR3.c3
  have f0:=hR3.fz 0
  have f1:=hR3.fz 1
  have f2:=hR3.fz 2
  have f3:=hR3.fz 3
  have HR9:=ah (hR3.store s2 A2 n2 c2 s3 A3 n3 c3)
  have HO9:=ah (ho2.keep (keep_putQ hR3 s2 A2 n2 c2 s3 A3 n3 c3))
  have HB9:=ah (below_putQ hB3 (Nat.le_refl w.heap.size) s2 A2 n2 c2 s3 A3 n3 c3)
  unfold putQ at HR9 HB9 HO9
  clear hR hR3 hB hB3 hb2 ho2 hy2
  go_wp2_with fail
  generalize (((W2.setCell ⟨w.heap.size,0,none⟩ (.bool s2)).setCell ⟨w.heap.size,1,none⟩ (.slice A2 n2 c2)).setCell ⟨w.heap.size,2,none⟩ (.bool s3)).setCell ⟨w.heap.size,3,none⟩ (.slice A3 n3 c3)=W9 at *
  have z0:=HR9.out.c0
  have z1:=HR9.out.c1
  have z2:=HR9.out.c2
  have z3:=HR9.out.c3
  exact bodyPost_ret (by simp [results,Tryz.results114,go_sem,z0,z1,z2,z3]) rfl ⟨s2,A2,n2,c2,s3,A3,n3,c3,rfl,by rw [HZ.out];exact HO9.out.num.rd,by rw [HZ.out];exact HO9.out.den.rd,HN.out.1,HN.out.2,HB9.out⟩
theorem range_snoc (f:Nat->Rat)(j:Nat):(List.range j).map f ++ [f j]=(List.range (j+1)).map f:=by
 rw [List.range_succ,List.map_append]
 rfl
theorem qboth_any {f N N2:Nat}(φ:Rat->Rat->Rat){A A':Option Addr}{n c n' c':Nat}{L L':List Rat}{w:World}(h:RdQs w w.heap.size N A n c (L.map pr))(h':RdQs w w.heap.size N A' n' c' (L'.map pr))(hn:n<=1048576)(hn':n'<=1048576)(h1N:1<=N)(hN2:N2<=17592186044416)
  (heg:∀ args w,(callFunc f args).run Tryz.prog w=.ok (.enter f args) w) (h0:φ 0 0=0) (hsz:∀ i,Qs N2 (φ (Pq.co L i) (Pq.co L' i)))
  (hdo:∀ (W:World) (s1 s2 s3 s4:Bool) (A1 A2 A3 A4:Option Addr) (n1 c1 n2 c2 n3 c3 n4 c4:Nat) (x y:Rat),RdZ W W.heap.size s1 A1 n1 c1 x.num->RdZ W W.heap.size s2 A2 n2 c2 (x.den:Int)->RdZ W W.heap.size s3 A3 n3 c3 y.num->RdZ W W.heap.size s4 A4 n4 c4 (y.den:Int)->n1<=N/\n2<=N/\n3<=N/\n4<=N->Calls Tryz.prog f #[.agg #[.bool s1,.slice A1 n1 c1,.bool s2,.slice A2 n2 c2],.agg #[.bool s3,.slice A3 n3 c3,.bool s4,.slice A4 n4 c4]] W (RetQ (φ x y) W)) :
  Calls Tryz.prog 220 #[.slice A n c,.slice A' n' c',.func (.func f) #[] #[]] w (RetPq (fun i=>φ (Pq.co L i) (Pq.co L' i)) w):=by
 have HD:=ah hdo
 have HSZ:=ah hsz
 have H0:=ah h0
 have HL:=ah (cJ h.lenp h'.lenp)
 obtain ⟨i0,hi,hz0,hz1,hz2⟩:=info_parts infoQ
 clear hdo hsz h0
 obtain ⟨m,hm⟩:∃ m,m=max n n':=⟨_,rfl⟩
 have hmx:m<=1048576:=by omega
 have hmi:max (n:Int) n'=(m:Int):=by omega
 have HM:=ah hm
 clear hm
 go_enter Tryz.func220,Tryz.ntmps220
 go_wp2_with fail
 go_loopw [7,16] (fun ov iv wr=>∃ (j c':Nat) (A':Option Addr) (M:List Rat),ov=.slice A' j c'/\iv=.int .i64 j/\j<=m/\OwQs wr w.heap.size A' j c' M/\Hid (M=(List.range j).map fun i=>φ (Pq.co L i) (Pq.co L' i))/\Below w.heap.size w wr) (fun _ iv _=>m-(intOf iv).toNat)
 case atStart=>exact ⟨0,0,none,[],rfl,rfl,nZ,OwQs.nil _ _,ah rfl,bR⟩
 case round =>
  obtain ⟨j,c5,A5,M,rfl,rfl,hj,ho,hM,hB⟩:=hrel
  by_cases hjm:j=m
  ·subst hjm
   have HSM:=ah (show ∀ x ∈ M,Qs N2 x by
    rw [hM.out]
    intro x hx
    obtain ⟨i,_,rfl⟩:=List.mem_map.1 hx
    exact HSZ.out i)
   go_wp2_with fail
   refine (qtrim_any ho.p HSM.out (by omega) hN2).mono ?_
   rintro _ W4 ⟨A4,n4,c4,M4,rfl,ho4,hM4,hb4⟩
   go_wp2
   go_ret
   refine ⟨_,_,_,M4,rfl,ho4,ah (hM4.out.congr fun i=>?_),hB.trans (hb4.mono hB.size)⟩
   rw [hM.out,Pq.co_range]
   rcases Nat.lt_or_ge i j with hi | hi
   ·rw [if_pos hi]
   ·rw [if_neg (by omega),Pq.co_ge (L:=L) (by rw [HL.out.1];have:=HM.out;omega),Pq.co_ge (L:=L') (by rw [HL.out.2];have:=HM.out;omega),H0.out]
  ·have hjl:j < m:=by omega
   have hjli:(j:Int) < (m:Int):=by omega
   clear hjm
   have HO:=ah ho
   clear ho
   go_wp2_with fail
   refine (qat_any j (h.next hB) h1N).mono ?_
   rintro _ W2 ⟨s1,A1,n1,c1,s2,A2,n2,c2,rfl,hr1,hr2,hn1,hn2,hb2⟩
   have hB2:=hB.trans (hb2.mono hB.size)
   go_wp2_with fail
   refine (qat_any j (h'.next hB2) h1N).mono ?_
   rintro _ W3 ⟨s3,A3,n3,c3,s4,A4,n4,c4,rfl,hr3,hr4,hn3,hn4,hb3⟩
   have hB3:=hB2.trans (hb3.mono hB2.size)
   go_wp2_with fail
   refine (HD.out W3 _ _ _ _ _ _ _ _ _ _ _ _ _ _ _ _ _ _ (hr1.next hb3) (hr2.next hb3) hr3 hr4 ⟨hn1,hn2,hn3,hn4⟩).mono ?_
   rintro _ W5 ⟨s5,A6,n5,c6,s6,A7,n6,c7,q,rfl,ho5,hq,hb5⟩
   have hb25:=hb2.trans ((hb3.trans (hb5.mono hb3.size)).mono hb2.size)
   have hB5:=hB.trans (hb25.mono hB.size)
   obtain ⟨W6,HW6⟩:∃ W,W=W5.alloc (.cells #[.bool s5,.slice A6 n5 c6,.bool s6,.slice A7 n6 c7] 47):=⟨_,rfl⟩
   have hb6:Below W5.heap.size W5 W6:=by rw [HW6];exact bA
   have hB6:=hB5.trans (hb6.mono hB5.size)
   obtain ⟨E,hE,hEl,hEn⟩:=(HO.out.next hb25).next hb6
   have HO4:=ah ((ho5.base hB3.size).next hb6)
   rw [HW6] at hE hB6 hEn
   rw [HW6] at HO4
   have HE:=ah hE
   have HEN:=ah (cJ hEl hEn)
   have HM2:=ah (show M ++ [q]=(List.range (j+1)).map (fun i=>φ (Pq.co L i) (Pq.co L' i)) by rw [hM.out,hq.out];exact range_snoc (fun i=>φ (Pq.co L i) (Pq.co L' i)) j)
   have HB6:=ah hB6
   clear hE hEl hEn hb2 hb3 hb5 hb25 hb6 hB hB2 hB3 hB5 hB6 ho5 hq HO hM hr1 hr2 hr3 hr4
   clear HW6
   go_wp2_with (at_builtin;refine wpList_append_own _ rfl _ _ 73 rfl w.heap.size 47 i0 (.agg #[.bool false,.slice none 0 0,.bool false,.slice none 0 0]) 4 64 Tryz.underlying73 hi hz0 hz1 hz2 rfl (by decide) _ _ _ rfl (HE.out.alloc _) ⟨W5.heap.size+1,0,none⟩ 1 1 [.bool s5,.slice A6 n5 c6,.bool s6,.slice A7 n6 c7] rfl rfl (by simpa using qcell_new (W5.alloc (.cells #[.bool s5,.slice A6 n5 c6,.bool s6,.slice A7 n6 c7] 47)) (.bool s5) (.slice A6 n5 c6) (.bool s6) (.slice A7 n6 c7) 47) (by simp [Value.oneCell']) (by unfold maxLen;omega) (by omega) (by have:=HB6.out.size;simp at this ⊢;omega) ?_;intro v' w1 hown' hgrow _)
   have hmore:=qs_more (e:=((s5,A6,n5,c6),(s6,A7,n6,c7))) (x:=q) HO4.out rfl (HE.out.alloc _) HEN.out.1 HEN.out.2 hown' hgrow
   have HB7:=ah ((HB6.out.alloc HB6.out.size (.cells #[.bool s5,.slice A6 n5 c6,.bool s6,.slice A7 n6 c7] 47)).grown hgrow (by have:=HB6.out.size;simp at this ⊢;omega) (own_block HE.out))
   obtain ⟨A9,c9,rfl,ho9⟩:=hmore
   clear hown' hgrow HE HEN HO4
   go_wp2
   go_roundw
   case rel=>exact ⟨j+1,c9,A9,M ++ [q],rfl,by go_num,by omega,ho9,HM2,HB7.out⟩
   case measure=>simp [intOf];omega
theorem qadd_poly {N:Nat}{A A':Option Addr}{n c n' c':Nat}{L L':List Rat}{w:World}(h:RdQs w w.heap.size N A n c (L.map pr))(h':RdQs w w.heap.size N A' n' c' (L'.map pr))(hn:n<=1048576)(hn':n'<=1048576)(hN:N<=200000000000)(h1N:1<=N) :
  Calls Tryz.prog 185 #[.slice A n c,.slice A' n' c'] w (RetPq (fun i=>Pq.co L i+Pq.co L' i) w):=by
 have hEN:=enters_of Tryz.func116 (by kernel_rfl) rfl
 have HC:=ah (cJ (h.szp h1N) (h'.szp h1N))
 go_enter Tryz.func185,Tryz.ntmps185
 go_wp2_with fail
 refine (qboth_any (N2:=N+N+1) (fun x y=>x+y) h h' hn hn' h1N (by omega) hEN (by grind) (fun i=>(HC.out.1 i).add (HC.out.2 i)) (fun W s1 s2 s3 s4 A1 A2 A3 A4 n1 c1 n2 c2 n3 c3 n4 c4 x y r1 r2 r3 r4 hm=>qaddq_any r1 r2 r3 r4 hm hN)).mono ?_
 rintro _ W2 ⟨A2,n2,c2,M2,rfl,ho2,hM2,hb2⟩
 go_wp2
 go_ret
 exact ⟨_,_,_,M2,rfl,ho2,hM2,hb2⟩
end Go.Proofs.YtjnklbfhelbjgaaGreat
