/- Sc08. -/
import Derived.Test.YtjnklbfhelbjgaaGreatSc07
import Derived.Test.YtjnklbfhelbjgaaGreatSc00
set_option maxRecDepth 100000
set_option maxHeartbeats 32000000
set_option linter.all false
namespace Go.Proofs.YtjnklbfhelbjgaaGreat
open Go.RowKit Go.IntWalk
attribute [local go_sem ↓] Go.wp_at_zero Go.wp_at_succ
theorem qadd_val (x y:Rat):Rat.divInt (x.num*y.den+y.num*x.den) ((x.den:Int)*(y.den:Int))=x+y:=by
 rw [<- Rat.divInt_add_divInt _ _ (qden_ne x) (qden_ne y),Rat.num_divInt_den,Rat.num_divInt_den]
theorem qsub_val (x y:Rat):Rat.divInt (x.num*y.den-y.num*x.den) ((x.den:Int)*(y.den:Int))=x-y:=by
 rw [<- Rat.divInt_sub_divInt _ _ (qden_ne x) (qden_ne y),Rat.num_divInt_den,Rat.num_divInt_den]
theorem qaddIn_any {N b:Nat}{A:Option Addr}{c:Nat}{x y:Rat}{w:World}(h:OwQs w b A 2 c [x,y])(hx:Zz.zl x.num<=N/\Zz.zl x.den<=N)(hy:Zz.zl y.num<=N/\Zz.zl y.den<=N)(hN:N<=200000000000) :
  Calls Tryz.prog 166 #[.slice A 2 c] w (RetZD2 (x+y).num (x+y).den 0 w):=by
 obtain ⟨g,s1,A1,n1,c1,s2,A2,n2,c2,s3,A3,n3,c3,s4,A4,n4,c4,rfl,hg,⟨a0,a1,a2,a3⟩,⟨b0,b1,b2,b3⟩,ox,oy⟩:=oq_two h
 obtain ⟨W1,HW1⟩:∃ W,W=w.alloc (.cells #[.bool false,.slice none 0 0,.bool false,.slice none 0 0] 47):=⟨_,rfl⟩
 have hR:QC W1 w.heap.size false none 0 0 false none 0 0:=by rw [HW1];exact QC.new w false none 0 0 false none 0 0
 have hB:Below w.heap.size w W1:=by rw [HW1];exact bA
 have HCE:=ah (show ∀ W:World,Below W1.heap.size W1 W->(W.cell? ⟨g,0,none⟩=some (.bool s1)/\W.cell? ⟨g,1,none⟩=some (.slice A1 n1 c1)/\W.cell? ⟨g,2,none⟩=some (.bool s2)/\W.cell? ⟨g,3,none⟩=some (.slice A2 n2 c2)/\W.cell? ⟨g,4,none⟩=some (.bool s3)/\W.cell? ⟨g,5,none⟩=some (.slice A3 n3 c3)/\W.cell? ⟨g,6,none⟩=some (.bool s4)/\W.cell? ⟨g,7,none⟩=some (.slice A4 n4 c4)) from fun W hb=>by
  have hb':=hB.trans (hb.mono hB.size)
  exact ⟨(hb'.cell hg).trans a0,(hb'.cell hg).trans a1,(hb'.cell hg).trans a2,(hb'.cell hg).trans a3,(hb'.cell hg).trans b0,(hb'.cell hg).trans b1,(hb'.cell hg).trans b2,(hb'.cell hg).trans b3⟩)
 have HCP:=ah (show ∀ (W:World) (t:Bool) (D:Option Addr) (k m:Nat) (t':Bool) (D':Option Addr) (k' m':Nat),Below W1.heap.size W1 W->((putQ W w.heap.size t D k m t' D' k' m').cell? ⟨g,0,none⟩=some (.bool s1)/\(putQ W w.heap.size t D k m t' D' k' m').cell? ⟨g,1,none⟩=some (.slice A1 n1 c1)/\(putQ W w.heap.size t D k m t' D' k' m').cell? ⟨g,2,none⟩=some (.bool s2)/\(putQ W w.heap.size t D k m t' D' k' m').cell? ⟨g,3,none⟩=some (.slice A2 n2 c2)/\(putQ W w.heap.size t D k m t' D' k' m').cell? ⟨g,4,none⟩=some (.bool s3)/\(putQ W w.heap.size t D k m t' D' k' m').cell? ⟨g,5,none⟩=some (.slice A3 n3 c3)/\(putQ W w.heap.size t D k m t' D' k' m').cell? ⟨g,6,none⟩=some (.bool s4)/\(putQ W w.heap.size t D k m t' D' k' m').cell? ⟨g,7,none⟩=some (.slice A4 n4 c4)) from fun W t D k m t' D' k' m' hb=>by
  have hP:=below_putQ (Below.refl w.heap.size W) (Nat.le_refl w.heap.size) t D k m t' D' k' m'
  obtain ⟨e0,e1,e2,e3,e4,e5,e6,e7⟩:=HCE.out W hb
  exact ⟨(hP.cell hg).trans e0,(hP.cell hg).trans e1,(hP.cell hg).trans e2,(hP.cell hg).trans e3,(hP.cell hg).trans e4,(hP.cell hg).trans e5,(hP.cell hg).trans e6,(hP.cell hg).trans e7⟩)
 unfold putQ at HCP
 have HX:=ah (show ∀ W:World,Below W1.heap.size W1 W->RdZ W W.heap.size s1 A1 n1 c1 x.num/\RdZ W W.heap.size s2 A2 n2 c2 x.den/\RdZ W W.heap.size s3 A3 n3 c3 y.num/\RdZ W W.heap.size s4 A4 n4 c4 y.den from fun W hb=>by
  have hb':=hB.trans (hb.mono hB.size)
  exact ⟨(ox.num.next hb').rd,(ox.den.next hb').rd,(oy.num.next hb').rd,(oy.den.next hb').rd⟩)
 have HNN:=ah (show n1<=N/\n2<=N/\n3<=N/\n4<=N from ⟨by rw [ox.num.len];exact hx.1,by rw [ox.den.len];exact hx.2,by rw [oy.num.len];exact hy.1,by rw [oy.den.len];exact hy.2⟩)
 have HB:=ah hB
 have HRR:=ah (show ∀ W:World,Below W1.heap.size W1 W->QC W w.heap.size false none 0 0 false none 0 0 from fun W hb=>hR.next hb)
 have HD:=ah (Below.refl W1.heap.size W1).drew
 have HXY:=ah (cJ hx hy)
 have HGN:=ah (show g ≠ w.heap.size by omega)
 have HW1:=ah HW1
 clear a0 a1 a2 a3 b0 b1 b2 b3 ox oy hR hB h hx hy
 obtain ⟨a0,a1,a2,a3,b0,b1,b2,b3⟩:=HCE.out W1 bR
 go_enter Tryz.func166,Tryz.ntmps166
 go_upto_region 1 with fail
 rw [<- HW1.out]
 clear HW1
 clear HW1
 go_region_held3 (fun w'=>w'.cell? ⟨g,0,none⟩=some (.bool s1)/\w'.cell? ⟨g,1,none⟩=some (.slice A1 n1 c1)/\w'.cell? ⟨g,2,none⟩=some (.bool s2)/\w'.cell? ⟨g,3,none⟩=some (.slice A2 n2 c2)/\w'.cell? ⟨g,4,none⟩=some (.bool s3)/\w'.cell? ⟨g,5,none⟩=some (.slice A3 n3 c3)/\w'.cell? ⟨g,6,none⟩=some (.bool s4)/\w'.cell? ⟨g,7,none⟩=some (.slice A4 n4 c4))
  (first | exact HCE.out _ HB6.out | exact HCE.out _ HB5.out | exact HCE.out _ HB4.out | exact HCE.out _ HB3.out | exact HCE.out _ HB2.out | exact HCE.out _ HD.out | exact HCP.out _ _ _ _ _ _ _ _ _ HB6.out)
  (first
   | (go_at_call 83;refine (qmake_any ho4.rd ho5.rd HN4.out HN5.out HD5.out).mono ?_;rintro _ W6 ⟨s7,A7,n7,c7,s8,A8,n8,c8,q4,rfl,ho6,hq4,hb6⟩;have HB6:=tM HB5 hb6;have hR4:=HRR.out _ HB6.out;have r0:=hR4.c0;have r1:=hR4.c1;have r2:=hR4.c2;have r3:=hR4.c3;have f0:=hR4.fz 0;have f1:=hR4.fz 1;have f2:=hR4.fz 2;have f3:=hR4.fz 3)
   | (have hxx:=HB4.out;clear hxx;go_at_call 146;refine (imul_any (HX.out _ HB4.out).2.1 (HX.out _ HB4.out).2.2.2 (by have:=HNN.out;omega) (by have:=HNN.out;omega)).mono ?_;rintro _ W5 ⟨t5,D5,m5,l5,y5,rfl,ho5,hy5,hb5⟩;have HB5:=tM HB4 hb5;have ho4:=ho4.next hb5;have HN5:=ah (show m5<=1000000000000 by { rw [ho5.len,hy5.out];have e1:=Zz.zl_mul (x.den:Int) y.den;have e2:=HXY.out;omega });have HD5:=ah (show y5 ≠ 0 by { rw [hy5.out];exact Int.mul_ne_zero (qden_ne x) (qden_ne y) }))
   | (have hxx:=HB3.out;clear hxx;go_at_call 167;refine (add_any ho2.rd ho3.rd (by have:=HN2.out;omega) (by have:=HN3.out;omega)).mono ?_;rintro _ W4 ⟨t4,D4,m4,l4,y4,rfl,ho4,hy4,hb4⟩;have HB4:=tM HB3 hb4;have HN4:=ah (show m4<=1000000000000 by { rw [ho4.len,hy4.out];have e1:=Zz.zl_add y2 y3;have e3:Zz.zl y2<=400000000000:=(by { rw [hy2.out];have e4:=Zz.zl_mul x.num (y.den:Int);have e2:=HXY.out;omega });have e5:Zz.zl y3<=400000000000:=(by { rw [hy3.out];have e4:=Zz.zl_mul y.num (x.den:Int);have e2:=HXY.out;omega });omega }))
   | (have hxx:=HB2.out;clear hxx;go_at_call 146;refine (imul_any (HX.out _ HB2.out).2.2.1 (HX.out _ HB2.out).2.1 (by have:=HNN.out;omega) (by have:=HNN.out;omega)).mono ?_;rintro _ W3 ⟨t3,D3,m3,l3,y3,rfl,ho3,hy3,hb3⟩;have HB3:=tM HB2 hb3;have ho2:=ho2.next hb3;have HN3:=ah (show m3<=1000000000000 by { rw [ho3.len,hy3.out];have e1:=Zz.zl_mul (y.num:Int) x.den;have e2:=HXY.out;omega }))
   | (go_at_call 146;refine (imul_any (HX.out _ HD.out).1 (HX.out _ HD.out).2.2.2 (by have:=HNN.out;omega) (by have:=HNN.out;omega)).mono ?_;rintro _ W2 ⟨t2,D2,m2,l2,y2,rfl,ho2,hy2,hb2⟩;have HB2:=ah (HD.out.trans hb2);have HN2:=ah (show m2<=1000000000000 by { rw [ho2.len,hy2.out];have e1:=Zz.zl_mul (x.num:Int) y.den;have e2:=HXY.out;omega })))
 have hR4':=HRR.out _ HB6.out
 have HR9:=ah (hR4'.store s7 A7 n7 c7 s8 A8 n8 c8)
 have HO9:=ah ((ho6.base (b':=w.heap.size) (nT HB.out.size HB5.out.size)).keep (keep_putQ hR4' s7 A7 n7 c7 s8 A8 n8 c8))
 have HB9:=ah (below_putQ (HB.out.trans (HB6.out.mono HB.out.size)) (Nat.le_refl w.heap.size) s7 A7 n7 c7 s8 A8 n8 c8)
 have HV:=ah (show q4=x+y by rw [hq4.out,hy4.out,hy5.out,hy2.out,hy3.out];exact qadd_val x y)
 unfold putQ at HR9 HO9 HB9
 clear a0 a1 a2 a3 b0 b1 b2 b3 r0 r1 r2 r3 f0 f1 f2 f3 hR4 hR4' ho2 ho3 ho4 ho5 ho6 hb2 hb3 hb4 hb5 hb6 hy2 hy3 hy4 hy5 hq4
 generalize (((W6.setCell ⟨w.heap.size,0,none⟩ (.bool s7)).setCell ⟨w.heap.size,1,none⟩ (.slice A7 n7 c7)).setCell ⟨w.heap.size,2,none⟩ (.bool s8)).setCell ⟨w.heap.size,3,none⟩ (.slice A8 n8 c8)=W9 at *
 have z0:=HR9.out.c0
 have z1:=HR9.out.c1
 have z2:=HR9.out.c2
 have z3:=HR9.out.c3
 go_wp2
 exact bodyPost_ret (by simp [results,Tryz.results166,go_sem,z0,z1,z2,z3];rfl) rfl ⟨_,_,_,_,_,_,_,_,_,_,_,rfl,HO9.out.num,HO9.out.den,ah (by rw [HV.out];exact ⟨rfl,rfl,rfl⟩),HB9.out⟩
theorem qsubIn_any {N b:Nat}{A:Option Addr}{c:Nat}{x y:Rat}{w:World}(h:OwQs w b A 2 c [x,y])(hx:Zz.zl x.num<=N/\Zz.zl x.den<=N)(hy:Zz.zl y.num<=N/\Zz.zl y.den<=N)(hN:N<=200000000000) :
  Calls Tryz.prog 245 #[.slice A 2 c] w (RetZD2 (x-y).num (x-y).den 0 w):=by
 obtain ⟨g,s1,A1,n1,c1,s2,A2,n2,c2,s3,A3,n3,c3,s4,A4,n4,c4,rfl,hg,⟨a0,a1,a2,a3⟩,⟨b0,b1,b2,b3⟩,ox,oy⟩:=oq_two h
 obtain ⟨W1,HW1⟩:∃ W,W=w.alloc (.cells #[.bool false,.slice none 0 0,.bool false,.slice none 0 0] 47):=⟨_,rfl⟩
 have hR:QC W1 w.heap.size false none 0 0 false none 0 0:=by rw [HW1];exact QC.new w false none 0 0 false none 0 0
 have hB:Below w.heap.size w W1:=by rw [HW1];exact bA
 have HCE:=ah (show ∀ W:World,Below W1.heap.size W1 W->(W.cell? ⟨g,0,none⟩=some (.bool s1)/\W.cell? ⟨g,1,none⟩=some (.slice A1 n1 c1)/\W.cell? ⟨g,2,none⟩=some (.bool s2)/\W.cell? ⟨g,3,none⟩=some (.slice A2 n2 c2)/\W.cell? ⟨g,4,none⟩=some (.bool s3)/\W.cell? ⟨g,5,none⟩=some (.slice A3 n3 c3)/\W.cell? ⟨g,6,none⟩=some (.bool s4)/\W.cell? ⟨g,7,none⟩=some (.slice A4 n4 c4)) from fun W hb=>by
  have hb':=hB.trans (hb.mono hB.size)
  exact ⟨(hb'.cell hg).trans a0,(hb'.cell hg).trans a1,(hb'.cell hg).trans a2,(hb'.cell hg).trans a3,(hb'.cell hg).trans b0,(hb'.cell hg).trans b1,(hb'.cell hg).trans b2,(hb'.cell hg).trans b3⟩)
 have HCP:=ah (show ∀ (W:World) (t:Bool) (D:Option Addr) (k m:Nat) (t':Bool) (D':Option Addr) (k' m':Nat),Below W1.heap.size W1 W->((putQ W w.heap.size t D k m t' D' k' m').cell? ⟨g,0,none⟩=some (.bool s1)/\(putQ W w.heap.size t D k m t' D' k' m').cell? ⟨g,1,none⟩=some (.slice A1 n1 c1)/\(putQ W w.heap.size t D k m t' D' k' m').cell? ⟨g,2,none⟩=some (.bool s2)/\(putQ W w.heap.size t D k m t' D' k' m').cell? ⟨g,3,none⟩=some (.slice A2 n2 c2)/\(putQ W w.heap.size t D k m t' D' k' m').cell? ⟨g,4,none⟩=some (.bool s3)/\(putQ W w.heap.size t D k m t' D' k' m').cell? ⟨g,5,none⟩=some (.slice A3 n3 c3)/\(putQ W w.heap.size t D k m t' D' k' m').cell? ⟨g,6,none⟩=some (.bool s4)/\(putQ W w.heap.size t D k m t' D' k' m').cell? ⟨g,7,none⟩=some (.slice A4 n4 c4)) from fun W t D k m t' D' k' m' hb=>by
  have hP:=below_putQ (Below.refl w.heap.size W) (Nat.le_refl w.heap.size) t D k m t' D' k' m'
  obtain ⟨e0,e1,e2,e3,e4,e5,e6,e7⟩:=HCE.out W hb
  exact ⟨(hP.cell hg).trans e0,(hP.cell hg).trans e1,(hP.cell hg).trans e2,(hP.cell hg).trans e3,(hP.cell hg).trans e4,(hP.cell hg).trans e5,(hP.cell hg).trans e6,(hP.cell hg).trans e7⟩)
 unfold putQ at HCP
 have HX:=ah (show ∀ W:World,Below W1.heap.size W1 W->RdZ W W.heap.size s1 A1 n1 c1 x.num/\RdZ W W.heap.size s2 A2 n2 c2 x.den/\RdZ W W.heap.size s3 A3 n3 c3 y.num/\RdZ W W.heap.size s4 A4 n4 c4 y.den from fun W hb=>by
  have hb':=hB.trans (hb.mono hB.size)
  exact ⟨(ox.num.next hb').rd,(ox.den.next hb').rd,(oy.num.next hb').rd,(oy.den.next hb').rd⟩)
 have HNN:=ah (show n1<=N/\n2<=N/\n3<=N/\n4<=N from ⟨by rw [ox.num.len];exact hx.1,by rw [ox.den.len];exact hx.2,by rw [oy.num.len];exact hy.1,by rw [oy.den.len];exact hy.2⟩)
 have HB:=ah hB
 have HRR:=ah (show ∀ W:World,Below W1.heap.size W1 W->QC W w.heap.size false none 0 0 false none 0 0 from fun W hb=>hR.next hb)
 have HD:=ah (Below.refl W1.heap.size W1).drew
 have HXY:=ah (cJ hx hy)
 have HGN:=ah (show g ≠ w.heap.size by omega)
 have HW1:=ah HW1
 clear a0 a1 a2 a3 b0 b1 b2 b3 ox oy hR hB h hx hy
 obtain ⟨a0,a1,a2,a3,b0,b1,b2,b3⟩:=HCE.out W1 bR
 go_enter Tryz.func245,Tryz.ntmps245
 go_upto_region 1 with fail
 rw [<- HW1.out]
 clear HW1
 clear HW1
 go_region_held3 (fun w'=>w'.cell? ⟨g,0,none⟩=some (.bool s1)/\w'.cell? ⟨g,1,none⟩=some (.slice A1 n1 c1)/\w'.cell? ⟨g,2,none⟩=some (.bool s2)/\w'.cell? ⟨g,3,none⟩=some (.slice A2 n2 c2)/\w'.cell? ⟨g,4,none⟩=some (.bool s3)/\w'.cell? ⟨g,5,none⟩=some (.slice A3 n3 c3)/\w'.cell? ⟨g,6,none⟩=some (.bool s4)/\w'.cell? ⟨g,7,none⟩=some (.slice A4 n4 c4))
  (first | exact HCE.out _ HB6.out | exact HCE.out _ HB5.out | exact HCE.out _ HB4.out | exact HCE.out _ HB3.out | exact HCE.out _ HB2.out | exact HCE.out _ HD.out | exact HCP.out _ _ _ _ _ _ _ _ _ HB6.out)
  (first
   | (go_at_call 83;refine (qmake_any ho4.rd ho5.rd HN4.out HN5.out HD5.out).mono ?_;rintro _ W6 ⟨s7,A7,n7,c7,s8,A8,n8,c8,q4,rfl,ho6,hq4,hb6⟩;have HB6:=tM HB5 hb6;have hR4:=HRR.out _ HB6.out;have r0:=hR4.c0;have r1:=hR4.c1;have r2:=hR4.c2;have r3:=hR4.c3;have f0:=hR4.fz 0;have f1:=hR4.fz 1;have f2:=hR4.fz 2;have f3:=hR4.fz 3)
   | (have hxx:=HB4.out;clear hxx;go_at_call 146;refine (imul_any (HX.out _ HB4.out).2.1 (HX.out _ HB4.out).2.2.2 (by have:=HNN.out;omega) (by have:=HNN.out;omega)).mono ?_;rintro _ W5 ⟨t5,D5,m5,l5,y5,rfl,ho5,hy5,hb5⟩;have HB5:=tM HB4 hb5;have ho4:=ho4.next hb5;have HN5:=ah (show m5<=1000000000000 by { rw [ho5.len,hy5.out];have e1:=Zz.zl_mul (x.den:Int) y.den;have e2:=HXY.out;omega });have HD5:=ah (show y5 ≠ 0 by { rw [hy5.out];exact Int.mul_ne_zero (qden_ne x) (qden_ne y) }))
   | (have hxx:=HB3.out;clear hxx;go_at_call 246;refine (sub_any ho2.rd ho3.rd (by have:=HN2.out;omega) (by have:=HN3.out;omega)).mono ?_;rintro _ W4 ⟨t4,D4,m4,l4,y4,rfl,ho4,hy4,hb4⟩;have HB4:=tM HB3 hb4;have HN4:=ah (show m4<=1000000000000 by { rw [ho4.len,hy4.out];have e1:=Zz.zl_sub y2 y3;have e3:Zz.zl y2<=400000000000:=(by { rw [hy2.out];have e4:=Zz.zl_mul x.num (y.den:Int);have e2:=HXY.out;omega });have e5:Zz.zl y3<=400000000000:=(by { rw [hy3.out];have e4:=Zz.zl_mul y.num (x.den:Int);have e2:=HXY.out;omega });omega }))
   | (have hxx:=HB2.out;clear hxx;go_at_call 146;refine (imul_any (HX.out _ HB2.out).2.2.1 (HX.out _ HB2.out).2.1 (by have:=HNN.out;omega) (by have:=HNN.out;omega)).mono ?_;rintro _ W3 ⟨t3,D3,m3,l3,y3,rfl,ho3,hy3,hb3⟩;have HB3:=tM HB2 hb3;have ho2:=ho2.next hb3;have HN3:=ah (show m3<=1000000000000 by { rw [ho3.len,hy3.out];have e1:=Zz.zl_mul (y.num:Int) x.den;have e2:=HXY.out;omega }))
   | (go_at_call 146;refine (imul_any (HX.out _ HD.out).1 (HX.out _ HD.out).2.2.2 (by have:=HNN.out;omega) (by have:=HNN.out;omega)).mono ?_;rintro _ W2 ⟨t2,D2,m2,l2,y2,rfl,ho2,hy2,hb2⟩;have HB2:=ah (HD.out.trans hb2);have HN2:=ah (show m2<=1000000000000 by { rw [ho2.len,hy2.out];have e1:=Zz.zl_mul (x.num:Int) y.den;have e2:=HXY.out;omega })))
 have hR4':=HRR.out _ HB6.out
 have HR9:=ah (hR4'.store s7 A7 n7 c7 s8 A8 n8 c8)
 have HO9:=ah ((ho6.base (b':=w.heap.size) (nT HB.out.size HB5.out.size)).keep (keep_putQ hR4' s7 A7 n7 c7 s8 A8 n8 c8))
 have HB9:=ah (below_putQ (HB.out.trans (HB6.out.mono HB.out.size)) (Nat.le_refl w.heap.size) s7 A7 n7 c7 s8 A8 n8 c8)
 have HV:=ah (show q4=x-y by rw [hq4.out,hy4.out,hy5.out,hy2.out,hy3.out];exact qsub_val x y)
 unfold putQ at HR9 HO9 HB9
 clear a0 a1 a2 a3 b0 b1 b2 b3 r0 r1 r2 r3 f0 f1 f2 f3 hR4 hR4' ho2 ho3 ho4 ho5 ho6 hb2 hb3 hb4 hb5 hb6 hy2 hy3 hy4 hy5 hq4
 generalize (((W6.setCell ⟨w.heap.size,0,none⟩ (.bool s7)).setCell ⟨w.heap.size,1,none⟩ (.slice A7 n7 c7)).setCell ⟨w.heap.size,2,none⟩ (.bool s8)).setCell ⟨w.heap.size,3,none⟩ (.slice A8 n8 c8)=W9 at *
 have z0:=HR9.out.c0
 have z1:=HR9.out.c1
 have z2:=HR9.out.c2
 have z3:=HR9.out.c3
 go_wp2
 exact bodyPost_ret (by simp [results,Tryz.results245,go_sem,z0,z1,z2,z3];rfl) rfl ⟨_,_,_,_,_,_,_,_,_,_,_,rfl,HO9.out.num,HO9.out.den,ah (by rw [HV.out];exact ⟨rfl,rfl,rfl⟩),HB9.out⟩
theorem zl_qnum {z d:Int}(hd:d ≠ 0):Zz.zl (Rat.divInt z d).num<=Zz.zl z:=by
 rw [<- Qz.make_num hd]
 exact Zz.zl_tdiv _ _
theorem zl_qden {z d:Int}(hd:d ≠ 0):Zz.zl ((Rat.divInt z d).den:Int)<=Zz.zl d:=by
 rw [<- Qz.make_den hd]
 exact Zz.zl_tdiv _ _
theorem qs_two {N:Nat}{w w1:World}{s1 s2 s3 s4:Bool}{A1 A2 A3 A4:Option Addr}{n1 c1 n2 c2 n3 c3 n4 c4:Nat}{z1 d1 z2 d2:Int}(h1:RdZ w w.heap.size s1 A1 n1 c1 z1)(h2:RdZ w w.heap.size s2 A2 n2 c2 d1)(h3:RdZ w w.heap.size s3 A3 n3 c3 z2)(h4:RdZ w w.heap.size s4 A4 n4 c4 d2)(hn:n1<=N/\n2<=N/\n3<=N/\n4<=N)
  (hw:w1=w.alloc (.cells #[.bool s1,.slice A1 n1 c1,.bool s2,.slice A2 n2 c2,.bool s3,.slice A3 n3 c3,.bool s4,.slice A4 n4 c4] 47)):RdQs w1 w1.heap.size N (some ⟨w.heap.size,0,none⟩) 2 2 [(z1,d1),(z2,d2)]:=by
 have hb:Below w.heap.size w w1:=by rw [hw];exact bA
 have hr:w1.heap[w.heap.size]?=some (.cells #[.bool s1,.slice A1 n1 c1,.bool s2,.slice A2 n2 c2,.bool s3,.slice A3 n3 c3,.bool s4,.slice A4 n4 c4] 47 (0,0)):=by rw [hw];exact heap_alloc_new w _
 have hlt:w.heap.size < w1.heap.size:=(Array.getElem?_eq_some_iff.1 hr).1
 refine ⟨rfl,nR,by unfold maxLen;omega,fun j y hy=>?_⟩
 match j,hy with
 | 0, hy =>
   simp at hy
   subst hy
   refine ⟨_,s1,A1,n1,c1,s2,A2,n2,c2,rfl,hlt,?_,?_,?_,?_,h1.next hb,h2.next hb,hn.1,hn.2.1⟩ <;> rw [add_base] <;> exact (cell_of_row w1 _ _ _ _ _ hr).trans rfl
 | 1, hy =>
   simp at hy
   subst hy
   refine ⟨_,s3,A3,n3,c3,s4,A4,n4,c4,rfl,hlt,?_,?_,?_,?_,h3.next hb,h4.next hb,hn.2.2.1,hn.2.2.2⟩ <;> rw [add_base] <;> exact (cell_of_row w1 _ _ _ _ _ hr).trans rfl
 | j+2,hy=>simp at hy
theorem q_boxes2 (w:World)(s1 s2 s3 s4:Bool)(A1 A2 A3 A4:Option Addr)(n1 c1 n2 c2 n3 c3 n4 c4:Nat) :
  ∀ W1:World,W1=((w.alloc (.cells #[.bool s1,.slice A1 n1 c1,.bool s2,.slice A2 n2 c2] 47)).alloc (.cells #[.bool s3,.slice A3 n3 c3,.bool s4,.slice A4 n4 c4] 47)).alloc (.cells #[.bool false,.slice none 0 0,.bool false,.slice none 0 0] 47) ->
   QC W1 w.heap.size s1 A1 n1 c1 s2 A2 n2 c2/\QC W1 (w.heap.size+1) s3 A3 n3 c3 s4 A4 n4 c4/\QC W1 (w.heap.size+1+1) false none 0 0 false none 0 0/\Below w.heap.size w W1:=by
 rintro W1 rfl
 refine ⟨((QC.new w s1 A1 n1 c1 s2 A2 n2 c2).next (bA)).next (bA),?_,by simpa using QC.new ((w.alloc (.cells #[.bool s1,.slice A1 n1 c1,.bool s2,.slice A2 n2 c2] 47)).alloc (.cells #[.bool s3,.slice A3 n3 c3,.bool s4,.slice A4 n4 c4] 47)) false none 0 0 false none 0 0,(((Below.refl w.heap.size w).alloc nR _).alloc (by simp) _).alloc (by simp;omega) _⟩
 have h:=(QC.new (w.alloc (.cells #[.bool s1,.slice A1 n1 c1,.bool s2,.slice A2 n2 c2] 47)) s3 A3 n3 c3 s4 A4 n4 c4).next (bR.alloc nR (.cells #[.bool false,.slice none 0 0,.bool false,.slice none 0 0] 47))
 simpa using h
def RetQE (ok:Prop)(x:Rat)(w:World)(e:Ending)(w':World):Prop :=
 ∃ (s:Bool) (A:Option Addr) (n c:Nat) (y:Int) (s':Bool) (A':Option Addr) (n' c':Nat) (y':Int) (kk:Int),e=.returned (.tuple #[.agg #[.bool s,.slice A n c,.bool s',.slice A' n' c'],.int .i64 kk])/\OwZ w' w.heap.size s A n c y/\OwZ w' w.heap.size s' A' n' c' y'/\Hid ((ok/\y=x.num/\y'=x.den/\kk=0) ∨ (¬ ok/\y=0/\y'=0/\kk=6))/\Below w.heap.size w w'
theorem qmul_any {N:Nat}{s1 s2 s3 s4:Bool}{A1 A2 A3 A4:Option Addr}{n1 c1 n2 c2 n3 c3 n4 c4:Nat}{z1 d1 z2 d2:Int}{w:World}(h1:RdZ w w.heap.size s1 A1 n1 c1 z1)(h2:RdZ w w.heap.size s2 A2 n2 c2 d1)(h3:RdZ w w.heap.size s3 A3 n3 c3 z2)(h4:RdZ w w.heap.size s4 A4 n4 c4 d2)(hn:n1<=N/\n2<=N/\n3<=N/\n4<=N)(hN:N<=200000000000) :
  Calls Tryz.prog 115 #[.agg #[.bool s1,.slice A1 n1 c1,.bool s2,.slice A2 n2 c2],.agg #[.bool s3,.slice A3 n3 c3,.bool s4,.slice A4 n4 c4]] w (RetQE (d1 ≠ 0/\d2 ≠ 0) (Rat.divInt z1 d1*Rat.divInt z2 d2) w):=by
 have heg:=enters_of Tryz.func165 (by kernel_rfl) rfl
 obtain ⟨W1,HW1⟩:∃ W,W=((w.alloc (.cells #[.bool s1,.slice A1 n1 c1,.bool s2,.slice A2 n2 c2] 47)).alloc (.cells #[.bool s3,.slice A3 n3 c3,.bool s4,.slice A4 n4 c4] 47)).alloc (.cells #[.bool false,.slice none 0 0,.bool false,.slice none 0 0] 47):=⟨_,rfl⟩
 obtain ⟨hX,hY,hR,hB⟩:=q_boxes2 w s1 s2 s3 s4 A1 A2 A3 A4 n1 c1 n2 c2 n3 c3 n4 c4 W1 HW1
 obtain ⟨W2,HW2⟩:∃ W,W=W1.alloc (.cells #[.bool s1,.slice A1 n1 c1,.bool s2,.slice A2 n2 c2,.bool s3,.slice A3 n3 c3,.bool s4,.slice A4 n4 c4] 47):=⟨_,rfl⟩
 have hq:=qs_two (h1.next hB) (h2.next hB) (h3.next hB) (h4.next hB) hn HW2
 have hb2:Below W1.heap.size W1 W2:=by rw [HW2];exact bA
 have a0:=hX.c0
 have a1:=hX.c1
 have a2:=hX.c2
 have a3:=hX.c3
 have b0:=hY.c0
 have b1:=hY.c1
 have b2:=hY.c2
 have b3:=hY.c3
 have hs1:W1.heap.size=w.heap.size+1+1+1:=by rw [HW1];simp
 rw [hs1] at hq
 rw [HW1] at a0 a1 a2 a3 b0 b1 b2 b3 HW2
 have HQ:=ah hq
 have HR2:=ah (hR.next hb2)
 have HB2:=ah (hB.trans (hb2.mono hB.size))
 have HSW:=ah (show w.heap.size<=W2.heap.size from nT hB.size hb2.size)
 have HLZ:=ah (show Zz.zl z1<=N/\Zz.zl d1<=N/\Zz.zl z2<=N/\Zz.zl d2<=N from ⟨nT h1.len hn.1,nT h2.len hn.2.1,nT h3.len hn.2.2.1,nT h4.len hn.2.2.2⟩)
 have HW2:=ah HW2
 clear hX hY hR hB hq hb2 hs1 HW1 h1 h2 h3 h4
 go_enter Tryz.func115,Tryz.ntmps115
 go_wp2_with fail
 rw [<- HW2.out]
 clear HW2 a0 a1 a2 a3 b0 b1 b2 b3
 clear HW2
 refine (made_any (N:=N) (z:=(Rat.divInt z1 d1*Rat.divInt z2 d2).num) (d:=(Rat.divInt z1 d1*Rat.divInt z2 d2).den) (k:=0) HQ.out (by decide) (by omega) heg (fun hne W A' c' b hb _ ho=>by
  have e1:d1 ≠ 0:=hne (z1,d1) (by simp)
  have e2:d2 ≠ 0:=hne (z2,d2) (by simp)
  exact qmulIn_any (N:=N) ho ⟨nT (zl_qnum e1) HLZ.out.1,nT (zl_qden e1) HLZ.out.2.1⟩ ⟨nT (zl_qnum e2) HLZ.out.2.2.1,nT (zl_qden e2) HLZ.out.2.2.2⟩ (by omega))).mono ?_
 intro e3 W3 hpost
 obtain ⟨s5,A5,n5,c5,y5,s6,A6,n6,c6,y6,kk,rfl,ho5,ho6,hy,hb3⟩:RetQE (d1 ≠ 0/\d2 ≠ 0) (Rat.divInt z1 d1*Rat.divInt z2 d2) W2 e3 W3:=by
  rcases hpost with ⟨hall,s5,A5,n5,c5,y5,s6,A6,n6,c6,y6,kk,k1,k2,k3,k4,k5⟩ | ⟨⟨p,hp,hp0⟩,k1,k2⟩
  ·exact ⟨s5,A5,n5,c5,y5,s6,A6,n6,c6,y6,kk,k1,k2,k3,ah (.inl ⟨⟨hall (z1,d1) (by simp),hall (z2,d2) (by simp)⟩,k4.out⟩),k5⟩
  ·refine ⟨false,none,0,0,0,false,none,0,0,0,6,k1,OwZ.zero _ _,OwZ.zero _ _,ah (.inr ⟨?_,rfl,rfl,rfl⟩),k2⟩
   rintro ⟨e1,e2⟩
   simp at hp
   rcases hp with rfl | rfl
   ·exact e1 hp0
   ·exact e2 hp0
 have hR5:=HR2.out.next hb3
 have r0:=hR5.c0
 have r1:=hR5.c1
 have r2:=hR5.c2
 have r3:=hR5.c3
 have f0:=hR5.fz 0
 have f1:=hR5.fz 1
 have f2:=hR5.fz 2
 have f3:=hR5.fz 3
 have HR9:=ah (hR5.store s5 A5 n5 c5 s6 A6 n6 c6)
 have HO9:=ah (cJ ((ho5.base (b':=w.heap.size) HSW.out).keep (keep_putQ hR5 s5 A5 n5 c5 s6 A6 n6 c6)) ((ho6.base (b':=w.heap.size) HSW.out).keep (keep_putQ hR5 s5 A5 n5 c5 s6 A6 n6 c6)))
 have HB9:=ah (below_putQ (HB2.out.trans (hb3.mono HB2.out.size)) (show w.heap.size<=w.heap.size+1+1 by omega) s5 A5 n5 c5 s6 A6 n6 c6)
 unfold putQ at HR9 HB9 HO9
 clear ho5 ho6 hb3 hR5 hpost
 go_wp2_with fail
 generalize (((W3.setCell ⟨w.heap.size+1+1,0,none⟩ (.bool s5)).setCell ⟨w.heap.size+1+1,1,none⟩ (.slice A5 n5 c5)).setCell ⟨w.heap.size+1+1,2,none⟩ (.bool s6)).setCell ⟨w.heap.size+1+1,3,none⟩ (.slice A6 n6 c6)=W9 at *
 have z0:=HR9.out.c0
 have z1:=HR9.out.c1
 have z2:=HR9.out.c2
 have z3:=HR9.out.c3
 exact bodyPost_ret (by simp [results,Tryz.results115,go_sem,z0,z1,z2,z3]) rfl ⟨_,_,_,_,_,_,_,_,_,_,_,rfl,HO9.out.1,HO9.out.2,hy,HB9.out⟩
theorem qadd_any {N:Nat}{s1 s2 s3 s4:Bool}{A1 A2 A3 A4:Option Addr}{n1 c1 n2 c2 n3 c3 n4 c4:Nat}{z1 d1 z2 d2:Int}{w:World}(h1:RdZ w w.heap.size s1 A1 n1 c1 z1)(h2:RdZ w w.heap.size s2 A2 n2 c2 d1)(h3:RdZ w w.heap.size s3 A3 n3 c3 z2)(h4:RdZ w w.heap.size s4 A4 n4 c4 d2)(hn:n1<=N/\n2<=N/\n3<=N/\n4<=N)(hN:N<=200000000000) :
  Calls Tryz.prog 116 #[.agg #[.bool s1,.slice A1 n1 c1,.bool s2,.slice A2 n2 c2],.agg #[.bool s3,.slice A3 n3 c3,.bool s4,.slice A4 n4 c4]] w (RetQE (d1 ≠ 0/\d2 ≠ 0) (Rat.divInt z1 d1+Rat.divInt z2 d2) w):=by
 have heg:=enters_of Tryz.func166 (by kernel_rfl) rfl
 obtain ⟨W1,HW1⟩:∃ W,W=((w.alloc (.cells #[.bool s1,.slice A1 n1 c1,.bool s2,.slice A2 n2 c2] 47)).alloc (.cells #[.bool s3,.slice A3 n3 c3,.bool s4,.slice A4 n4 c4] 47)).alloc (.cells #[.bool false,.slice none 0 0,.bool false,.slice none 0 0] 47):=⟨_,rfl⟩
 obtain ⟨hX,hY,hR,hB⟩:=q_boxes2 w s1 s2 s3 s4 A1 A2 A3 A4 n1 c1 n2 c2 n3 c3 n4 c4 W1 HW1
 obtain ⟨W2,HW2⟩:∃ W,W=W1.alloc (.cells #[.bool s1,.slice A1 n1 c1,.bool s2,.slice A2 n2 c2,.bool s3,.slice A3 n3 c3,.bool s4,.slice A4 n4 c4] 47):=⟨_,rfl⟩
 have hq:=qs_two (h1.next hB) (h2.next hB) (h3.next hB) (h4.next hB) hn HW2
 have hb2:Below W1.heap.size W1 W2:=by rw [HW2];exact bA
 have a0:=hX.c0
 have a1:=hX.c1
 have a2:=hX.c2
 have a3:=hX.c3
 have b0:=hY.c0
 have b1:=hY.c1
 have b2:=hY.c2
 have b3:=hY.c3
 have hs1:W1.heap.size=w.heap.size+1+1+1:=by rw [HW1];simp
 rw [hs1] at hq
 rw [HW1] at a0 a1 a2 a3 b0 b1 b2 b3 HW2
 have HQ:=ah hq
 have HR2:=ah (hR.next hb2)
 have HB2:=ah (hB.trans (hb2.mono hB.size))
 have HSW:=ah (show w.heap.size<=W2.heap.size from nT hB.size hb2.size)
 have HLZ:=ah (show Zz.zl z1<=N/\Zz.zl d1<=N/\Zz.zl z2<=N/\Zz.zl d2<=N from ⟨nT h1.len hn.1,nT h2.len hn.2.1,nT h3.len hn.2.2.1,nT h4.len hn.2.2.2⟩)
 have HW2:=ah HW2
 clear hX hY hR hB hq hb2 hs1 HW1 h1 h2 h3 h4
 go_enter Tryz.func116,Tryz.ntmps116
 go_wp2_with fail
 rw [<- HW2.out]
 clear HW2 a0 a1 a2 a3 b0 b1 b2 b3
 clear HW2
 refine (made_any (N:=N) (z:=(Rat.divInt z1 d1+Rat.divInt z2 d2).num) (d:=(Rat.divInt z1 d1+Rat.divInt z2 d2).den) (k:=0) HQ.out (by decide) (by omega) heg (fun hne W A' c' b hb _ ho=>by
  have e1:d1 ≠ 0:=hne (z1,d1) (by simp)
  have e2:d2 ≠ 0:=hne (z2,d2) (by simp)
  exact qaddIn_any (N:=N) ho ⟨nT (zl_qnum e1) HLZ.out.1,nT (zl_qden e1) HLZ.out.2.1⟩ ⟨nT (zl_qnum e2) HLZ.out.2.2.1,nT (zl_qden e2) HLZ.out.2.2.2⟩ (by omega))).mono ?_
 intro e3 W3 hpost
 obtain ⟨s5,A5,n5,c5,y5,s6,A6,n6,c6,y6,kk,rfl,ho5,ho6,hy,hb3⟩:RetQE (d1 ≠ 0/\d2 ≠ 0) (Rat.divInt z1 d1+Rat.divInt z2 d2) W2 e3 W3:=by
  rcases hpost with ⟨hall,s5,A5,n5,c5,y5,s6,A6,n6,c6,y6,kk,k1,k2,k3,k4,k5⟩ | ⟨⟨p,hp,hp0⟩,k1,k2⟩
  ·exact ⟨s5,A5,n5,c5,y5,s6,A6,n6,c6,y6,kk,k1,k2,k3,ah (.inl ⟨⟨hall (z1,d1) (by simp),hall (z2,d2) (by simp)⟩,k4.out⟩),k5⟩
  ·refine ⟨false,none,0,0,0,false,none,0,0,0,6,k1,OwZ.zero _ _,OwZ.zero _ _,ah (.inr ⟨?_,rfl,rfl,rfl⟩),k2⟩
   rintro ⟨e1,e2⟩
   simp at hp
   rcases hp with rfl | rfl
   ·exact e1 hp0
   ·exact e2 hp0
 have hR5:=HR2.out.next hb3
 have r0:=hR5.c0
 have r1:=hR5.c1
 have r2:=hR5.c2
 have r3:=hR5.c3
 have f0:=hR5.fz 0
 have f1:=hR5.fz 1
 have f2:=hR5.fz 2
 have f3:=hR5.fz 3
 have HR9:=ah (hR5.store s5 A5 n5 c5 s6 A6 n6 c6)
 have HO9:=ah (cJ ((ho5.base (b':=w.heap.size) HSW.out).keep (keep_putQ hR5 s5 A5 n5 c5 s6 A6 n6 c6)) ((ho6.base (b':=w.heap.size) HSW.out).keep (keep_putQ hR5 s5 A5 n5 c5 s6 A6 n6 c6)))
 have HB9:=ah (below_putQ (HB2.out.trans (hb3.mono HB2.out.size)) (show w.heap.size<=w.heap.size+1+1 by omega) s5 A5 n5 c5 s6 A6 n6 c6)
 unfold putQ at HR9 HB9 HO9
 clear ho5 ho6 hb3 hR5 hpost
 go_wp2_with fail
 generalize (((W3.setCell ⟨w.heap.size+1+1,0,none⟩ (.bool s5)).setCell ⟨w.heap.size+1+1,1,none⟩ (.slice A5 n5 c5)).setCell ⟨w.heap.size+1+1,2,none⟩ (.bool s6)).setCell ⟨w.heap.size+1+1,3,none⟩ (.slice A6 n6 c6)=W9 at *
 have z0:=HR9.out.c0
 have z1:=HR9.out.c1
 have z2:=HR9.out.c2
 have z3:=HR9.out.c3
 exact bodyPost_ret (by simp [results,Tryz.results116,go_sem,z0,z1,z2,z3]) rfl ⟨_,_,_,_,_,_,_,_,_,_,_,rfl,HO9.out.1,HO9.out.2,hy,HB9.out⟩
theorem qsub_any {N:Nat}{s1 s2 s3 s4:Bool}{A1 A2 A3 A4:Option Addr}{n1 c1 n2 c2 n3 c3 n4 c4:Nat}{z1 d1 z2 d2:Int}{w:World}(h1:RdZ w w.heap.size s1 A1 n1 c1 z1)(h2:RdZ w w.heap.size s2 A2 n2 c2 d1)(h3:RdZ w w.heap.size s3 A3 n3 c3 z2)(h4:RdZ w w.heap.size s4 A4 n4 c4 d2)(hn:n1<=N/\n2<=N/\n3<=N/\n4<=N)(hN:N<=200000000000) :
  Calls Tryz.prog 225 #[.agg #[.bool s1,.slice A1 n1 c1,.bool s2,.slice A2 n2 c2],.agg #[.bool s3,.slice A3 n3 c3,.bool s4,.slice A4 n4 c4]] w (RetQE (d1 ≠ 0/\d2 ≠ 0) (Rat.divInt z1 d1-Rat.divInt z2 d2) w):=by
 have heg:=enters_of Tryz.func245 (by kernel_rfl) rfl
 obtain ⟨W1,HW1⟩:∃ W,W=((w.alloc (.cells #[.bool s1,.slice A1 n1 c1,.bool s2,.slice A2 n2 c2] 47)).alloc (.cells #[.bool s3,.slice A3 n3 c3,.bool s4,.slice A4 n4 c4] 47)).alloc (.cells #[.bool false,.slice none 0 0,.bool false,.slice none 0 0] 47):=⟨_,rfl⟩
 obtain ⟨hX,hY,hR,hB⟩:=q_boxes2 w s1 s2 s3 s4 A1 A2 A3 A4 n1 c1 n2 c2 n3 c3 n4 c4 W1 HW1
 obtain ⟨W2,HW2⟩:∃ W,W=W1.alloc (.cells #[.bool s1,.slice A1 n1 c1,.bool s2,.slice A2 n2 c2,.bool s3,.slice A3 n3 c3,.bool s4,.slice A4 n4 c4] 47):=⟨_,rfl⟩
 have hq:=qs_two (h1.next hB) (h2.next hB) (h3.next hB) (h4.next hB) hn HW2
 have hb2:Below W1.heap.size W1 W2:=by rw [HW2];exact bA
 have a0:=hX.c0
 have a1:=hX.c1
 have a2:=hX.c2
 have a3:=hX.c3
 have b0:=hY.c0
 have b1:=hY.c1
 have b2:=hY.c2
 have b3:=hY.c3
 have hs1:W1.heap.size=w.heap.size+1+1+1:=by rw [HW1];simp
 rw [hs1] at hq
 rw [HW1] at a0 a1 a2 a3 b0 b1 b2 b3 HW2
 have HQ:=ah hq
 have HR2:=ah (hR.next hb2)
 have HB2:=ah (hB.trans (hb2.mono hB.size))
 have HSW:=ah (show w.heap.size<=W2.heap.size from nT hB.size hb2.size)
 have HLZ:=ah (show Zz.zl z1<=N/\Zz.zl d1<=N/\Zz.zl z2<=N/\Zz.zl d2<=N from ⟨nT h1.len hn.1,nT h2.len hn.2.1,nT h3.len hn.2.2.1,nT h4.len hn.2.2.2⟩)
 have HW2:=ah HW2
 clear hX hY hR hB hq hb2 hs1 HW1 h1 h2 h3 h4
 go_enter Tryz.func225,Tryz.ntmps225
 go_wp2_with fail
 rw [<- HW2.out]
 clear HW2 a0 a1 a2 a3 b0 b1 b2 b3
 clear HW2
 refine (made_any (N:=N) (z:=(Rat.divInt z1 d1-Rat.divInt z2 d2).num) (d:=(Rat.divInt z1 d1-Rat.divInt z2 d2).den) (k:=0) HQ.out (by decide) (by omega) heg (fun hne W A' c' b hb _ ho=>by
  have e1:d1 ≠ 0:=hne (z1,d1) (by simp)
  have e2:d2 ≠ 0:=hne (z2,d2) (by simp)
  exact qsubIn_any (N:=N) ho ⟨nT (zl_qnum e1) HLZ.out.1,nT (zl_qden e1) HLZ.out.2.1⟩ ⟨nT (zl_qnum e2) HLZ.out.2.2.1,nT (zl_qden e2) HLZ.out.2.2.2⟩ (by omega))).mono ?_
 intro e3 W3 hpost
 obtain ⟨s5,A5,n5,c5,y5,s6,A6,n6,c6,y6,kk,rfl,ho5,ho6,hy,hb3⟩:RetQE (d1 ≠ 0/\d2 ≠ 0) (Rat.divInt z1 d1-Rat.divInt z2 d2) W2 e3 W3:=by
  rcases hpost with ⟨hall,s5,A5,n5,c5,y5,s6,A6,n6,c6,y6,kk,k1,k2,k3,k4,k5⟩ | ⟨⟨p,hp,hp0⟩,k1,k2⟩
  ·exact ⟨s5,A5,n5,c5,y5,s6,A6,n6,c6,y6,kk,k1,k2,k3,ah (.inl ⟨⟨hall (z1,d1) (by simp),hall (z2,d2) (by simp)⟩,k4.out⟩),k5⟩
  ·refine ⟨false,none,0,0,0,false,none,0,0,0,6,k1,OwZ.zero _ _,OwZ.zero _ _,ah (.inr ⟨?_,rfl,rfl,rfl⟩),k2⟩
   rintro ⟨e1,e2⟩
   simp at hp
   rcases hp with rfl | rfl
   ·exact e1 hp0
   ·exact e2 hp0
 have hR5:=HR2.out.next hb3
 have r0:=hR5.c0
 have r1:=hR5.c1
 have r2:=hR5.c2
 have r3:=hR5.c3
 have f0:=hR5.fz 0
 have f1:=hR5.fz 1
 have f2:=hR5.fz 2
 have f3:=hR5.fz 3
 have HR9:=ah (hR5.store s5 A5 n5 c5 s6 A6 n6 c6)
 have HO9:=ah (cJ ((ho5.base (b':=w.heap.size) HSW.out).keep (keep_putQ hR5 s5 A5 n5 c5 s6 A6 n6 c6)) ((ho6.base (b':=w.heap.size) HSW.out).keep (keep_putQ hR5 s5 A5 n5 c5 s6 A6 n6 c6)))
 have HB9:=ah (below_putQ (HB2.out.trans (hb3.mono HB2.out.size)) (show w.heap.size<=w.heap.size+1+1 by omega) s5 A5 n5 c5 s6 A6 n6 c6)
 unfold putQ at HR9 HB9 HO9
 clear ho5 ho6 hb3 hR5 hpost
 go_wp2_with fail
 generalize (((W3.setCell ⟨w.heap.size+1+1,0,none⟩ (.bool s5)).setCell ⟨w.heap.size+1+1,1,none⟩ (.slice A5 n5 c5)).setCell ⟨w.heap.size+1+1,2,none⟩ (.bool s6)).setCell ⟨w.heap.size+1+1,3,none⟩ (.slice A6 n6 c6)=W9 at *
 have z0:=HR9.out.c0
 have z1:=HR9.out.c1
 have z2:=HR9.out.c2
 have z3:=HR9.out.c3
 exact bodyPost_ret (by simp [results,Tryz.results225,go_sem,z0,z1,z2,z3]) rfl ⟨_,_,_,_,_,_,_,_,_,_,_,rfl,HO9.out.1,HO9.out.2,hy,HB9.out⟩
theorem qquo_val (x y:Rat):Rat.divInt (x.num*(y.den:Int)) ((x.den:Int)*y.num)=x / y:=by
 rw [<- Rat.divInt_mul_divInt,Rat.num_divInt_den,Rat.div_def]
 conv=>rhs;rw [<- Rat.num_divInt_den y]
 rw [Rat.inv_divInt]
theorem qquoIn_any {N b:Nat}{A:Option Addr}{c:Nat}{x y:Rat}{w:World}(h:OwQs w b A 2 c [x,y])(hx:Zz.zl x.num<=N/\Zz.zl x.den<=N)(hy:Zz.zl y.num<=N/\Zz.zl y.den<=N)(hN:N<=400000000000)(h0:y ≠ 0) :
  Calls Tryz.prog 244 #[.slice A 2 c] w (RetZD2 (x / y).num (x / y).den 0 w):=by
 obtain ⟨g,s1,A1,n1,c1,s2,A2,n2,c2,s3,A3,n3,c3,s4,A4,n4,c4,rfl,hg,⟨a0,a1,a2,a3⟩,⟨b0,b1,b2,b3⟩,ox,oy⟩:=oq_two h
 obtain ⟨W1,HW1⟩:∃ W,W=w.alloc (.cells #[.bool false,.slice none 0 0,.bool false,.slice none 0 0] 47):=⟨_,rfl⟩
 have hR:QC W1 w.heap.size false none 0 0 false none 0 0:=by rw [HW1];exact QC.new w false none 0 0 false none 0 0
 have hB:Below w.heap.size w W1:=by rw [HW1];exact bA
 have HCE:=ah (show ∀ W:World,Below W1.heap.size W1 W->(W.cell? ⟨g,0,none⟩=some (.bool s1)/\W.cell? ⟨g,1,none⟩=some (.slice A1 n1 c1)/\W.cell? ⟨g,2,none⟩=some (.bool s2)/\W.cell? ⟨g,3,none⟩=some (.slice A2 n2 c2)/\W.cell? ⟨g,4,none⟩=some (.bool s3)/\W.cell? ⟨g,5,none⟩=some (.slice A3 n3 c3)/\W.cell? ⟨g,6,none⟩=some (.bool s4)/\W.cell? ⟨g,7,none⟩=some (.slice A4 n4 c4)) from fun W hb=>by
  have hb':=hB.trans (hb.mono hB.size)
  exact ⟨(hb'.cell hg).trans a0,(hb'.cell hg).trans a1,(hb'.cell hg).trans a2,(hb'.cell hg).trans a3,(hb'.cell hg).trans b0,(hb'.cell hg).trans b1,(hb'.cell hg).trans b2,(hb'.cell hg).trans b3⟩)
 have HCP:=ah (show ∀ (W:World) (t:Bool) (D:Option Addr) (k m:Nat) (t':Bool) (D':Option Addr) (k' m':Nat),Below W1.heap.size W1 W->((putQ W w.heap.size t D k m t' D' k' m').cell? ⟨g,0,none⟩=some (.bool s1)/\(putQ W w.heap.size t D k m t' D' k' m').cell? ⟨g,1,none⟩=some (.slice A1 n1 c1)/\(putQ W w.heap.size t D k m t' D' k' m').cell? ⟨g,2,none⟩=some (.bool s2)/\(putQ W w.heap.size t D k m t' D' k' m').cell? ⟨g,3,none⟩=some (.slice A2 n2 c2)/\(putQ W w.heap.size t D k m t' D' k' m').cell? ⟨g,4,none⟩=some (.bool s3)/\(putQ W w.heap.size t D k m t' D' k' m').cell? ⟨g,5,none⟩=some (.slice A3 n3 c3)/\(putQ W w.heap.size t D k m t' D' k' m').cell? ⟨g,6,none⟩=some (.bool s4)/\(putQ W w.heap.size t D k m t' D' k' m').cell? ⟨g,7,none⟩=some (.slice A4 n4 c4)) from fun W t D k m t' D' k' m' hb=>by
  have hP:=below_putQ (Below.refl w.heap.size W) (Nat.le_refl w.heap.size) t D k m t' D' k' m'
  obtain ⟨e0,e1,e2,e3,e4,e5,e6,e7⟩:=HCE.out W hb
  exact ⟨(hP.cell hg).trans e0,(hP.cell hg).trans e1,(hP.cell hg).trans e2,(hP.cell hg).trans e3,(hP.cell hg).trans e4,(hP.cell hg).trans e5,(hP.cell hg).trans e6,(hP.cell hg).trans e7⟩)
 unfold putQ at HCP
 have HX:=ah (show ∀ W:World,Below W1.heap.size W1 W->RdZ W W.heap.size s1 A1 n1 c1 x.num/\RdZ W W.heap.size s2 A2 n2 c2 x.den/\RdZ W W.heap.size s3 A3 n3 c3 y.num/\RdZ W W.heap.size s4 A4 n4 c4 y.den from fun W hb=>by
  have hb':=hB.trans (hb.mono hB.size)
  exact ⟨(ox.num.next hb').rd,(ox.den.next hb').rd,(oy.num.next hb').rd,(oy.den.next hb').rd⟩)
 have HNN:=ah (show n1<=N/\n2<=N/\n3<=N/\n4<=N from ⟨by rw [ox.num.len];exact hx.1,by rw [ox.den.len];exact hx.2,by rw [oy.num.len];exact hy.1,by rw [oy.den.len];exact hy.2⟩)
 have HB:=ah hB
 have HRR:=ah (show ∀ W:World,Below W1.heap.size W1 W->QC W w.heap.size false none 0 0 false none 0 0 from fun W hb=>hR.next hb)
 have HY0:=ah (show y.num ≠ 0 from mt Rat.num_eq_zero.1 h0)
 have HXY:=ah (cJ hx hy)
 have HGN:=ah (show g ≠ w.heap.size by omega)
 have HW1:=ah HW1
 clear a0 a1 a2 a3 b0 b1 b2 b3 ox oy hR hB h hx hy h0
 obtain ⟨a0,a1,a2,a3,b0,b1,b2,b3⟩:=HCE.out W1 bR
 rw [HW1.out] at b0 b1
 go_enter Tryz.func244,Tryz.ntmps244
 go_wp2_with fail
 rw [<- HW1.out]
 clear HW1
 clear HW1
 refine (sign_any (HX.out _ bR).2.2.1 (by have:=HNN.out;omega)).mono ?_
 rintro _ V1 ⟨k1,rfl,hk1,hv1⟩
 have hkb:(k1 == 0)=false:=by
  have e:=hk1.out
  have e2:=mt Int.sign_eq_zero_iff_zero.1 HY0.out
  rw [<- e] at e2
  simpa using e2
 have HD:=ah hv1.drew
 clear a0 a1 a2 a3 b0 b1 b2 b3 hk1
 obtain ⟨a0,a1,a2,a3,b0,b1,b2,b3⟩:=HCE.out V1 hv1
 clear hv1
 go_upto_region 3 with fail
 go_region_held3 (fun w'=>w'.cell? ⟨g,0,none⟩=some (.bool s1)/\w'.cell? ⟨g,1,none⟩=some (.slice A1 n1 c1)/\w'.cell? ⟨g,2,none⟩=some (.bool s2)/\w'.cell? ⟨g,3,none⟩=some (.slice A2 n2 c2)/\w'.cell? ⟨g,4,none⟩=some (.bool s3)/\w'.cell? ⟨g,5,none⟩=some (.slice A3 n3 c3)/\w'.cell? ⟨g,6,none⟩=some (.bool s4)/\w'.cell? ⟨g,7,none⟩=some (.slice A4 n4 c4))
  (first | exact HCE.out _ HB4.out | exact HCE.out _ HB3.out | exact HCE.out _ HB2.out | exact HCE.out _ HD.out | exact HCP.out _ _ _ _ _ _ _ _ _ HB4.out)
  (first
   | (go_at_call 83;refine (qmake_any ho2.rd ho3.rd HN2.out HN3.out HD3.out).mono ?_;rintro _ W4 ⟨s7,A7,n7,c7,s8,A8,n8,c8,q4,rfl,ho4,hq4,hb4⟩;have HB4:=tM HB3 hb4;have hR4:=HRR.out _ HB4.out;have r0:=hR4.c0;have r1:=hR4.c1;have r2:=hR4.c2;have r3:=hR4.c3;have f0:=hR4.fz 0;have f1:=hR4.fz 1;have f2:=hR4.fz 2;have f3:=hR4.fz 3)
   | (have hxx:=HB2.out;clear hxx;go_at_call 146;refine (imul_any (HX.out _ HB2.out).2.1 (HX.out _ HB2.out).2.2.1 (by have:=HNN.out;omega) (by have:=HNN.out;omega)).mono ?_;rintro _ W3 ⟨s6,A6,n6,c6,y3,rfl,ho3,hy3,hb3⟩;have HB3:=tM HB2 hb3;have ho2:=ho2.next hb3;have HN3:=ah (show n6<=1000000000000 by { rw [ho3.len,hy3.out];have e1:=Zz.zl_mul (x.den:Int) y.num;have e2:=HXY.out;omega });have HD3:=ah (show y3 ≠ 0 by { rw [hy3.out];exact Int.mul_ne_zero (qden_ne x) HY0.out }))
   | (go_at_call 146;refine (imul_any (HX.out _ HD.out).1 (HX.out _ HD.out).2.2.2 (by have:=HNN.out;omega) (by have:=HNN.out;omega)).mono ?_;rintro _ W2 ⟨s5,A5,n5,c5,y2,rfl,ho2,hy2,hb2⟩;have HB2:=tM HD hb2;have HN2:=ah (show n5<=1000000000000 by { rw [ho2.len,hy2.out];have e1:=Zz.zl_mul x.num (y.den:Int);have e2:=HXY.out;omega })))
 have hR4':=HRR.out _ HB4.out
 have HR9:=ah (hR4'.store s7 A7 n7 c7 s8 A8 n8 c8)
 have HO9:=ah ((ho4.base (b':=w.heap.size) (nT HB.out.size HB3.out.size)).keep (keep_putQ hR4' s7 A7 n7 c7 s8 A8 n8 c8))
 have HB9:=ah (below_putQ (HB.out.trans (HB4.out.mono HB.out.size)) (Nat.le_refl w.heap.size) s7 A7 n7 c7 s8 A8 n8 c8)
 have HV:=ah (show q4=x / y by rw [hq4.out,hy2.out,hy3.out];exact qquo_val x y)
 unfold putQ at HR9 HO9 HB9
 clear a0 a1 a2 a3 b0 b1 b2 b3 r0 r1 r2 r3 f0 f1 f2 f3 hR4 hR4' ho2 ho3 ho4 hb2 hb3 hb4 hy2 hy3 hq4
 generalize (((W4.setCell ⟨w.heap.size,0,none⟩ (.bool s7)).setCell ⟨w.heap.size,1,none⟩ (.slice A7 n7 c7)).setCell ⟨w.heap.size,2,none⟩ (.bool s8)).setCell ⟨w.heap.size,3,none⟩ (.slice A8 n8 c8)=W9 at *
 have z0:=HR9.out.c0
 have z1:=HR9.out.c1
 have z2:=HR9.out.c2
 have z3:=HR9.out.c3
 go_wp2
 exact bodyPost_ret (by simp [results,Tryz.results244,go_sem,z0,z1,z2,z3];rfl) rfl ⟨_,_,_,_,_,_,_,_,_,_,_,rfl,HO9.out.num,HO9.out.den,ah (by rw [HV.out];exact ⟨rfl,rfl,rfl⟩),HB9.out⟩
end Go.Proofs.YtjnklbfhelbjgaaGreat
