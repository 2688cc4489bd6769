/- Sc19. -/
import Derived.Test.YtjnklbfhelbjgaaGreatSc18
import Derived.Test.YtjnklbfhelbjgaaGreatSc15
import Derived.Deep.RegionWith
import Derived.Test.YtjnklbfhelbjgaaGreatSc11
import Derived.Test.YtjnklbfhelbjgaaGreatSc14
import Derived.Test.YtjnklbfhelbjgaaGreatSc16
import Derived.Test.YtjnklbfhelbjgaaGreatSc00
set_option maxRecDepth 100000
set_option maxHeartbeats 32000000
set_option linter.all false
namespace Go.Proofs.YtjnklbfhelbjgaaGreat
open Go.RowKit Go.IntWalk
attribute [local go_sem ↓] Go.wp_at_zero Go.wp_at_succ
theorem getD_of {LL:List (List Rat)}{i:Nat}{L:List Rat}(h:LL[i]?=some L):LL.getD i []=L:=by rw [List.getD_eq_getElem?_getD,h];rfl
theorem QC.far4 {w:World}{g g':Nat}{s s':Bool}{A A':Option Addr}{n c n' c':Nat}(h:QC w g s A n c s' A' n' c')(hne:g ≠ g')(x y z u:Value):QC (put4 w g' x y z u) g s A n c s' A' n' c' :=
 (((h.far (p:=⟨g',0,none⟩) hne x).far (p:=⟨g',1,none⟩) hne y).far (p:=⟨g',2,none⟩) hne z).far (p:=⟨g',3,none⟩) hne u
theorem rat_den (x:Rat):(x.den:Int) ≠ 0:=by simpa using x.den_nz
theorem rqEval_any {N N':Nat}{s s':Bool}{A A' A'':Option Addr}{n c n' c' n'' c'':Nat}{L:List (Int × Int)}{z d:Int}{w:World}(h:RdQs w w.heap.size N A n c L)(h':RdZ w w.heap.size s A' n' c' z)(h'':RdZ w w.heap.size s' A'' n'' c'' d)(hd:∀ p ∈ L,p.2 ≠ 0)(hd0:d ≠ 0)(hn':n'<=N')(hn'':n''<=N')(hsz:2+(n+1)*(N'+N+1)<=200000000000)(h1N:1<=N) :
  Calls Tryz.prog 70 #[.slice A n c,.agg #[.bool s,.slice A' n' c',.bool s',.slice A'' n'' c'']] w (RetV4 (Pq.psum (Pq.co (L.map qval)) (Rat.divInt z d) n) w):=by
 obtain ⟨x,hx⟩:∃ x,x=Rat.divInt z d:=⟨_,rfl⟩
 have HXV:=ah hx
 have HXS:=ah (show Qs N' x by rw [hx];exact Qs.divInt hd0 (nT h'.len hn') (nT h''.len hn''))
 rw [<- hx]
 have HSP:=ah (fun i=>psum_sz (h.sz hd h1N) HXS.out i)
 have HSB:=ah (show ∀ i,i<=n->2+i*(N'+N+1)+N'+N<=200000000000/\1+i*N'+N<=200000000000 from fun i hi=>by
  have e1:(i+1)*(N'+N+1)<=(n+1)*(N'+N+1):=Nat.mul_le_mul_right _ (by omega)
  have e2:(i+1)*(N'+N+1)=i*(N'+N+1)+(N'+N+1):=Nat.succ_mul _ _
  have e3:i*N'<=i*(N'+N+1):=Nat.mul_le_mul_left _ (by omega)
  omega)
 have hnl:n<=200000000000:=by
  have e1:(n+1)*1<=(n+1)*(N'+N+1):=Nat.mul_le_mul_left _ (by omega)
  omega
 have HDN:=ah hd
 have HLEN:=ah h.len
 have HH:=ah (cJ h' (cJ h'' (cJ hn' (cJ hn'' hd0))))
 obtain ⟨W1,HW1⟩:∃ W,W=(w.alloc (.cells #[.bool s,.slice A' n' c',.bool s',.slice A'' n'' c''] 47)).alloc (.cells #[.bool false,.slice none 0 0,.bool false,.slice none 0 0] 47):=⟨_,rfl⟩
 obtain ⟨hX,hR,hB⟩:=q_box1 w s A' n' c' s' A'' n'' c'' W1 HW1
 have HW1:=ah HW1
 clear hx hsz h' h'' hd
 go_enter Tryz.func70,Tryz.ntmps70
 go_wp2_with fail
 rw [<- HW1.out]
 clear HW1
 clear HW1
 refine (rQOf_any 0 (by decide) (by decide) W1).mono ?_
 rintro _ W2 ⟨s1,A1,n1,c1,s2,A2,n2,c2,y1,rfl,ho1,hy1,hb1⟩
 go_wp2_with fail
 refine (rQOf_any 1 (by decide) (by decide) W2).mono ?_
 rintro _ W3 ⟨s3,A3,n3,c3,s4,A4,n4,c4,y2,rfl,ho2,hy2,hb2⟩
 go_wp2_with fail
 obtain ⟨W4,HW4⟩:∃ W,W=(W3.alloc (.cells #[.bool s1,.slice A1 n1 c1,.bool s2,.slice A2 n2 c2] 47)).alloc (.cells #[.bool s3,.slice A3 n3 c3,.bool s4,.slice A4 n4 c4] 47):=⟨_,rfl⟩
 rw [<- HW4]
 have hV:QC W4 W3.heap.size s1 A1 n1 c1 s2 A2 n2 c2:=by rw [HW4];exact (QC.new W3 s1 A1 n1 c1 s2 A2 n2 c2).alloc _
 have hP:QC W4 (W3.heap.size+1) s3 A3 n3 c3 s4 A4 n4 c4:=by rw [HW4];exact QC.newAt (by simp)
 have hb4:Below W3.heap.size W3 W4:=by rw [HW4];exact ((Below.refl W3.heap.size W3).alloc nR _).alloc (by simp) _
 clear HW4
 have hb24:=hb2.trans (hb4.mono hb2.size)
 have hb14:=hb1.trans (hb24.mono hb1.size)
 have hX4:=hX.next hb14
 have hR4:=hR.next hb14
 have hB4:=hB.trans (hb14.mono hB.size)
 have ho1:=ho1.next hb24
 have ho2:=(ho2.base (b':=W1.heap.size) hb1.size).next hb4
 have HGV:=ah (show W1.heap.size<=W3.heap.size from nT hb1.size hb2.size)
 have HSR:=ah hR.lt
 obtain ⟨gv,hgv⟩:∃ g,g=W3.heap.size:=⟨_,rfl⟩
 rw [<- hgv] at hV hP HGV ⊢
 have HWW:=ah hB.size
 clear hgv hb1 hb2 hb4 hb24 hb14 hX hR hB
 go_loopw [13] (fun iv wr=>∃ (i:Nat) (s2:Bool) (A2:Option Addr) (n2 c2:Nat) (s3:Bool) (A3:Option Addr) (n3 c3:Nat) (v:Rat) (s4:Bool) (A4:Option Addr) (n4 c4:Nat) (s5:Bool) (A5:Option Addr) (n5 c5:Nat) (p:Rat),iv=.int .i64 i/\i<=n/\QC wr w.heap.size s A' n' c' s' A'' n'' c''/\QC wr (w.heap.size+1) false none 0 0 false none 0 0/\QC wr gv s2 A2 n2 c2 s3 A3 n3 c3/\QC wr (gv+1) s4 A4 n4 c4 s5 A5 n5 c5/\OwQ wr W1.heap.size s2 A2 n2 c2 s3 A3 n3 c3 v/\OwQ wr W1.heap.size s4 A4 n4 c4 s5 A5 n5 c5 p/\Hid (v=Pq.psum (Pq.co (L.map qval)) x i/\p=x ^ i)/\Below w.heap.size w wr) (fun iv _=>n-(intOf iv).toNat)
 case atStart=>exact ⟨0,s1,A1,n1,c1,s2,A2,n2,c2,y1,s3,A3,n3,c3,s4,A4,n4,c4,y2,rfl,nZ,hX4,hR4,hV,hP,ho1,ho2,ah ⟨hy1.out,by rw [hy2.out,Rat.pow_zero];rfl⟩,hB4⟩
 case round =>
  clear hX4 hR4 hV hP ho1 ho2 hB4
  obtain ⟨i,s2,A2,n2,c2,s3,A3,n3,c3,v,s4,A4,n4,c4,s5,A5,n5,c5,p,rfl,hi,hX,hR,hV,hP,hov,hop,hy,hB⟩:=hrel
  have HSV:=ah (show Qs (2+i*(N'+N+1)) v by rw [hy.out.1];exact (HSP.out i).1)
  have HSQ:=ah (show Qs (1+i*N') p by rw [hy.out.2];exact (HSP.out i).2)
  by_cases hin:i=n
  ·have hni:=hin.symm
   subst hni
   clear hin
   have v0:=hV.c0
   have v1:=hV.c1
   have v2:=hV.c2
   have v3:=hV.c3
   have r0:=hR.c0
   have r1:=hR.c1
   have r2:=hR.c2
   have r3:=hR.c3
   have f0:=hR.fz 0
   have f1:=hR.fz 1
   have f2:=hR.fz 2
   have f3:=hR.fz 3
   have HR9:=ah (hR.store s2 A2 n2 c2 s3 A3 n3 c3)
   have HO9:=ah ((hov.base (b':=w.heap.size) HWW.out).keep (keep_putQ hR s2 A2 n2 c2 s3 A3 n3 c3))
   have HB9:=ah (below_putQ hB (Nat.le_succ w.heap.size) s2 A2 n2 c2 s3 A3 n3 c3)
   unfold putQ at HR9 HB9 HO9
   clear hX hR hV hP hov hop hB
   go_wp2_with fail
   generalize (((wr.setCell ⟨w.heap.size+1,0,none⟩ (.bool s2)).setCell ⟨w.heap.size+1,1,none⟩ (.slice A2 n2 c2)).setCell ⟨w.heap.size+1,2,none⟩ (.bool s3)).setCell ⟨w.heap.size+1,3,none⟩ (.slice A3 n3 c3)=W9 at *
   have z0:=HR9.out.c0
   have z1:=HR9.out.c1
   have z2:=HR9.out.c2
   have z3:=HR9.out.c3
   exact bodyPost_ret (by simp [results,Tryz.results70,go_sem,z0,z1,z2,z3]) rfl ⟨s2,A2,n2,c2,s3,A3,n3,c3,v,rfl,HO9.out,ah hy.out.1,HB9.out⟩
  ·have hil:i < n:=by omega
   clear hin
   have hili:(i:Int) < (n:Int):=by omega
   obtain ⟨ad,s6,A6,n6,c6,s7,A7,n7,c7,z6,d6,rfl,hbk,hz0,hz1,hz2,hz3,hrz,hrd,hn6,hn7,hz⟩:=qs_at h hil
   obtain ⟨hw0,hw1,hw2,hw3⟩:=qs_cells hB hbk hz0 hz1 hz2 hz3
   have HZV:=ah (show Pq.co (L.map qval) i=Rat.divInt z6 d6 from qval_at hz.out)
   have HZD:=ah (show d6 ≠ 0 from HDN.out _ (gM hz.out))
   have HNI:=ah (cJ hn6 hn7)
   obtain ⟨W4,HW4⟩:∃ W,W=wr.alloc (.cells #[.bool s6,.slice A6 n6 c6,.bool s7,.slice A7 n7 c7] 47):=⟨_,rfl⟩
   have hC:QC W4 wr.heap.size s6 A6 n6 c6 s7 A7 n7 c7:=by rw [HW4];exact QC.new wr s6 A6 n6 c6 s7 A7 n7 c7
   have hb4:Below wr.heap.size wr W4:=by rw [HW4];exact bA
   have HW4:=ah HW4
   have HIL:=ah hil
   clear hn6 hn7
   go_upto_region 5 with fail
   rw [<- HW4.out]
   clear HW4 hw0 hw1 hw2 hw3 hz0 hz1 hz2 hz3 hz
   clear HW4
   obtain ⟨gc,hgc⟩:∃ g,g=wr.heap.size:=⟨_,rfl⟩
   rw [<- hgc] at hC ⊢
   clear hgc
   have HX4:=ah (hX.next hb4)
   have HR4:=ah (hR.next hb4)
   have HV4:=ah (hV.next hb4)
   have HP4:=ah (hP.next hb4)
   have HOV:=ah (hov.next hb4)
   have HOP:=ah (hop.next hb4)
   have HB4:=ah (hB.trans (hb4.mono hB.size))
   have HRZ:=ah (cJ (hrz.next HB4.out) (hrd.next HB4.out))
   have HBD:=ah (Below.refl W4.heap.size W4).drew
   have HSZ:=ah (HSB.out i (Nat.le_of_lt HIL.out))
   have HPN:=ah (show n4<=1+i*N'+N/\n5<=1+i*N'+N from ⟨by rw [hop.num.len];exact nT HSQ.out.1 (Nat.le_add_right _ _),by rw [hop.den.len];exact nT HSQ.out.2 (Nat.le_add_right _ _)⟩)
   have HVN:=ah (show n2<=2+i*(N'+N+1)+N'+N/\n3<=2+i*(N'+N+1)+N'+N from ⟨by rw [hov.num.len];exact nT HSV.out.1 (by omega),by rw [hov.den.len];exact nT HSV.out.2 (by omega)⟩)
   have HMU:=ah (rQMul_any (N:=1+i*N'+N) (HRZ.out.1.next HBD.out) (HRZ.out.2.next HBD.out) (HOP.out.next HBD.out).num.rd (HOP.out.next HBD.out).den.rd ⟨by have:=HNI.out;omega,by have:=HNI.out;omega,HPN.out.1,HPN.out.2⟩ HSZ.out.2 HZD.out (rat_den p))
   have HMS:=ah (show ∀ m:Rat,m=Rat.divInt z6 d6*Rat.divInt p.num p.den->Qs (2+i*(N'+N+1)+N'+N) m from fun m hm=>by
    rw [hm,Rat.num_divInt_den]
    refine ((Qs.divInt HZD.out (nT hrz.len HNI.out.1) (nT hrd.len HNI.out.2)).mul HSQ.out).mono ?_
    have h2:i*N'<=i*(N'+N+1):=Nat.mul_le_mul_left _ (by omega)
    omega)
   have v0:=HV4.out.c0
   have v1:=HV4.out.c1
   have v2:=HV4.out.c2
   have v3:=HV4.out.c3
   have c0:=hC.c0
   have c1:=hC.c1
   have c2:=hC.c2
   have c3:=hC.c3
   have p0:=HP4.out.c0
   have p1:=HP4.out.c1
   have p2:=HP4.out.c2
   have p3:=HP4.out.c3
   clear hX hR hV hP hov hop hB hrz hrd hb4 hil hi hili
   go_region_with (first
    | (go_at_call 124;refine HMU.out.mono ?_;rintro _ W6 ⟨s8,A8,n8,c8,s9,A9,n9,c9,m,rfl,ho6,hz6,hb6⟩;have HB6:=ah (HBD.out.trans hb6);have la0:=(HV4.out.next HB6.out).c0;have la1:=(HV4.out.next HB6.out).c1;have la2:=(HV4.out.next HB6.out).c2;have la3:=(HV4.out.next HB6.out).c3)
    | (go_at_call 123;refine (rQAdd_any (N:=2+i*(N'+N+1)+N'+N) (HOV.out.next HB6.out).num.rd (HOV.out.next HB6.out).den.rd ho6.num.rd ho6.den.rd ⟨HVN.out.1,HVN.out.2,?nm,?nd⟩ HSZ.out.1 (rat_den v) (rat_den m)).mono ?_;(case nm=>rw [ho6.num.len];exact (HMS.out m hz6.out).1);(case nd=>rw [ho6.den.len];exact (HMS.out m hz6.out).2);rintro _ W7 ⟨s10,A10,n10,c10,s11,A11,n11,c11,y,rfl,ho7,hz7,hb7⟩;have HB7:=tM HB6 hb7;have lb0:=(HV4.out.next HB7.out).c0;have lb1:=(HV4.out.next HB7.out).c1;have lb2:=(HV4.out.next HB7.out).c2;have lb3:=(HV4.out.next HB7.out).c3;have lf0:=(HV4.out.next HB7.out).fz 0;have lf1:=(HV4.out.next HB7.out).fz 1;have lf2:=(HV4.out.next HB7.out).fz 2;have lf3:=(HV4.out.next HB7.out).fz 3))
   all_goals
    have HFA:=ah (show y=Pq.psum (Pq.co (L.map qval)) x (i+1) by rw [hz7.out,Rat.num_divInt_den,Rat.num_divInt_den,hz6.out,Rat.num_divInt_den,hy.out.1,hy.out.2,Pq.psum_succ,HZV.out])
    have hV7:=HV4.out.next HB7.out
    have HGE:=ah (show w.heap.size ≠ gv/\w.heap.size+1 ≠ gv/\gv+1 ≠ gv/\w.heap.size ≠ gv+1/\w.heap.size+1 ≠ gv+1/\gv ≠ gv+1 from by have:=HGV.out;have:=HSR.out;omega)
    have hV8:=hV7.store s10 A10 n10 c10 s11 A11 n11 c11
    have hX8:=(HX4.out.next HB7.out).far4 HGE.out.1 (.bool s10) (.slice A10 n10 c10) (.bool s11) (.slice A11 n11 c11)
    have hR8:=(HR4.out.next HB7.out).far4 HGE.out.2.1 (.bool s10) (.slice A10 n10 c10) (.bool s11) (.slice A11 n11 c11)
    have hP8:=(HP4.out.next HB7.out).far4 HGE.out.2.2.1 (.bool s10) (.slice A10 n10 c10) (.bool s11) (.slice A11 n11 c11)
    have hO8:=(HOP.out.next HB7.out).puts (QE.of hV7) (.bool s10) (.slice A10 n10 c10) (.bool s11) (.slice A11 n11 c11)
    have hY8:=(ho7.base (b':=W1.heap.size) (by have h1:=HV4.out.lt;have h2:=HB6.out.size;have h3:=HGV.out;omega)).puts (QE.of hV7) (.bool s10) (.slice A10 n10 c10) (.bool s11) (.slice A11 n11 c11)
    have hB8:=below_put4 (HB4.out.trans (HB7.out.mono HB4.out.size)) (show w.heap.size<=gv by have:=HGV.out;have:=HSR.out;omega) (.bool s10) (.slice A10 n10 c10) (.bool s11) (.slice A11 n11 c11)
    unfold putQ at hV8
    unfold put4 at hX8 hR8 hP8 hO8 hY8
    clear v0 v1 v2 v3 c0 c1 c2 c3 p0 p1 p2 p3 la0 la1 la2 la3 lb0 lb1 lb2 lb3 lf0 lf1 lf2 lf3 hb6 hb7 ho6 ho7 hV7
    generalize (((W7.setCell ⟨gv,0,none⟩ (.bool s10)).setCell ⟨gv,1,none⟩ (.slice A10 n10 c10)).setCell ⟨gv,2,none⟩ (.bool s11)).setCell ⟨gv,3,none⟩ (.slice A11 n11 c11)=W8 at hV8 hX8 hR8 hP8 hO8 hY8 hB8 ⊢
    have p0:=hP8.c0
    have p1:=hP8.c1
    have p2:=hP8.c2
    have p3:=hP8.c3
    have x0:=hX8.c0
    have x1:=hX8.c1
    have x2:=hX8.c2
    have x3:=hX8.c3
    go_wp2_with fail
    refine (rQMul_any (N:=2+i*(N'+N+1)+N'+N) hO8.num.rd hO8.den.rd (HH.out.1.next hB8) (HH.out.2.1.next hB8) ⟨?e1,?e2,?e3,?e4⟩ HSZ.out.1 (rat_den p) HH.out.2.2.2.2).mono ?_
    case e1=>have h1:=HPN.out.1;have h2:i*N'<=i*(N'+N+1):=Nat.mul_le_mul_left _ (by omega);omega
    case e2=>have h1:=HPN.out.2;have h2:i*N'<=i*(N'+N+1):=Nat.mul_le_mul_left _ (by omega);omega
    case e3=>have h1:=HH.out.2.2.1;omega
    case e4=>have h1:=HH.out.2.2.2.1;omega
    rintro _ W9 ⟨s12,A12,n12,c12,s13,A13,n13,c13,q,rfl,ho9,hz9,hb9⟩
    have hP9:=hP8.next hb9
    have HPW:=ah (show q=x ^ (i+1) by rw [hz9.out,Rat.num_divInt_den,<- HXV.out,hy.out.2,Rat.pow_succ])
    have HX10:=ah ((hX8.next hb9).far4 HGE.out.2.2.2.1 (.bool s12) (.slice A12 n12 c12) (.bool s13) (.slice A13 n13 c13))
    have HR10:=ah ((hR8.next hb9).far4 HGE.out.2.2.2.2.1 (.bool s12) (.slice A12 n12 c12) (.bool s13) (.slice A13 n13 c13))
    have HV10:=ah ((hV8.next hb9).far4 HGE.out.2.2.2.2.2 (.bool s12) (.slice A12 n12 c12) (.bool s13) (.slice A13 n13 c13))
    have HP10:=ah (hP9.store s12 A12 n12 c12 s13 A13 n13 c13)
    have HOV10:=ah ((hY8.next hb9).puts (QE.of hP9) (.bool s12) (.slice A12 n12 c12) (.bool s13) (.slice A13 n13 c13))
    have HOP10:=ah ((ho9.base (b':=W1.heap.size) (by have h1:=hP8.lt;have h3:=HGV.out;omega)).puts (QE.of hP9) (.bool s12) (.slice A12 n12 c12) (.bool s13) (.slice A13 n13 c13))
    have HB10:=ah (below_put4 (hB8.trans (hb9.mono hB8.size)) (show w.heap.size<=gv+1 by have:=HGV.out;have:=HSR.out;omega) (.bool s12) (.slice A12 n12 c12) (.bool s13) (.slice A13 n13 c13))
    unfold putQ at HP10
    unfold put4 at HX10 HR10 HV10 HOV10 HOP10
    have q0:=hP9.c0
    have q1:=hP9.c1
    have q2:=hP9.c2
    have q3:=hP9.c3
    have k0:=hP9.fz 0
    have k1:=hP9.fz 1
    have k2:=hP9.fz 2
    have k3:=hP9.fz 3
    have hil2:=HIL.out
    clear p0 p1 p2 p3 x0 x1 x2 x3 hX8 hR8 hP8 hO8 hV8 hY8 hb9 ho9 hP9 hB8
    go_wp2
    go_roundw
    case rel=>exact ⟨i+1,s10,A10,n10,c10,s11,A11,n11,c11,y,s12,A12,n12,c12,s13,A13,n13,c13,q,by go_num,by omega,HX10.out,HR10.out,HV10.out,HP10.out,HOV10.out,HOP10.out,ah ⟨HFA.out,HPW.out⟩,HB10.out⟩
    case measure=>simp [intOf];omega
theorem qcG1 {V W:World}(hb:Below ((V.alloc (.cells #[.bool false,.slice none 0 0,.bool false,.slice none 0 0] 47)).alloc (.cells #[.bool false,.slice none 0 0,.bool false,.slice none 0 0] 47)).heap.size ((V.alloc (.cells #[.bool false,.slice none 0 0,.bool false,.slice none 0 0] 47)).alloc (.cells #[.bool false,.slice none 0 0,.bool false,.slice none 0 0] 47)) W):QC W V.heap.size false none 0 0 false none 0 0:=((QC.new V false none 0 0 false none 0 0).alloc _).next hb
theorem qcG2 {V W:World}(hb:Below ((V.alloc (.cells #[.bool false,.slice none 0 0,.bool false,.slice none 0 0] 47)).alloc (.cells #[.bool false,.slice none 0 0,.bool false,.slice none 0 0] 47)).heap.size ((V.alloc (.cells #[.bool false,.slice none 0 0,.bool false,.slice none 0 0] 47)).alloc (.cells #[.bool false,.slice none 0 0,.bool false,.slice none 0 0] 47)) W):QC W (V.heap.size+1) false none 0 0 false none 0 0:=(QC.newAt (w:=V.alloc (.cells #[.bool false,.slice none 0 0,.bool false,.slice none 0 0] 47)) (by simp)).next hb
theorem qcH1 {V W:World}(hb:Below ((V.drew.alloc (.cells #[.bool false,.slice none 0 0,.bool false,.slice none 0 0] 47)).alloc (.cells #[.bool false,.slice none 0 0,.bool false,.slice none 0 0] 47)).heap.size ((V.drew.alloc (.cells #[.bool false,.slice none 0 0,.bool false,.slice none 0 0] 47)).alloc (.cells #[.bool false,.slice none 0 0,.bool false,.slice none 0 0] 47)) W):QC W V.heap.size false none 0 0 false none 0 0:=((QC.new V.drew false none 0 0 false none 0 0).alloc _).next hb
theorem qcH2 {V W:World}(hb:Below ((V.drew.alloc (.cells #[.bool false,.slice none 0 0,.bool false,.slice none 0 0] 47)).alloc (.cells #[.bool false,.slice none 0 0,.bool false,.slice none 0 0] 47)).heap.size ((V.drew.alloc (.cells #[.bool false,.slice none 0 0,.bool false,.slice none 0 0] 47)).alloc (.cells #[.bool false,.slice none 0 0,.bool false,.slice none 0 0] 47)) W):QC W (V.heap.size+1) false none 0 0 false none 0 0:=(QC.newAt (w:=V.drew.alloc (.cells #[.bool false,.slice none 0 0,.bool false,.slice none 0 0] 47)) (by simp)).next hb
theorem qEvalIn_any {b N N' c:Nat}{A:Option Addr}{P Q:List Rat}{w:World}(h:OwPs w b A 2 c [P,Q])(hP:∀ x ∈ P,Qs N x)(hQ:∀ x ∈ Q,Qs N' x)(hsz:2+(P.length+1)*(N'+N+1)<=200000000000)(h1N:1<=N)(h1N':1<=N') :
  Calls Tryz.prog 113 #[.slice A 2 c] w (RetQcE w.heap.size (fun y kk=>y=Pq.psum (Pq.co P) (Pq.co Q 0) P.length/\kk=0) w):=by
 obtain ⟨g,A1,n1,c1,L1,rfl,hbk,hx,ho1,hL1⟩:=opl_at h (show 0 < 2 by decide)
 obtain ⟨g',A2,n2,c2,L2,e,_,hy,ho2,hL2⟩:=opl_at h (show 1 < 2 by decide)
 injection e with e
 injection e with e
 subst e
 obtain rfl:P=L1:=by simpa using hL1.out
 obtain rfl:Q=L2:=by simpa using hL2.out
 obtain ⟨W1,HW1⟩:∃ W,W=w.alloc (.cells #[.bool false,.slice none 0 0,.bool false,.slice none 0 0] 47):=⟨_,rfl⟩
 have hR:QC W1 w.heap.size false none 0 0 false none 0 0:=by rw [HW1];exact QC.new w false none 0 0 false none 0 0
 have hB:Below w.heap.size w W1:=by rw [HW1];exact bA
 have hPl:P.length=n1:=ho1.len
 have HX:=ah (show ∀ W,Below W1.heap.size W1 W->RdQs W W.heap.size N A1 n1 c1 (P.map pr)/\RdQs W W.heap.size N' A2 n2 c2 (Q.map pr) from fun W hb=>by
  have hb':=hB.trans (hb.mono hB.size)
  exact ⟨(ho1.next hb').rd hP,(ho2.next hb').rd hQ⟩)
 have HCX:=ah (show ∀ W,Below W1.heap.size W1 W->W.cell? ⟨g,0,none⟩=some (.slice A1 n1 c1)/\W.cell? ⟨g,1,none⟩=some (.slice A2 n2 c2) from fun W hb=>by
  have hb':=hB.trans (hb.mono hB.size)
  exact ⟨(hb'.cell (p:=⟨g,0,none⟩) hbk).trans hx,(hb'.cell (p:=⟨g,1,none⟩) hbk).trans hy⟩)
 have HR:=ah (cJ hR (cJ hB hR.lt))
 have HN:=ah (cJ hsz hPl)
 have HBD:=ah (Below.refl W1.heap.size W1).drew
 have HW1:=ah HW1
 clear h hL1 hL2 ho1 ho2 hP hQ hR hB hsz hx hy hPl
 go_enter Tryz.func113,Tryz.ntmps113
 go_upto_region 1 with fail
 rw [<- HW1.out]
 clear HW1
 clear HW1
 go_cut [4,5] from 7 to 11 (fun pv xv V=>∃ (g4 g5:Nat) (s2:Bool) (A2:Option Addr) (n2 c2:Nat) (s3:Bool) (A3:Option Addr) (n3 c3:Nat) (s5:Bool) (A5:Option Addr) (n5 c5:Nat) (s6:Bool) (A6:Option Addr) (n6 c6:Nat),pv=.pointer (some ⟨g4,0,none⟩)/\xv=.pointer (some ⟨g5,0,none⟩)/\Hid (g4 ≠ g5/\W1.heap.size<=g4/\W1.heap.size<=g5)/\QC V g4 s2 A2 n2 c2 s3 A3 n3 c3/\QC V g5 s5 A5 n5 c5 s6 A6 n6 c6/\OwQ V W1.heap.size s2 A2 n2 c2 s3 A3 n3 c3 0/\RdN V s5 A5 n5 c5 (Pq.co Q 0).num/\RdN V s6 A6 n6 c6 ((Pq.co Q 0).den:Int)/\Hid (n5<=N'/\n6<=N')/\Below W1.heap.size W1 V)
 case first =>
  obtain ⟨la0,la1⟩:=HCX.out W1 bR
  have hw1:=HR.out.2.2
  go_region_held3 (fun w'=>w'.cell? ⟨g,0,none⟩=some (.slice A1 n1 c1)/\w'.cell? ⟨g,1,none⟩=some (.slice A2 n2 c2))
   ((refine HCX.out _ ?_;repeat (with_reducible first | exact HB3.out | exact HB2.out | exact HBD.out | exact bR | refine Below.drew ?_ | refine Below.setCell ?_ (by first | (simp only [];omega) | (simp;omega)) _ | refine Below.alloc ?_ (by first | omega | (simp;done) | (simp;omega)) _)))
   (first
    | (have hx:=HB2.out;clear hx;go_at_call 114;refine (qat_any 0 (HX.out _ ?bb).2 h1N').mono ?_;(case bb=>first | exact HB2.out | exact HB2.out.alloc HB2.out.size _ | exact (HB2.out.alloc HB2.out.size _).alloc (by simp;omega) _);rintro _ W3 ⟨s5,A5,n5,c5,s6,A6,n6,c6,rfl,h5,h6,hn5,hn6,hb3⟩;have HB23:Hid (Below W2.heap.size W2 W3):=ah (by first | exact hb3 | exact ((Below.refl W2.heap.size W2).alloc nR _).trans (hb3.mono (by simp)) | exact (((Below.refl W2.heap.size W2).alloc nR _).alloc (by simp) _).trans (hb3.mono (by simp;omega)));have HB3:=tM HB2 HB23.out;have hs3:=HB23.out.size;have hs4:=hb3.size;(try simp at hs4);(try have hA3:=HA2.out.next HB23.out);(try have hC3:=HC2.out.next HB23.out);(first | have hD3:QC W3 W2.heap.size false none 0 0 false none 0 0:=qcF2 hb3 | have hD3:QC W3 W2.heap.size false none 0 0 false none 0 0:=qcG1 hb3 | skip);(first | have hE3:QC W3 (W2.heap.size+1) false none 0 0 false none 0 0:=qcG2 hb3 | skip);(first | (have hz:=hC3;clear hz;have q1:=hA3.c0;have q2:=hA3.fz 0;have q3:=hA3.c1;have q4:=hA3.fz 1;have q5:=hA3.c2;have q6:=hA3.fz 2;have q7:=hA3.c3;have q8:=hA3.fz 3;have q9:=hC3.c0;have q10:=hC3.fz 0;have q11:=hC3.c1;have q12:=hC3.fz 1;have q13:=hC3.c2;have q14:=hC3.fz 2;have q15:=hC3.c3;have q16:=hC3.fz 3) | (have hz:=hE3;clear hz;have q17:=hD3.c0;have q18:=hD3.fz 0;have q19:=hD3.c1;have q20:=hD3.fz 1;have q21:=hD3.c2;have q22:=hD3.fz 2;have q23:=hD3.c3;have q24:=hD3.fz 3;have q25:=hE3.c0;have q26:=hE3.fz 0;have q27:=hE3.c1;have q28:=hE3.fz 1;have q29:=hE3.c2;have q30:=hE3.fz 2;have q31:=hE3.c3;have q32:=hE3.fz 3) | (have hz:=hA3;clear hz;have hz:=hD3;clear hz;have ne1:=Nat.ne_of_lt HA2.out.lt;have nf1:=Ne.symm ne1;have q33:=hA3.c0;have q34:=hA3.fz 0;have q35:=hA3.c1;have q36:=hA3.fz 1;have q37:=hA3.c2;have q38:=hA3.fz 2;have q39:=hA3.c3;have q40:=hA3.fz 3;have q41:=hD3.c0;have q42:=hD3.fz 0;have q43:=hD3.c1;have q44:=hD3.fz 1;have q45:=hD3.c2;have q46:=hD3.fz 2;have q47:=hD3.c3;have q48:=hD3.fz 3) | (have ne2:=Nat.ne_of_lt hA3.lt;have nf2:=Ne.symm ne2;have q49:=(hA3.alloc (.cells #[.bool false,.slice none 0 0,.bool false,.slice none 0 0] 47)).c0;have q50:=(hA3.alloc (.cells #[.bool false,.slice none 0 0,.bool false,.slice none 0 0] 47)).fz 0;have q51:=(hA3.alloc (.cells #[.bool false,.slice none 0 0,.bool false,.slice none 0 0] 47)).c1;have q52:=(hA3.alloc (.cells #[.bool false,.slice none 0 0,.bool false,.slice none 0 0] 47)).fz 1;have q53:=(hA3.alloc (.cells #[.bool false,.slice none 0 0,.bool false,.slice none 0 0] 47)).c2;have q54:=(hA3.alloc (.cells #[.bool false,.slice none 0 0,.bool false,.slice none 0 0] 47)).fz 2;have q55:=(hA3.alloc (.cells #[.bool false,.slice none 0 0,.bool false,.slice none 0 0] 47)).c3;have q56:=(hA3.alloc (.cells #[.bool false,.slice none 0 0,.bool false,.slice none 0 0] 47)).fz 3;have q57:=(hA3.alloc (.cells #[.bool s2,.slice A2 n2 c2,.bool s3,.slice A3 n3 c3] 47)).c0;have q58:=(hA3.alloc (.cells #[.bool s2,.slice A2 n2 c2,.bool s3,.slice A3 n3 c3] 47)).fz 0;have q59:=(hA3.alloc (.cells #[.bool s2,.slice A2 n2 c2,.bool s3,.slice A3 n3 c3] 47)).c1;have q60:=(hA3.alloc (.cells #[.bool s2,.slice A2 n2 c2,.bool s3,.slice A3 n3 c3] 47)).fz 1;have q61:=(hA3.alloc (.cells #[.bool s2,.slice A2 n2 c2,.bool s3,.slice A3 n3 c3] 47)).c2;have q62:=(hA3.alloc (.cells #[.bool s2,.slice A2 n2 c2,.bool s3,.slice A3 n3 c3] 47)).fz 2;have q63:=(hA3.alloc (.cells #[.bool s2,.slice A2 n2 c2,.bool s3,.slice A3 n3 c3] 47)).c3;have q64:=(hA3.alloc (.cells #[.bool s2,.slice A2 n2 c2,.bool s3,.slice A3 n3 c3] 47)).fz 3) | (have ne3:=Nat.ne_of_lt hD3.lt;have nf3:=Ne.symm ne3;have q65:=(hD3.alloc (.cells #[.bool false,.slice none 0 0,.bool false,.slice none 0 0] 47)).c0;have q66:=(hD3.alloc (.cells #[.bool false,.slice none 0 0,.bool false,.slice none 0 0] 47)).fz 0;have q67:=(hD3.alloc (.cells #[.bool false,.slice none 0 0,.bool false,.slice none 0 0] 47)).c1;have q68:=(hD3.alloc (.cells #[.bool false,.slice none 0 0,.bool false,.slice none 0 0] 47)).fz 1;have q69:=(hD3.alloc (.cells #[.bool false,.slice none 0 0,.bool false,.slice none 0 0] 47)).c2;have q70:=(hD3.alloc (.cells #[.bool false,.slice none 0 0,.bool false,.slice none 0 0] 47)).fz 2;have q71:=(hD3.alloc (.cells #[.bool false,.slice none 0 0,.bool false,.slice none 0 0] 47)).c3;have q72:=(hD3.alloc (.cells #[.bool false,.slice none 0 0,.bool false,.slice none 0 0] 47)).fz 3;have q73:=(hD3.alloc (.cells #[.bool s2,.slice A2 n2 c2,.bool s3,.slice A3 n3 c3] 47)).c0;have q74:=(hD3.alloc (.cells #[.bool s2,.slice A2 n2 c2,.bool s3,.slice A3 n3 c3] 47)).fz 0;have q75:=(hD3.alloc (.cells #[.bool s2,.slice A2 n2 c2,.bool s3,.slice A3 n3 c3] 47)).c1;have q76:=(hD3.alloc (.cells #[.bool s2,.slice A2 n2 c2,.bool s3,.slice A3 n3 c3] 47)).fz 1;have q77:=(hD3.alloc (.cells #[.bool s2,.slice A2 n2 c2,.bool s3,.slice A3 n3 c3] 47)).c2;have q78:=(hD3.alloc (.cells #[.bool s2,.slice A2 n2 c2,.bool s3,.slice A3 n3 c3] 47)).fz 2;have q79:=(hD3.alloc (.cells #[.bool s2,.slice A2 n2 c2,.bool s3,.slice A3 n3 c3] 47)).c3;have q80:=(hD3.alloc (.cells #[.bool s2,.slice A2 n2 c2,.bool s3,.slice A3 n3 c3] 47)).fz 3) | skip))
    | (go_at_call 38;refine (qof_any 0 (by decide) (by decide) _).mono ?_;rintro _ W2 ⟨s2,A2,n2,c2,s3,A3,n3,c3,y2,rfl,ho2,hy2,hb2⟩;have HB2:Hid (Below W1.heap.size W1 W2):=ah (by first | exact HBD.out.trans hb2 | exact (HBD.out.alloc HBD.out.size _).trans (hb2.mono (by simp)) | exact ((HBD.out.alloc HBD.out.size _).alloc (by simp) _).trans (hb2.mono (by simp;omega)));have hs2:=hb2.size;(try simp at hs2);obtain rfl:y2=0:=hy2.out;have HO2:Hid (OwQ W2 W1.heap.size s2 A2 n2 c2 s3 A3 n3 c3 0):=ah (ho2.base (by first | exact nR | (simp;done) | (simp;omega)));(first | have HA2:Hid (QC W2 W1.heap.size false none 0 0 false none 0 0):=ah (qcF1 hb2) | have HA2:Hid (QC W2 W1.heap.size false none 0 0 false none 0 0):=ah (qcH1 hb2) | skip);(first | have HC2:Hid (QC W2 (W1.heap.size+1) false none 0 0 false none 0 0):=ah (qcH2 hb2) | skip)))
  all_goals
   have HO3:=ah ((HO2.out.next HB23.out))
   have hr5:RdN W3 s5 A5 n5 c5 (Pq.co Q 0).num:=h5
   have hr6:RdN W3 s6 A6 n6 c6 ((Pq.co Q 0).den:Int):=h6
   have HBL:=HB3.out
   go_wp2
   go_meet
   refine ⟨_,_,s2,A2,n2,c2,s3,A3,n3,c3,s5,A5,n5,c5,s6,A6,n6,c6,rfl,rfl,?gne,?qv,?qx,?ov,?rz,?rd,ah ⟨hn5,hn6⟩,?bb⟩
   case gne=>exact ah (by refine ⟨?_,?_,?_⟩ <;> first | omega | (simp;done) | (simp;omega))
   case qv=>repeat (first | with_reducible assumption | with_reducible exact QE.of hA3 | with_reducible exact QE.of hC3 | with_reducible exact QE.of hD3 | with_reducible exact QE.of hE3 | (with_reducible refine QC.newAt ?_;(first | rfl | (simp;done))) | (with_reducible refine QE.newAt ?_;(first | rfl | (simp;done))) | with_reducible refine QE.put ?_ _ _ _ _ _ _ _ _ | with_reducible refine QE.puts ?_ _ _ _ _ _ _ _ _ | (with_reducible refine QC.far ?_ ?_ _;rotate_left;(first | (simp only [ne_eq];omega) | (simp;done) | (simp;omega))) | (with_reducible refine QE.far ?_ ?_ _;rotate_left;(first | (simp only [ne_eq];omega) | (simp;done) | (simp;omega))) | with_reducible refine QC.alloc ?_ _ | with_reducible refine QE.alloc ?_ _)
   case qx=>repeat (first | with_reducible assumption | with_reducible exact QE.of hA3 | with_reducible exact QE.of hC3 | with_reducible exact QE.of hD3 | with_reducible exact QE.of hE3 | (with_reducible refine QC.newAt ?_;(first | rfl | (simp;done))) | (with_reducible refine QE.newAt ?_;(first | rfl | (simp;done))) | with_reducible refine QE.put ?_ _ _ _ _ _ _ _ _ | with_reducible refine QE.puts ?_ _ _ _ _ _ _ _ _ | (with_reducible refine QC.far ?_ ?_ _;rotate_left;(first | (simp only [ne_eq];omega) | (simp;done) | (simp;omega))) | (with_reducible refine QE.far ?_ ?_ _;rotate_left;(first | (simp only [ne_eq];omega) | (simp;done) | (simp;omega))) | with_reducible refine QC.alloc ?_ _ | with_reducible refine QE.alloc ?_ _)
   case ov=>repeat (first | with_reducible exact HO3.out | (with_reducible refine OwQ.puts ?_ ?_ _ _ _ _;rotate_left;(focus ((repeat (first | with_reducible assumption | with_reducible exact QE.of hA3 | with_reducible exact QE.of hC3 | with_reducible exact QE.of hD3 | with_reducible exact QE.of hE3 | (with_reducible refine QC.newAt ?_;(first | rfl | (simp;done))) | (with_reducible refine QE.newAt ?_;(first | rfl | (simp;done))) | with_reducible refine QE.put ?_ _ _ _ _ _ _ _ _ | with_reducible refine QE.puts ?_ _ _ _ _ _ _ _ _ | (with_reducible refine QC.far ?_ ?_ _;rotate_left;(first | (simp only [ne_eq];omega) | (simp;done) | (simp;omega))) | (with_reducible refine QE.far ?_ ?_ _;rotate_left;(first | (simp only [ne_eq];omega) | (simp;done) | (simp;omega))) | with_reducible refine QC.alloc ?_ _ | with_reducible refine QE.alloc ?_ _));done))) | with_reducible refine OwQ.made ?_ _)
   case rz=>repeat (first | with_reducible exact hr5 | (with_reducible refine RdN.put4 ?_ ?_ _ _ _ _;rotate_left;(focus ((repeat (first | with_reducible assumption | with_reducible exact QE.of hA3 | with_reducible exact QE.of hC3 | with_reducible exact QE.of hD3 | with_reducible exact QE.of hE3 | (with_reducible refine QC.newAt ?_;(first | rfl | (simp;done))) | (with_reducible refine QE.newAt ?_;(first | rfl | (simp;done))) | with_reducible refine QE.put ?_ _ _ _ _ _ _ _ _ | with_reducible refine QE.puts ?_ _ _ _ _ _ _ _ _ | (with_reducible refine QC.far ?_ ?_ _;rotate_left;(first | (simp only [ne_eq];omega) | (simp;done) | (simp;omega))) | (with_reducible refine QE.far ?_ ?_ _;rotate_left;(first | (simp only [ne_eq];omega) | (simp;done) | (simp;omega))) | with_reducible refine QC.alloc ?_ _ | with_reducible refine QE.alloc ?_ _));done))) | with_reducible refine RdN.made ?_ _)
   case rd=>repeat (first | with_reducible exact hr6 | (with_reducible refine RdN.put4 ?_ ?_ _ _ _ _;rotate_left;(focus ((repeat (first | with_reducible assumption | with_reducible exact QE.of hA3 | with_reducible exact QE.of hC3 | with_reducible exact QE.of hD3 | with_reducible exact QE.of hE3 | (with_reducible refine QC.newAt ?_;(first | rfl | (simp;done))) | (with_reducible refine QE.newAt ?_;(first | rfl | (simp;done))) | with_reducible refine QE.put ?_ _ _ _ _ _ _ _ _ | with_reducible refine QE.puts ?_ _ _ _ _ _ _ _ _ | (with_reducible refine QC.far ?_ ?_ _;rotate_left;(first | (simp only [ne_eq];omega) | (simp;done) | (simp;omega))) | (with_reducible refine QE.far ?_ ?_ _;rotate_left;(first | (simp only [ne_eq];omega) | (simp;done) | (simp;omega))) | with_reducible refine QC.alloc ?_ _ | with_reducible refine QE.alloc ?_ _));done))) | with_reducible refine RdN.made ?_ _)
   case bb=>repeat (first | with_reducible exact HBL | (with_reducible refine Below.setCell ?_ ?_ _;rotate_left;(first | (simp only [];omega) | (simp;done) | (simp;omega))) | (with_reducible refine Below.alloc ?_ ?_ _;rotate_left;(first | omega | (simp;done) | (simp;omega))))
 case rest =>
  obtain ⟨g4,g5,s2,A2,n2,c2,s3,A3,n3,c3,s5,A5,n5,c5,s6,A6,n6,c6,rfl,rfl,HG,hV,hX,ho,hr5,hr6,HNN,hb⟩:=hcut
  obtain ⟨la0,la1⟩:=HCX.out wc hb
  have HRC:=ah (HR.out.1.next hb)
  obtain ⟨x,ex⟩:∃ x,x=Pq.co Q 0:=⟨_,rfl⟩
  rw [<- ex] at hr5 hr6
  have HEX:=ah ex
  clear ex
  have hnl:n1<=200000000000:=by
   have e1:=HN.out.1
   rw [HN.out.2] at e1
   have e2:(n1+1)*1<=(n1+1)*(N'+N+1):=Nat.mul_le_mul_left _ (by omega)
   omega
  have hwn:IntKind.i64.wrap ((n1:Int)-1)=(n1:Int)-1:=by rw [IntWalk.i64_in _ (by omega)]
  go_wp2_with fail
  clear hwn
  clear la0 la1
  have HSZX:=ah (show (∀ i,Qs N (Pq.co P i))/\Qs N' x from by
   have h1:=HX.out wc hb
   exact ⟨h1.1.szp h1N,by rw [HEX.out];exact h1.2.szp h1N' 0⟩)
  have HSB:=ah (show ∀ d,d < n1->2+d*(N'+N+1)+N'+N<=200000000000 from fun d hd=>by
   have e1:=HN.out.1
   rw [HN.out.2] at e1
   have e2:(d+1)*(N'+N+1)<=(n1+1)*(N'+N+1):=Nat.mul_le_mul_right _ (by omega)
   have e3:(d+1)*(N'+N+1)=d*(N'+N+1)+(N'+N+1):=Nat.succ_mul _ _
   omega)
  go_loopw [6] (fun iv wr=>∃ (d:Nat) (s2:Bool) (A2:Option Addr) (n2 c2:Nat) (s3:Bool) (A3:Option Addr) (n3 c3:Nat) (v:Rat),iv=.int .i64 ((n1:Int)-1-d)/\d<=n1/\QC wr g4 s2 A2 n2 c2 s3 A3 n3 c3/\QC wr g5 s5 A5 n5 c5 s6 A6 n6 c6/\QC wr w.heap.size false none 0 0 false none 0 0/\OwQ wr W1.heap.size s2 A2 n2 c2 s3 A3 n3 c3 v/\RdN wr s5 A5 n5 c5 x.num/\RdN wr s6 A6 n6 c6 (x.den:Int)/\Hid (v=Pq.hor (Pq.co P) x n1 d)/\Below W1.heap.size W1 wr) (fun iv _=>(intOf iv+1).toNat)
  case atStart=>exact ⟨0,s2,A2,n2,c2,s3,A3,n3,c3,0,by simp,nZ,hV,hX,HRC.out,ho,hr5,hr6,ah rfl,hb⟩
  case round =>
   clear hV hX HRC ho hr5 hr6 hb
   obtain ⟨d,s2,A2,n2,c2,s3,A3,n3,c3,v,rfl,hd,hV,hX,hR,hov,hr5,hr6,hv,hB⟩:=hrel
   have HSV:=ah (show Qs (1+d*(N'+N+1)) v by rw [hv.out];exact hor_qs HSZX.out.1 HSZX.out.2 n1 d)
   by_cases hdn:d=n1
   ·subst hdn
    have v0:=hV.c0
    have v1:=hV.c1
    have v2:=hV.c2
    have v3:=hV.c3
    have r0:=hR.c0
    have r1:=hR.c1
    have r2:=hR.c2
    have r3:=hR.c3
    have f0:=hR.fz 0
    have f1:=hR.fz 1
    have f2:=hR.fz 2
    have f3:=hR.fz 3
    have HR9:=ah (hR.store s2 A2 n2 c2 s3 A3 n3 c3)
    have HO9:=ah ((hov.base (b':=w.heap.size) (Nat.le_of_lt HR.out.2.2)).keep (keep_putQ hR s2 A2 n2 c2 s3 A3 n3 c3))
    have HB9:=ah (below_putQ (HR.out.2.1.trans (hB.mono HR.out.2.1.size)) (Nat.le_refl w.heap.size) s2 A2 n2 c2 s3 A3 n3 c3)
    unfold putQ at HR9 HB9 HO9
    clear hX hR hV hov hB hr5 hr6
    go_wp2_with fail
    generalize (((wr.setCell ⟨w.heap.size,0,none⟩ (.bool s2)).setCell ⟨w.heap.size,1,none⟩ (.slice A2 n2 c2)).setCell ⟨w.heap.size,2,none⟩ (.bool s3)).setCell ⟨w.heap.size,3,none⟩ (.slice A3 n3 c3)=W9 at *
    have z0:=HR9.out.c0
    have z1:=HR9.out.c1
    have z2:=HR9.out.c2
    have z3:=HR9.out.c3
    exact bodyPost_ret (by simp [results,Tryz.results113,go_sem,z0,z1,z2,z3]) rfl ⟨s2,A2,n2,c2,s3,A3,n3,c3,v,0,rfl,HO9.out,ah ⟨by rw [hv.out,Pq.hor_all,HN.out.2,HEX.out],rfl⟩,HB9.out⟩
   ·obtain ⟨i,hi⟩:∃ i,n1=d+1+i:=⟨n1-d-1,by omega⟩
    have hii:(n1:Int)-1-d=(i:Int):=by omega
    have hil:i < n1:=by omega
    rw [hii]
    have hili:(i:Int) < (n1:Int):=by omega
    obtain ⟨ad,s7,A7,n7,c7,s8,A8,n8,c8,y,hA,hbk7,hz0,hz1,hz2,hz3,hrz,hrd,hn7,hn8,hz⟩:=qp_at (HX.out W1 bR).1 hil
    subst hA
    have HZV:=ah (show Pq.co P i=y from Pq.co_get hz.out)
    have HI:=ah hi
    have HSD:=ah (HSB.out d (by omega))
    have HVN:=ah (show n2<=2+d*(N'+N+1)+N'+N/\n3<=2+d*(N'+N+1)+N'+N from ⟨by rw [hov.num.len];exact nT HSV.out.1 (by omega),by rw [hov.den.len];exact nT HSV.out.2 (by omega)⟩)
    have v0:=hV.c0
    have v1:=hV.c1
    have v2:=hV.c2
    have v3:=hV.c3
    have x0:=hX.c0
    have x1:=hX.c1
    have x2:=hX.c2
    have x3:=hX.c3
    have HNX:=ah (cJ hn7 hn8)
    have HCZ:=ah (show ∀ W:World,Below W1.heap.size W1 W->(W.cell? (ad.add (i*4))=some (.bool s7)/\W.cell? ⟨(ad.add (i*4)).block,(ad.add (i*4)).off+1,none⟩=some (.slice A7 n7 c7)/\W.cell? ⟨(ad.add (i*4)).block,(ad.add (i*4)).off+2,none⟩=some (.bool s8)/\W.cell? ⟨(ad.add (i*4)).block,(ad.add (i*4)).off+3,none⟩=some (.slice A8 n8 c8))/\RdZ W W.heap.size s7 A7 n7 c7 y.num/\RdZ W W.heap.size s8 A8 n8 c8 (y.den:Int) from fun W hb=>by
     exact ⟨qs_cells hb hbk7 hz0 hz1 hz2 hz3,hrz.next hb,hrd.next hb⟩)
    clear hdn hi hz hn7 hn8
    go_wp2_with fail
    refine (qmulq_any (N:=2+d*(N'+N+1)+N'+N) hov.num.rd hov.den.rd hr5 hr6 ⟨HVN.out.1,HVN.out.2,?e3,?e4⟩ HSD.out).mono ?_
    case e3=>have h1:=HNN.out.1;omega
    case e4=>have h1:=HNN.out.2;omega
    rintro _ W6 ⟨s9,A9,n9,c9,s10,A10,n10,c10,m,rfl,ho6,hm,hb6⟩
    have hV6:=hV.next hb6
    have v0:=hV6.c0
    have v1:=hV6.c1
    have v2:=hV6.c2
    have v3:=hV6.c3
    have f0:=hV6.fz 0
    have f1:=hV6.fz 1
    have f2:=hV6.fz 2
    have f3:=hV6.fz 3
    have HGE:=ah (show g5 ≠ g4/\w.heap.size ≠ g4 from ⟨Ne.symm HG.out.1,by have h1:=HG.out.2.1;have h2:=HR.out.2.2;omega⟩)
    have hV7:=hV6.store s9 A9 n9 c9 s10 A10 n10 c10
    have hX7:=(hX.next hb6).far4 HGE.out.1 (.bool s9) (.slice A9 n9 c9) (.bool s10) (.slice A10 n10 c10)
    have hR7:=(hR.next hb6).far4 HGE.out.2 (.bool s9) (.slice A9 n9 c9) (.bool s10) (.slice A10 n10 c10)
    have ho7:=(ho6.base (b':=W1.heap.size) hB.size).puts (QE.of hV6) (.bool s9) (.slice A9 n9 c9) (.bool s10) (.slice A10 n10 c10)
    have hr57:=(hr5.next hb6).put4 (QE.of hV6) (.bool s9) (.slice A9 n9 c9) (.bool s10) (.slice A10 n10 c10)
    have hr67:=(hr6.next hb6).put4 (QE.of hV6) (.bool s9) (.slice A9 n9 c9) (.bool s10) (.slice A10 n10 c10)
    have hB7:=below_put4 (hB.trans (hb6.mono hB.size)) HG.out.2.1 (.bool s9) (.slice A9 n9 c9) (.bool s10) (.slice A10 n10 c10)
    unfold putQ at hV7
    unfold put4 at hX7 hR7 ho7 hr57 hr67
    have HCC:=ah (cJ hV7 (cJ hX7 (cJ hR7 (cJ ho7 (cJ hr57 (cJ hr67 hB7))))))
    clear hV hX hR hov hr5 hr6 hB x0 x1 x2 x3 hb6 ho6 hV6 hV7 hX7 hR7 ho7 hr57 hr67 hB7 hz0 hz1 hz2 hz3 hrz hrd
    go_upto_region 6 with fail
    generalize (((W6.setCell ⟨g4,0,none⟩ (.bool s9)).setCell ⟨g4,1,none⟩ (.slice A9 n9 c9)).setCell ⟨g4,2,none⟩ (.bool s10)).setCell ⟨g4,3,none⟩ (.slice A10 n10 c10)=W7 at *
    obtain ⟨hV7,hX7,hR7,ho7,hr57,hr67,hB7⟩:=HCC.out
    have HBD:=ah (Below.refl W7.heap.size W7).drew
    have HCY:=ah (HCZ.out W7 hB7)
    obtain ⟨hz0,hz1,hz2,hz3⟩:=HCY.out.1
    obtain ⟨lb0,_⟩:=HCX.out W7 hB7
    have v0:=hV7.c0
    have v1:=hV7.c1
    have v2:=hV7.c2
    have v3:=hV7.c3
    have HOM:=ah (ho7.next HBD.out)
    have HRY:=ah (cJ (HCY.out.2.1.next HBD.out) (HCY.out.2.2.next HBD.out))
    have HMN:=ah (show n9<=2+d*(N'+N+1)+N'+N/\n10<=2+d*(N'+N+1)+N'+N from by
     have h1:Qs (1+d*(N'+N+1)+N') m:=by rw [hm.out];exact HSV.out.mul HSZX.out.2
     exact ⟨by rw [ho7.num.len];exact nT h1.1 (by omega),by rw [ho7.den.len];exact nT h1.2 (by omega)⟩)
    have HV7:=ah hV7
    clear hV7 hX7 hR7 ho7 hr57 hr67 hB7
    go_region_with (first
     | (go_at_call 116;refine (qaddq_any (N:=2+d*(N'+N+1)+N'+N) HOM.out.num.rd HOM.out.den.rd HRY.out.1 HRY.out.2 ⟨HMN.out.1,HMN.out.2,?e3,?e4⟩ HSD.out).mono ?_;(case e3=>have h1:=HNX.out.1;omega);(case e4=>have h1:=HNX.out.2;omega);rintro _ W8 ⟨s11,A11,n11,c11,s12,A12,n12,c12,q,rfl,ho8,hq,hb8⟩;have HB8:=ah (HBD.out.trans hb8);have u0:=(HV7.out.next HB8.out).c0;have u1:=(HV7.out.next HB8.out).c1;have u2:=(HV7.out.next HB8.out).c2;have u3:=(HV7.out.next HB8.out).c3;have f0:=(HV7.out.next HB8.out).fz 0;have f1:=(HV7.out.next HB8.out).fz 1;have f2:=(HV7.out.next HB8.out).fz 2;have f3:=(HV7.out.next HB8.out).fz 3))
    all_goals
     obtain ⟨hV7,hX7,hR7,ho7,hr57,hr67,hB7⟩:=HCC.out
     have hV8:=hV7.next HB8.out
     have HV9:=ah (hV8.store s11 A11 n11 c11 s12 A12 n12 c12)
     have HX9:=ah ((hX7.next HB8.out).far4 HGE.out.1 (.bool s11) (.slice A11 n11 c11) (.bool s12) (.slice A12 n12 c12))
     have HR9:=ah ((hR7.next HB8.out).far4 HGE.out.2 (.bool s11) (.slice A11 n11 c11) (.bool s12) (.slice A12 n12 c12))
     have HO9:=ah ((ho8.base (b':=W1.heap.size) (nT hB7.size HBD.out.size)).puts (QE.of hV8) (.bool s11) (.slice A11 n11 c11) (.bool s12) (.slice A12 n12 c12))
     have HR5:=ah ((hr57.next HB8.out).put4 (QE.of hV8) (.bool s11) (.slice A11 n11 c11) (.bool s12) (.slice A12 n12 c12))
     have HR6:=ah ((hr67.next HB8.out).put4 (QE.of hV8) (.bool s11) (.slice A11 n11 c11) (.bool s12) (.slice A12 n12 c12))
     have HB9:=ah (below_put4 (hB7.trans (HB8.out.mono hB7.size)) HG.out.2.1 (.bool s11) (.slice A11 n11 c11) (.bool s12) (.slice A12 n12 c12))
     unfold putQ at HV9
     unfold put4 at HX9 HR9 HO9 HR5 HR6
     have HFA:=ah (show q=Pq.hor (Pq.co P) x n1 (d+1) by rw [hq.out,hm.out,hv.out,Pq.hor_succ,show n1-1-d=i by have:=HI.out;omega,HZV.out])
     have hdd:d < n1:=by have:=HI.out;omega
     clear hV7 hX7 hR7 ho7 hr57 hr67 hB7 hV8 hb8 ho8 hz0 hz1 hz2 hz3 v0 v1 v2 v3 u0 u1 u2 u3 f0 f1 f2 f3 lb0
     go_wp2
     go_roundw
     case rel=>exact ⟨d+1,s11,A11,n11,c11,s12,A12,n12,c12,q,by go_num,by omega,HV9.out,HX9.out,HR9.out,HO9.out,HR5.out,HR6.out,HFA,HB9.out⟩
     case measure=>simp [intOf]
def RetOv (ok:Prop)(x:Rat)(w:World)(e:Ending)(w':World):Prop :=
 (ok/\RetQcE w.heap.size (fun y kk=>y=x/\kk=0) w e w') ∨ (¬ok/\e=.returned (.tuple #[.agg #[.bool false,.slice none 0 0,.bool false,.slice none 0 0],.int .i64 6])/\Below w.heap.size w w')
theorem psum_nq {L:List (Int × Int)}{n:Nat}(hn:L.length=n)(x:Rat):Pq.psum (Pq.co (nq L)) x (nq L).length=Pq.psum (Pq.co (L.map qval)) x n:=by
 have h1:=nq_len L
 obtain ⟨k,hk⟩:∃ k,n=(nq L).length+k:=⟨n-(nq L).length,by omega⟩
 rw [<- Pq.psum_congr (fun i=>co_nq L i) n,hk,Pq.psum_up (fun i hi=>Pq.co_ge hi)]
theorem qEval_any {N N':Nat}{A A' A'':Option Addr}{n c n' c' n'' c'':Nat}{s s':Bool}{L:List (Int × Int)}{z d:Int}{w:World}(h:RdQs w w.heap.size N A n c L)(h':RdZ w w.heap.size s A' n' c' z)(h'':RdZ w w.heap.size s' A'' n'' c'' d)(hn:n<=1048576)(hn':n'<=N')(hn'':n''<=N')(hsz:2+(n+1)*(N'+N+1)<=200000000000)(h1N:1<=N)(h1N':1<=N') :
  Calls Tryz.prog 65 #[.slice A n c,.agg #[.bool s,.slice A' n' c',.bool s',.slice A'' n'' c'']] w (RetOv (okD L/\d ≠ 0) (Pq.psum (Pq.co (L.map qval)) (Rat.divInt z d) n) w):=by
 have HEG:=ah (enters_of Tryz.func113 (by kernel_rfl) rfl)
 obtain ⟨W1,HW1⟩:∃ W,W=w.alloc (.cells #[.bool s,.slice A' n' c',.bool s',.slice A'' n'' c''] 47):=⟨_,rfl⟩
 have hb1:Below w.heap.size w W1:=by rw [HW1];exact bA
 have hR:QC W1 w.heap.size s A' n' c' s' A'' n'' c'':=by rw [HW1];exact QC.new w s A' n' c' s' A'' n'' c''
 obtain ⟨W2,HW2⟩:∃ W,W=W1.alloc (.cells #[.bool false,.slice none 0 0,.bool false,.slice none 0 0] 47):=⟨_,rfl⟩
 have hb2:Below W1.heap.size W1 W2:=by rw [HW2];exact bA
 have hT:QC W2 W1.heap.size false none 0 0 false none 0 0:=by rw [HW2];exact QC.new W1 false none 0 0 false none 0 0
 have hR2:=hR.next hb2
 obtain ⟨W3,HW3⟩:∃ W,W=W2.alloc (.cells #[.bool s,.slice A' n' c',.bool s',.slice A'' n'' c''] 47):=⟨_,rfl⟩
 have hb3:Below W2.heap.size W2 W3:=by rw [HW3];exact bA
 obtain ⟨W4,HW4⟩:∃ W,W=W3.alloc (.cells #[.slice A n c,.slice (some ⟨W2.heap.size,0,none⟩) 1 1] 73):=⟨_,rfl⟩
 have hb4:Below W3.heap.size W3 W4:=by rw [HW4];exact bA
 have hb12:=hb1.trans (hb2.mono hb1.size)
 have hr:=(h.next hb12).next hb3
 have hq:=qs_one (N:=N') (h'.next hb12) (h''.next hb12) hn' hn'' HW3
 have HRQ:=ah (cJ hr hq)
 have hps:=ah (ps_two (K:=1048576) (hr.wide (Nat.le_max_left N N')) (hq.wide (Nat.le_max_right N N')) hn (by decide) HW4)
 have HB4:=ah ((hb12.trans (hb3.mono hb12.size)).trans (hb4.mono (nT hb12.size hb3.size)))
 have HT:=ah ((hT.next hb3).next hb4)
 have a0:=hR2.c0
 have a1:=hR2.c1
 have a2:=hR2.c2
 have a3:=hR2.c3
 have HW:=ah (cJ HW1 (cJ HW2 (cJ HW3 HW4)))
 have e1:W1.heap.size=w.heap.size+1:=by rw [HW1];simp
 have e2:W2.heap.size=w.heap.size+1+1:=by rw [HW2];simp [e1]
 have e3:W3.heap.size=w.heap.size+1+1+1:=by rw [HW3];simp [e2]
 have HE:=ah (cJ e1 (cJ e2 e3))
 have HMX:=ah (show Nat.max N N'<=1000000000000/\1<=Nat.max N N' from by
  have e1:1*(N'+N+1)<=(n+1)*(N'+N+1):=Nat.mul_le_mul_right _ (by omega)
  have e2:Nat.max N N'<=N+N':=by rw [show Nat.max N N'=max N N' from rfl];omega
  have e3:N<=Nat.max N N':=Nat.le_max_left N N'
  omega)
 rw [HW2,HW1] at a0 a1 a2 a3
 clear h h' h'' hr hq hb1 hb2 hb3 hb4 hb12 hR hR2 hT HW1 HW2 HW3 HW4 e1 e2 e3
 go_enter Tryz.func65,Tryz.ntmps65
 go_wp2_with fail
 rw [<- HE.out.2.2,<- HE.out.2.1,<- HE.out.1,<- HW.out.1,<- HW.out.2.1,<- HW.out.2.2.1,<- HW.out.2.2.2]
 clear a0 a1 a2 a3 HW
 refine (norms_rat (f:=113) (Φ:=fun y kk=>y=Pq.psum (Pq.co (L.map qval)) (Rat.divInt z d) n/\kk=0) hps.out (by decide) (by decide) HMX.out.1 HMX.out.2 HEG.out (fun hall W A' c' hb ho=>(qEvalIn_any (N:=N) (N':=N') (P:=nq L) (Q:=nq [(z,d)]) ho (nq_qs HRQ.out.1 (hall L (by simp)) h1N) (nq_qs HRQ.out.2 (hall [(z,d)] (by simp)) h1N') (by
   have e1:=nq_len L
   rw [HRQ.out.1.len] at e1
   have e2:((nq L).length+1)*(N'+N+1)<=(n+1)*(N'+N+1):=Nat.mul_le_mul_right _ (by omega)
   omega) h1N h1N').mono fun e w' ⟨s1,A1,n1,c1,s2,A2,n2,c2,y,kk,h1,h2,h3,h4⟩=>⟨s1,A1,n1,c1,s2,A2,n2,c2,y,kk,h1,h2.base hb.size,ah ⟨by
    rw [h3.out.1,psum_nq HRQ.out.1.len,co_nq];rfl,h3.out.2⟩,h4⟩)).mono ?_
 intro e W5 hpost
 rcases hpost with ⟨hall,s1,A1,n1,c1,s2,A2,n2,c2,y,kk,rfl,ho2,hM2,hb2⟩ | ⟨hex,rfl,hb2⟩
 ·have HOK:=ah (show okD L/\d ≠ 0 from ⟨hall L (by simp),hall [(z,d)] (by simp) (z,d) (by simp)⟩)
  have hT5:=HT.out.next hb2
  have HO:=ah ((ho2.base (b':=w.heap.size) HB4.out.size).keep (keep_putQ hT5 s1 A1 n1 c1 s2 A2 n2 c2))
  have HB5:=ah (below_putQ (HB4.out.trans (hb2.mono HB4.out.size)) (show w.heap.size<=W1.heap.size by rw [HE.out.1];omega) s1 A1 n1 c1 s2 A2 n2 c2)
  have HS:=ah (hT5.store s1 A1 n1 c1 s2 A2 n2 c2)
  have r0:=hT5.c0
  have r1:=hT5.c1
  have r2:=hT5.c2
  have r3:=hT5.c3
  have f0:=hT5.fz 0
  have f1:=hT5.fz 1
  have f2:=hT5.fz 2
  have f3:=hT5.fz 3
  unfold putQ at HO HB5 HS
  clear hall ho2 hb2 hT5
  go_wp2_with fail
  generalize (((W5.setCell ⟨W1.heap.size,0,none⟩ (.bool s1)).setCell ⟨W1.heap.size,1,none⟩ (.slice A1 n1 c1)).setCell ⟨W1.heap.size,2,none⟩ (.bool s2)).setCell ⟨W1.heap.size,3,none⟩ (.slice A2 n2 c2)=W9 at *
  have z0:=HS.out.c0
  have z1:=HS.out.c1
  have z2:=HS.out.c2
  have z3:=HS.out.c3
  exact bodyPost_ret (by simp [results,Tryz.results65,go_sem,z0,z1,z2,z3]) rfl (.inl ⟨HOK.out,s1,A1,n1,c1,s2,A2,n2,c2,y,kk,rfl,HO.out,hM2,HB5.out⟩)
 ·have HOK:=ah (show ¬(okD L/\d ≠ 0) from fun ⟨h1,h2⟩=>by
   obtain ⟨L0,hL0,p,hp,hp0⟩:=hex
   rcases List.mem_cons.1 hL0 with rfl | h3
   ·exact h1 p hp hp0
   ·obtain rfl:=List.mem_singleton.1 h3
    obtain rfl:=List.mem_singleton.1 hp
    exact h2 hp0)
  have hT5:=HT.out.next hb2
  have HB5:=ah (below_putQ (HB4.out.trans (hb2.mono HB4.out.size)) (show w.heap.size<=W1.heap.size by rw [HE.out.1];omega) false none 0 0 false none 0 0)
  have HS:=ah (hT5.store false none 0 0 false none 0 0)
  have r0:=hT5.c0
  have r1:=hT5.c1
  have r2:=hT5.c2
  have r3:=hT5.c3
  have f0:=hT5.fz 0
  have f1:=hT5.fz 1
  have f2:=hT5.fz 2
  have f3:=hT5.fz 3
  unfold putQ at HB5 HS
  clear hex hb2 hT5
  go_wp2_with fail
  generalize (((W5.setCell ⟨W1.heap.size,0,none⟩ (.bool false)).setCell ⟨W1.heap.size,1,none⟩ (.slice none 0 0)).setCell ⟨W1.heap.size,2,none⟩ (.bool false)).setCell ⟨W1.heap.size,3,none⟩ (.slice none 0 0)=W9 at *
  have z0:=HS.out.c0
  have z1:=HS.out.c1
  have z2:=HS.out.c2
  have z3:=HS.out.c3
  exact bodyPost_ret (by simp [results,Tryz.results65,go_sem,z0,z1,z2,z3]) rfl (.inr ⟨HOK.out,rfl,HB5.out⟩)
theorem mG_from (LL:List (List Rat)):mG (denL LL.flatten) (fromN LL)=1:=by
 have hD:=denL_pos LL.flatten
 obtain ⟨b,hb⟩:=mG_den (denL LL.flatten) (fromN LL)
 have hne:=mG_ne (d:=denL LL.flatten) (LL:=fromN LL) (by omega)
 have hb0:b ≠ 0:=by
  rintro rfl
  rw [Int.mul_zero] at hb
  omega
 have h1:denL LL.flatten ∣ b:=by
  refine denF_dvd_of LL.flatten 1 (Int.one_dvd _) fun x hx=>?_
  obtain ⟨L,hL,hxL⟩:=List.mem_flatten.1 hx
  have h2:mG (denL LL.flatten) (fromN LL) ∣ x.num*(denL LL.flatten).tdiv x.den:=mG_num (L:=L.map fun x=>x.num*(denL LL.flatten).tdiv x.den) (List.mem_map.2 ⟨L,hL,rfl⟩) (List.mem_map.2 ⟨x,hxL,rfl⟩)
  obtain ⟨a,ha⟩:=h2
  have h3:=num_over (x:=x) (D:=denL LL.flatten) (den_dvd LL.flatten 1 x hx) (by omega)
  have h4:Rat.divInt a b=x:=by
   have e:Rat.divInt (mG (denL LL.flatten) (fromN LL)*a) (mG (denL LL.flatten) (fromN LL)*b)=x:=by rw [<- ha,<- hb];exact h3
   rw [Rat.divInt_mul_left hne] at e
   exact e
  rw [<- h4]
  exact den_dvd' a hb0
 obtain ⟨k,hk⟩:=h1
 have h5:mG (denL LL.flatten) (fromN LL)*k=1:=by
  have e:b*(mG (denL LL.flatten) (fromN LL)*k)=b*1:=by
   rw [Int.mul_one]
   conv=>rhs;rw [hk,hb]
   rw [Int.mul_comm (mG _ _) b,Int.mul_assoc]
  exact Int.eq_of_mul_eq_mul_left hb0 e
 have h6:0<=mG (denL LL.flatten) (fromN LL):=by
  unfold mG
  rw [if_neg (by omega)]
  split <;> omega
 exact Int.eq_one_of_mul_eq_one_right h6 h5
theorem frD_eq (LL:List (List Rat)):frD LL=denL LL.flatten:=by unfold frD;rw [mG_from,Int.tdiv_one]
theorem frN_eq (LL:List (List Rat)):frN LL=fromN LL:=by
 unfold frN mN
 rw [mG_from]
 conv=>rhs;rw [<- List.map_id (fromN LL)]
 refine List.map_congr_left fun L _=>?_
 conv=>rhs;rw [id,<- List.map_id L]
 exact List.map_congr_left fun z _=>Int.tdiv_one z
section
variable {w w' w'':World}{T:TypeId}{b g n c j:Nat}{A2:Option Addr}{n2 c2:Nat}{E:List (Option Addr × Nat × Nat)}
theorem KeepL.below (h:KeepL T w w')(hb:Below w.heap.size w' w''):KeepL T w w'':=fun i cs T' f ht hi =>
 (hb.block i (Array.getElem?_eq_some_iff.1 hi).1).trans (h i cs T' f ht hi)
theorem own_putH (h:w.ownsRow b T 1 (.slice (some ⟨g,0,none⟩) n c) n (E.map psl))(h2:E.length=n)(hj:j < n) :
  b<=g/\PX w g T (E.map psl)/\(w.setCell ⟨g,j,none⟩ (.slice A2 n2 c2)).ownsRow b T 1 (.slice (some ⟨g,0,none⟩) n c) n ((E.set j (A2,n2,c2)).map psl)/\KeepL T w (w.setCell ⟨g,j,none⟩ (.slice A2 n2 c2)):=by
 obtain ⟨g1,e1,e2,e3,e4,e5⟩:=own_px h (by omega)
 injection e1 with e1
 injection e1 with e1
 subst e1
 refine ⟨e2,e3,⟨by rw [List.length_map,List.length_set,h2];omega,?_⟩,e3.keepL j (.slice A2 n2 c2)⟩
 rcases h.2 with ⟨k1,_⟩ | ⟨g',cap,cur,k1,k2,k3,k4,k5,k6,k7⟩
 ·cases k1
 ·injection k1 with k1 k1' k1''
  injection k1 with k1
  injection k1 with k1
  subst k1 k1''
  refine .inr ⟨g,c,cur.setIfInBounds j (.slice A2 n2 c2),rfl,e2,heap_setCell_same w g j cur T _ k3,k4,k5,by simpa using k6,?_⟩
  rw [Array.toList_setIfInBounds,List.take_set,k7,List.map_set]
  rfl
end
structure Rw (w:World)(b gr n i:Nat)(E:List (Option Addr × Nat × Nat))(F:Nat->List Rat):Prop where
 own:w.ownsRow b 72 1 (.slice (some ⟨gr,0,none⟩) n n) n (E.map psl)
 len:E.length=n
 done:∀ (q:Nat) (e:Option Addr × Nat × Nat),q < i->E[q]?=some e->OwQp w b e.1 e.2.1 e.2.2 (F q)
 rest:∀ q,i<=q->q < n->E[q]?=some (none,0,0)
theorem make_qr (n:Nat)(hn:n<=1048576)(w:World) :
  (Instr.makeSlice 68 (.int .i64 (n:Int)) (.int .i64 (n:Int))).run Tryz.prog w=.ok (.slice (some ⟨w.heap.size,0,none⟩) n n) (w.alloc (.cells (madeCells #[.slice none 0 0] n) 72)) :=
 run_make_row' 68 72 (.slice none 0 0) 24 Tryz.underlying68 infoQr rfl .i64 .i64 n (by omega) (by omega) w
theorem Rw.made (w:World){b n:Nat}(F:Nat->List Rat)(hb:b<=w.heap.size)(hn:n<=1048576):Rw (w.alloc (.cells (madeCells #[.slice none 0 0] n) 72)) b w.heap.size n 0 (List.replicate n (none,0,0)) F :=
 ⟨⟨by simp,.inr ⟨w.heap.size,n,_,rfl,hb,heap_alloc_new w _,nR,by unfold maxLen;omega,by rw [size_madeCells];omega,by rw [nilsP_made];exact List.take_of_length_le (by simp)⟩⟩,List.length_replicate ..,fun q e hq=>absurd hq (Nat.not_lt_zero _),fun q _ hq=>by rw [List.getElem?_replicate,if_pos hq]⟩
theorem Rw.all {w:World}{b gr n:Nat}{E:List (Option Addr × Nat × Nat)}{F:Nat->List Rat}(h:Rw w b gr n n E F):OwQss w b (some ⟨gr,0,none⟩) n n (rowF n F) :=
 ⟨E,h.own,h.len,by rw [h.len,rowF_len],fun j e L he hL=>by
  have hj:j < n:=by
   rcases Nat.lt_or_ge j n with h1 | h1
   ·exact h1
   ·rw [gN (by rw [h.len];exact h1)] at he;cases he
  rw [rowF_get hj] at hL
  injection hL with hL
  subst hL
  exact h.done j e hj he⟩
abbrev valq (x:Rat)(f:List Rat):Rat:=Pq.psum (Pq.co f) x f.length
def scT (MM:List (List (List Rat)))(x:Rat):List (List Rat):=MM.map (·.map (valq x))
theorem Pq_psum_qs {f:List Rat}(h:Fq f){x:Rat}(hx:Qs 1048576 x):∃ z d e:Int,d ≠ 0/\e ≠ 0/\Pq.psum (Pq.co f) x f.length=Rat.divInt z (d*e)/\True/\Zz.zl z<=110000000/\Zz.zl (d*e)<=110000000/\True/\True:=by
 have ha:∀ i,Qs 4097 (Pq.co f i):=fun i=>by
  by_cases hi:i < f.length
  ·rw [Pq.co_get (gE hi)];exact h.2.2 _ (List.getElem_mem hi)
  ·rw [Pq.co_ge (by omega)];exact Qs.zero (by decide)
 obtain ⟨z,d,e,hd,he,h1,_,h3,h4,h5,_⟩:=psum_qs ha hx f.length
 have hl:=h.2.1
 have m1:f.length*(1048576+4097+1)<=101*(1048576+4097+1):=Nat.mul_le_mul_right _ hl
 have m2:f.length*4097<=101*4097:=Nat.mul_le_mul_right _ hl
 have m3:f.length*1048576<=101*1048576:=Nat.mul_le_mul_right _ hl
 exact ⟨z,d,e,hd,he,h1,trivial,by omega,nT (Zz.zl_mul _ _) (by omega),trivial,trivial⟩
theorem valq_qs {f:List Rat}(h:Fq f){x:Rat}(hx:Qs 1048576 x):Qs 110000000 (valq x f):=by
 obtain ⟨z,d,e,hd,he,h1,h2,h3,h4,h5,h6⟩:=Pq_psum_qs h hx
 show Qs 110000000 (Pq.psum (Pq.co f) x f.length)
 rw [h1]
 exact Qs.divInt (Int.mul_ne_zero hd he) h3 h4
theorem scT_len {MM:List (List (List Rat))}{q:Nat}(x:Rat)(h:∀ LL ∈ MM,LL.length=q):∀ L ∈ scT MM x,L.length=q:=fun L hL=>by
 obtain ⟨LL,h1,rfl⟩:=List.mem_map.1 hL
 rw [List.length_map]
 exact h LL h1
theorem scT_qs {MM:List (List (List Rat))}{x:Rat}(h:AllFq MM)(hx:Qs 1048576 x):∀ L ∈ scT MM x,∀ y ∈ L,Qs 110000000 y:=fun L hL y hy=>by
 obtain ⟨LL,h1,rfl⟩:=List.mem_map.1 hL
 obtain ⟨f,h2,rfl⟩:=List.mem_map.1 hy
 exact valq_qs (h LL h1 f h2) hx
end Go.Proofs.YtjnklbfhelbjgaaGreat
