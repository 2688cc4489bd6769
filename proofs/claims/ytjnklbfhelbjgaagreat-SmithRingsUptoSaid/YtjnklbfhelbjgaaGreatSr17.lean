/- Sr17. -/
import Derived.Test.YtjnklbfhelbjgaaGreatSr13
import Derived.Test.YtjnklbfhelbjgaaGreatSr10
import Derived.Test.YtjnklbfhelbjgaaGreatSr09
import Derived.Test.YtjnklbfhelbjgaaGreatSr11
import Derived.Test.YtjnklbfhelbjgaaGreatSr06
import Derived.Test.YtjnklbfhelbjgaaGreatSr12
import Derived.Test.YtjnklbfhelbjgaaGreatSr16
import Derived.Test.YtjnklbfhelbjgaaGreatSr00
set_option maxRecDepth 100000
set_option maxHeartbeats 32000000
set_option linter.all false
namespace Go.Proofs.YtjnklbfhelbjgaaGreat
open Go.RowKit Go.IntWalk
attribute [local go_sem ↓] Go.wp_at_zero Go.wp_at_succ
def RetZD2B (b:Nat)(z d k:Int)(w:World)(e:Ending)(w':World):Prop :=
 ∃ (s:Bool) (A:Option Addr) (n c:Nat) (y:Int) (s':Bool) (A':Option Addr) (n' c':Nat) (y':Int) (kk:Int),e=.returned (.tuple #[.agg #[.bool s,.slice A n c,.bool s',.slice A' n' c'],.int .i64 kk])/\OwZ w' b s A n c y/\OwZ w' b s' A' n' c' y'/\Hid (y=z/\y'=d/\kk=k)/\Below w.heap.size w w'
theorem made_base {f N:Nat}{A:Option Addr}{n c:Nat}{L:List (Int × Int)}{w:World}{z d k:Int}(h:RdQs w w.heap.size N A n c L)(hn:n<=1048576)(hN:N<=1000000000000)(heg:∀ args w,(callFunc f args).run Tryz.prog w=.ok (.enter f args) w)
  (hdo:(∀ p ∈ L,p.2 ≠ 0)->∀ (W:World) (A':Option Addr) (c':Nat) (b:Nat),Below w.heap.size w W->w.heap.size<=b->b<=W.heap.size->OwQs W b A' n c' (L.map qval)->Calls Tryz.prog f #[.slice A' n c'] W (RetZD2B w.heap.size z d k W)) :
  Calls Tryz.prog 85 #[.func (.func f) #[] #[],.slice A n c] w fun e w'=>((∀ p ∈ L,p.2 ≠ 0)/\RetZD2 z d k w e w') ∨ ((∃ p ∈ L,p.2=0)/\RetQ0 6 w e w'):=by
 have HD:=ah hdo
 have HLEN:=ah h.len
 have hmk:=fun W:World=>make_qroom n (by omega) W
 obtain ⟨i0,hi,hz0,hz1,hz2⟩:=info_parts infoQ
 have hX0:=QC.new w false none 0 0 false none 0 0
 have hb0:Below w.heap.size w (w.alloc (.cells #[.bool false,.slice none 0 0,.bool false,.slice none 0 0] 47)):=bA
 obtain ⟨W0,HW0⟩:∃ W,W=(w.alloc (.cells #[.bool false,.slice none 0 0,.bool false,.slice none 0 0] 47)).alloc (.cells #[.bool false,.slice none 0 0,.bool false,.slice none 0 0] 47):=⟨_,rfl⟩
 obtain ⟨hR0,hZ0,hB0⟩:=q_box1 w false none 0 0 false none 0 0 W0 HW0
 have hs0:W0.heap.size=w.heap.size+1+1:=by rw [HW0];simp
 obtain ⟨W1,HW1⟩:∃ W,W=W0.alloc (.cells (madeCells #[.bool false,.slice none 0 0,.bool false,.slice none 0 0] (n*4)) 47):=⟨_,rfl⟩
 have hb1:Below W0.heap.size W0 W1:=by rw [HW1];exact bA
 have hO1:OwQs W1 W0.heap.size (some ⟨W0.heap.size,0,none⟩) 0 n []:=by rw [HW1];exact OwQs.room W0 n (by unfold maxLen;omega)
 have HRZ:=ah (show ∀ W:World,Below W0.heap.size W0 W->QC W w.heap.size false none 0 0 false none 0 0/\QC W (w.heap.size+1) false none 0 0 false none 0 0 from fun W hb=>⟨hR0.next hb,hZ0.next hb⟩)
 have HB0:=ah hB0
 have HS0:=ah hs0
 rw [hs0] at hO1
 rw [HW0] at HW1
 have HW1:=ah HW1
 clear hdo hX0 hb0 hR0 hZ0 hB0 hs0 HW0
 go_enter Tryz.func85,Tryz.ntmps85
 go_wp2_with fail
 rw [<- HW1.out]
 clear HW1
 clear HW1
 have HLT:=ah (show w.heap.size+1 < W0.heap.size by rw [HS0.out];exact Nat.lt_succ_self _)
 rw [<- HS0.out] at hO1
 go_loopw [7,17] (fun ov iv wr=>∃ (j c':Nat) (A':Option Addr) (M:List Rat),ov=.slice A' j c'/\iv=.int .i64 j/\j<=n/\OwQs wr W0.heap.size A' j c' M/\Hid (M=(L.take j).map qval)/\Hid (∀ (i:Nat) (p:Int × Int),i < j->L[i]?=some p->p.2 ≠ 0)/\Below W0.heap.size W0 wr) (fun _ iv _=>n-(intOf iv).toNat)
 case atStart=>exact ⟨0,n,_,[],by rw [HS0.out],rfl,nZ,hO1,ah rfl,ah fun i p hi=>absurd hi (Nat.not_lt_zero _),hb1⟩
 case round =>
  clear hO1 hb1
  obtain ⟨j,c',A',M,rfl,rfl,hj,ho,hM,hne,hB⟩:=hrel
  by_cases hjn:j=n
  ·subst hjn
   have HALL:=ah (show ∀ p ∈ L,p.2 ≠ 0 from fun p hp=>by
    obtain ⟨i,hi,e⟩:=List.mem_iff_getElem.1 hp
    exact hne.out i p (by rw [<- HLEN.out];exact hi) (by rw [gE hi,e]))
   have HBW:=tM HB0 hB
   have HO:=ah (show OwQs wr W0.heap.size A' j c' (L.map qval) by rw [<- List.take_of_length_le (l:=L) (by rw [HLEN.out];exact nR),<- hM.out];exact ho)
   have HR:=ah (HRZ.out _ hB).1
   have HLW:=ah hB.size
   clear ho hB hM hne
   go_wp2_with fail
   refine (HD.out HALL.out wr A' c' _ HBW.out HB0.out.size HLW.out HO.out).mono ?_
   rintro _ W5 ⟨s5,A5,n5,c5,y5,s6,A6,n6,c6,y6,kk,rfl,ho5,ho6,hy,hb5⟩
   have hR5:=HR.out.next hb5
   have r0:=hR5.c0
   have r1:=hR5.c1
   have r2:=hR5.c2
   have r3:=hR5.c3
   have f0:=hR5.fz 0
   have f1:=hR5.fz 1
   have f2:=hR5.fz 2
   have f3:=hR5.fz 3
   have HR9:=ah (hR5.store s5 A5 n5 c5 s6 A6 n6 c6)
   have HO9:=ah (cJ (ho5.keep (keep_putQ hR5 s5 A5 n5 c5 s6 A6 n6 c6)) (ho6.keep (keep_putQ hR5 s5 A5 n5 c5 s6 A6 n6 c6)))
   have HB9:=ah (below_putQ (HBW.out.trans (hb5.mono HBW.out.size)) (Nat.le_refl w.heap.size) s5 A5 n5 c5 s6 A6 n6 c6)
   unfold putQ at HR9 HB9 HO9
   clear ho5 ho6 hb5 hR5
   go_wp2_with fail
   generalize (((W5.setCell ⟨w.heap.size,0,none⟩ (.bool s5)).setCell ⟨w.heap.size,1,none⟩ (.slice A5 n5 c5)).setCell ⟨w.heap.size,2,none⟩ (.bool s6)).setCell ⟨w.heap.size,3,none⟩ (.slice A6 n6 c6)=W9 at *
   have z0:=HR9.out.c0
   have z1:=HR9.out.c1
   have z2:=HR9.out.c2
   have z3:=HR9.out.c3
   exact bodyPost_ret (by simp [results,Tryz.results85,go_sem,z0,z1,z2,z3]) rfl (.inl ⟨HALL.out,_,_,_,_,_,_,_,_,_,_,_,rfl,HO9.out.1,HO9.out.2,hy,HB9.out⟩)
  ·have hjl:j < n:=by omega
   clear hjn
   have hjli:(j:Int) < (n:Int):=by omega
   have hBW:=HB0.out.trans (hB.mono HB0.out.size)
   obtain ⟨ad,s1,A1,n1,c1,s2,A2,n2,c2,z1,d1,rfl,hbk,hx0,hx1,hx2,hx3,hr1,hr2,hn1,hn2,hp⟩:=qs_at h hjl
   obtain ⟨hy0,hy1,hy2,hy3⟩:=qs_cells hBW hbk hx0 hx1 hx2 hx3
   obtain ⟨W2,HW2⟩:∃ W,W=wr.alloc (.cells #[.bool s1,.slice A1 n1 c1,.bool s2,.slice A2 n2 c2] 47):=⟨_,rfl⟩
   have hb2:Below wr.heap.size wr W2:=by rw [HW2];exact bA
   have hB2:=hB.trans (hb2.mono hB.size)
   have hBW2:=hBW.trans (hb2.mono hBW.size)
   have HO:=ah (ho.next hb2)
   have HRD:=ah (cJ (hr1.next hBW2) (hr2.next hBW2))
   have HB2:=ah hB2
   have HBW2:=ah hBW2
   have HNN:=ah (cJ (nT hn1 hN) (nT hn2 hN))
   have HW2:=ah HW2
   clear ho hB hb2 hB2 hBW hBW2 hr1 hr2 hx0 hx1 hx2 hx3
   go_wp2_with fail
   rw [<- HW2.out]
   clear HW2 hy0 hy1 hy2 hy3
   clear HW2
   by_cases hd0:d1=0
   ·subst hd0
    have HEX:=ah (show ∃ p ∈ L,p.2=0 from ⟨(z1,0),gM hp.out,rfl⟩)
    refine (qnorm_zero HRD.out.2 HNN.out.2).mono ?_
    rintro _ W3 ⟨rfl,hb3⟩
    obtain ⟨W4,HW4⟩:∃ W,W=W3.alloc (.cells #[.bool false,.slice none 0 0,.bool false,.slice none 0 0] 47):=⟨_,rfl⟩
    have hb4:Below W3.heap.size W3 W4:=by rw [HW4];exact bA
    have hb24:=hb3.trans (hb4.mono hb3.size)
    have hRZ:=HRZ.out _ (HB2.out.trans (hb24.mono HB2.out.size))
    have hR:=hRZ.1
    have r0:=hR.c0
    have r1:=hR.c1
    have r2:=hR.c2
    have r3:=hR.c3
    have f0:=hR.fz 0
    have f1:=hR.fz 1
    have f2:=hR.fz 2
    have f3:=hR.fz 3
    have g0:=hRZ.2.c0
    have g1:=hRZ.2.c1
    have g2:=hRZ.2.c2
    have g3:=hRZ.2.c3
    rw [HW4] at r0 r1 r2 r3 f0 f1 f2 f3 g0 g1 g2 g3
    have HR9:=ah (hR.store false none 0 0 false none 0 0)
    have HB9:=ah (below_putQ (HBW2.out.trans (hb24.mono HBW2.out.size)) (Nat.le_refl w.heap.size) false none 0 0 false none 0 0)
    unfold putQ at HR9 HB9
    have HW4:=ah HW4
    clear hb3 hb4 hb24 hR hRZ
    go_wp2_with fail
    rw [<- HW4.out]
    clear HW4 r0 r1 r2 r3 f0 f1 f2 f3 g0 g1 g2 g3
    clear HW4
    generalize (((W4.setCell ⟨w.heap.size,0,none⟩ (.bool false)).setCell ⟨w.heap.size,1,none⟩ (.slice none 0 0)).setCell ⟨w.heap.size,2,none⟩ (.bool false)).setCell ⟨w.heap.size,3,none⟩ (.slice none 0 0)=W9 at *
    have z0:=HR9.out.c0
    have z1:=HR9.out.c1
    have z2:=HR9.out.c2
    have z3:=HR9.out.c3
    exact bodyPost_ret (by simp [results,Tryz.results85,go_sem,z0,z1,z2,z3]) rfl (.inr ⟨HEX.out,rfl,HB9.out⟩)
   ·have HD1:=ah hd0
    clear hd0
    refine (qnorm_any HRD.out.1 HRD.out.2 HNN.out.1 HNN.out.2 HD1.out).mono ?_
    rintro _ W3 ⟨s3,A3,n3,c3,s4,A4,n4,c4,y,rfl,ho3,hy,hb3⟩
    have hB3:=HB2.out.trans (hb3.mono HB2.out.size)
    obtain ⟨W4,HW4⟩:∃ W,W=W3.alloc (.cells #[.bool s3,.slice A3 n3 c3,.bool s4,.slice A4 n4 c4] 47):=⟨_,rfl⟩
    have hb4:Below W3.heap.size W3 W4:=by rw [HW4];exact bA
    have hB4:=hB3.trans (hb4.mono hB3.size)
    obtain ⟨E,hE,hEl,hEn⟩:=(HO.out.next hb3).next hb4
    have HO4:=ah ((ho3.base HB2.out.size).next hb4)
    rw [HW4] at hE hB4 hEn
    rw [HW4] at HO4
    have HE:=ah hE
    have HEN:=ah (cJ hEl hEn)
    have HM2:=ah (show M ++ [y]=(L.take (j+1)).map qval by rw [hM.out,hy.out];exact mapq_snoc hp.out)
    have HNE2:=ah (show ∀ (i:Nat) (p:Int × Int),i < j+1->L[i]?=some p->p.2 ≠ 0 from fun i p hi hq=>by
     rcases Nat.lt_or_ge i j with h1 | h1
     ·exact hne.out i p h1 hq
     ·rw [show i=j by omega,hp.out] at hq
      injection hq with hq
      rw [<- hq]
      exact HD1.out)
    have HB4:=ah hB4
    clear hE hEl hEn hb3 ho3 hb4 hB3 hB4 hy HO hne hM
    clear HW4
    go_wp2_with (at_builtin;refine wpList_append_own _ rfl _ _ 72 rfl W0.heap.size 47 i0 (.agg #[.bool false,.slice none 0 0,.bool false,.slice none 0 0]) 4 64 Tryz.underlying72 hi hz0 hz1 hz2 rfl (by decide) _ _ _ rfl (HE.out.alloc _) ⟨W3.heap.size+1,0,none⟩ 1 1 [.bool s3,.slice A3 n3 c3,.bool s4,.slice A4 n4 c4] rfl rfl (by simpa using qcell_new (W3.alloc (.cells #[.bool s3,.slice A3 n3 c3,.bool s4,.slice A4 n4 c4] 47)) (.bool s3) (.slice A3 n3 c3) (.bool s4) (.slice A4 n4 c4) 47) (by simp [Value.oneCell']) (by unfold maxLen;omega) (by omega) (by have:=HB4.out.size;simp at this ⊢;omega) ?_;intro v' w1 hown' hgrow _)
    have hmore:=qs_more (e:=((s3,A3,n3,c3),(s4,A4,n4,c4))) (x:=y) HO4.out rfl (HE.out.alloc _) HEN.out.1 HEN.out.2 hown' hgrow
    have HB5:=ah ((HB4.out.alloc HB4.out.size (.cells #[.bool s3,.slice A3 n3 c3,.bool s4,.slice A4 n4 c4] 47)).grown hgrow (by have:=HB4.out.size;simp at this ⊢;omega) (own_block HE.out))
    obtain ⟨A5,c5,rfl,ho5⟩:=hmore
    clear hown' hgrow HE HEN HO4
    go_wp2
    go_roundw
    case rel=>exact ⟨j+1,c5,A5,M ++ [y],rfl,by go_num,by omega,ho5,HM2,HNE2,HB5.out⟩
    case measure=>simp [intOf];omega
theorem oq_one {w:World}{b:Nat}{A:Option Addr}{c:Nat}{x:Rat}(h:OwQs w b A 1 c [x]) :
  ∃ (g:Nat) (s1:Bool) (A1:Option Addr) (n1 c1:Nat) (s2:Bool) (A2:Option Addr) (n2 c2:Nat),A=some ⟨g,0,none⟩/\g < w.heap.size /\
   (w.cell? ⟨g,0,none⟩=some (.bool s1)/\w.cell? ⟨g,1,none⟩=some (.slice A1 n1 c1)/\w.cell? ⟨g,2,none⟩=some (.bool s2)/\w.cell? ⟨g,3,none⟩=some (.slice A2 n2 c2))/\OwQ w b s1 A1 n1 c1 s2 A2 n2 c2 x:=by
 rcases h.form with ⟨_,h0,_⟩ | ⟨g,rfl,h1,h2,h3,h4⟩
 ·omega
 ·obtain ⟨ad,s1,A1,n1,c1,s2,A2,n2,c2,x',e1,k1,a0,a1,a2,a3,hx,hx'⟩:=oq_at h (show 0 < 1 by omega)
  injection e1 with e1
  subst e1
  obtain rfl:x=x':=by simpa using hx'.out
  rw [add_base] at a0 a1 a2 a3
  exact ⟨g,s1,A1,n1,c1,s2,A2,n2,c2,rfl,h2,⟨a0,a1,a2,a3⟩,hx⟩
theorem qnegIn_any {N b:Nat}{A:Option Addr}{c:Nat}{x:Rat}{w:World}(h:OwQs w b A 1 c [x])(hb:b<=w.heap.size)(hx:Zz.zl x.num<=N/\Zz.zl x.den<=N)(hN:N<=1000000000000) :
  Calls Tryz.prog 86 #[.slice A 1 c] w (RetZD2B b (-x).num (-x).den 0 w):=by
 obtain ⟨g,s1,A1,n1,c1,s2,A2,n2,c2,rfl,hg,⟨a0,a1,a2,a3⟩,ox⟩:=oq_one h
 obtain ⟨W1,HW1⟩:∃ W,W=w.alloc (.cells #[.bool false,.slice none 0 0,.bool false,.slice none 0 0] 47):=⟨_,rfl⟩
 have hR:QC W1 w.heap.size false none 0 0 false none 0 0:=by rw [HW1];exact QC.new w false none 0 0 false none 0 0
 have hB:Below w.heap.size w W1:=by rw [HW1];exact bA
 have HCE:=ah (show ∀ W:World,Below W1.heap.size W1 W->(W.cell? ⟨g,0,none⟩=some (.bool s1)/\W.cell? ⟨g,1,none⟩=some (.slice A1 n1 c1)/\W.cell? ⟨g,2,none⟩=some (.bool s2)/\W.cell? ⟨g,3,none⟩=some (.slice A2 n2 c2)) from fun W hb=>by
  have hb':=hB.trans (hb.mono hB.size)
  exact ⟨(hb'.cell hg).trans a0,(hb'.cell hg).trans a1,(hb'.cell hg).trans a2,(hb'.cell hg).trans a3⟩)
 have HCP:=ah (show ∀ (W:World) (t:Bool) (D:Option Addr) (k m:Nat) (t':Bool) (D':Option Addr) (k' m':Nat),Below W1.heap.size W1 W->((putQ W w.heap.size t D k m t' D' k' m').cell? ⟨g,0,none⟩=some (.bool s1)/\(putQ W w.heap.size t D k m t' D' k' m').cell? ⟨g,1,none⟩=some (.slice A1 n1 c1)/\(putQ W w.heap.size t D k m t' D' k' m').cell? ⟨g,2,none⟩=some (.bool s2)/\(putQ W w.heap.size t D k m t' D' k' m').cell? ⟨g,3,none⟩=some (.slice A2 n2 c2)) from fun W t D k m t' D' k' m' hb=>by
  have hP:=below_putQ (Below.refl w.heap.size W) (Nat.le_refl w.heap.size) t D k m t' D' k' m'
  obtain ⟨e0,e1,e2,e3⟩:=HCE.out W hb
  exact ⟨(hP.cell hg).trans e0,(hP.cell hg).trans e1,(hP.cell hg).trans e2,(hP.cell hg).trans e3⟩)
 unfold putQ at HCP
 have HX:=ah (show ∀ W:World,Below W1.heap.size W1 W->RdZ W W.heap.size s1 A1 n1 c1 x.num/\OwZ W b s2 A2 n2 c2 x.den from fun W hb=>by
  have hb':=hB.trans (hb.mono hB.size)
  exact ⟨(ox.num.next hb').rd,ox.den.next hb'⟩)
 have HNN:=ah (show n1<=N from by rw [ox.num.len];exact hx.1)
 have HB:=ah hB
 have HBW:=ah (nT hb hB.size)
 have HRR:=ah (show ∀ W:World,Below W1.heap.size W1 W->QC W w.heap.size false none 0 0 false none 0 0 from fun W hb=>hR.next hb)
 have HD:=ah (Below.refl W1.heap.size W1).drew
 have HGN:=ah (show g ≠ w.heap.size by omega)
 have HW1:=ah HW1
 clear a0 a1 a2 a3 ox hR hB h hx
 obtain ⟨a0,a1,a2,a3⟩:=HCE.out W1 bR
 go_enter Tryz.func86,Tryz.ntmps86
 go_upto_region 1 with fail
 rw [<- HW1.out]
 clear HW1
 clear HW1
 go_region_held3 (fun w'=>w'.cell? ⟨g,0,none⟩=some (.bool s1)/\w'.cell? ⟨g,1,none⟩=some (.slice A1 n1 c1)/\w'.cell? ⟨g,2,none⟩=some (.bool s2)/\w'.cell? ⟨g,3,none⟩=some (.slice A2 n2 c2))
  (first | exact HCE.out _ HB2.out | exact HCE.out _ HD.out | exact HCP.out _ _ _ _ _ _ _ _ _ HB2.out)
  (first
   | (go_at_call 87;refine (neg_any (HX.out _ HD.out).1 (by have:=HNN.out;omega)).mono ?_;rintro _ W2 ⟨s7,A7,n7,c7,y2,rfl,ho2,hy2,hb2⟩;have HB2:=ah (HD.out.trans hb2);have hR4:=HRR.out _ HB2.out;have r0:=hR4.c0;have r1:=hR4.c1;have r2:=hR4.c2;have r3:=hR4.c3;have f0:=hR4.fz 0;have f1:=hR4.fz 1;have f2:=hR4.fz 2;have f3:=hR4.fz 3))
 all_goals
  have hR4':=HRR.out _ HB2.out
  have HR9:=ah (hR4'.store s7 A7 n7 c7 s2 A2 n2 c2)
  have HO9:=ah (cJ ((ho2.base (b':=b) (nT HBW.out HD.out.size)).keep (keep_putQ hR4' s7 A7 n7 c7 s2 A2 n2 c2)) ((HX.out _ HB2.out).2.keep (keep_putQ hR4' s7 A7 n7 c7 s2 A2 n2 c2)))
  have HB9:=ah (below_putQ (HB.out.trans (HB2.out.mono HB.out.size)) (Nat.le_refl w.heap.size) s7 A7 n7 c7 s2 A2 n2 c2)
  have HV:=ah (show y2=(-x).num by rw [hy2.out];rfl)
  unfold putQ at HR9 HO9 HB9
  clear a0 a1 a2 a3 r0 r1 r2 r3 f0 f1 f2 f3 hR4 hR4' ho2 hb2 hy2
  generalize (((W2.setCell ⟨w.heap.size,0,none⟩ (.bool s7)).setCell ⟨w.heap.size,1,none⟩ (.slice A7 n7 c7)).setCell ⟨w.heap.size,2,none⟩ (.bool s2)).setCell ⟨w.heap.size,3,none⟩ (.slice A2 n2 c2)=W9 at *
  have z0:=HR9.out.c0
  have z1:=HR9.out.c1
  have z2:=HR9.out.c2
  have z3:=HR9.out.c3
  go_wp2
  exact bodyPost_ret (by simp [results,Tryz.results86,go_sem,z0,z1,z2,z3];rfl) rfl ⟨_,_,_,_,_,_,_,_,_,_,_,rfl,HO9.out.1,HO9.out.2,ah (by rw [HV.out];exact ⟨rfl,rfl,rfl⟩),HB9.out⟩
theorem qneg_any {N:Nat}{s s':Bool}{A A':Option Addr}{n c n' c':Nat}{z d:Int}{w:World}(h:RdZ w w.heap.size s A n c z)(h':RdZ w w.heap.size s' A' n' c' d)(hn:n<=N/\n'<=N)(hN:N<=200000000000) :
  Calls Tryz.prog 37 #[.agg #[.bool s,.slice A n c,.bool s',.slice A' n' c']] w (RetQE (d ≠ 0) (-(Rat.divInt z d)) w):=by
 have heg:=enters_of Tryz.func86 (by kernel_rfl) rfl
 obtain ⟨W1,HW1⟩:∃ W,W=(w.alloc (.cells #[.bool s,.slice A n c,.bool s',.slice A' n' c'] 47)).alloc (.cells #[.bool false,.slice none 0 0,.bool false,.slice none 0 0] 47):=⟨_,rfl⟩
 obtain ⟨hX,hR,hB⟩:=q_box1 w s A n c s' A' n' c' W1 HW1
 obtain ⟨W2,HW2⟩:∃ W,W=W1.alloc (.cells #[.bool s,.slice A n c,.bool s',.slice A' n' c'] 47):=⟨_,rfl⟩
 have hq:=qs_one (h.next hB) (h'.next hB) hn.1 hn.2 HW2
 have hb2:Below W1.heap.size W1 W2:=by rw [HW2];exact bA
 have a0:=hX.c0
 have a1:=hX.c1
 have a2:=hX.c2
 have a3:=hX.c3
 have hs1:W1.heap.size=w.heap.size+1+1:=by rw [HW1];simp
 rw [hs1] at hq
 rw [HW1] at a0 a1 a2 a3 HW2
 have HQ:=ah hq
 have HR2:=ah (hR.next hb2)
 have HB2:=ah (hB.trans (hb2.mono hB.size))
 have HSW:=ah (show w.heap.size<=W2.heap.size from nT hB.size hb2.size)
 have HLZ:=ah (show Zz.zl z<=N/\Zz.zl d<=N from ⟨nT h.len hn.1,nT h'.len hn.2⟩)
 have HW2:=ah HW2
 clear hX hR hB hq hb2 hs1 HW1 h h'
 go_enter Tryz.func37,Tryz.ntmps37
 go_wp2_with fail
 rw [<- HW2.out]
 clear HW2 a0 a1 a2 a3
 clear HW2
 refine (made_base (N:=N) (z:=(-(Rat.divInt z d)).num) (d:=(-(Rat.divInt z d)).den) (k:=0) HQ.out (by decide) (by omega) heg (fun hne W A' c' b hb hwb hbb ho=>by
  have e1:d ≠ 0:=hne (z,d) (by simp)
  have h5:=qnegIn_any (N:=N) (x:=Rat.divInt z d) ho hbb ⟨nT (zl_qnum e1) HLZ.out.1,nT (zl_qden e1) HLZ.out.2⟩ (by omega)
  exact h5.mono fun e w' ⟨s5,A5,n5,c5,y5,s6,A6,n6,c6,y6,kk,k1,k2,k3,k4,k5⟩=>⟨s5,A5,n5,c5,y5,s6,A6,n6,c6,y6,kk,k1,k2.base hwb,k3.base hwb,k4,k5⟩)).mono ?_
 intro e3 W3 hpost
 obtain ⟨s5,A5,n5,c5,y5,s6,A6,n6,c6,y6,kk,rfl,ho5,ho6,hy,hb3⟩:RetQE (d ≠ 0) (-(Rat.divInt z d)) W2 e3 W3:=by
  rcases hpost with ⟨hall,s5,A5,n5,c5,y5,s6,A6,n6,c6,y6,kk,k1,k2,k3,k4,k5⟩ | ⟨⟨p,hp,hp0⟩,k1,k2⟩
  ·exact ⟨s5,A5,n5,c5,y5,s6,A6,n6,c6,y6,kk,k1,k2,k3,ah (.inl ⟨hall (z,d) (by simp),k4.out⟩),k5⟩
  ·refine ⟨false,none,0,0,0,false,none,0,0,0,6,k1,OwZ.zero _ _,OwZ.zero _ _,ah (.inr ⟨?_,rfl,rfl,rfl⟩),k2⟩
   intro e1
   obtain rfl:=List.mem_singleton.1 hp
   exact e1 hp0
 have hR5:=HR2.out.next hb3
 have r0:=hR5.c0
 have r1:=hR5.c1
 have r2:=hR5.c2
 have r3:=hR5.c3
 have f0:=hR5.fz 0
 have f1:=hR5.fz 1
 have f2:=hR5.fz 2
 have f3:=hR5.fz 3
 have HR9:=ah (hR5.store s5 A5 n5 c5 s6 A6 n6 c6)
 have HO9:=ah (cJ ((ho5.base (b':=w.heap.size) HSW.out).keep (keep_putQ hR5 s5 A5 n5 c5 s6 A6 n6 c6)) ((ho6.base (b':=w.heap.size) HSW.out).keep (keep_putQ hR5 s5 A5 n5 c5 s6 A6 n6 c6)))
 have HB9:=ah (below_putQ (HB2.out.trans (hb3.mono HB2.out.size)) (show w.heap.size<=w.heap.size+1 by omega) s5 A5 n5 c5 s6 A6 n6 c6)
 unfold putQ at HR9 HB9 HO9
 clear ho5 ho6 hb3 hR5 hpost
 go_wp2_with fail
 generalize (((W3.setCell ⟨w.heap.size+1,0,none⟩ (.bool s5)).setCell ⟨w.heap.size+1,1,none⟩ (.slice A5 n5 c5)).setCell ⟨w.heap.size+1,2,none⟩ (.bool s6)).setCell ⟨w.heap.size+1,3,none⟩ (.slice A6 n6 c6)=W9 at *
 have z0:=HR9.out.c0
 have z1:=HR9.out.c1
 have z2:=HR9.out.c2
 have z3:=HR9.out.c3
 exact bodyPost_ret (by simp [results,Tryz.results37,go_sem,z0,z1,z2,z3]) rfl ⟨_,_,_,_,_,_,_,_,_,_,_,rfl,HO9.out.1,HO9.out.2,hy,HB9.out⟩
abbrev RawRow:=List (Bool × List Nat)
structure RdRss (w:World)(B N K:Nat)(A:Option Addr)(n c:Nat)(RR:List RawRow):Prop where
 len:RR.length=n
 le:n<=c
 mx:c<=maxLen
 at_:∀ (j:Nat) (R:RawRow),RR[j]?=some R->∃ (ad:Addr) (A1:Option Addr) (n1 c1:Nat),A=some ad/\ad.block < B/\w.cell? (ad.add j)=some (.slice A1 n1 c1)/\RdRs w B N A1 n1 c1 R/\n1<=K
section
variable {w w':World}{B B' N K:Nat}{A:Option Addr}{n c:Nat}{RR:List RawRow}
theorem RdRss.below (h:RdRss w B N K A n c RR)(hb:Below B w w'):RdRss w' B N K A n c RR :=
 ⟨h.len,h.le,h.mx,fun j L hp=>by
  obtain ⟨ad,A1,n1,c1,h1,h2,h3,h4,h5⟩:=h.at_ j L hp
  exact ⟨ad,A1,n1,c1,h1,h2,(hb.cell (p:=ad.add j) (by rw [add_blk];exact h2)).trans h3,h4.below hb,h5⟩⟩
theorem RdRss.more (h:RdRss w B N K A n c RR)(hB:B<=B'):RdRss w B' N K A n c RR :=
 ⟨h.len,h.le,h.mx,fun j L hp=>by
  obtain ⟨ad,A1,n1,c1,h1,h2,h3,h4,h5⟩:=h.at_ j L hp
  exact ⟨ad,A1,n1,c1,h1,Nat.lt_of_lt_of_le h2 hB,h3,h4.more hB,h5⟩⟩
theorem RdRss.next (h:RdRss w w.heap.size N K A n c RR)(hb:Below w.heap.size w w'):RdRss w' w'.heap.size N K A n c RR:=(h.below hb).more hb.size
theorem rss_at (h:RdRss w B N K A n c RR){j:Nat}(hj:j < n) :
  ∃ (ad:Addr) (A1:Option Addr) (n1 c1:Nat) (R:RawRow),A=some ad/\ad.block < B/\w.cell? (ad.add j)=some (.slice A1 n1 c1)/\RdRs w B N A1 n1 c1 R/\n1<=K/\Hid (RR[j]?=some R):=by
 have hl:j < RR.length:=by rw [h.len];exact hj
 obtain ⟨ad,A1,n1,c1,h1,h2,h3,h4,h5⟩:=h.at_ j RR[j] (gE hl)
 exact ⟨ad,A1,n1,c1,_,h1,h2,h3,h4,h5,ah (gE hl)⟩
end
def colsOf (RR:List RawRow):Nat:=(RR.headD []).length
def Evn (RR:List RawRow):Prop:=∀ R ∈ RR,R.length=colsOf RR
theorem even_any {N K:Nat}{A:Option Addr}{n c:Nat}{RR:List RawRow}{w:World}(h:RdRss w w.heap.size N K A n c RR)(hn:n<=1048576) :
  Calls Tryz.prog 136 #[.slice A n c] w (RetBo (Evn RR) w):=by
 have H:=ah h
 clear h
 go_enter Tryz.func136,Tryz.ntmps136
 go_wp2_with fail
 go_loopw [7] (fun iv wr=>∃ (j:Nat),iv=.int .i64 (j:Int)/\j<=n/\Hid (∀ (i:Nat) (R:RawRow),i < j->RR[i]?=some R->R.length=colsOf RR)/\Below w.heap.size w wr) (fun iv _=>n-(intOf iv).toNat)
 case atStart=>exact ⟨0,rfl,nZ,ah fun i R hi=>absurd hi (Nat.not_lt_zero _),bR⟩
 case round =>
  obtain ⟨j,rfl,hj,hall,hB⟩:=hrel
  by_cases hjn:j=n
  ·have HE:=ah (show Evn RR from fun R hR=>by
    obtain ⟨i,hi,e⟩:=List.mem_iff_getElem.1 hR
    exact hall.out i R (by rw [hjn,<- H.out.len];exact hi) (by rw [gE hi,e]))
   subst hjn
   have HB:=ah hB
   clear hB hall
   go_wp2
   go_ret
   exact ⟨true,rfl,ah ⟨fun _=>HE.out,fun _=>rfl⟩,HB.out⟩
  ·have hjl:j < n:=by omega
   have hjli:(j:Int) < (n:Int):=by omega
   have hn0:(0:Int) < (n:Int):=by omega
   have h0n:0 < n:=by omega
   clear hjn
   have h':=H.out.next hB
   obtain ⟨ad,A1,n1,c1,R,rfl,hbk,hx,hr,hn1,hp⟩:=rss_at h' hjl
   obtain ⟨ad',A2,n2,c2,R0,e,_,hy,hr0,hn2,hp0⟩:=rss_at h' h0n
   injection e with e
   subst e
   have HC:=ah (show colsOf RR=n2 from by
    unfold colsOf
    have e1:=hp0.out
    cases RR with
    | nil=>simp at e1
    | cons a t=>simp at e1;subst e1;exact hr0.len)
   have HR:=ah (show R.length=n1 from hr.len)
   have hy':wr.cell? ad=some (.slice A2 n2 c2):=by
    have:ad.add 0=ad:=by simp [Addr.add]
    rw [<- this];exact hy
   have HB:=ah hB
   clear hr hr0 hB h'
   by_cases hne:n1=n2
   ·have hb:decide ((n1:Int)=(n2:Int))=true:=by simp [hne]
    have hb2:((n1:Int) == (n2:Int))=true:=by simp [hne]
    have hb3:(n1:Int)=(n2:Int):=by omega
    have HA:=ah (show ∀ (i:Nat) (R:RawRow),i < j+1->RR[i]?=some R->R.length=colsOf RR from fun i R' hi hq=>by
     rcases Nat.lt_or_ge i j with h1 | h1
     ·exact hall.out i R' h1 hq
     ·rw [show i=j by omega,hp.out] at hq
      injection hq with hq
      rw [<- hq,HR.out,HC.out,hne])
    clear hne hall
    go_wp2
    go_roundw
    case rel=>exact ⟨j+1,by go_num,by omega,HA,HB.out⟩
    case measure=>simp [intOf];omega
   ·have hb2:((n1:Int) == (n2:Int))=false:=by simp;omega
    have hb3:¬(n1:Int)=(n2:Int):=by omega
    have HA:=ah (show ¬Evn RR from fun e=>hne (by rw [<- HR.out,<- HC.out];exact e R (gM hp.out)))
    clear hne hall
    go_wp2
    go_ret
    exact ⟨false,rfl,ah ⟨fun e=>by simp at e,fun e=>absurd e HA.out⟩,HB.out⟩
theorem cols_any {N K:Nat}{A:Option Addr}{n c:Nat}{RR:List RawRow}{w:World}(h:RdRss w w.heap.size N K A n c RR)(hn:n<=1048576) :
  Calls Tryz.prog 174 #[.slice A n c] w (RetK (colsOf RR:Int) w):=by
 have HB:=ah (Below.refl w.heap.size w)
 have HL:=ah h.len
 go_enter Tryz.func174,Tryz.ntmps174
 by_cases h0:n=0
 ·have HC:=ah (show colsOf RR=0 from by
   have e:=HL.out
   unfold colsOf
   cases RR with
   | nil=>rfl
   | cons a t=>simp at e;omega)
  subst h0
  go_wp2
  go_ret
  exact ⟨0,rfl,ah (by rw [HC.out];rfl),HB.out⟩
 ·have h0n:0 < n:=by omega
  have hn0:(0:Int) < (n:Int):=by omega
  have hnz:((n:Int) == 0)=false:=by simp;omega
  have hnz2:¬(n:Int)=0:=by omega
  clear h0
  obtain ⟨ad,A2,n2,c2,R0,rfl,_,hy,hr0,hn2,hp0⟩:=rss_at h h0n
  have HC:=ah (show colsOf RR=n2 from by
   unfold colsOf
   have e1:=hp0.out
   cases RR with
   | nil=>simp at e1
   | cons a t=>simp at e1;subst e1;exact hr0.len)
  have hy':w.cell? ad=some (.slice A2 n2 c2):=by
   have:ad.add 0=ad:=by simp [Addr.add]
   rw [<- this];exact hy
  clear hr0 h hp0
  go_wp2
  go_ret
  exact ⟨_,rfl,ah (by rw [HC.out]),HB.out⟩
def MC (w:World)(g:Nat)(s:Bool)(A:Option Addr)(n c:Nat)(G:Option Addr)(r k:Nat):Prop:=w.heap[g]?=some (.cells #[.bool s,.slice A n c,.slice G r k] 28 (0,0))
section
variable {w w':World}{g:Nat}{s:Bool}{A G:Option Addr}{n c r k:Nat}
theorem MC.lt (h:MC w g s A n c G r k):g < w.heap.size:=(Array.getElem?_eq_some_iff.1 h).1
theorem MC.c0 (h:MC w g s A n c G r k):w.cell? ⟨g,0,none⟩=some (.bool s):=by rw [cell_of_row w g 0 _ _ _ h];rfl
theorem MC.c1 (h:MC w g s A n c G r k):w.cell? ⟨g,1,none⟩=some (.slice A n c):=by rw [cell_of_row w g 1 _ _ _ h];rfl
theorem MC.c2 (h:MC w g s A n c G r k):w.cell? ⟨g,2,none⟩=some (.slice G r k):=by rw [cell_of_row w g 2 _ _ _ h];rfl
theorem MC.fz (h:MC w g s A n c G r k)(j:Nat):w.frozen? ⟨g,j,none⟩=false:=frozen_of_row w g j _ _ h
theorem MC.next (h:MC w g s A n c G r k)(hb:Below w.heap.size w w'):MC w' g s A n c G r k:=(hb.block g h.lt).trans h
theorem MC.new (w:World)(s:Bool)(A:Option Addr)(n c:Nat)(G:Option Addr)(r k:Nat):MC (w.alloc (.cells #[.bool s,.slice A n c,.slice G r k] 28)) w.heap.size s A n c G r k:=heap_alloc_new w _
end
instance (RR:List RawRow):Decidable (Evn RR):=by unfold Evn;infer_instance
def chk (d:Int)(RR:List RawRow):Int:=if d=0 then 6 else if Evn RR then 0 else 2
theorem mcheck_any {N K:Nat}{s:Bool}{A G:Option Addr}{n c r k:Nat}{d:Int}{RR:List RawRow}{w:World}(h:RdZ w w.heap.size s A n c d)(h':RdRss w w.heap.size N K G r k RR)(hn:n<=17592186044416)(hr:r<=1048576) :
  Calls Tryz.prog 82 #[.agg #[.bool s,.slice A n c,.slice G r k]] w (RetK (chk d RR) w):=by
 obtain ⟨W1,HW1⟩:∃ W,W=w.alloc (.cells #[.bool s,.slice A n c,.slice G r k] 28):=⟨_,rfl⟩
 have hM:MC W1 w.heap.size s A n c G r k:=by rw [HW1];exact MC.new w s A n c G r k
 have hB:Below w.heap.size w W1:=by rw [HW1];exact bA
 have HM:=ah hM
 have HB:=ah hB
 have HX:=ah (cJ (h.next hB) (h'.next hB))
 have HW1:=ah HW1
 clear h h' hM hB
 go_enter Tryz.func82,Tryz.ntmps82
 go_wp2_with fail
 rw [<- HW1.out]
 clear HW1
 clear HW1
 refine (sign_any HX.out.1 hn).mono ?_
 rintro _ W2 ⟨v,rfl,hv,hb2⟩
 have HB2:=tM HB hb2
 have hR2:=HX.out.2.next hb2
 have m2:=(HM.out.next hb2).c2
 by_cases h0:v=0
 ·have HC:=ah (show chk d RR=6 from if_pos (Int.sign_eq_zero_iff_zero.1 (by rw [<- hv.out];exact h0)))
  subst h0
  clear hv hb2 hR2
  go_wp2
  go_ret
  exact ⟨6,rfl,ah HC.out.symm,HB2.out⟩
 ·have hvb:(v == 0)=false:=by simp [h0]
  have HD:=ah (show d ≠ 0 from fun e=>h0 (by rw [hv.out,e];rfl))
  clear hv
  go_wp2_with fail
  refine (even_any hR2 hr).mono ?_
  rintro _ W3 ⟨b,rfl,hb,hb3⟩
  have HB3:=tM HB2 hb3
  have HBB:=ah hb.out
  clear hb hb2 hb3 hR2 m2
  cases b
  case true =>
   have HC:=ah (show chk d RR=0 from by unfold chk;rw [if_neg HD.out,if_pos (HBB.out.1 (by first | rfl | trivial))])
   clear HBB
   go_wp2
   go_ret
   exact ⟨0,rfl,ah HC.out.symm,HB3.out⟩
  case false =>
   have HC:=ah (show chk d RR=2 from by unfold chk;rw [if_neg HD.out,if_neg (fun e=>by have:=HBB.out.2 e;simp at this)])
   clear HBB
   go_wp2
   go_ret
   exact ⟨2,rfl,ah HC.out.symm,HB3.out⟩
def RetKK (a b:Int)(w:World)(e:Ending)(w':World):Prop:=∃ x y:Int,e=.returned (.tuple #[.int .i64 x,.int .i64 y])/\Hid (x=a/\y=b)/\Below w.heap.size w w'
def SizV (d:Int)(RR:List RawRow)(x y z:Int):Prop:=(chk d RR=0/\x=RR.length/\y=colsOf RR/\z=0) ∨ (chk d RR ≠ 0/\x=0/\y=0/\z=chk d RR)
def RetSz (d:Int)(RR:List RawRow)(w:World)(e:Ending)(w':World):Prop:=∃ x y z:Int,e=.returned (.tuple #[.int .i64 x,.int .i64 y,.int .i64 z])/\Hid (SizV d RR x y z)/\Below w.heap.size w w'
theorem msize_any {N K:Nat}{s:Bool}{A G:Option Addr}{n c r k:Nat}{RR:List RawRow}{w:World}(h':RdRss w w.heap.size N K G r k RR)(hr:r<=1048576) :
  Calls Tryz.prog 134 #[.agg #[.bool s,.slice A n c,.slice G r k]] w (RetKK RR.length (colsOf RR) w):=by
 obtain ⟨W1,HW1⟩:∃ W,W=w.alloc (.cells #[.bool s,.slice A n c,.slice G r k] 28):=⟨_,rfl⟩
 have hM:MC W1 w.heap.size s A n c G r k:=by rw [HW1];exact MC.new w s A n c G r k
 have hB:Below w.heap.size w W1:=by rw [HW1];exact bA
 have HM:=ah (show ∀ W,Below W1.heap.size W1 W->W.cell? ⟨w.heap.size,2,none⟩=some (.slice G r k) from fun W hb=>(hM.next hb).c2)
 have HB:=ah hB
 have HX:=ah (h'.next hB)
 have HL:=ah h'.len
 have HD:=ah (Below.refl W1.heap.size W1).drew
 have HW1:=ah HW1
 clear h' hM hB
 go_enter Tryz.func134,Tryz.ntmps134
 go_upto_region 1 with fail
 rw [<- HW1.out]
 clear HW1
 clear HW1
 have m2:=HM.out W1 bR
 go_region_held3 (fun w'=>w'.cell? ⟨w.heap.size,2,none⟩=some (.slice G r k))
  (first | exact HM.out _ HB2.out | exact HM.out _ HD.out)
  (first
   | (go_at_call 174;refine (cols_any (HX.out.next HD.out) hr).mono ?_;rintro _ W2 ⟨v,rfl,hv,hb2⟩;have HB2:=ah (HD.out.trans hb2)))
 all_goals
  have HF:=tM HB HB2.out
  clear m2 hb2
  go_wp2
  go_ret2
  exact ⟨_,_,rfl,ah ⟨by rw [HL.out],hv.out⟩,HF.out⟩
theorem mSize_any {N K:Nat}{s:Bool}{A G:Option Addr}{n c r k:Nat}{d:Int}{RR:List RawRow}{w:World}(h:RdZ w w.heap.size s A n c d)(h':RdRss w w.heap.size N K G r k RR)(hn:n<=17592186044416)(hr:r<=1048576) :
  Calls Tryz.prog 80 #[.agg #[.bool s,.slice A n c,.slice G r k]] w (RetSz d RR w):=by
 obtain ⟨W1,HW1⟩:∃ W,W=w.alloc (.cells #[.bool s,.slice A n c,.slice G r k] 28):=⟨_,rfl⟩
 have hM:MC W1 w.heap.size s A n c G r k:=by rw [HW1];exact MC.new w s A n c G r k
 have hB:Below w.heap.size w W1:=by rw [HW1];exact bA
 have HM:=ah hM
 have HB:=ah hB
 have HX:=ah (cJ (h.next hB) (h'.next hB))
 have m0:=hM.c0
 have m1:=hM.c1
 have m2:=hM.c2
 rw [HW1] at m0 m1 m2
 have HW1:=ah HW1
 clear h h' hM hB
 go_enter Tryz.func80,Tryz.ntmps80
 go_wp2_with fail
 rw [<- HW1.out]
 clear HW1
 clear HW1
 refine (mcheck_any HX.out.1 HX.out.2 hn hr).mono ?_
 rintro _ W2 ⟨v,rfl,hv,hb2⟩
 have HB2:=tM HB hb2
 have HR2:=ah (HX.out.2.next hb2)
 have q0:=(HM.out.next hb2).c0
 have q1:=(HM.out.next hb2).c1
 have q2:=(HM.out.next hb2).c2
 clear m0 m1 m2 hb2
 by_cases h0:v=0
 ·have HC:=ah (show chk d RR=0 from by rw [<- hv.out];exact h0)
  subst h0
  clear hv
  go_wp2_with fail
  refine (msize_any HR2.out hr).mono ?_
  rintro _ W3 ⟨x,y,rfl,hxy,hb3⟩
  have HB3:=tM HB2 hb3
  clear hb3 q0 q1 q2
  go_wp2
  go_ret3
  exact ⟨x,y,0,rfl,ah (.inl ⟨HC.out,hxy.out.1,hxy.out.2,rfl⟩),HB3.out⟩
 ·have hvb:(v == 0)=false:=by simp [h0]
  have HC:=ah (show chk d RR ≠ 0 from by rw [<- hv.out];exact h0)
  clear q0 q1 q2
  go_wp2
  go_ret3
  exact ⟨0,0,v,rfl,ah (.inr ⟨HC.out,rfl,rfl,hv.out⟩),HB2.out⟩
def KeepI (w w':World):Prop:=KeepT w w'/\∀ (i:Nat) (cs:Array Value) (f:Nat × Nat),w.heap[i]?=some (.cells cs 25 f)->w'.heap[i]?=some (.cells cs 25 f)
section
variable {w w':World}{b b':Nat}{A:Option Addr}{n c:Nat}{R:RawRow}
end
section
variable {w w':World}{b b':Nat}{A:Option Addr}{n c:Nat}{LL:List RawRow}{E:List (Option Addr × Nat × Nat)}
theorem keepI_grown {w1:World}{xs:List Value}(hE:w.ownsRow b 65 1 (.slice A n c) n xs)(hg:w.grownBy w1 (Value.slice A n c).ownBlock):KeepI w w1:=by
 have key:∀ (i:Nat) (cs:Array Value) (t:TypeId) (f:Nat × Nat),t ≠ 65->w.heap[i]?=some (.cells cs t f)->w1.heap[i]?=some (.cells cs t f):=by
  intro i cs t f ht hi
  rw [<- hi]
  refine hg.block i (Array.getElem?_eq_some_iff.1 hi).1 ?_
  rcases hE.2 with ⟨h1,_⟩ | ⟨g,cap,cur,h1,h2,h3,_⟩
  ·rw [h1]
   intro e0
   cases e0
  ·rw [h1]
   intro e0
   cases e0
   rw [hi] at h3
   injection h3 with h3
   injection h3 with _ h3
   exact ht h3
 exact ⟨fun i cs f=>key i cs _ f (by decide),fun i cs f=>key i cs _ f (by decide)⟩
end
theorem infoIs:(Tryz.prog.info? 65).map (fun i=>(i.zero,i.size,i.bytes))=some (some (.slice none 0 0),1,24):=by kernel_rfl
section
variable {w w':World}{b n:Nat}
theorem grown_heap {w1:World}{e t:TypeId}{k i:Nat}{v:Value}{xs:List Value}{cs:Array Value}{f:Nat × Nat}(hE:w.ownsRow b e k v n xs)(hg:w.grownBy w1 v.ownBlock)(hi:w.heap[i]?=some (.cells cs t f))(ht:t ≠ e):w1.heap[i]?=some (.cells cs t f):=by
 rw [<- hi]
 refine hg.block i (Array.getElem?_eq_some_iff.1 hi).1 ?_
 rcases hE.2 with ⟨h1,_⟩ | ⟨g,cap,cur,h1,h2,h3,_⟩
 ·rw [h1]
  intro e0
  cases e0
 ·rw [h1]
  intro e0
  cases e0
  rw [hi] at h3
  injection h3 with h3
  injection h3 with _ h3
  exact ht h3
end
section
variable {w w':World}{g b:Nat}{s:Bool}{A G:Option Addr}{n c r k:Nat}{RR:List RawRow}
theorem MC.grown {w1:World}{m:Nat}{xs:List Value}{v:Value}{q:Nat}(h:MC w g s A n c G r k)(hE:w.ownsRow b 65 q v m xs)(hg:w.grownBy w1 v.ownBlock):MC w1 g s A n c G r k:=grown_heap hE hg h (by decide)
theorem MC.alloc (h:MC w g s A n c G r k)(o:Obj):MC (w.alloc o) g s A n c G r k:=h.next ((Below.refl w.heap.size w).alloc nR o)
theorem MC.far (h:MC w g s A n c G r k){p:Addr}(hp:g ≠ p.block)(u:Value):MC (w.setCell p u) g s A n c G r k:=(Below.heap_setCell w p u g hp).trans h
theorem MC.num (h:MC w g s A n c G r k)(G':Option Addr)(r' k':Nat):MC (w.setCell ⟨g,2,none⟩ (.slice G' r' k')) g s A n c G' r' k':=by
 unfold MC at *
 simp [World.setCell,Array.getElem?_modify,h]
def putM (w:World)(g:Nat)(s:Bool)(A:Option Addr)(n c:Nat)(G:Option Addr)(r k:Nat):World:=((w.setCell ⟨g,0,none⟩ (.bool s)).setCell ⟨g,1,none⟩ (.slice A n c)).setCell ⟨g,2,none⟩ (.slice G r k)
theorem MC.store (h:MC w g s A n c G r k)(s':Bool)(A':Option Addr)(n' c':Nat)(G':Option Addr)(r' k':Nat):MC (putM w g s' A' n' c' G' r' k') g s' A' n' c' G' r' k':=by
 unfold MC putM at *
 simp [World.setCell,Array.getElem?_modify,h]
theorem keepI_mc (h:MC w g s A n c G r k)(j:Nat)(u:Value):KeepI w (w.setCell ⟨g,j,none⟩ u):=by
 have key:∀ (i:Nat) (cs:Array Value) (t:TypeId) (f:Nat × Nat),t ≠ 28->w.heap[i]?=some (.cells cs t f)->(w.setCell ⟨g,j,none⟩ u).heap[i]?=some (.cells cs t f):=fun i cs t f ht e=>by
  have hne:i ≠ g:=by
   rintro rfl
   unfold MC at h
   rw [h] at e
   injection e with e
   injection e with _ e
   exact ht e.symm
  rw [Below.heap_setCell _ (⟨g,j,none⟩:Addr) _ i hne]
  exact e
 exact ⟨fun i cs f=>key i cs _ f (by decide),fun i cs f=>key i cs _ f (by decide)⟩
theorem keepI_put (h:MC w g s A n c G r k)(s':Bool)(A':Option Addr)(n' c':Nat)(G':Option Addr)(r' k':Nat):KeepI w (putM w g s' A' n' c' G' r' k'):=by
 have key:∀ (i:Nat) (cs:Array Value) (t:TypeId) (f:Nat × Nat),t ≠ 28->w.heap[i]?=some (.cells cs t f)->(putM w g s' A' n' c' G' r' k').heap[i]?=some (.cells cs t f):=fun i cs t f ht e=>by
  have hne:i ≠ g:=by
   rintro rfl
   unfold MC at h
   rw [h] at e
   injection e with e
   injection e with _ e
   exact ht e.symm
  unfold putM
  rw [Below.heap_setCell _ (⟨g,2,none⟩:Addr) _ i hne,Below.heap_setCell _ (⟨g,1,none⟩:Addr) _ i hne,Below.heap_setCell _ (⟨g,0,none⟩:Addr) _ i hne]
  exact e
 exact ⟨fun i cs f=>key i cs _ f (by decide),fun i cs f=>key i cs _ f (by decide)⟩
theorem below_putM {B:Nat}(hb:Below B w w')(hg:B<=g)(s':Bool)(A':Option Addr)(n' c':Nat)(G':Option Addr)(r' k':Nat):Below B w (putM w' g s' A' n' c' G' r' k') :=
 ((hb.setCell (p:=⟨g,0,none⟩) hg _).setCell (p:=⟨g,1,none⟩) hg _).setCell (p:=⟨g,2,none⟩) hg _
end
theorem add_off (g off t:Nat):(⟨g,off,none⟩:Addr).add t=⟨g,off+t,none⟩:=by
 unfold Addr.add
 split
 ·subst_vars;rfl
 ·rfl
def OwIp (w:World)(b:Nat)(A:Option Addr)(n c:Nat)(L:List Int):Prop :=
 ∃ E:List Ent,E.length=n/\Ents w b E L/\n<=c/\c<=maxLen/\(n=0 ∨ ∃ (g off:Nat) (cs:Array Value),A=some ⟨g,off,none⟩/\b<=g/\w.heap[g]?=some (.cells cs 25 (0,0))/\∀ (i:Nat) (v:Value),(zcs E)[i]?=some v->cs[off+i]?=some v)
section
variable {w w':World}{b b':Nat}{A:Option Addr}{n c:Nat}{L:List Int}
theorem Ents.keep {E:List Ent}(h:Ents w b E L)(hk:KeepT w w'):Ents w' b E L:=⟨h.1,fun j e z he hz=>(h.2 j e z he hz).keep hk⟩
theorem OwIp.len (h:OwIp w b A n c L):L.length=n:=by
 obtain ⟨E,h1,h2,_⟩:=h
 rw [<- h2.1,h1]
theorem OwIp.le (h:OwIp w b A n c L):n<=c/\c<=maxLen:=by
 obtain ⟨E,_,_,h3,h4,_⟩:=h
 exact ⟨h3,h4⟩
theorem OwIp.next (h:OwIp w b A n c L)(hb:Below w.heap.size w w'):OwIp w' b A n c L:=by
 obtain ⟨E,h1,h2,h3,h4,h5⟩:=h
 refine ⟨E,h1,h2.next hb,h3,h4,h5.imp id ?_⟩
 rintro ⟨g,off,cs,k1,k2,k3,k4⟩
 exact ⟨g,off,cs,k1,k2,(hb.block g (Array.getElem?_eq_some_iff.1 k3).1).trans k3,k4⟩
theorem OwIp.base (h:OwIp w b A n c L)(hb:b'<=b):OwIp w b' A n c L:=by
 obtain ⟨E,h1,h2,h3,h4,h5⟩:=h
 refine ⟨E,h1,h2.base hb,h3,h4,h5.imp id ?_⟩
 rintro ⟨g,off,cs,k1,k2,k3,k4⟩
 exact ⟨g,off,cs,k1,nT hb k2,k3,k4⟩
theorem OwIp.keep (h:OwIp w b A n c L)(hk:KeepI w w'):OwIp w' b A n c L:=by
 obtain ⟨E,h1,h2,h3,h4,h5⟩:=h
 refine ⟨E,h1,h2.keep hk.1,h3,h4,h5.imp id ?_⟩
 rintro ⟨g,off,cs,k1,k2,k3,k4⟩
 exact ⟨g,off,cs,k1,k2,hk.2 _ _ _ k3,k4⟩
theorem OwIp.nil (w:World)(b:Nat)(A:Option Addr){c:Nat}(hc:c<=maxLen):OwIp w b A 0 c []:=⟨[],rfl,⟨rfl,fun j e z he _=>by simp at he⟩,nZ,hc,.inl rfl⟩
theorem OwZs.ip (h:OwZs w b A n c L):OwIp w b A n c L:=by
 rcases h.form with ⟨rfl,rfl,rfl⟩ | ⟨g,rfl,h1,h2,h3,h4⟩
 ·have:=h.len
  rw [List.eq_nil_of_length_eq_zero this]
  exact OwIp.nil w b none nZ
 ·obtain ⟨E,hr,hE,hel⟩:=h
  refine ⟨E,hE,hel,h3,h4,.inr ?_⟩
  rcases hr.2 with ⟨k1,_⟩ | ⟨g2,cap,cur,k1,k2,k3,k4,k5,k6,k7⟩
  ·cases k1
  ·injection k1 with k1 _ _
   injection k1 with k1
   injection k1 with k1 _ _
   subst k1
   refine ⟨g,0,cur,rfl,k2,k3,fun i v hv=>?_⟩
   have hi:i < (zcs E).length:=by
    rcases Nat.lt_or_ge i (zcs E).length with h5 | h5
    ·exact h5
    ·rw [gN h5] at hv;cases hv
   have hi2:i < n*2:=by rw [zcs_len,hE] at hi;exact hi
   rw [<- k7,List.getElem?_take_of_lt hi2] at hv
   simpa using hv
theorem OwIp.rs {N:Nat}(h:OwIp w b A n c L)(hN:∀ z ∈ L,Zz.zl z<=N):RdRs w w.heap.size N A n c (L.map ofZ):=by
 have hl:=h.len
 have hle:=h.le
 obtain ⟨E,h1,h2,h3,h4,h5⟩:=h
 refine ⟨by rw [List.length_map];exact hl,hle.1,hle.2,fun j r hz=>?_⟩
 rw [List.getElem?_map] at hz
 obtain ⟨z,hzz,rfl⟩:=Option.map_eq_some_iff.1 hz
 have hj:j < L.length:=by
  rcases Nat.lt_or_ge j L.length with h6 | h6
  ·exact h6
  ·rw [gN h6] at hzz;cases hzz
 rcases h5 with h5 | ⟨g,off,cs,rfl,k2,k3,k4⟩
 ·omega
 ·have hjE:j < E.length:=by omega
  have he:=gE hjE
  have hz':=h2.2 j _ z he hzz
  obtain ⟨c0,c1⟩:=zcs_at E j _ he
  refine ⟨_,_,_,_,rfl,(Array.getElem?_eq_some_iff.1 k3).1,?_,?_,hz'.own.rd,?_⟩
  ·rw [add_off,cell_of_row w g _ _ _ _ k3,k4 _ _ c0]
   exact congrArg some (congrArg Value.bool hz'.sgn)
  ·rw [add_off]
   show w.cell? ⟨g,off+j*2+1,none⟩=_
   rw [cell_of_row w g _ _ _ _ k3]
   exact k4 _ _ c1
  ·rw [hz'.len];exact hN z (gM hzz)
end
def EntMs (w:World)(b:Nat)(E:List (Option Addr × Nat × Nat))(LL:List (List Int)):Prop:=E.length=LL.length/\∀ (j:Nat) (e:Option Addr × Nat × Nat) (L:List Int),E[j]?=some e->LL[j]?=some L->OwIp w b e.1 e.2.1 e.2.2 L
def OwMs (w:World)(b:Nat)(A:Option Addr)(n c:Nat)(LL:List (List Int)):Prop :=
 ∃ E:List (Option Addr × Nat × Nat),w.ownsRow b 65 1 (.slice A n c) n (E.map psl)/\E.length=n/\EntMs w b E LL
section
variable {w w':World}{b b':Nat}{A:Option Addr}{n c:Nat}{LL:List (List Int)}{E:List (Option Addr × Nat × Nat)}
theorem EntMs.next (h:EntMs w b E LL)(hb:Below w.heap.size w w'):EntMs w' b E LL:=⟨h.1,fun j e z he hz=>(h.2 j e z he hz).next hb⟩
theorem EntMs.base (h:EntMs w b E LL)(hb:b'<=b):EntMs w b' E LL:=⟨h.1,fun j e z he hz=>(h.2 j e z he hz).base hb⟩
theorem EntMs.keep (h:EntMs w b E LL)(hk:KeepI w w'):EntMs w' b E LL:=⟨h.1,fun j e z he hz=>(h.2 j e z he hz).keep hk⟩
theorem EntMs.snoc (h:EntMs w b E LL){e:Option Addr × Nat × Nat}{L:List Int}(he:OwIp w b e.1 e.2.1 e.2.2 L):EntMs w b (E ++ [e]) (LL ++ [L]):=by
 refine ⟨by rw [List.length_append,List.length_append,h.1];rfl,fun j e' z' h1 h2=>?_⟩
 rcases Nat.lt_or_ge j E.length with hj | hj
 ·rw [List.getElem?_append_left hj] at h1
  rw [List.getElem?_append_left (by rw [<- h.1];exact hj)] at h2
  exact h.2 j e' z' h1 h2
 ·rw [List.getElem?_append_right hj] at h1
  rw [List.getElem?_append_right (by rw [<- h.1];exact hj)] at h2
  rw [<- h.1] at h2
  have hj0:j-E.length=0:=by
   rcases Nat.eq_zero_or_pos (j-E.length) with e0 | e0
   ·exact e0
   ·rw [gN (by simp;omega)] at h1;cases h1
  rw [hj0] at h1 h2
  simp at h1 h2
  subst h1 h2
  exact he
theorem OwMs.len (h:OwMs w b A n c LL):LL.length=n:=by
 obtain ⟨E,_,h2,h3⟩:=h
 rw [<- h3.1,h2]
theorem OwMs.nil (w:World)(b:Nat):OwMs w b none 0 0 []:=⟨[],World.ownsRow_nil _ _ _ _,rfl,rfl,fun j e z he _=>by simp at he⟩
theorem OwMs.next (h:OwMs w b A n c LL)(hb:Below w.heap.size w w'):OwMs w' b A n c LL:=by
 obtain ⟨E,h1,h2,h3⟩:=h
 exact ⟨E,row_next h1 hb,h2,h3.next hb⟩
theorem OwMs.base (h:OwMs w b A n c LL)(hb:b'<=b):OwMs w b' A n c LL:=by
 obtain ⟨E,h1,h2,h3⟩:=h
 exact ⟨E,row_base h1 hb,h2,h3.base hb⟩
theorem OwMs.form (h:OwMs w b A n c LL):(A=none/\n=0/\c=0) ∨ ∃ g,A=some ⟨g,0,none⟩/\b<=g/\g < w.heap.size/\n<=c/\c<=maxLen:=by
 obtain ⟨E,h,_,_⟩:=h
 rcases h.2 with ⟨h1,h2⟩ | ⟨g,cap,cur,h1,h2,h3,h4,h5,_⟩
 ·injection h1 with h1 h1' h1''
  exact .inl ⟨h1,h2,h1''⟩
 ·injection h1 with h1 h1' h1''
  subst h1''
  exact .inr ⟨g,h1,h2,(Array.getElem?_eq_some_iff.1 h3).1,h4,h5⟩
theorem ms_more {wb w1:World}{v':Value}{e:Option Addr × Nat × Nat}{L:List Int}{t:TypeId}(he:OwIp w b e.1 e.2.1 e.2.2 L)(hwb:wb=w.alloc (.cells #[.slice e.1 e.2.1 e.2.2] t))(hE:wb.ownsRow b 65 1 (.slice A n c) n (E.map psl))(hEl:E.length=n)(hEn:EntMs wb b E LL)
  (hown':w1.ownsRow b 65 1 v' (n+1) (E.map psl ++ [.slice e.1 e.2.1 e.2.2])) (hg:wb.grownBy w1 (Value.slice A n c).ownBlock) :
  ∃ (A':Option Addr) (c':Nat),v'=.slice A' (n+1) c'/\OwMs w1 b A' (n+1) c' (LL ++ [L]):=by
 obtain ⟨A',c',rfl⟩:=row_sl hown'
 have hba:Below w.heap.size w wb:=by rw [hwb];exact (Below.refl w.heap.size w).alloc nR _
 have hk:=keepI_grown hE hg
 refine ⟨A',c',rfl,E ++ [e],?_,by rw [List.length_append,hEl];rfl,?_⟩
 ·rw [List.map_append];exact hown'
 ·exact (hEn.snoc (he.next hba)).keep hk
theorem oml_at (h:OwMs w b A n c LL){j:Nat}(hj:j < n) :
  ∃ (g:Nat) (A1:Option Addr) (n1 c1:Nat) (L:List Int),A=some ⟨g,0,none⟩/\g < w.heap.size/\w.cell? ⟨g,j,none⟩=some (.slice A1 n1 c1)/\OwIp w b A1 n1 c1 L/\Hid (LL[j]?=some L):=by
 have hl:=h.len
 rcases h.form with ⟨_,h0,_⟩ | ⟨g,rfl,h1,h2,h3,h4⟩
 ·omega
 ·obtain ⟨E,hr,hE,hel⟩:=h
  have hjE:j < E.length:=by omega
  have hjL:j < LL.length:=by omega
  refine ⟨g,E[j].1,E[j].2.1,E[j].2.2,LL[j],rfl,h2,?_,hel.2 j _ _ (gE hjE) (gE hjL),ah (gE hjL)⟩
  have:=hr.cellAt j (by omega)
  rw [this,List.getElem?_map,gE hjE]
  rfl
end
section
variable {w w':World}{b:Nat}{G:Option Addr}{r k N K:Nat}{LL:List (List Int)}
theorem OwMs.rd (h:OwMs w b G r k LL)(hN:∀ L ∈ LL,L.length<=K/\∀ z ∈ L,Zz.zl z<=N):RdRss w w.heap.size N K G r k (LL.map (·.map ofZ)):=by
 have hl:=h.len
 have hf:r<=k/\k<=maxLen:=by
  rcases h.form with ⟨_,rfl,rfl⟩ | ⟨g,_,_,_,h3,h4⟩
  ·exact ⟨nR,nZ⟩
  ·exact ⟨h3,h4⟩
 refine ⟨by rw [List.length_map];exact hl,hf.1,hf.2,fun j R hR=>?_⟩
 rw [List.getElem?_map] at hR
 obtain ⟨L,hL,rfl⟩:=Option.map_eq_some_iff.1 hR
 have hj:j < LL.length:=by
  rcases Nat.lt_or_ge j LL.length with h6 | h6
  ·exact h6
  ·rw [gN h6] at hL;cases hL
 obtain ⟨g,A1,n1,c1,L',rfl,h2,h3,h4,h5⟩:=oml_at h (show j < r by omega)
 rw [h5.out] at hL
 injection hL with hL
 subst hL
 have hm:=hN L' (gM h5.out)
 exact ⟨_,A1,n1,c1,rfl,h2,by rw [add_base];exact h3,h4.rs hm.2,by rw [<- h4.len];exact hm.1⟩
theorem OwMs.num {s:Bool}{A D:Option Addr}{n c g p q:Nat}(h:OwMs w b G r k LL)(hm:MC w g s A n c D p q)(hg:g < b)(u:Value):OwMs (w.setCell ⟨g,2,none⟩ u) b G r k LL:=by
 obtain ⟨E,h1,h2,h3⟩:=h
 exact ⟨E,row_far h1 hg u,h2,h3.keep (keepI_mc hm 2 u)⟩
theorem OwMs.put {s:Bool}{A D:Option Addr}{n c g p q:Nat}(h:OwMs w b G r k LL)(hm:MC w g s A n c D p q)(hg:g < b)(s':Bool)(A':Option Addr)(n' c':Nat)(G':Option Addr)(r' k':Nat):OwMs (putM w g s' A' n' c' G' r' k') b G r k LL:=by
 obtain ⟨E,h1,h2,h3⟩:=h
 exact ⟨E,row_far (row_far (row_far h1 (p:=⟨g,0,none⟩) hg _) (p:=⟨g,1,none⟩) hg _) (p:=⟨g,2,none⟩) hg _,h2,h3.keep (keepI_put hm s' A' n' c' G' r' k')⟩
end
theorem toZ_ofZ (z:Int):toZ (ofZ z)=z:=by
 show Zz.sg (decide (z < 0)) (Dg.val (Dg.dg z.natAbs))=z
 rw [Dg.val_dg,Zz.sg_abs]
def ent (d:Int)(RR:List RawRow):List (List Rat):=RR.map fun R=>R.map fun x=>Rat.divInt (toZ x) d
def entZ (d:Int)(LL:List (List Int)):List (List Rat):=LL.map fun L=>L.map fun z=>Rat.divInt z d
theorem ent_ofZ (d:Int)(LL:List (List Int)):ent d (LL.map (·.map ofZ))=entZ d LL:=by
 unfold ent entZ
 rw [List.map_map]
 refine List.map_congr_left fun L _=>?_
 show (L.map ofZ).map _=_
 rw [List.map_map]
 refine List.map_congr_left fun z _=>?_
 show Rat.divInt (toZ (ofZ z)) d=_
 rw [toZ_ofZ]
theorem ht_fold (L:List Rat):∀ h:Nat,L.foldl (fun h x=>max h (qbits x)) h=max h (ht L):=by
 induction L with
 | nil=>intro h;simp [ht]
 | cons x L ih =>
   intro h
   have e:ht (x :: L)=max (max 0 (qbits x)) (ht L):=by
    unfold ht
    rw [List.foldl_cons,ih]
    rfl
   rw [List.foldl_cons,ih,e]
   omega
theorem ht_append (a b:List Rat):ht (a ++ b)=max (ht a) (ht b):=by
 show (a ++ b).foldl _ 0=_
 rw [List.foldl_append,ht_fold]
 rfl
theorem ht_mem {L:List Rat}{x:Rat}(h:x ∈ L):qbits x<=ht L:=by
 obtain ⟨a,b,rfl⟩:=List.append_of_mem h
 rw [ht_append,show x :: b=[x] ++ b from rfl,ht_append]
 have:ht [x]=max 0 (qbits x):=rfl
 omega
theorem nlen_len (v:Nat):(Dg.dg v).length<=nlen v+1:=by
 unfold nlen
 split
 ·omega
 ·omega
theorem qbits_qs {x:Rat}{k:Nat}(h:qbits x<=k):Qs (k+1) x:=by
 unfold qbits at h
 have h1:=nlen_len x.num.natAbs
 have h2:=nlen_len x.den
 refine ⟨?_,?_⟩
 ·show (Dg.dg x.num.natAbs).length<=k+1
  omega
 ·show (Dg.dg (x.den:Int).natAbs).length<=k+1
  rw [Int.natAbs_natCast]
  omega
theorem chk_zero {d:Int}{RR:List RawRow}(h:chk d RR=0):d ≠ 0/\Evn RR:=by
 unfold chk at h
 by_cases h0:d=0
 ·rw [if_pos h0] at h;omega
 ·rw [if_neg h0] at h
  by_cases h1:Evn RR
  ·exact ⟨h0,h1⟩
  ·rw [if_neg h1] at h;omega
theorem ent_len (d:Int)(RR:List RawRow):(ent d RR).length=RR.length:=by simp [ent]
theorem ent_sz {w:World}{B N K:Nat}{A:Option Addr}{n c:Nat}{RR:List RawRow}{d:Int}(h:RdRss w B N K A n c RR)(hd:d ≠ 0)(hN:Zz.zl d<=N):∀ L ∈ ent d RR,L.length<=K/\∀ x ∈ L,Qs N x:=by
 intro L hL
 obtain ⟨R,hR,rfl⟩:=List.mem_map.1 hL
 obtain ⟨j,hj⟩:=List.getElem?_of_mem hR
 obtain ⟨ad,A1,n1,c1,_,_,_,h4,h5⟩:=h.at_ j R hj
 refine ⟨by rw [List.length_map,h4.len];exact h5,fun x hx=>?_⟩
 obtain ⟨z,hz,rfl⟩:=List.mem_map.1 hx
 obtain ⟨i,hi⟩:=List.getElem?_of_mem hz
 obtain ⟨_,_,_,_,_,_,_,_,k1,k2⟩:=h4.at_ i z hi
 refine Qs.divInt hd ?_ hN
 have hl:z.2.length<=N:=by rw [k1.len];exact k2
 refine nT ?_ hl
 have hw:=k1.wd
 unfold Zz.zl toZ
 exact Dg.dg_len_lt.2 (by
  have e:(Zz.sg z.1 (Dg.val z.2)).natAbs=Dg.val z.2:=by unfold Zz.sg;cases z.1 <;> simp
  rw [e]
  exact Dg.val_lt hw)
abbrev Fq (P:List Rat):Prop:=Pq.nrm P=P/\P.length<=101/\∀ x ∈ P,Qs 4097 x
theorem Fq.nz {L:List Rat}(h:Fq L):Pq.Nz L:=by rw [<- h.1];exact Pq.nz_nrm L
theorem Fq.qs {L:List Rat}(h:Fq L):∀ x ∈ L,Qs 4097 x:=h.2.2
theorem Fq.nil:Fq []:=⟨rfl,nZ,fun x hx=>by cases hx⟩
theorem qsz_le {N:Nat}:∀ M:List Rat,(∀ x ∈ M,Qs N x)->qsz (M.map pr)<=2*N*M.length
 | [],_=>nZ
 | x :: M, hM => by
   rw [List.map_cons,qsz_cons,List.length_cons,Nat.mul_add]
   have h1:=qsz_le M fun y hy=>hM y (List.mem_cons_of_mem _ hy)
   have h2:=hM x (List.mem_cons_self ..)
   have h3:Zz.zl (pr x).1<=N:=h2.1
   have h4:Zz.zl (pr x).2<=N:=h2.2
   omega
theorem Fq.com {L:List Rat}(h:Fq L):∃ Z D,Com 830000 (Pq.co L) Z D:=by
 obtain ⟨Z,D,hC⟩:=com_list (L.map pr) (pr_okD L)
 rw [pr_map] at hC
 have h1:=qsz_le L h.2.2
 have h2:=h.2.1
 have h3:2*4097*L.length<=2*4097*101:=Nat.mul_le_mul_left _ h2
 exact ⟨Z,D,hC.mono (by omega)⟩
theorem one_qsB:∀ x ∈ ([1]:List Rat),Qs 4097 x:=fun x hx=>(one_qs x hx).mono (by decide)
theorem qMulInB_any {b c:Nat}{A:Option Addr}{P Q:List Rat}{w:World}(h:OwPs w b A 2 c [P,Q])(hP:Fq P)(hQ:Fq Q) :
  Calls Tryz.prog 181 #[.slice A 2 c] w (RetPqE w.heap.size (fun M kk=>Pq.IsP (Pq.cv (Pq.co P) (Pq.co Q)) M/\kk=0) w):=by
 obtain ⟨g,A1,n1,c1,L1,rfl,hbk,hx,ho1,hL1⟩:=opl_at h (show 0 < 2 by decide)
 obtain ⟨g',A2,n2,c2,L2,e,_,hy,ho2,hL2⟩:=opl_at h (show 1 < 2 by decide)
 injection e with e
 injection e with e
 subst e
 obtain rfl:P=L1:=by simpa using hL1.out
 obtain rfl:Q=L2:=by simpa using hL2.out
 have HX:=ah (show ∀ W,Below w.heap.size w W->(W.cell? ⟨g,0,none⟩=some (.slice A1 n1 c1)/\W.cell? ⟨g,1,none⟩=some (.slice A2 n2 c2))/\RdQs W W.heap.size 4097 A1 n1 c1 (P.map pr)/\RdQs W W.heap.size 4097 A2 n2 c2 (Q.map pr) from fun W hb=>⟨⟨(hb.cell (p:=⟨g,0,none⟩) hbk).trans hx,(hb.cell (p:=⟨g,1,none⟩) hbk).trans hy⟩,(ho1.next hb).rd hP.qs,(ho2.next hb).rd hQ.qs⟩)
 have HLN:=ah (show n1<=101/\n2<=101 from ⟨by rw [<- ho1.len];exact hP.2.1,by rw [<- ho2.len];exact hQ.2.1⟩)
 have HPQ:=ah (cJ hP hQ)
 clear h hL1 hL2 ho1 ho2 hP hQ
 go_enter Tryz.func181,Tryz.ntmps181
 go_wp2_with fail
 refine (qone_any w).mono ?_
 rintro _ W1 ⟨A3,n3,c3,rfl,ho3,hb3⟩
 obtain rfl:n3=1:=ho3.len.symm
 have HB3:=ah hb3
 have HO3:=ah ho3
 have hc0:=(HX.out W1 hb3).1.1
 have hc1:=(HX.out W1 hb3).1.2
 clear hx hy hb3 ho3
 go_wp2_with fail
 refine wp_loop_rounds 3 ?_
 rw [rounds_succ]
 go_wp2_with fail
 obtain ⟨Z,D,hC⟩:=HPQ.out.1.com
 refine (qmul_poly (HO3.out.rd one_qsB) (HX.out _ HB3.out).2.1 one_com hC (by have:=HLN.out.1;omega) (by decide) (by decide) (by decide)).mono ?_
 rintro _ W4 ⟨A4,n4,c4,M4,rfl,ho4,hM4,hb4⟩
 obtain rfl:=one_cv HPQ.out.1.nz hM4.out
 have HB4:=tM HB3 hb4
 have hd0:=(HX.out W4 HB4.out).1.1
 have hd1:=(HX.out W4 HB4.out).1.2
 have HO4:=ah ho4
 clear hb4 ho4 hM4 hC hc0 hc1
 go_wp2_with fail
 rw [rounds_succ]
 go_wp2_with fail
 obtain ⟨Z,D,hC⟩:=HPQ.out.1.com
 obtain ⟨Y,E,hC'⟩:=HPQ.out.2.com
 refine (qmul_poly (HO4.out.rd HPQ.out.1.qs) (HX.out _ HB4.out).2.2 hC hC' (by have:=HLN.out.2;have:=HO4.out.len;have:=HPQ.out.1.2.1;omega) (by decide) (by decide) (by decide)).mono ?_
 rintro _ W5 ⟨A5,n5,c5,M5,rfl,ho5,hM5,hb5⟩
 have HB5:=tM HB4 hb5
 have HO5:=ah (ho5.base (b':=w.heap.size) HB4.out.size)
 clear hb5 ho5 hC hC' hd0 hd1
 go_wp2_with fail
 rw [rounds_succ]
 go_wp2
 go_ret2
 exact ⟨_,_,_,M5,0,rfl,HO5.out,ah ⟨hM5.out,rfl⟩,HB5.out⟩
theorem pmulB_any {A:Option Addr}{c:Nat}{P Q:List Rat}{w1:World}(hps:RdPs w1 w1.heap.size 4097 1048576 A 2 c [P.map pr,Q.map pr])(hP:Fq P)(hQ:Fq Q) :
  Calls Tryz.prog 127 #[.slice A 2 c] w1 (RetPe (pmul P Q) w1):=by
 have HEG:=ah (enters_of Tryz.func181 (by kernel_rfl) rfl)
 have hps:=ah hps
 have HPQ:=ah (cJ hP hQ)
 clear hP hQ
 go_enter Tryz.func127,Tryz.ntmps127
 go_wp2_with fail
 refine (norms_poly (f:=181) (Φ:=fun M kk=>Pq.IsP (Pq.cv (Pq.co P) (Pq.co Q)) M/\kk=0) hps.out (by decide) (by decide) (by decide) (by decide) HEG.out (fun hall W A' c' hb ho=>by
  have ho':OwPs W w1.heap.size A' 2 c' [P,Q]:=by
   have h3:=ho
   rw [show [P.map pr,Q.map pr].map nq=[P,Q] by rw [List.map_cons,List.map_cons,List.map_nil,pr_nq HPQ.out.1.nz,pr_nq HPQ.out.2.nz]] at h3
   exact h3
  refine (qMulInB_any ho' HPQ.out.1 HPQ.out.2).mono ?_
  rintro e w' ⟨A2,n2,c2,M2,kk,h1,h2,h3,h4⟩
  exact ⟨A2,n2,c2,M2,kk,h1,h2.base hb.size,h3,h4⟩)).mono ?_
 intro e W3 hpost
 rcases hpost with ⟨hall,A2,n2,c2,M2,kk,rfl,ho2,hM2,hb2⟩ | ⟨hex,rfl,hb2⟩
 ·have HR:=ah (RetPe.of (isP_pmul P Q) ⟨A2,n2,c2,M2,kk,rfl,ho2,hM2,hb2⟩)
  clear hall ho2 hb2
  obtain ⟨_,rfl⟩:=hM2.out
  go_wp2
  go_ret2
  exact HR.out
 ·exfalso
  obtain ⟨L0,hL0,p,hp,hp0⟩:=hex
  rcases List.mem_cons.1 hL0 with rfl | h3
  ·exact pr_okD _ p hp hp0
  ·rcases List.mem_cons.1 h3 with rfl | h4
   ·exact pr_okD _ p hp hp0
   ·cases h4
def msum (a b:Nat->List Rat):Nat->List Rat
 | 0=>[]
 | j+1=>padd (msum a b j) (pmul (a j) (b j))
theorem msum_nz (a b:Nat->List Rat):∀ j,Pq.Nz (msum a b j)
 | 0=>Pq.nz_nil
 | _+1=>(isP_padd _ _).1
section
variable {a b:Nat->List Rat}(ha:∀ j,Fq (a j))(hb:∀ j,Fq (b j))
include ha hb
theorem pmul_len (j:Nat):(pmul (a j) (b j)).length<=202 :=
 (isP_pmul _ _).len fun i hi=>Pq.cv_up (Pq.up_co (a j)) (Pq.up_co (b j)) i (by have:=(ha j).2.1;have:=(hb j).2.1;omega)
theorem pmul_com (j:Nat):∃ Z D,Com 1660001 (Pq.co (pmul (a j) (b j))) Z D:=by
 obtain ⟨Z,D,hZ⟩:=(ha j).com
 obtain ⟨Y,E,hY⟩:=(hb j).com
 have h1:=com_cv hZ hY (n:=(a j).length) (by have:=(ha j).2.1;omega) (Pq.up_co (a j))
 exact ⟨_,_,(h1.congr (isP_pmul (a j) (b j)).2).mono (by omega)⟩
theorem msum_len:∀ j,(msum a b j).length<=202
 | 0=>nZ
 | j + 1 => (isP_padd _ _).len fun i hi => by
   rw [Pq.co_ge (nT (msum_len j) hi),Pq.co_ge (nT (pmul_len ha hb j) hi),Rat.add_zero]
theorem msum_com:∀ j,∃ Z D,Com (1+1660002*j) (Pq.co (msum a b j)) Z D
 | 0=>⟨_,_,com_zero.congr fun i=>Pq.co_nil i⟩
 | j + 1 => by
   obtain ⟨Z,D,hZ⟩:=msum_com j
   obtain ⟨Y,E,hY⟩:=pmul_com ha hb j
   exact ⟨_,_,((com_add hZ hY).congr (isP_padd _ _).2).mono (by omega)⟩
theorem pmul_qs (j:Nat):∀ x ∈ pmul (a j) (b j),Qs 50000000 x:=fun x hx=>by
 obtain ⟨Z,D,h⟩:=pmul_com ha hb j
 obtain ⟨t,_,rfl⟩:=Pq.mem_co hx
 exact (h.qs t).mono (by decide)
theorem msum_qs {j:Nat}(hj:j<=24):∀ x ∈ msum a b j,Qs 50000000 x:=fun x hx=>by
 obtain ⟨Z,D,h⟩:=msum_com ha hb j
 obtain ⟨t,_,rfl⟩:=Pq.mem_co hx
 exact (h.qs t).mono (by omega)
end
def entT (MM:List (List (List Rat)))(i k:Nat):List Rat:=(MM.getD i []).getD k []
def mulT (MA MB:List (List (List Rat))):List (List (List Rat)):=rowF MA.length fun i=>rowF (colq MB) fun k=>msum (entT MA i) (fun j=>entT MB j k) (colq MA)
def AllFq (MM:List (List (List Rat))):Prop:=∀ LL ∈ MM,∀ L ∈ LL,Fq L
theorem entT_mem {MM:List (List (List Rat))}{LL:List (List Rat)}{L:List Rat}{i k:Nat}(h:MM[i]?=some LL)(h':LL[k]?=some L):entT MM i k=L:=by
 unfold entT
 have e1:MM.getD i []=LL:=by rw [List.getD_eq_getElem?_getD,h];rfl
 rw [e1,List.getD_eq_getElem?_getD,h']
 rfl
theorem entT_sm {MM:List (List (List Rat))}(h:AllFq MM)(i k:Nat):Fq (entT MM i k):=by
 unfold entT
 rw [List.getD_eq_getElem?_getD,List.getD_eq_getElem?_getD]
 cases h1:MM[i]? with
 | none=>exact Fq.nil
 | some LL =>
   rw [Option.getD_some]
   cases h2:LL[k]? with
   | none=>exact Fq.nil
   | some L=>exact h LL (gM h1) L (gM h2)
theorem fit_sm {PP:List (List (List RawQ))}(h:FitV PP 0):AllFq (nn PP):=fun LL hL L hl=>by
 obtain ⟨h1,h2,h3⟩:=h.zero
 obtain ⟨RR,h4,rfl⟩:=List.mem_map.1 hL
 obtain ⟨R,h5,rfl⟩:=List.mem_map.1 hl
 have h6:¬(101 < (nqp R).length ∨ 4096 < ht (nqp R)):=fun e=>h3 (.inr (.inr ⟨_,hL,_,hl,e⟩))
 refine ⟨Pq.nrm_id (Pq.nz_nrm _),by omega,fun x hx=>qbits_qs (k:=4096) ?_⟩
 have:=ht_mem hx
 omega
section
variable {b b' n c n' c':Nat}{A A':Option Addr}{P Q:List Rat}{w:World}
theorem paddB_any {N:Nat}(h:OwQp w b A n c P)(h':OwQp w b' A' n' c' Q)(hP:∀ x ∈ P,Qs N x)(hQ:∀ x ∈ Q,Qs N x)(hp:P.length<=1048576)(hq:Q.length<=1048576)(hN:N<=200000000000)(h1N:1<=N) :
  Calls Tryz.prog 128 #[.slice A n c,.slice A' n' c'] w (RetPe (padd P Q) w):=by
 refine (qAdd_any (h.rd hP) (h'.rd hQ) (by rw [<- h.len];exact hp) (by rw [<- h'.len];exact hq) hN h1N).mono ?_
 rintro e w' (⟨_,h⟩ | ⟨hn,_⟩)
 ·rw [pr_map,pr_map] at h
  exact .of (isP_padd P Q) h
 ·exact absurd ⟨pr_okD _,pr_okD _⟩ hn
theorem pnrmB_any {N:Nat}(h:OwQp w b A n c P)(hz:Pq.nrm P=P)(hP:∀ x ∈ P,Qs N x)(hp:P.length<=1048576)(hN:N<=200000000000)(h1N:1<=N) :
  Calls Tryz.prog 110 #[.slice A n c] w (RetPe P w):=by
 refine (qpnorm_any (h.rd hP) (by rw [<- h.len];exact hp) (by omega) h1N).mono ?_
 rintro e w' (⟨_,A',n',c',M,rfl,ho,hM,hb⟩ | ⟨⟨p,hp,hp0⟩,_⟩)
 ·have e0:=hM.out
  rw [pr_map,hz] at e0
  subst e0
  exact ⟨A',n',c',rfl,ho,hb⟩
 ·exact absurd hp0 (pr_okD _ p hp)
end
end Go.Proofs.YtjnklbfhelbjgaaGreat
