/- Sc09. -/
import Derived.Test.YtjnklbfhelbjgaaGreatSc08
import Derived.Test.YtjnklbfhelbjgaaGreatSc06
import Derived.Test.YtjnklbfhelbjgaaGreatSc00
set_option maxRecDepth 100000
set_option maxHeartbeats 32000000
set_option linter.all false
namespace Go.Proofs.YtjnklbfhelbjgaaGreat
open Go.RowKit Go.IntWalk
attribute [local go_sem ↓] Go.wp_at_zero Go.wp_at_succ
theorem divInt_ne {z d:Int}(h:z ≠ 0)(hd:d ≠ 0):Rat.divInt z d ≠ 0:=fun e=>by
 have e1:=Rat.num_eq_zero.2 e
 rw [<- Qz.make_num hd] at e1
 have e2:=Int.mul_tdiv_cancel' (Qz.gs_left z d)
 rw [e1,Int.mul_zero] at e2
 exact h e2.symm
theorem qquo_any {N:Nat}{s1 s2 s3 s4:Bool}{A1 A2 A3 A4:Option Addr}{n1 c1 n2 c2 n3 c3 n4 c4:Nat}{z1 d1 z2 d2:Int}{w:World}(h1:RdZ w w.heap.size s1 A1 n1 c1 z1)(h2:RdZ w w.heap.size s2 A2 n2 c2 d1)(h3:RdZ w w.heap.size s3 A3 n3 c3 z2)(h4:RdZ w w.heap.size s4 A4 n4 c4 d2)(hn:n1<=N/\n2<=N/\n3<=N/\n4<=N)(hN:N<=200000000000)(h0:z2 ≠ 0) :
  Calls Tryz.prog 224 #[.agg #[.bool s1,.slice A1 n1 c1,.bool s2,.slice A2 n2 c2],.agg #[.bool s3,.slice A3 n3 c3,.bool s4,.slice A4 n4 c4]] w (RetQE (d1 ≠ 0/\d2 ≠ 0) (Rat.divInt z1 d1 / Rat.divInt z2 d2) w):=by
 have heg:=enters_of Tryz.func244 (by kernel_rfl) rfl
 obtain ⟨W1,HW1⟩:∃ W,W=((w.alloc (.cells #[.bool s1,.slice A1 n1 c1,.bool s2,.slice A2 n2 c2] 47)).alloc (.cells #[.bool s3,.slice A3 n3 c3,.bool s4,.slice A4 n4 c4] 47)).alloc (.cells #[.bool false,.slice none 0 0,.bool false,.slice none 0 0] 47):=⟨_,rfl⟩
 obtain ⟨hX,hY,hR,hB⟩:=q_boxes2 w s1 s2 s3 s4 A1 A2 A3 A4 n1 c1 n2 c2 n3 c3 n4 c4 W1 HW1
 obtain ⟨W2,HW2⟩:∃ W,W=W1.alloc (.cells #[.bool s1,.slice A1 n1 c1,.bool s2,.slice A2 n2 c2,.bool s3,.slice A3 n3 c3,.bool s4,.slice A4 n4 c4] 47):=⟨_,rfl⟩
 have hq:=qs_two (h1.next hB) (h2.next hB) (h3.next hB) (h4.next hB) hn HW2
 have hb2:Below W1.heap.size W1 W2:=by rw [HW2];exact bA
 have a0:=hX.c0
 have a1:=hX.c1
 have a2:=hX.c2
 have a3:=hX.c3
 have b0:=hY.c0
 have b1:=hY.c1
 have b2:=hY.c2
 have b3:=hY.c3
 have hs1:W1.heap.size=w.heap.size+1+1+1:=by rw [HW1];simp
 rw [hs1] at hq
 rw [HW1] at a0 a1 a2 a3 b0 b1 b2 b3 HW2
 have HQ:=ah hq
 have HR2:=ah (hR.next hb2)
 have HB2:=ah (hB.trans (hb2.mono hB.size))
 have HSW:=ah (show w.heap.size<=W2.heap.size from nT hB.size hb2.size)
 have HLZ:=ah (show Zz.zl z1<=N/\Zz.zl d1<=N/\Zz.zl z2<=N/\Zz.zl d2<=N from ⟨nT h1.len hn.1,nT h2.len hn.2.1,nT h3.len hn.2.2.1,nT h4.len hn.2.2.2⟩)
 have HW2:=ah HW2
 clear hX hY hR hB hq hb2 hs1 HW1 h1 h2 h3 h4
 go_enter Tryz.func224,Tryz.ntmps224
 go_wp2_with fail
 rw [<- HW2.out]
 clear HW2 a0 a1 a2 a3 b0 b1 b2 b3
 clear HW2
 refine (made_any (N:=N) (z:=(Rat.divInt z1 d1 / Rat.divInt z2 d2).num) (d:=(Rat.divInt z1 d1 / Rat.divInt z2 d2).den) (k:=0) HQ.out (by decide) (by omega) heg (fun hne W A' c' b hb _ ho=>by
  have e1:d1 ≠ 0:=hne (z1,d1) (by simp)
  have e2:d2 ≠ 0:=hne (z2,d2) (by simp)
  exact qquoIn_any (N:=N) ho ⟨nT (zl_qnum e1) HLZ.out.1,nT (zl_qden e1) HLZ.out.2.1⟩ ⟨nT (zl_qnum e2) HLZ.out.2.2.1,nT (zl_qden e2) HLZ.out.2.2.2⟩ (by omega) (divInt_ne h0 e2))).mono ?_
 intro e3 W3 hpost
 obtain ⟨s5,A5,n5,c5,y5,s6,A6,n6,c6,y6,kk,rfl,ho5,ho6,hy,hb3⟩:RetQE (d1 ≠ 0/\d2 ≠ 0) (Rat.divInt z1 d1 / Rat.divInt z2 d2) W2 e3 W3:=by
  rcases hpost with ⟨hall,s5,A5,n5,c5,y5,s6,A6,n6,c6,y6,kk,k1,k2,k3,k4,k5⟩ | ⟨⟨p,hp,hp0⟩,k1,k2⟩
  ·exact ⟨s5,A5,n5,c5,y5,s6,A6,n6,c6,y6,kk,k1,k2,k3,ah (.inl ⟨⟨hall (z1,d1) (by simp),hall (z2,d2) (by simp)⟩,k4.out⟩),k5⟩
  ·refine ⟨false,none,0,0,0,false,none,0,0,0,6,k1,OwZ.zero _ _,OwZ.zero _ _,ah (.inr ⟨?_,rfl,rfl,rfl⟩),k2⟩
   rintro ⟨e1,e2⟩
   simp at hp
   rcases hp with rfl | rfl
   ·exact e1 hp0
   ·exact e2 hp0
 have hR5:=HR2.out.next hb3
 have r0:=hR5.c0
 have r1:=hR5.c1
 have r2:=hR5.c2
 have r3:=hR5.c3
 have f0:=hR5.fz 0
 have f1:=hR5.fz 1
 have f2:=hR5.fz 2
 have f3:=hR5.fz 3
 have HR9:=ah (hR5.store s5 A5 n5 c5 s6 A6 n6 c6)
 have HO9:=ah (cJ ((ho5.base (b':=w.heap.size) HSW.out).keep (keep_putQ hR5 s5 A5 n5 c5 s6 A6 n6 c6)) ((ho6.base (b':=w.heap.size) HSW.out).keep (keep_putQ hR5 s5 A5 n5 c5 s6 A6 n6 c6)))
 have HB9:=ah (below_putQ (HB2.out.trans (hb3.mono HB2.out.size)) (show w.heap.size<=w.heap.size+1+1 by omega) s5 A5 n5 c5 s6 A6 n6 c6)
 unfold putQ at HR9 HB9 HO9
 clear ho5 ho6 hb3 hR5 hpost
 go_wp2_with fail
 generalize (((W3.setCell ⟨w.heap.size+1+1,0,none⟩ (.bool s5)).setCell ⟨w.heap.size+1+1,1,none⟩ (.slice A5 n5 c5)).setCell ⟨w.heap.size+1+1,2,none⟩ (.bool s6)).setCell ⟨w.heap.size+1+1,3,none⟩ (.slice A6 n6 c6)=W9 at *
 have z0:=HR9.out.c0
 have z1:=HR9.out.c1
 have z2:=HR9.out.c2
 have z3:=HR9.out.c3
 exact bodyPost_ret (by simp [results,Tryz.results224,go_sem,z0,z1,z2,z3]) rfl ⟨_,_,_,_,_,_,_,_,_,_,_,rfl,HO9.out.1,HO9.out.2,hy,HB9.out⟩
theorem inv_val (z d:Int):Rat.divInt 1 1 / Rat.divInt z d=(Rat.divInt z d)⁻¹:=by
 rw [Rat.div_def,show Rat.divInt 1 1=1 from rfl,Rat.one_mul]
theorem qinv_any {N:Nat}{s s':Bool}{A A':Option Addr}{n c n' c':Nat}{z d:Int}{w:World}(h:RdZ w w.heap.size s A n c z)(h':RdZ w w.heap.size s' A' n' c' d)(hn:n<=N/\n'<=N)(hN:N<=200000000000)(h1N:1<=N)(hz:z ≠ 0) :
  Calls Tryz.prog 207 #[.agg #[.bool s,.slice A n c,.bool s',.slice A' n' c']] w (RetQE (d ≠ 0) (Rat.divInt z d)⁻¹ w):=by
 obtain ⟨W1,HW1⟩:∃ W,W=(w.alloc (.cells #[.bool s,.slice A n c,.bool s',.slice A' n' c'] 47)).alloc (.cells #[.bool false,.slice none 0 0,.bool false,.slice none 0 0] 47):=⟨_,rfl⟩
 obtain ⟨hX,hR,hB⟩:=q_box1 w s A n c s' A' n' c' W1 HW1
 have HCE:=ah (show ∀ W:World,Below W1.heap.size W1 W->(W.cell? ⟨w.heap.size,0,none⟩=some (.bool s)/\W.cell? ⟨w.heap.size,1,none⟩=some (.slice A n c)/\W.cell? ⟨w.heap.size,2,none⟩=some (.bool s')/\W.cell? ⟨w.heap.size,3,none⟩=some (.slice A' n' c')) from fun W hb=>⟨(hX.next hb).c0,(hX.next hb).c1,(hX.next hb).c2,(hX.next hb).c3⟩)
 have HRD:=ah (show ∀ W:World,Below W1.heap.size W1 W->RdZ W W.heap.size s A n c z/\RdZ W W.heap.size s' A' n' c' d from fun W hb=>⟨(h.next hB).next hb,(h'.next hB).next hb⟩)
 have HRR:=ah (show ∀ W:World,Below W1.heap.size W1 W->QC W (w.heap.size+1) false none 0 0 false none 0 0 from fun W hb=>hR.next hb)
 have HCP:=ah (show ∀ (W:World) (t:Bool) (D:Option Addr) (k m:Nat) (t':Bool) (D':Option Addr) (k' m':Nat),Below W1.heap.size W1 W->((putQ W (w.heap.size+1) t D k m t' D' k' m').cell? ⟨w.heap.size,0,none⟩=some (.bool s)/\(putQ W (w.heap.size+1) t D k m t' D' k' m').cell? ⟨w.heap.size,1,none⟩=some (.slice A n c)/\(putQ W (w.heap.size+1) t D k m t' D' k' m').cell? ⟨w.heap.size,2,none⟩=some (.bool s')/\(putQ W (w.heap.size+1) t D k m t' D' k' m').cell? ⟨w.heap.size,3,none⟩=some (.slice A' n' c')) from fun W t D k m t' D' k' m' hb=>by
  have hP:=below_putQ (Below.refl (w.heap.size+1) W) (Nat.le_refl (w.heap.size+1)) t D k m t' D' k' m'
  obtain ⟨e0,e1,e2,e3⟩:=HCE.out W hb
  have hg:w.heap.size < w.heap.size+1:=Nat.lt_succ_self _
  exact ⟨(hP.cell (p:=⟨w.heap.size,0,none⟩) hg).trans e0,(hP.cell (p:=⟨w.heap.size,1,none⟩) hg).trans e1,(hP.cell (p:=⟨w.heap.size,2,none⟩) hg).trans e2,(hP.cell (p:=⟨w.heap.size,3,none⟩) hg).trans e3⟩)
 unfold putQ at HCP
 have HD:=ah (Below.refl W1.heap.size W1).drew
 have HB:=ah hB
 have HZ:=ah hz
 have HW1:=ah HW1
 clear hX hR hB h h' hz
 obtain ⟨a0,a1,a2,a3⟩:=HCE.out W1 bR
 go_enter Tryz.func207,Tryz.ntmps207
 go_upto_region 1 with fail
 rw [<- HW1.out]
 clear HW1
 clear HW1
 go_region_held3 (fun w'=>w'.cell? ⟨w.heap.size,0,none⟩=some (.bool s)/\w'.cell? ⟨w.heap.size,1,none⟩=some (.slice A n c)/\w'.cell? ⟨w.heap.size,2,none⟩=some (.bool s')/\w'.cell? ⟨w.heap.size,3,none⟩=some (.slice A' n' c'))
  (first | exact HCE.out _ HB3.out | exact HCE.out _ HB2.out | exact HCE.out _ HD.out | exact HCP.out _ _ _ _ _ _ _ _ _ HB3.out)
  (first
   | (go_at_call 224;refine (qquo_any (N:=N) HO2.out.num.rd HO2.out.den.rd (HRD.out _ HB2.out).1 (HRD.out _ HB2.out).2 ⟨HN2.out.1,HN2.out.2,hn.1,hn.2⟩ hN HZ.out).mono ?_;rintro _ W3 ⟨s5,A5,n5,c5,y5,s6,A6,n6,c6,y6,kk,rfl,ho5,ho6,hy,hb3⟩;have HB3:=tM HB2 hb3;have hR4:=HRR.out _ HB3.out;have r0:=hR4.c0;have r1:=hR4.c1;have r2:=hR4.c2;have r3:=hR4.c3;have f0:=hR4.fz 0;have f1:=hR4.fz 1;have f2:=hR4.fz 2;have f3:=hR4.fz 3)
   | (go_at_call 38;refine (qof_any 1 (by decide) (by decide) _).mono ?_;rintro _ W2 ⟨s2,A2,n2,c2,s3,A3,n3,c3,y2,rfl,ho2,hy2,hb2⟩;obtain rfl:=hy2.out;have HB2:=ah (HD.out.trans hb2);have HO2:=ah ho2;have HN2:=ah (show n2<=N/\n3<=N from ⟨nT (Nat.le_of_eq ho2.num.len) (nT (Zz.zl_small (by decide)) h1N),nT (Nat.le_of_eq ho2.den.len) (nT (Zz.zl_small (by decide)) h1N)⟩)))
 have hR4':=HRR.out _ HB3.out
 have HR9:=ah (hR4'.store s5 A5 n5 c5 s6 A6 n6 c6)
 have HO9:=ah (cJ ((ho5.base (b':=w.heap.size) (nT HB.out.size HB2.out.size)).keep (keep_putQ hR4' s5 A5 n5 c5 s6 A6 n6 c6)) ((ho6.base (b':=w.heap.size) (nT HB.out.size HB2.out.size)).keep (keep_putQ hR4' s5 A5 n5 c5 s6 A6 n6 c6)))
 have HB9:=ah (below_putQ (HB.out.trans (HB3.out.mono HB.out.size)) (Nat.le_succ w.heap.size) s5 A5 n5 c5 s6 A6 n6 c6)
 have HV:=ah (show (d ≠ 0/\y5=((Rat.divInt z d)⁻¹).num/\y6=((Rat.divInt z d)⁻¹).den/\kk=0) ∨ (¬ d ≠ 0/\y5=0/\y6=0/\kk=6) by
  rcases hy.out with ⟨⟨_,e1⟩,e2,e3,e4⟩ | ⟨e1,e2⟩
  ·refine .inl ⟨e1,?_,?_,e4⟩
   ·rw [<- inv_val];exact e2
   ·rw [<- inv_val];exact e3
  ·exact .inr ⟨fun h=>e1 ⟨by decide,h⟩,e2⟩)
 unfold putQ at HR9 HO9 HB9
 clear a0 a1 a2 a3 r0 r1 r2 r3 f0 f1 f2 f3 hR4 hR4' ho2 ho5 ho6 hb2 hb3 hy
 generalize (((W3.setCell ⟨w.heap.size+1,0,none⟩ (.bool s5)).setCell ⟨w.heap.size+1,1,none⟩ (.slice A5 n5 c5)).setCell ⟨w.heap.size+1,2,none⟩ (.bool s6)).setCell ⟨w.heap.size+1,3,none⟩ (.slice A6 n6 c6)=W9 at *
 have z0:=HR9.out.c0
 have z1:=HR9.out.c1
 have z2:=HR9.out.c2
 have z3:=HR9.out.c3
 go_wp2
 exact bodyPost_ret (by simp [results,Tryz.results207,go_sem,z0,z1,z2,z3]) rfl ⟨_,_,_,_,_,_,_,_,_,_,_,rfl,HO9.out.1,HO9.out.2,HV,HB9.out⟩
end Go.Proofs.YtjnklbfhelbjgaaGreat
namespace Pq
def co (L:List Rat)(i:Nat):Rat:=L.getD i 0
def Nz (L:List Rat):Prop:=∀ h:L ≠ [],L.getLast h ≠ 0
theorem co_ge {L:List Rat}{i:Nat}(h:L.length ≤ i):co L i=0:=by simp [co,h]
theorem co_nil (i:Nat):co [] i=0:=by simp [co]
theorem co_get {L:List Rat}{i:Nat}{z:Rat}(h:L[i]?=some z):co L i=z:=by simp [co,List.getD_eq_getElem?_getD,h]
theorem get_co {L:List Rat}{i:Nat}(h:i < L.length):L[i]?=some (co L i):=by simp [co,h]
theorem mem_co {L:List Rat}{z:Rat}(h:z ∈ L):∃ i,i < L.length ∧ co L i=z:=by
 obtain ⟨i,hi⟩:=List.getElem?_of_mem h
 refine ⟨i,?_,co_get hi⟩
 rcases Nat.lt_or_ge i L.length with h1 | h1
 ·exact h1
 ·rw [List.getElem?_eq_none h1] at hi;cases hi
theorem co_take {L:List Rat}{k i:Nat}(h:i < k):co (L.take k) i=co L i:=by
 simp only [co,List.getD_eq_getElem?_getD,List.getElem?_take_of_lt h]
theorem co_take_all {L:List Rat}{k:Nat}(h:∀ i,k ≤ i → co L i=0)(i:Nat):co (L.take k) i=co L i:=by
 rcases Nat.lt_or_ge i k with h1 | h1
 ·exact co_take h1
 ·rw [h i h1];exact co_ge (by rw [List.length_take];omega)
theorem nz_nil:Nz []:=fun h=>absurd rfl h
theorem nz_take {L:List Rat}{k:Nat}(hk:k ≤ L.length)(h:k=0 ∨ co L (k-1) ≠ 0):Nz (L.take k):=by
 intro hne
 have hk0:k ≠ 0:=by rintro rfl;simp at hne
 have hl:=h.resolve_left hk0
 rw [List.getLast_eq_getElem]
 simp only [List.length_take,Nat.min_eq_left hk,List.getElem_take]
 have e:=get_co (L:=L) (i:=k-1) (by omega)
 rw [List.getElem?_eq_getElem (by omega)] at e
 injection e with e
 rw [e]
 exact hl
theorem nz_top {L:List Rat}(h:Nz L)(h0:0 < L.length):co L (L.length-1) ≠ 0:=by
 have hne:L ≠ []:=by rintro rfl;simp at h0
 have e:=h hne
 rw [List.getLast_eq_getElem] at e
 have e2:=get_co (L:=L) (i:=L.length-1) (by omega)
 rw [List.getElem?_eq_getElem (by omega)] at e2
 injection e2 with e2
 rw [← e2]
 exact e
theorem nz_len {L:List Rat}(h:Nz L){k:Nat}(hk:∀ i,k ≤ i → co L i=0):L.length ≤ k:=by
 apply Classical.byContradiction
 intro hc
 exact nz_top h (by omega) (hk _ (by omega))
theorem nz_ext {L M:List Rat}(h:Nz L)(h':Nz M)(e:∀ i,co L i=co M i):L=M:=by
 have h1:L.length ≤ M.length:=nz_len h fun i hi=>by rw [e];exact co_ge hi
 have h2:M.length ≤ L.length:=nz_len h' fun i hi=>by rw [← e];exact co_ge hi
 apply List.ext_getElem?
 intro i
 rcases Nat.lt_or_ge i L.length with hi | hi
 ·rw [get_co hi,get_co (by omega),e]
 ·rw [List.getElem?_eq_none hi,List.getElem?_eq_none (by omega)]
def IsP (f:Nat → Rat)(M:List Rat):Prop:=Nz M ∧ ∀ i,co M i=f i
theorem IsP.unique {f:Nat → Rat}{L M:List Rat}(h:IsP f L)(h':IsP f M):L=M:=nz_ext h.1 h'.1 fun i=>by rw [h.2,h'.2]
theorem IsP.congr {f g:Nat → Rat}{L:List Rat}(h:IsP f L)(e:∀ i,f i=g i):IsP g L:=⟨h.1,fun i=>by rw [h.2,e]⟩
theorem co_map {φ:Rat → Rat}(h0:φ 0=0)(L:List Rat)(i:Nat):co (L.map φ) i=φ (co L i):=by
 simp only [co,List.getD_eq_getElem?_getD,List.getElem?_map]
 cases L[i]? <;> simp [h0]
end Pq
namespace Go.Proofs.YtjnklbfhelbjgaaGreat
open Go.RowKit Go.IntWalk
def pr (x:Rat):Int × Int:=(x.num,(x.den:Int))
theorem qval_pr (x:Rat):qval (pr x)=x:=by unfold qval pr;exact Rat.num_divInt_den x
theorem pr_ne (x:Rat):(pr x).2 ≠ 0:=qden_ne x
def OwQp (w:World)(b:Nat)(A:Option Addr)(n c:Nat)(L:List Rat):Prop :=
 ∃ E:List (Ent × Ent),E.length=n/\EntQ w b E L/\n<=c/\c<=maxLen/\(n=0 ∨ ∃ (g:Nat) (cs:Array Value),A=some ⟨g,0,none⟩/\b<=g/\w.heap[g]?=some (.cells cs 47 (0,0))/\∀ (i:Nat) (v:Value),(qcs E)[i]?=some v->cs[i]?=some v)
def KeepQ (w w':World):Prop:=KeepT w w'/\∀ (i:Nat) (cs:Array Value) (f:Nat × Nat),w.heap[i]?=some (.cells cs 47 f)->w'.heap[i]?=some (.cells cs 47 f)
section
variable {w w':World}{b b':Nat}{A:Option Addr}{n c:Nat}{L:List Rat}
theorem EntQ.keep {E:List (Ent × Ent)}(h:EntQ w b E L)(hk:KeepT w w'):EntQ w' b E L:=⟨h.1,fun j e z he hz=>(h.2 j e z he hz).keep hk⟩
theorem OwQp.len (h:OwQp w b A n c L):L.length=n:=by
 obtain ⟨E,h1,h2,_⟩:=h
 rw [<- h2.1,h1]
theorem OwQp.le (h:OwQp w b A n c L):n<=c/\c<=maxLen:=by
 obtain ⟨E,_,_,h3,h4,_⟩:=h
 exact ⟨h3,h4⟩
theorem OwQp.next (h:OwQp w b A n c L)(hb:Below w.heap.size w w'):OwQp w' b A n c L:=by
 obtain ⟨E,h1,h2,h3,h4,h5⟩:=h
 refine ⟨E,h1,h2.next hb,h3,h4,h5.imp id ?_⟩
 rintro ⟨g,cs,k1,k2,k3,k4⟩
 exact ⟨g,cs,k1,k2,(hb.block g (Array.getElem?_eq_some_iff.1 k3).1).trans k3,k4⟩
theorem OwQp.base (h:OwQp w b A n c L)(hb:b'<=b):OwQp w b' A n c L:=by
 obtain ⟨E,h1,h2,h3,h4,h5⟩:=h
 refine ⟨E,h1,h2.base hb,h3,h4,h5.imp id ?_⟩
 rintro ⟨g,cs,k1,k2,k3,k4⟩
 exact ⟨g,cs,k1,nT hb k2,k3,k4⟩
theorem OwQp.keep (h:OwQp w b A n c L)(hk:KeepQ w w'):OwQp w' b A n c L:=by
 obtain ⟨E,h1,h2,h3,h4,h5⟩:=h
 refine ⟨E,h1,h2.keep hk.1,h3,h4,h5.imp id ?_⟩
 rintro ⟨g,cs,k1,k2,k3,k4⟩
 exact ⟨g,cs,k1,k2,hk.2 _ _ _ k3,k4⟩
theorem OwQp.nil (w:World)(b:Nat)(A:Option Addr):OwQp w b A 0 0 []:=⟨[],rfl,⟨rfl,fun j e z he _=>by simp at he⟩,nR,nZ,.inl rfl⟩
theorem OwQs.p (h:OwQs w b A n c L):OwQp w b A n c L:=by
 rcases h.form with ⟨rfl,rfl,rfl⟩ | ⟨g,rfl,h1,h2,h3,h4⟩
 ·have:=h.len
  rw [List.eq_nil_of_length_eq_zero this]
  exact OwQp.nil w b none
 ·obtain ⟨E,hr,hE,hel⟩:=h
  refine ⟨E,hE,hel,h3,h4,.inr ?_⟩
  rcases hr.2 with ⟨k1,_⟩ | ⟨g2,cap,cur,k1,k2,k3,k4,k5,k6,k7⟩
  ·cases k1
  ·injection k1 with k1 _ _
   injection k1 with k1
   injection k1 with k1 _ _
   subst k1
   refine ⟨g,cur,rfl,k2,k3,fun i v hv=>?_⟩
   have hi:i < (qcs E).length:=by
    rcases Nat.lt_or_ge i (qcs E).length with h5 | h5
    ·exact h5
    ·rw [gN h5] at hv;cases hv
   have hi2:i < n*4:=by rw [qcs_len,hE] at hi;exact hi
   rw [<- k7,List.getElem?_take_of_lt hi2] at hv
   simpa using hv
theorem qcs_take (E:List (Ent × Ent)):∀ (k i:Nat) (v:Value),(qcs (E.take k))[i]?=some v->(qcs E)[i]?=some v:=by
 induction E with
 | nil=>intro k i v h;simpa using h
 | cons e E ih =>
   intro k i v h
   cases k with
   | zero=>simp [qcs] at h
   | succ k =>
     rw [List.take_succ_cons,qcs_cons] at h
     rw [qcs_cons]
     rcases Nat.lt_or_ge i (qc e).length with h1 | h1
     ·rw [List.getElem?_append_left h1] at h ⊢
      exact h
     ·rw [List.getElem?_append_right h1] at h ⊢
      exact ih k _ v h
theorem EntQ.take {E:List (Ent × Ent)}(h:EntQ w b E L)(k:Nat):EntQ w b (E.take k) (L.take k):=by
 refine ⟨by rw [List.length_take,List.length_take,h.1],fun j e z he hz=>?_⟩
 have hj:j < k:=by
  rcases Nat.lt_or_ge j k with h1 | h1
  ·exact h1
  ·rw [gN (by rw [List.length_take];omega)] at he;cases he
 rw [List.getElem?_take_of_lt hj] at he hz
 exact h.2 j e z he hz
theorem OwQp.take (h:OwQp w b A n c L){k:Nat}(hk:k<=n):OwQp w b A k k (L.take k):=by
 obtain ⟨E,h1,h2,h3,h4,h5⟩:=h
 refine ⟨E.take k,by rw [List.length_take];omega,h2.take k,nR,by omega,?_⟩
 rcases h5 with h5 | ⟨g,cs,k1,k2,k3,k4⟩
 ·exact .inl (by omega)
 ·exact .inr ⟨g,cs,k1,k2,k3,fun i v hv=>k4 i v (qcs_take E k i v hv)⟩
theorem op_at (h:OwQp w b A n c L){j:Nat}(hj:j < n) :
  ∃ (ad:Addr) (s:Bool) (A1:Option Addr) (n1 c1:Nat) (s':Bool) (A1':Option Addr) (n1' c1':Nat) (x:Rat),A=some ad/\ad.block < w.heap.size/\w.cell? (ad.add (j*4))=some (.bool s)/\w.cell? ⟨(ad.add (j*4)).block,(ad.add (j*4)).off+1,none⟩=some (.slice A1 n1 c1)/\w.cell? ⟨(ad.add (j*4)).block,(ad.add (j*4)).off+2,none⟩=some (.bool s')/\w.cell? ⟨(ad.add (j*4)).block,(ad.add (j*4)).off+3,none⟩=some (.slice A1' n1' c1')/\OwQ w b s A1 n1 c1 s' A1' n1' c1' x/\Hid (L[j]?=some x):=by
 obtain ⟨E,h1,h2,h3,h4,h5⟩:=h
 rcases h5 with h5 | ⟨g,cs,rfl,k2,k3,k4⟩
 ·omega
 ·have hjE:j < E.length:=by omega
  have hjL:j < L.length:=by rw [<- h2.1];exact hjE
  have he:=gE hjE
  have hq:=qcs_at E j _ he
  have hx:=h2.2 j _ _ he (gE hjL)
  have hc:∀ i,i < 4->∀ v,(qc E[j])[i]?=some v->w.cell? ⟨g,j*4+i,none⟩=some v:=fun i hi v hv=>by
   rw [cell_of_row w g _ _ _ _ k3]
   exact k4 _ v ((hq i hi).trans hv)
  exact ⟨_,_,_,_,_,_,_,_,_,_,rfl,(Array.getElem?_eq_some_iff.1 k3).1,by rw [add_base];exact hc 0 (by omega) _ rfl,by rw [add_base];exact hc 1 (by omega) _ rfl,by rw [add_base];exact hc 2 (by omega) _ rfl,by rw [add_base];exact hc 3 (by omega) _ rfl,hx,ah (gE hjL)⟩
theorem OwQp.rd {N:Nat}(h:OwQp w b A n c L)(hN:∀ x ∈ L,Zz.zl x.num<=N/\Zz.zl (x.den:Int)<=N):RdQs w w.heap.size N A n c (L.map pr):=by
 refine ⟨by rw [List.length_map,h.len],h.le.1,h.le.2,fun j p hp=>?_⟩
 rw [List.getElem?_map] at hp
 rcases Nat.lt_or_ge j L.length with hj | hj
 ·obtain ⟨ad,s,A1,n1,c1,s',A1',n1',c1',x,e1,e2,a0,a1,a2,a3,hx,hL⟩:=op_at h (show j < n by rw [<- h.len];exact hj)
  rw [hL.out] at hp
  simp at hp
  subst hp
  have hs:=hN x (gM hL.out)
  exact ⟨ad,s,A1,n1,c1,s',A1',n1',c1',e1,e2,a0,a1,a2,a3,hx.num.rd,hx.den.rd,by rw [hx.num.len];exact hs.1,by rw [hx.den.len];exact hs.2⟩
 ·rw [gN hj] at hp
  simp at hp
end
def Qs (N:Nat)(x:Rat):Prop:=Zz.zl x.num<=N/\Zz.zl (x.den:Int)<=N
section
variable {a b:Nat}{x y:Rat}
theorem Qs.mono (h:Qs a x)(hb:a<=b):Qs b x:=⟨nT h.1 hb,nT h.2 hb⟩
theorem Qs.divInt {z d:Int}(hd:d ≠ 0)(h1:Zz.zl z<=a)(h2:Zz.zl d<=a):Qs a (Rat.divInt z d):=⟨nT (zl_qnum hd) h1,nT (zl_qden hd) h2⟩
theorem Qs.int {z:Int}(h:Zz.zl z<=a)(ha:1<=a):Qs a (z:Rat):=⟨h,show Zz.zl ((1:Nat):Int)<=a from nT (Zz.zl_small (by decide)) ha⟩
theorem Qs.zero (ha:1<=a):Qs a 0:=⟨by rw [show (0:Rat).num=0 from rfl,Zz.zl_zero];exact nZ,nT (Zz.zl_small (by decide)) ha⟩
theorem Qs.one (ha:1<=a):Qs a 1:=⟨nT (Zz.zl_small (by decide)) ha,nT (Zz.zl_small (by decide)) ha⟩
theorem Qs.mul (h:Qs a x)(h':Qs b y):Qs (a+b) (x*y):=by
 rw [<- qmul_val]
 refine Qs.divInt (Int.mul_ne_zero (qden_ne x) (qden_ne y)) ?_ ?_
 ·exact nT (Zz.zl_mul _ _) (Nat.add_le_add h.1 h'.1)
 ·exact nT (Zz.zl_mul _ _) (Nat.add_le_add h.2 h'.2)
theorem Qs.add (h:Qs a x)(h':Qs b y):Qs (a+b+1) (x+y):=by
 rw [<- qadd_val]
 refine Qs.divInt (Int.mul_ne_zero (qden_ne x) (qden_ne y)) ?_ ?_
 ·have e1:=Zz.zl_add (x.num*y.den) (y.num*x.den)
  have e2:=Zz.zl_mul x.num y.den
  have e3:=Zz.zl_mul y.num x.den
  have:=h.1
  have:=h.2
  have:=h'.1
  have:=h'.2
  omega
 ·have e2:=Zz.zl_mul x.den y.den
  have:=h.2
  have:=h'.2
  omega
theorem Qs.neg (h:Qs a x):Qs a (-x):=⟨by rw [Rat.neg_num,Zz.zl_neg];exact h.1,by rw [Rat.neg_den];exact h.2⟩
theorem Qs.inv (h:Qs a x)(h0:x ≠ 0):Qs a x⁻¹:=by
 rw [show x⁻¹=Rat.divInt x.den x.num by conv=>lhs;rw [<- Rat.num_divInt_den x,Rat.inv_divInt]]
 exact Qs.divInt (fun e=>h0 (Rat.num_eq_zero.1 e)) h.2 h.1
theorem Qs.div (h:Qs a x)(h':Qs b y)(h0:y ≠ 0):Qs (a+b) (x / y):=by
 rw [Rat.div_def]
 exact h.mul (h'.inv h0)
end
def SzQ (N:Nat)(L:List Rat):Prop:=∀ i,Qs N (Pq.co L i)
theorem SzQ.mem {N:Nat}{L:List Rat}(h:SzQ N L):∀ x ∈ L,Qs N x:=fun x hx=>by
 obtain ⟨i,_,rfl⟩:=Pq.mem_co hx
 exact h i
theorem SzQ.of {N:Nat}{L:List Rat}(h:∀ x ∈ L,Qs N x)(hN:1<=N):SzQ N L:=fun i=>by
 rcases Nat.lt_or_ge i L.length with hi | hi
 ·exact h _ (gM (Pq.get_co hi))
 ·rw [Pq.co_ge hi]
  exact Qs.zero hN
theorem RdQs.sz {w:World}{B N:Nat}{A:Option Addr}{n c:Nat}{L:List (Int × Int)}(h:RdQs w B N A n c L)(hd:∀ p ∈ L,p.2 ≠ 0)(hN:1<=N):SzQ N (L.map qval):=SzQ.of (fun x hx=>by
 obtain ⟨p,hp,rfl⟩:=List.mem_map.1 hx
 obtain ⟨j,hj⟩:=List.getElem?_of_mem hp
 obtain ⟨_,_,_,_,_,_,_,_,_,_,_,_,_,_,_,h1,h2,h3,h4⟩:=h.at_ j p hj
 exact Qs.divInt (hd p hp) (nT h1.len h3) (nT h2.len h4)) hN
def RetPq (f:Nat->Rat)(w:World)(e:Ending)(w':World):Prop :=
 ∃ (A:Option Addr) (n c:Nat) (M:List Rat),e=.returned (.slice A n c)/\OwQp w' w.heap.size A n c M/\Hid (Pq.IsP f M)/\Below w.heap.size w w'
structure RdPs (w:World)(B N K:Nat)(A:Option Addr)(n c:Nat)(LL:List (List (Int × Int))):Prop where
 len:LL.length=n
 le:n<=c
 mx:c<=maxLen
 at_:∀ (j:Nat) (L:List (Int × Int)),LL[j]?=some L->∃ (ad:Addr) (A1:Option Addr) (n1 c1:Nat),A=some ad/\ad.block < B/\w.cell? (ad.add j)=some (.slice A1 n1 c1)/\RdQs w B N A1 n1 c1 L/\n1<=K
section
variable {w w':World}{B B' N K:Nat}{A:Option Addr}{n c:Nat}{LL:List (List (Int × Int))}
theorem RdPs.below (h:RdPs w B N K A n c LL)(hb:Below B w w'):RdPs w' B N K A n c LL :=
 ⟨h.len,h.le,h.mx,fun j L hp=>by
  obtain ⟨ad,A1,n1,c1,h1,h2,h3,h4,h5⟩:=h.at_ j L hp
  exact ⟨ad,A1,n1,c1,h1,h2,(hb.cell (p:=ad.add j) (by rw [add_blk];exact h2)).trans h3,h4.below hb,h5⟩⟩
theorem RdPs.more (h:RdPs w B N K A n c LL)(hB:B<=B'):RdPs w B' N K A n c LL :=
 ⟨h.len,h.le,h.mx,fun j L hp=>by
  obtain ⟨ad,A1,n1,c1,h1,h2,h3,h4,h5⟩:=h.at_ j L hp
  exact ⟨ad,A1,n1,c1,h1,Nat.lt_of_lt_of_le h2 hB,h3,h4.more hB,h5⟩⟩
theorem RdPs.next (h:RdPs w w.heap.size N K A n c LL)(hb:Below w.heap.size w w'):RdPs w' w'.heap.size N K A n c LL:=(h.below hb).more hb.size
theorem ps_at (h:RdPs w B N K A n c LL){j:Nat}(hj:j < n) :
  ∃ (ad:Addr) (A1:Option Addr) (n1 c1:Nat) (L:List (Int × Int)),A=some ad/\ad.block < B/\w.cell? (ad.add j)=some (.slice A1 n1 c1)/\RdQs w B N A1 n1 c1 L/\n1<=K/\Hid (LL[j]?=some L):=by
 have hl:j < LL.length:=by rw [h.len];exact hj
 obtain ⟨ad,A1,n1,c1,h1,h2,h3,h4,h5⟩:=h.at_ j LL[j] (gE hl)
 exact ⟨ad,A1,n1,c1,_,h1,h2,h3,h4,h5,ah (gE hl)⟩
theorem ps_two {A1 A2:Option Addr}{n1 c1 n2 c2:Nat}{L L':List (Int × Int)}(h:RdQs w w.heap.size N A1 n1 c1 L)(h':RdQs w w.heap.size N A2 n2 c2 L')(hn:n1<=K)(hn':n2<=K){w1:World}(hw:w1=w.alloc (.cells #[.slice A1 n1 c1,.slice A2 n2 c2] 73)) :
  RdPs w1 w1.heap.size N K (some ⟨w.heap.size,0,none⟩) 2 2 [L,L']:=by
 have hb:Below w.heap.size w w1:=by rw [hw];exact bA
 have hr:w1.heap[w.heap.size]?=some (.cells #[.slice A1 n1 c1,.slice A2 n2 c2] 73 (0,0)):=by rw [hw];exact heap_alloc_new w _
 have hlt:w.heap.size < w1.heap.size:=(Array.getElem?_eq_some_iff.1 hr).1
 refine ⟨rfl,nR,by unfold maxLen;omega,fun j y hy=>?_⟩
 match j,hy with
 | 0, hy =>
   simp at hy
   subst hy
   exact ⟨_,A1,n1,c1,rfl,hlt,by rw [add_base,cell_of_row w1 _ _ _ _ _ hr];rfl,h.next hb,hn⟩
 | 1, hy =>
   simp at hy
   subst hy
   exact ⟨_,A2,n2,c2,rfl,hlt,by rw [add_base,cell_of_row w1 _ _ _ _ _ hr];rfl,h'.next hb,hn'⟩
 | j+2,hy=>simp at hy
end
def psl (e:Option Addr × Nat × Nat):Value:=.slice e.1 e.2.1 e.2.2
def EntP (w:World)(b:Nat)(E:List (Option Addr × Nat × Nat))(LL:List (List Rat)):Prop:=E.length=LL.length/\∀ (j:Nat) (e:Option Addr × Nat × Nat) (L:List Rat),E[j]?=some e->LL[j]?=some L->OwQp w b e.1 e.2.1 e.2.2 L
def OwPs (w:World)(b:Nat)(A:Option Addr)(n c:Nat)(LL:List (List Rat)):Prop :=
 ∃ E:List (Option Addr × Nat × Nat),w.ownsRow b 73 1 (.slice A n c) n (E.map psl)/\E.length=n/\EntP w b E LL
section
variable {w w':World}{b b':Nat}{A:Option Addr}{n c:Nat}{LL:List (List Rat)}{E:List (Option Addr × Nat × Nat)}
theorem EntP.next (h:EntP w b E LL)(hb:Below w.heap.size w w'):EntP w' b E LL:=⟨h.1,fun j e z he hz=>(h.2 j e z he hz).next hb⟩
theorem EntP.base (h:EntP w b E LL)(hb:b'<=b):EntP w b' E LL:=⟨h.1,fun j e z he hz=>(h.2 j e z he hz).base hb⟩
theorem EntP.keep (h:EntP w b E LL)(hk:KeepQ w w'):EntP w' b E LL:=⟨h.1,fun j e z he hz=>(h.2 j e z he hz).keep hk⟩
theorem EntP.snoc (h:EntP w b E LL){e:Option Addr × Nat × Nat}{L:List Rat}(he:OwQp w b e.1 e.2.1 e.2.2 L):EntP w b (E ++ [e]) (LL ++ [L]):=by
 refine ⟨by rw [List.length_append,List.length_append,h.1];rfl,fun j e' z' h1 h2=>?_⟩
 rcases Nat.lt_or_ge j E.length with hj | hj
 ·rw [List.getElem?_append_left hj] at h1
  rw [List.getElem?_append_left (by rw [<- h.1];exact hj)] at h2
  exact h.2 j e' z' h1 h2
 ·rw [List.getElem?_append_right hj] at h1
  rw [List.getElem?_append_right (by rw [<- h.1];exact hj)] at h2
  rw [<- h.1] at h2
  have hj0:j-E.length=0:=by
   rcases Nat.eq_zero_or_pos (j-E.length) with e0 | e0
   ·exact e0
   ·rw [gN (by simp;omega)] at h1;cases h1
  rw [hj0] at h1 h2
  simp at h1 h2
  subst h1 h2
  exact he
theorem OwPs.len (h:OwPs w b A n c LL):LL.length=n:=by
 obtain ⟨E,_,h2,h3⟩:=h
 rw [<- h3.1,h2]
theorem OwPs.nil (w:World)(b:Nat):OwPs w b none 0 0 []:=⟨[],World.ownsRow_nil _ _ _ _,rfl,rfl,fun j e z he _=>by simp at he⟩
theorem OwPs.next (h:OwPs w b A n c LL)(hb:Below w.heap.size w w'):OwPs w' b A n c LL:=by
 obtain ⟨E,h1,h2,h3⟩:=h
 exact ⟨E,row_next h1 hb,h2,h3.next hb⟩
theorem OwPs.base (h:OwPs w b A n c LL)(hb:b'<=b):OwPs w b' A n c LL:=by
 obtain ⟨E,h1,h2,h3⟩:=h
 exact ⟨E,row_base h1 hb,h2,h3.base hb⟩
theorem OwPs.form (h:OwPs w b A n c LL):(A=none/\n=0/\c=0) ∨ ∃ g,A=some ⟨g,0,none⟩/\b<=g/\g < w.heap.size/\n<=c/\c<=maxLen:=by
 obtain ⟨E,h,_,_⟩:=h
 rcases h.2 with ⟨h1,h2⟩ | ⟨g,cap,cur,h1,h2,h3,h4,h5,_⟩
 ·injection h1 with h1 h1' h1''
  exact .inl ⟨h1,h2,h1''⟩
 ·injection h1 with h1 h1' h1''
  subst h1''
  exact .inr ⟨g,h1,h2,(Array.getElem?_eq_some_iff.1 h3).1,h4,h5⟩
theorem keepQ_grown {w1:World}{xs:List Value}(hE:w.ownsRow b 73 1 (.slice A n c) n xs)(hg:w.grownBy w1 (Value.slice A n c).ownBlock):KeepQ w w1:=by
 have key:∀ (i:Nat) (cs:Array Value) (t:TypeId) (f:Nat × Nat),t ≠ 73->w.heap[i]?=some (.cells cs t f)->w1.heap[i]?=some (.cells cs t f):=by
  intro i cs t f ht hi
  rw [<- hi]
  refine hg.block i (Array.getElem?_eq_some_iff.1 hi).1 ?_
  rcases hE.2 with ⟨h1,_⟩ | ⟨g,cap,cur,h1,h2,h3,_⟩
  ·rw [h1]
   intro e0
   cases e0
  ·rw [h1]
   intro e0
   cases e0
   rw [hi] at h3
   injection h3 with h3
   injection h3 with _ h3
   exact ht h3
 exact ⟨fun i cs f=>key i cs _ f (by decide),fun i cs f=>key i cs _ f (by decide)⟩
theorem ps_more {wb w1:World}{v':Value}{e:Option Addr × Nat × Nat}{L:List Rat}{t:TypeId}(he:OwQp w b e.1 e.2.1 e.2.2 L)(hwb:wb=w.alloc (.cells #[.slice e.1 e.2.1 e.2.2] t))(hE:wb.ownsRow b 73 1 (.slice A n c) n (E.map psl))(hEl:E.length=n)(hEn:EntP wb b E LL)
  (hown':w1.ownsRow b 73 1 v' (n+1) (E.map psl ++ [.slice e.1 e.2.1 e.2.2])) (hg:wb.grownBy w1 (Value.slice A n c).ownBlock) :
  ∃ (A':Option Addr) (c':Nat),v'=.slice A' (n+1) c'/\OwPs w1 b A' (n+1) c' (LL ++ [L]):=by
 obtain ⟨A',c',rfl⟩:=row_sl hown'
 have hba:Below w.heap.size w wb:=by rw [hwb];exact (Below.refl w.heap.size w).alloc nR _
 have hk:=keepQ_grown hE hg
 refine ⟨A',c',rfl,E ++ [e],?_,by rw [List.length_append,hEl];rfl,?_⟩
 ·rw [List.map_append];exact hown'
 ·exact (hEn.snoc (he.next hba)).keep hk
theorem opl_at (h:OwPs w b A n c LL){j:Nat}(hj:j < n) :
  ∃ (g:Nat) (A1:Option Addr) (n1 c1:Nat) (L:List Rat),A=some ⟨g,0,none⟩/\g < w.heap.size/\w.cell? ⟨g,j,none⟩=some (.slice A1 n1 c1)/\OwQp w b A1 n1 c1 L/\Hid (LL[j]?=some L):=by
 have hl:=h.len
 rcases h.form with ⟨_,h0,_⟩ | ⟨g,rfl,h1,h2,h3,h4⟩
 ·omega
 ·obtain ⟨E,hr,hE,hel⟩:=h
  have hjE:j < E.length:=by omega
  have hjL:j < LL.length:=by omega
  refine ⟨g,E[j].1,E[j].2.1,E[j].2.2,LL[j],rfl,h2,?_,hel.2 j _ _ (gE hjE) (gE hjL),ah (gE hjL)⟩
  have:=hr.cellAt j (by omega)
  rw [this,List.getElem?_map,gE hjE]
  rfl
end
theorem infoPoly:(Tryz.prog.info? 73).map (fun i=>(i.zero,i.size,i.bytes))=some (some (.slice none 0 0),1,24):=by kernel_rfl
def EntQr (w:World)(b:Nat)(E:List (Option Addr × Nat × Nat))(LL:List (List Rat)):Prop:=E.length=LL.length/\∀ (j:Nat) (e:Option Addr × Nat × Nat) (L:List Rat),E[j]?=some e->LL[j]?=some L->OwQp w b e.1 e.2.1 e.2.2 L
def OwQss (w:World)(b:Nat)(A:Option Addr)(n c:Nat)(LL:List (List Rat)):Prop :=
 ∃ E:List (Option Addr × Nat × Nat),w.ownsRow b 72 1 (.slice A n c) n (E.map psl)/\E.length=n/\EntQr w b E LL
section
variable {w w':World}{b b':Nat}{A:Option Addr}{n c:Nat}{LL:List (List Rat)}{E:List (Option Addr × Nat × Nat)}
theorem EntQr.next (h:EntQr w b E LL)(hb:Below w.heap.size w w'):EntQr w' b E LL:=⟨h.1,fun j e z he hz=>(h.2 j e z he hz).next hb⟩
theorem EntQr.base (h:EntQr w b E LL)(hb:b'<=b):EntQr w b' E LL:=⟨h.1,fun j e z he hz=>(h.2 j e z he hz).base hb⟩
theorem EntQr.keep (h:EntQr w b E LL)(hk:KeepQ w w'):EntQr w' b E LL:=⟨h.1,fun j e z he hz=>(h.2 j e z he hz).keep hk⟩
theorem EntQr.snoc (h:EntQr w b E LL){e:Option Addr × Nat × Nat}{L:List Rat}(he:OwQp w b e.1 e.2.1 e.2.2 L):EntQr w b (E ++ [e]) (LL ++ [L]):=by
 refine ⟨by rw [List.length_append,List.length_append,h.1];rfl,fun j e' z' h1 h2=>?_⟩
 rcases Nat.lt_or_ge j E.length with hj | hj
 ·rw [List.getElem?_append_left hj] at h1
  rw [List.getElem?_append_left (by rw [<- h.1];exact hj)] at h2
  exact h.2 j e' z' h1 h2
 ·rw [List.getElem?_append_right hj] at h1
  rw [List.getElem?_append_right (by rw [<- h.1];exact hj)] at h2
  rw [<- h.1] at h2
  have hj0:j-E.length=0:=by
   rcases Nat.eq_zero_or_pos (j-E.length) with e0 | e0
   ·exact e0
   ·rw [gN (by simp;omega)] at h1;cases h1
  rw [hj0] at h1 h2
  simp at h1 h2
  subst h1 h2
  exact he
theorem OwQss.len (h:OwQss w b A n c LL):LL.length=n:=by
 obtain ⟨E,_,h2,h3⟩:=h
 rw [<- h3.1,h2]
theorem OwQss.nil (w:World)(b:Nat):OwQss w b none 0 0 []:=⟨[],World.ownsRow_nil _ _ _ _,rfl,rfl,fun j e z he _=>by simp at he⟩
theorem OwQss.next (h:OwQss w b A n c LL)(hb:Below w.heap.size w w'):OwQss w' b A n c LL:=by
 obtain ⟨E,h1,h2,h3⟩:=h
 exact ⟨E,row_next h1 hb,h2,h3.next hb⟩
theorem OwQss.base (h:OwQss w b A n c LL)(hb:b'<=b):OwQss w b' A n c LL:=by
 obtain ⟨E,h1,h2,h3⟩:=h
 exact ⟨E,row_base h1 hb,h2,h3.base hb⟩
theorem OwQss.form (h:OwQss w b A n c LL):(A=none/\n=0/\c=0) ∨ ∃ g,A=some ⟨g,0,none⟩/\b<=g/\g < w.heap.size/\n<=c/\c<=maxLen:=by
 obtain ⟨E,h,_,_⟩:=h
 rcases h.2 with ⟨h1,h2⟩ | ⟨g,cap,cur,h1,h2,h3,h4,h5,_⟩
 ·injection h1 with h1 h1' h1''
  exact .inl ⟨h1,h2,h1''⟩
 ·injection h1 with h1 h1' h1''
  subst h1''
  exact .inr ⟨g,h1,h2,(Array.getElem?_eq_some_iff.1 h3).1,h4,h5⟩
theorem keepQ_grown2 {w1:World}{xs:List Value}(hE:w.ownsRow b 72 1 (.slice A n c) n xs)(hg:w.grownBy w1 (Value.slice A n c).ownBlock):KeepQ w w1:=by
 have key:∀ (i:Nat) (cs:Array Value) (t:TypeId) (f:Nat × Nat),t ≠ 72->w.heap[i]?=some (.cells cs t f)->w1.heap[i]?=some (.cells cs t f):=by
  intro i cs t f ht hi
  rw [<- hi]
  refine hg.block i (Array.getElem?_eq_some_iff.1 hi).1 ?_
  rcases hE.2 with ⟨h1,_⟩ | ⟨g,cap,cur,h1,h2,h3,_⟩
  ·rw [h1]
   intro e0
   cases e0
  ·rw [h1]
   intro e0
   cases e0
   rw [hi] at h3
   injection h3 with h3
   injection h3 with _ h3
   exact ht h3
 exact ⟨fun i cs f=>key i cs _ f (by decide),fun i cs f=>key i cs _ f (by decide)⟩
theorem qss_more {wb w1:World}{v':Value}{e:Option Addr × Nat × Nat}{L:List Rat}{t:TypeId}(he:OwQp w b e.1 e.2.1 e.2.2 L)(hwb:wb=w.alloc (.cells #[.slice e.1 e.2.1 e.2.2] t))(hE:wb.ownsRow b 72 1 (.slice A n c) n (E.map psl))(hEl:E.length=n)(hEn:EntQr wb b E LL)
  (hown':w1.ownsRow b 72 1 v' (n+1) (E.map psl ++ [.slice e.1 e.2.1 e.2.2])) (hg:wb.grownBy w1 (Value.slice A n c).ownBlock) :
  ∃ (A':Option Addr) (c':Nat),v'=.slice A' (n+1) c'/\OwQss w1 b A' (n+1) c' (LL ++ [L]):=by
 obtain ⟨A',c',rfl⟩:=row_sl hown'
 have hba:Below w.heap.size w wb:=by rw [hwb];exact (Below.refl w.heap.size w).alloc nR _
 have hk:=keepQ_grown2 hE hg
 refine ⟨A',c',rfl,E ++ [e],?_,by rw [List.length_append,hEl];rfl,?_⟩
 ·rw [List.map_append];exact hown'
 ·exact (hEn.snoc (he.next hba)).keep hk
theorem oql_at (h:OwQss w b A n c LL){j:Nat}(hj:j < n) :
  ∃ (g:Nat) (A1:Option Addr) (n1 c1:Nat) (L:List Rat),A=some ⟨g,0,none⟩/\g < w.heap.size/\w.cell? ⟨g,j,none⟩=some (.slice A1 n1 c1)/\OwQp w b A1 n1 c1 L/\Hid (LL[j]?=some L):=by
 have hl:=h.len
 rcases h.form with ⟨_,h0,_⟩ | ⟨g,rfl,h1,h2,h3,h4⟩
 ·omega
 ·obtain ⟨E,hr,hE,hel⟩:=h
  have hjE:j < E.length:=by omega
  have hjL:j < LL.length:=by omega
  refine ⟨g,E[j].1,E[j].2.1,E[j].2.2,LL[j],rfl,h2,?_,hel.2 j _ _ (gE hjE) (gE hjL),ah (gE hjL)⟩
  have:=hr.cellAt j (by omega)
  rw [this,List.getElem?_map,gE hjE]
  rfl
end
theorem infoQr:(Tryz.prog.info? 72).map (fun i=>(i.zero,i.size,i.bytes))=some (some (.slice none 0 0),1,24):=by kernel_rfl
attribute [local go_sem ↓] Go.wp_at_zero Go.wp_at_succ
def RetV4 (x:Rat)(w:World)(e:Ending)(w':World):Prop :=
 ∃ (s:Bool) (A:Option Addr) (n c:Nat) (s':Bool) (A':Option Addr) (n' c':Nat) (y:Rat),e=.returned (.agg #[.bool s,.slice A n c,.bool s',.slice A' n' c'])/\OwQ w' w.heap.size s A n c s' A' n' c' y/\Hid (y=x)/\Below w.heap.size w w'
theorem rQOf_any (z:Int)(h1:-9223372036854775808<=z)(h2:z < 9223372036854775808)(w:World) :
  Calls Tryz.prog 55 #[.int .i64 z] w (RetV4 (z:Rat) w):=by
 obtain ⟨W1,HW1⟩:∃ W,W=w.alloc (.cells #[.bool false,.slice none 0 0,.bool false,.slice none 0 0] 47):=⟨_,rfl⟩
 have hR:QC W1 w.heap.size false none 0 0 false none 0 0:=by rw [HW1];exact QC.new w false none 0 0 false none 0 0
 have hB:Below w.heap.size w W1:=by rw [HW1];exact bA
 have HW1:=ah HW1
 go_enter Tryz.func55,Tryz.ntmps55
 go_wp2_with fail
 rw [<- HW1.out]
 clear HW1
 clear HW1
 refine (rIOf_any z h1 h2 W1).mono ?_
 rintro _ W2 ⟨s2,A2,n2,c2,y2,rfl,ho2,hy2,hb2⟩
 go_wp2_with fail
 refine (rIOf_any 1 (by decide) (by decide) W2).mono ?_
 rintro _ W3 ⟨s3,A3,n3,c3,y3,rfl,ho3,hy3,hb3⟩
 have hb13:=hb2.trans (hb3.mono hb2.size)
 have hR3:=hR.next hb13
 have hB3:=hB.trans (hb13.mono hB.size)
 have HO:=ah (show OwQ W3 w.heap.size s2 A2 n2 c2 s3 A3 n3 c3 (z:Rat) from ⟨by have:=(ho2.next hb3).base hB.size;rw [hy2.out] at this;exact this,by have:=ho3.base (b':=w.heap.size) (nT hB.size hb2.size);rw [hy3.out] at this;exact this⟩)
 have r0:=hR3.c0
 have r1:=hR3.c1
 have r2:=hR3.c2
 have r3:=hR3.c3
 have f0:=hR3.fz 0
 have f1:=hR3.fz 1
 have f2:=hR3.fz 2
 have f3:=hR3.fz 3
 have HR9:=ah (hR3.store s2 A2 n2 c2 s3 A3 n3 c3)
 have HO9:=ah (HO.out.keep (keep_putQ hR3 s2 A2 n2 c2 s3 A3 n3 c3))
 have HB9:=ah (below_putQ hB3 (Nat.le_refl w.heap.size) s2 A2 n2 c2 s3 A3 n3 c3)
 unfold putQ at HR9 HB9 HO9
 clear hR hR3 hB hB3 hb2 hb3 hb13 ho2 ho3 hy2 hy3
 go_wp2_with fail
 generalize (((W3.setCell ⟨w.heap.size,0,none⟩ (.bool s2)).setCell ⟨w.heap.size,1,none⟩ (.slice A2 n2 c2)).setCell ⟨w.heap.size,2,none⟩ (.bool s3)).setCell ⟨w.heap.size,3,none⟩ (.slice A3 n3 c3)=W9 at *
 have z0:=HR9.out.c0
 have z1:=HR9.out.c1
 have z2:=HR9.out.c2
 have z3:=HR9.out.c3
 exact bodyPost_ret (by simp [results,Tryz.results55,go_sem,z0,z1,z2,z3]) rfl ⟨_,_,_,_,_,_,_,_,_,rfl,HO9.out,ah rfl,HB9.out⟩
theorem QC.far {w:World}{g:Nat}{s s':Bool}{A A':Option Addr}{n c n' c':Nat}(h:QC w g s A n c s' A' n' c'){p:Addr}(hp:g ≠ p.block)(u:Value):QC (w.setCell p u) g s A n c s' A' n' c':=(Below.heap_setCell w p u g hp).trans h
theorem rmake_num {z d:Int}(h:d < 0):(-z).tdiv (Int.gcd (-z) (-d):Int)=z.tdiv (Qz.gs z d):=by
 unfold Qz.gs
 rw [if_pos h,Int.gcd_neg,Int.neg_gcd,Int.neg_tdiv,Int.tdiv_neg]
theorem rmake_den {z d:Int}(h:d < 0):(-d).tdiv (Int.gcd (-z) (-d):Int)=d.tdiv (Qz.gs z d):=by
 unfold Qz.gs
 rw [if_pos h,Int.gcd_neg,Int.neg_gcd,Int.neg_tdiv,Int.tdiv_neg]
def TwoR (v:World)(N g g':Nat)(z z':Int)(w:World):Prop :=
 ∃ (t t':Bool) (A1 A2:Option Addr) (k m k' m':Nat),ZC w g t A1 k m/\ZC w g' t' A2 k' m'/\RdZ w w.heap.size t A1 k m z/\RdZ w w.heap.size t' A2 k' m' z'/\k<=N/\k'<=N/\Below v.heap.size v w
theorem two_setR {v w W:World}{N g g' b1 b2:Nat}{s s' t t':Bool}{A A' A1 A2:Option Addr}{n c n' c' k m k' m':Nat}{z z':Int}(h:ZC w g s A n c)(h':ZC w g' s' A' n' c')(hne:g ≠ g')(hB:Below v.heap.size v w)(hg:v.heap.size<=g)(hg':v.heap.size<=g')
  (ho:OwZ w b1 t A1 k m z) (ho':OwZ w b2 t' A2 k' m' z') (hb1:g < b1/\g' < b1) (hb2:g < b2/\g' < b2) (hk:k<=N) (hk':k'<=N)
  (hW:W=(((w.setCell ⟨g,0,none⟩ (.bool t)).setCell ⟨g,1,none⟩ (.slice A1 k m)).setCell ⟨g',0,none⟩ (.bool t')).setCell ⟨g',1,none⟩ (.slice A2 k' m') ∨
   W=(((w.setCell ⟨g',0,none⟩ (.bool t')).setCell ⟨g',1,none⟩ (.slice A2 k' m')).setCell ⟨g,0,none⟩ (.bool t)).setCell ⟨g,1,none⟩ (.slice A1 k m)):TwoR v N g g' z z' W:=by
 rcases hW with hW | hW
 ·obtain ⟨h1,h2,h3,h4,h5⟩:=put_two h h' hne hB hg hg' ho ho' hb1 hb2 hW
  exact ⟨t,t',A1,A2,k,m,k',m',h1,h2,h3.rd,h4.rd,hk,hk',h5⟩
 ·obtain ⟨h1,h2,h3,h4,h5⟩:=put_two h' h (Ne.symm hne) hB hg' hg ho' ho ⟨hb2.2,hb2.1⟩ ⟨hb1.2,hb1.1⟩ hW
  exact ⟨t,t',A1,A2,k,m,k',m',h2,h1,h4.rd,h3.rd,hk,hk',h5⟩
theorem rQMake_any {s s':Bool}{A A':Option Addr}{n c n' c':Nat}{z d:Int}{w:World}(h:RdZ w w.heap.size s A n c z)(h':RdZ w w.heap.size s' A' n' c' d)(hn:n<=1000000000000)(hn':n'<=1000000000000)(hd:d ≠ 0) :
  Calls Tryz.prog 98 #[.agg #[.bool s,.slice A n c],.agg #[.bool s',.slice A' n' c']] w (RetV4 (Rat.divInt z d) w):=by
 obtain ⟨W1,HW1⟩:∃ W,W=((w.alloc (.cells #[.bool s,.slice A n c] 25)).alloc (.cells #[.bool s',.slice A' n' c'] 25)).alloc (.cells #[.bool false,.slice none 0 0,.bool false,.slice none 0 0] 47):=⟨_,rfl⟩
 obtain ⟨hX,hY,hR,hB⟩:=q_boxes w s A n c s' A' n' c' W1 HW1
 have a0:=hY.c0
 have a1:=hY.c1
 rw [HW1] at a0 a1
 have HRD:=ah (show ∀ W:World,Below W1.heap.size W1 W->RdZ W W.heap.size s A n c z/\RdZ W W.heap.size s' A' n' c' d from fun W hb=>⟨(h.next hB).next hb,(h'.next hB).next hb⟩)
 have HCE:=ah (show ∀ W:World,Below W1.heap.size W1 W->ZC W w.heap.size s A n c/\ZC W (w.heap.size+1) s' A' n' c'/\QC W (w.heap.size+1+1) false none 0 0 false none 0 0 from fun W hb=>⟨hX.next hb,hY.next hb,hR.next hb⟩)
 have HB:=ah hB
 have HS:=ah (show w.heap.size+1+1 < W1.heap.size from hR.lt)
 have HLZ:=ah (show Zz.zl z<=1000000000000/\Zz.zl d<=1000000000000 from ⟨nT h.len hn,nT h'.len hn'⟩)
 have HD0:=ah hd
 have HW1:=ah HW1
 clear hX hY hR hB h h' hd
 go_enter Tryz.func98,Tryz.ntmps98
 go_wp2_with fail
 rw [<- HW1.out]
 clear HW1 a0 a1
 clear HW1
 refine (rISign_any (HRD.out _ bR).2 (by omega)).mono ?_
 rintro _ W2 ⟨k,rfl,hk,hb2⟩
 have HB2:=ah hb2
 clear hb2
 go_upto_if 12 with fail
 go_cut [] from 12 (fun wr=>∃ (y y':Int) (V:World),V=wr/\TwoR w 1000000000000 w.heap.size (w.heap.size+1) y y' V/\QC V (w.heap.size+1+1) false none 0 0 false none 0 0/\Hid (y.tdiv (Int.gcd y y':Int)=(Rat.divInt z d).num/\y'.tdiv (Int.gcd y y':Int)=((Rat.divInt z d).den:Int)/\y' ≠ 0))
 case first =>
  by_cases hneg:k < 0
  ·have HD:=ah (show d < 0 by
    have h5:=hk.out
    rw [h5] at hneg
    exact Int.sign_neg_iff.1 hneg)
   have HBD:=ah (HB2.out.trans ((Below.refl W2.heap.size W2).drew.mono HB2.out.size))
   obtain ⟨hX,hY,hR⟩:=HCE.out _ HB2.out
   have hc0:=hX.c0
   have hc1:=hX.c1
   have hd0:=hY.c0
   have hd1:=hY.c1
   go_wp2_with fail
   go_region_with (first
    | (go_at_call 99;have hx:=HB3.out;clear hx;refine (rINeg_any (HRD.out _ HB3.out).2 (by omega)).mono ?_;rintro _ W4 ⟨s4,A4,m4,c4,z4,rfl,ho4,hz4,hb4⟩;have HB4:=tM HB3 hb4;have ha0:=(HCE.out _ HB4.out).1.c0;have ha1:=(HCE.out _ HB4.out).1.c1;have ha2:=(HCE.out _ HB4.out).2.1.c0;have ha3:=(HCE.out _ HB4.out).2.1.c1;have hf0:=(HCE.out _ HB4.out).1.fz 0;have hf1:=(HCE.out _ HB4.out).1.fz 1;have hf2:=(HCE.out _ HB4.out).2.1.fz 0;have hf3:=(HCE.out _ HB4.out).2.1.fz 1)
    | (go_at_call 99;refine (rINeg_any (HRD.out _ HBD.out).1 (by omega)).mono ?_;rintro _ W3 ⟨s3,A3,m3,c3,z3,rfl,ho3,hz3,hb3⟩;have HB3:=tM HBD hb3;have he0:=(HCE.out _ HB3.out).1.c0;have he1:=(HCE.out _ HB3.out).1.c1;have he2:=(HCE.out _ HB3.out).2.1.c0;have he3:=(HCE.out _ HB3.out).2.1.c1))
   all_goals
    have HP:=ah fun W=>two_setR (W:=W) (v:=w) (N:=1000000000000) (z:=-z) (z':=-d) (HCE.out _ HB4.out).1 (HCE.out _ HB4.out).2.1 (by omega) (HB.out.trans (HB4.out.mono HB.out.size)) nR (Nat.le_succ _) (by have:=ho3.next hb4;rw [hz3.out] at this;exact this) (by rw [hz4.out] at ho4;exact ho4) (by have:=HS.out;have:=HBD.out.size;omega) (by have:=HS.out;have:=HB3.out.size;omega) (by rw [ho3.len,hz3.out,Zz.zl_neg];exact HLZ.out.1) (by rw [ho4.len,hz4.out,Zz.zl_neg];exact HLZ.out.2)
    have HRN:=ah (HCE.out _ HB4.out).2.2
    clear ha0 ha1 ha2 ha3 hf0 hf1 hf2 hf3 he0 he1 he2 he3 hc0 hc1 hd0 hd1
    go_wp2
    go_meet
    refine ⟨-z,-d,_,rfl,?_,?_,ah ⟨?_,?_,by have:=HD.out;omega⟩⟩
    ·first
     | exact HP.out _ (.inl rfl)
     | exact HP.out _ (.inr rfl)
    ·exact (((HRN.out.far (by simp <;> omega) _).far (by simp <;> omega) _).far (by simp <;> omega) _).far (by simp <;> omega) _
    ·rw [rmake_num HD.out];exact Qz.make_num HD0.out
    ·rw [rmake_den HD.out];exact Qz.make_den HD0.out
  ·have HD:=ah (show ¬ d < 0 from fun hd=>hneg (by rw [hk.out];exact Int.sign_neg_iff.2 hd))
   have hneg':0<=k:=by omega
   clear hneg
   go_wp2
   go_meet
   obtain ⟨hX,hY,hR⟩:=HCE.out _ HB2.out
   obtain ⟨h1,h2⟩:=HRD.out _ HB2.out
   refine ⟨z,d,_,rfl,⟨_,_,_,_,_,_,_,_,hX,hY,h1,h2,hn,hn',HB.out.trans (HB2.out.mono HB.out.size)⟩,hR,ah ⟨?_,?_,HD0.out⟩⟩
   ·rw [<- Qz.make_num HD0.out];unfold Qz.gs;rw [if_neg (by have:=HD.out;omega)]
   ·rw [<- Qz.make_den HD0.out];unfold Qz.gs;rw [if_neg (by have:=HD.out;omega)]
 case rest =>
  clear HRD HCE hk
  obtain ⟨y,y',V,hV,⟨t,t',A1,A2,k1,m1,k2,m2,hX,hY,h1,h2,hk1,hk2,hBw⟩,hR,hyy⟩:=hcut
  subst hV
  have HRD:=ah (show ∀ W:World,Below V.heap.size V W->RdZ W W.heap.size t A1 k1 m1 y/\RdZ W W.heap.size t' A2 k2 m2 y' from fun W hb=>⟨h1.next hb,h2.next hb⟩)
  have HCE:=ah (show ∀ W:World,Below V.heap.size V W->ZC W w.heap.size t A1 k1 m1/\ZC W (w.heap.size+1) t' A2 k2 m2/\QC W (w.heap.size+1+1) false none 0 0 false none 0 0 from fun W hb=>⟨hX.next hb,hY.next hb,hR.next hb⟩)
  have HBW:=ah hBw
  have HLZ:=ah (show Zz.zl y<=1000000000000/\Zz.zl y'<=1000000000000 from ⟨nT h1.len hk1,nT h2.len hk2⟩)
  have a0:=hX.c0
  have a1:=hX.c1
  have b0:=hY.c0
  have b1:=hY.c1
  clear hX hY hR h1 h2 hBw
  go_wp2_with fail
  clear a0 a1 b0 b1
  refine (rIGcd_any (HRD.out _ bR).1 (HRD.out _ bR).2 (by omega) (by omega)).mono ?_
  rintro _ W4 ⟨s4,A4,n4,c4,g4,rfl,ho4,hg4,hb4⟩
  obtain ⟨W5,HW5⟩:∃ W,W=W4.alloc (.cells #[.bool s4,.slice A4 n4 c4] 25):=⟨_,rfl⟩
  have hb5:Below W4.heap.size W4 W5:=by rw [HW5];exact bA
  have hX5:ZC W5 W4.heap.size s4 A4 n4 c4:=by rw [HW5];exact ZC.new W4 s4 A4 n4 c4
  have HB5:=ah (hb4.trans (hb5.mono hb4.size))
  have HX5:=ah (cJ hX5 (ho4.next hb5))
  have HN4:=ah (show n4<=1000000000000 by
   rw [ho4.len,hg4.out]
   have e1:=Zz.zl_gcd y y'
   have e2:=HLZ.out
   omega)
  have HG0:=ah (show g4 ≠ 0 by
   rw [hg4.out]
   have:Int.gcd y y' ≠ 0:=fun e=>hyy.out.2.2 (Int.gcd_eq_zero_iff.1 e).2
   omega)
  have a0:=hX5.c0
  have a1:=hX5.c1
  have x0:=(HCE.out _ HB5.out).1.c0
  have x1:=(HCE.out _ HB5.out).1.c1
  rw [HW5] at a0 a1 x0 x1
  have HW5:=ah HW5
  clear hX5 ho4 hb4 hb5
  go_wp2_with fail
  rw [<- HW5.out]
  clear HW5 a0 a1 x0 x1
  clear HW5
  generalize W4.heap.size=gc at *
  refine (rIExact_any (HRD.out _ HB5.out).1 HX5.out.2.rd (by omega) (by have:=HN4.out;omega) HG0.out).mono ?_
  rintro _ W8 ⟨s8,A8,n8,c8,q8,e8,rfl,ho8,hq8,hb8⟩
  have HQ8:=ah (show q8=(Rat.divInt z d).num by
   rw [<- hyy.out.1,<- hg4.out]
   rcases hq8.out with ⟨_,f2,_⟩ | ⟨f1,_,_⟩
   ·exact f2
   ·exact absurd (Int.tmod_eq_zero_of_dvd (by rw [hg4.out];exact Int.gcd_dvd_left y y')) f1)
  obtain ⟨W9,HW9⟩:∃ W,W=W8.alloc (.cells #[.bool s8,.slice A8 n8 c8] 25):=⟨_,rfl⟩
  have hb9:Below W8.heap.size W8 W9:=by rw [HW9];exact bA
  have hb59:=hb8.trans (hb9.mono hb8.size)
  have HB9:=tM HB5 hb59
  have HX9:=ah (show ZC W9 W8.heap.size s8 A8 n8 c8 by rw [HW9];exact ZC.new W8 s8 A8 n8 c8)
  have HO9:=ah ((ho8.base (b':=V.heap.size) HB5.out.size).next hb9)
  have HY9:=ah (cJ (HX5.out.1.next hb59) (HX5.out.2.next hb59))
  have a0:=HY9.out.1.c0
  have a1:=HY9.out.1.c1
  have y0:=(HCE.out _ HB9.out).2.1.c0
  have y1:=(HCE.out _ HB9.out).2.1.c1
  rw [HW9] at a0 a1 y0 y1
  have HW9:=ah HW9
  clear ho8 hq8 hb8 hb9 hb59
  go_wp2_with fail
  rw [<- HW9.out]
  clear HW9 a0 a1 y0 y1
  clear HW9
  generalize W8.heap.size=gn at *
  refine (rIExact_any (HRD.out _ HB9.out).2 HY9.out.2.rd (by omega) (by have:=HN4.out;omega) HG0.out).mono ?_
  rintro _ V1 ⟨t1,D1,j1,l1,q1,e1,rfl,ho1,hq1,hv1⟩
  have HQ1:=ah (show q1=((Rat.divInt z d).den:Int) by
   rw [<- hyy.out.2.1,<- hg4.out]
   rcases hq1.out with ⟨_,f2,_⟩ | ⟨f1,_,_⟩
   ·exact f2
   ·exact absurd (Int.tmod_eq_zero_of_dvd (by rw [hg4.out];exact Int.gcd_dvd_right y y')) f1)
  obtain ⟨V2,HV2⟩:∃ W,W=V1.alloc (.cells #[.bool t1,.slice D1 j1 l1] 25):=⟨_,rfl⟩
  have hv2:Below V1.heap.size V1 V2:=by rw [HV2];exact bA
  have hv12:=hv1.trans (hv2.mono hv1.size)
  have HU2:=tM HB9 hv12
  have hN:=HX9.out.next hv12
  have hR:=(HCE.out _ HU2.out).2.2
  have HF:=ah (show OwQ V2 w.heap.size s8 A8 n8 c8 t1 D1 j1 l1 (Rat.divInt z d) from ⟨by rw [<- HQ8.out];exact (HO9.out.next hv12).base HBW.out.size,by rw [<- HQ1.out];exact (ho1.next hv2).base (nT HBW.out.size HB9.out.size)⟩)
  have HF9:=ah (HF.out.keep (keep_putQ hR s8 A8 n8 c8 t1 D1 j1 l1))
  have HR9:=ah (hR.store s8 A8 n8 c8 t1 D1 j1 l1)
  have HBF:=ah (below_putQ (HBW.out.trans (HU2.out.mono HBW.out.size)) (show w.heap.size<=w.heap.size+1+1 by omega) s8 A8 n8 c8 t1 D1 j1 l1)
  have a0:=hN.c0
  have a1:=hN.c1
  have r0:=hR.c0
  have r1:=hR.c1
  have r2:=hR.c2
  have r3:=hR.c3
  have f0:=hR.fz 0
  have f1:=hR.fz 1
  have f2:=hR.fz 2
  have f3:=hR.fz 3
  rw [HV2] at a0 a1 r0 r1 r2 r3 f0 f1 f2 f3
  unfold putQ at HF9 HR9 HBF
  have HV2:=ah HV2
  clear ho1 hq1 hv1 hv2 hv12 hN hR
  go_wp2_with fail
  rw [<- HV2.out]
  clear HV2 a0 a1 r0 r1 r2 r3 f0 f1 f2 f3
  clear HV2
  generalize (((V2.setCell ⟨w.heap.size+1+1,0,none⟩ (.bool s8)).setCell ⟨w.heap.size+1+1,1,none⟩ (.slice A8 n8 c8)).setCell ⟨w.heap.size+1+1,2,none⟩ (.bool t1)).setCell ⟨w.heap.size+1+1,3,none⟩ (.slice D1 j1 l1)=V9 at *
  have z0:=HR9.out.c0
  have z1:=HR9.out.c1
  have z2:=HR9.out.c2
  have z3:=HR9.out.c3
  exact bodyPost_ret (by simp [results,Tryz.results98,go_sem,z0,z1,z2,z3]) rfl ⟨_,_,_,_,_,_,_,_,_,rfl,HF9.out,ah rfl,HBF.out⟩
theorem rQNorm_any {s s':Bool}{A A':Option Addr}{n c n' c':Nat}{z d:Int}{w:World}(h:RdZ w w.heap.size s A n c z)(h':RdZ w w.heap.size s' A' n' c' d)(hn:n<=1000000000000)(hn':n'<=1000000000000)(hd:d ≠ 0) :
  Calls Tryz.prog 100 #[.agg #[.bool s,.slice A n c,.bool s',.slice A' n' c']] w (RetV4 (Rat.divInt z d) w):=by
 obtain ⟨W1,HW1⟩:∃ W,W=(w.alloc (.cells #[.bool s,.slice A n c,.bool s',.slice A' n' c'] 47)).alloc (.cells #[.bool false,.slice none 0 0,.bool false,.slice none 0 0] 47):=⟨_,rfl⟩
 obtain ⟨hX,hR,hB⟩:=q_box1 w s A n c s' A' n' c' W1 HW1
 have a0:=hX.c0
 have a1:=hX.c1
 have a2:=hX.c2
 have a3:=hX.c3
 rw [HW1] at a0 a1 a2 a3
 have h1:=h.next hB
 have h2:=h'.next hB
 have HW1:=ah HW1
 go_enter Tryz.func100,Tryz.ntmps100
 go_wp2_with fail
 rw [<- HW1.out]
 clear HW1 a0 a1 a2 a3
 clear HW1
 refine (rQMake_any h1 h2 hn hn' hd).mono ?_
 rintro _ W2 ⟨s2,A2,n2,c2,s3,A3,n3,c3,y,rfl,ho,hy,hb2⟩
 have hR2:=hR.next hb2
 have hB2:=hB.trans (hb2.mono hB.size)
 have r0:=hR2.c0
 have r1:=hR2.c1
 have r2:=hR2.c2
 have r3:=hR2.c3
 have f0:=hR2.fz 0
 have f1:=hR2.fz 1
 have f2:=hR2.fz 2
 have f3:=hR2.fz 3
 have HR9:=ah (hR2.store s2 A2 n2 c2 s3 A3 n3 c3)
 have HO9:=ah ((ho.base (b':=w.heap.size) hB.size).keep (keep_putQ hR2 s2 A2 n2 c2 s3 A3 n3 c3))
 have HB9:=ah (below_putQ hB2 (show w.heap.size<=w.heap.size+1 by omega) s2 A2 n2 c2 s3 A3 n3 c3)
 unfold putQ at HR9 HB9 HO9
 clear hX hR hR2 hB hB2 hb2 h1 h2 h h' ho
 go_wp2_with fail
 generalize (((W2.setCell ⟨w.heap.size+1,0,none⟩ (.bool s2)).setCell ⟨w.heap.size+1,1,none⟩ (.slice A2 n2 c2)).setCell ⟨w.heap.size+1,2,none⟩ (.bool s3)).setCell ⟨w.heap.size+1,3,none⟩ (.slice A3 n3 c3)=W9 at *
 have z0:=HR9.out.c0
 have z1:=HR9.out.c1
 have z2:=HR9.out.c2
 have z3:=HR9.out.c3
 exact bodyPost_ret (by simp [results,Tryz.results100,go_sem,z0,z1,z2,z3]) rfl ⟨_,_,_,_,_,_,_,_,_,rfl,HO9.out,hy,HB9.out⟩
theorem sign_prod {z d:Int}:IntKind.i64.wrap (z.sign*d.sign)=0 ↔ z=0 ∨ d=0:=by
 rcases sign_three z with ⟨h1,e1⟩ | ⟨h1,e1⟩ | ⟨h1,e1⟩ <;> rcases sign_three d with ⟨h2,e2⟩ | ⟨h2,e2⟩ | ⟨h2,e2⟩ <;> rw [e1,e2] <;> simp only [show IntKind.i64.wrap (1*1)=1 from by decide +kernel,show IntKind.i64.wrap (1*0)=0 from by decide +kernel,show IntKind.i64.wrap (1*(-1))=-1 from by decide +kernel,show IntKind.i64.wrap (0*1)=0 from by decide +kernel,show IntKind.i64.wrap (0*0)=0 from by decide +kernel,show IntKind.i64.wrap (0*(-1))=0 from by decide +kernel,show IntKind.i64.wrap ((-1)*1)=-1 from by decide +kernel,show IntKind.i64.wrap ((-1)*0)=0 from by decide +kernel,show IntKind.i64.wrap ((-1)*(-1))=1 from by decide +kernel] <;> (try simp only [true_iff]) <;> omega
def RetK0 (P:Prop)(w:World)(e:Ending)(w':World):Prop:=∃ k:Int,e=.returned (.int .i64 k)/\Hid (k=0 ↔ P)/\Below w.heap.size w w'
theorem rQSign_any {s s':Bool}{A A':Option Addr}{n c n' c':Nat}{z d:Int}{w:World}(h:RdZ w w.heap.size s A n c z)(h':RdZ w w.heap.size s' A' n' c' d)(hn:n<=17592186044416)(hn':n'<=17592186044416) :
  Calls Tryz.prog 52 #[.agg #[.bool s,.slice A n c,.bool s',.slice A' n' c']] w (RetK0 (z=0 ∨ d=0) w):=by
 obtain ⟨W1,HW1⟩:∃ W,W=w.alloc (.cells #[.bool s,.slice A n c,.bool s',.slice A' n' c'] 47):=⟨_,rfl⟩
 have hX:QC W1 w.heap.size s A n c s' A' n' c':=by rw [HW1];exact QC.new w s A n c s' A' n' c'
 have hB:Below w.heap.size w W1:=by rw [HW1];exact bA
 have HRD:=ah (show ∀ W:World,Below W1.heap.size W1 W->RdZ W W.heap.size s A n c z/\RdZ W W.heap.size s' A' n' c' d from fun W hb=>⟨(h.next hB).next hb,(h'.next hB).next hb⟩)
 have HCE:=ah (show ∀ W:World,Below W1.heap.size W1 W->(W.cell? ⟨w.heap.size,0,none⟩=some (.bool s)/\W.cell? ⟨w.heap.size,1,none⟩=some (.slice A n c)/\W.cell? ⟨w.heap.size,2,none⟩=some (.bool s')/\W.cell? ⟨w.heap.size,3,none⟩=some (.slice A' n' c')) from fun W hb=>⟨(hX.next hb).c0,(hX.next hb).c1,(hX.next hb).c2,(hX.next hb).c3⟩)
 have HD:=ah (Below.refl W1.heap.size W1).drew
 have HB:=ah hB
 have HW1:=ah HW1
 clear hX hB h h'
 obtain ⟨a0,a1,a2,a3⟩:=HCE.out W1 bR
 go_enter Tryz.func52,Tryz.ntmps52
 go_upto_region 1 with fail
 rw [<- HW1.out]
 clear HW1
 clear HW1
 go_region_held3 (fun w'=>w'.cell? ⟨w.heap.size,0,none⟩=some (.bool s)/\w'.cell? ⟨w.heap.size,1,none⟩=some (.slice A n c)/\w'.cell? ⟨w.heap.size,2,none⟩=some (.bool s')/\w'.cell? ⟨w.heap.size,3,none⟩=some (.slice A' n' c'))
  (first | exact HCE.out _ HB3.out | exact HCE.out _ HB2.out | exact HCE.out _ HD.out)
  (first
   | (have hxx:=HB2.out;clear hxx;go_at_call 69;refine (rISign_any (HRD.out _ HB2.out).2 hn').mono ?_;rintro _ W3 ⟨k3,rfl,hk3,hb3⟩;have HB3:=tM HB2 hb3)
   | (go_at_call 69;refine (rISign_any (HRD.out _ HD.out).1 hn).mono ?_;rintro _ W2 ⟨k2,rfl,hk2,hb2⟩;have HB2:=ah (HD.out.trans hb2)))
 clear a0 a1 a2 a3 hb2 hb3
 go_wp2
 go_ret
 exact ⟨_,rfl,ah (by rw [hk2.out,hk3.out];exact sign_prod),HB.out.trans (HB3.out.mono HB.out.size)⟩
theorem rQMay_any {s s':Bool}{A A':Option Addr}{n c n' c':Nat}{d:Int}{w:World}(h':RdZ w w.heap.size s' A' n' c' d)(hn':n'<=17592186044416) :
  Calls Tryz.prog 20 #[.agg #[.bool s,.slice A n c,.bool s',.slice A' n' c']] w (RetBo (d ≠ 0) w):=by
 obtain ⟨W1,HW1⟩:∃ W,W=w.alloc (.cells #[.bool s,.slice A n c,.bool s',.slice A' n' c'] 47):=⟨_,rfl⟩
 have hX:QC W1 w.heap.size s A n c s' A' n' c':=by rw [HW1];exact QC.new w s A n c s' A' n' c'
 have hB:Below w.heap.size w W1:=by rw [HW1];exact bA
 have h1:=h'.next hB
 have a2:=hX.c2
 have a3:=hX.c3
 rw [HW1] at a2 a3
 have HW1:=ah HW1
 go_enter Tryz.func20,Tryz.ntmps20
 go_wp2_with fail
 rw [<- HW1.out]
 clear HW1 a2 a3
 clear HW1
 refine (rISign_any h1 hn').mono ?_
 rintro _ W2 ⟨k,rfl,hk,hb2⟩
 go_wp2
 go_ret
 exact ⟨_,rfl,ah (by rw [hk.out];simp [Int.sign_eq_zero_iff_zero]),hB.trans (hb2.mono hB.size)⟩
theorem rQAllMay_any {N:Nat}{A:Option Addr}{n c:Nat}{L:List (Int × Int)}{w:World}(h:RdQs w w.heap.size N A n c L)(hn:n<=4398046511103)(hN:N<=17592186044416) :
  Calls Tryz.prog 121 #[.slice A n c] w (RetBo (∀ p ∈ L,p.2 ≠ 0) w):=by
 have HLEN:=ah h.len
 go_enter Tryz.func121,Tryz.ntmps121
 go_wp2_with fail
 go_loopw [7] (fun iv wr=>∃ (j:Nat),iv=.int .i64 j/\j<=n/\Hid (∀ (i:Nat) (p:Int × Int),i < j->L[i]?=some p->p.2 ≠ 0)/\Below w.heap.size w wr) (fun iv _=>n-(intOf iv).toNat)
 case atStart=>exact ⟨0,rfl,nZ,ah fun i p hi=>absurd hi (Nat.not_lt_zero _),bR⟩
 case round =>
  obtain ⟨j,rfl,hj,hne,hB⟩:=hrel
  by_cases hjn:j=n
  ·subst hjn
   go_wp2
   go_ret
   exact ⟨true,rfl,ah ⟨fun _ p hp=>by
    obtain ⟨i,hi,e⟩:=List.mem_iff_getElem.1 hp
    exact hne.out i p (by rw [<- HLEN.out];exact hi) (by rw [gE hi,e]),fun _=>rfl⟩,hB⟩
  ·have hjl:j < n:=by omega
   clear hjn
   have hjli:(j:Int) < (n:Int):=by omega
   obtain ⟨ad,s1,A1,n1,c1,s2,A2,n2,c2,z1,d1,rfl,hbk,hx0,hx1,hx2,hx3,hr1,hr2,hn1,hn2,hp⟩:=qs_at h hjl
   obtain ⟨hy0,hy1,hy2,hy3⟩:=qs_cells hB hbk hx0 hx1 hx2 hx3
   obtain ⟨W2,HW2⟩:∃ W,W=wr.alloc (.cells #[.bool s1,.slice A1 n1 c1,.bool s2,.slice A2 n2 c2] 47):=⟨_,rfl⟩
   have hb2:Below wr.heap.size wr W2:=by rw [HW2];exact bA
   have hB2:=hB.trans (hb2.mono hB.size)
   have HR:=ah (hr2.next hB2)
   have HB2:=ah hB2
   have HW2:=ah HW2
   clear hB hb2 hB2 hr1 hr2 hx0 hx1 hx2 hx3
   go_wp2_with fail
   rw [<- HW2.out]
   clear HW2 hy0 hy1 hy2 hy3
   clear HW2
   refine (rQMay_any HR.out (by omega)).mono ?_
   rintro _ W3 ⟨b,rfl,hb,hb3⟩
   have hB3:=HB2.out.trans (hb3.mono HB2.out.size)
   cases b
   ·have HD:=ah (show d1=0 from Classical.byContradiction fun e=>by have:=hb.out.2 e;simp at this)
    go_wp2
    go_ret
    exact ⟨false,rfl,ah ⟨fun e=>by simp at e,fun e=>absurd HD.out (e _ (gM hp.out))⟩,hB3⟩
   ·have HD:=ah (hb.out.1 rfl)
    go_wp2
    go_roundw
    case rel=>exact ⟨j+1,by go_num,by omega,ah fun i p hi hq=>by
     rcases Nat.lt_or_ge i j with h1 | h1
     ·exact hne.out i p h1 hq
     ·rw [show i=j by omega,hp.out] at hq
      injection hq with hq
      rw [<- hq]
      exact HD.out,hB3⟩
    case measure=>simp [intOf];omega
theorem rPMay_any {N:Nat}{A:Option Addr}{n c:Nat}{L:List (Int × Int)}{w:World}(h:RdQs w w.heap.size N A n c L)(hn:n<=4398046511103)(hN:N<=17592186044416) :
  Calls Tryz.prog 67 #[.slice A n c] w (RetBo (∀ p ∈ L,p.2 ≠ 0) w):=by
 go_enter Tryz.func67,Tryz.ntmps67
 go_wp2_with fail
 refine (rQAllMay_any h hn hN).mono ?_
 rintro _ W2 ⟨b,rfl,hb,hb2⟩
 go_wp2
 go_ret
 exact ⟨b,rfl,hb,hb2⟩
end Go.Proofs.YtjnklbfhelbjgaaGreat
