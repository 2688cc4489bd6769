/- Sr11. -/
import Derived.Test.YtjnklbfhelbjgaaGreatSr10
import Derived.Test.YtjnklbfhelbjgaaGreatSr06
import Derived.Test.YtjnklbfhelbjgaaGreatSr09
import Derived.Deep.RegionLaw
import Derived.Test.YtjnklbfhelbjgaaGreatSr00
set_option maxRecDepth 100000
set_option maxHeartbeats 32000000
set_option linter.all false
namespace Go.Proofs.YtjnklbfhelbjgaaGreat
open Go.RowKit Go.IntWalk
attribute [local go_sem ↓] Go.wp_at_zero Go.wp_at_succ
def RetW4 (r:RawQ)(w:World)(e:Ending)(w':World):Prop :=
 ∃ (s:Bool) (A:Option Addr) (n c:Nat) (M:List Nat) (s':Bool) (A':Option Addr) (n' c':Nat) (M':List Nat),e=.returned (.agg #[.bool s,.slice A n c,.bool s',.slice A' n' c'])/\OwU w' w.heap.size A n c M/\OwU w' w.heap.size A' n' c' M'/\Hid (((s,M),(s',M'))=r)/\Below w.heap.size w w'
theorem rQCopy_own {s s':Bool}{A A':Option Addr}{n c n' c':Nat}{M M':List Nat}{w:World}(h:RdU w w.heap.size A n c M)(h':RdU w w.heap.size A' n' c' M')(hn:n<=4398046511103)(hn':n'<=4398046511103) :
  Calls Tryz.prog 179 #[.agg #[.bool s,.slice A n c,.bool s',.slice A' n' c']] w (RetW4 ((s,M),(s',M')) w):=by
 obtain ⟨W1,HW1⟩:∃ W,W=(w.alloc (.cells #[.bool s,.slice A n c,.bool s',.slice A' n' c'] 47)).alloc (.cells #[.bool false,.slice none 0 0,.bool false,.slice none 0 0] 47):=⟨_,rfl⟩
 obtain ⟨hX,hR,hB⟩:=q_box1 w s A n c s' A' n' c' W1 HW1
 have HU:=ah (show ∀ W:World,Below W1.heap.size W1 W->RdU W W.heap.size A n c M/\RdU W W.heap.size A' n' c' M' from fun W hb=>⟨(h.next hB).next hb,(h'.next hB).next hb⟩)
 have hlt:=hX.lt
 have hlr:=hR.lt
 have HCX:=ah (show ∀ W:World,Below (w.heap.size+1) W1 W->W.cell? ⟨w.heap.size,0,none⟩=some (.bool s)/\W.cell? ⟨w.heap.size,1,none⟩=some (.slice A n c)/\W.cell? ⟨w.heap.size,2,none⟩=some (.bool s')/\W.cell? ⟨w.heap.size,3,none⟩=some (.slice A' n' c') from fun W hb=>⟨(hb.cell (p:=⟨w.heap.size,0,none⟩) (by simp)).trans hX.c0,(hb.cell (p:=⟨w.heap.size,1,none⟩) (by simp)).trans hX.c1,(hb.cell (p:=⟨w.heap.size,2,none⟩) (by simp)).trans hX.c2,(hb.cell (p:=⟨w.heap.size,3,none⟩) (by simp)).trans hX.c3⟩)
 have HR:=ah (cJ hR (cJ hB hlr))
 have HW1:=ah HW1
 clear h h' hX hR hB
 go_enter Tryz.func179,Tryz.ntmps179
 go_upto_region 1 with fail
 rw [<- HW1.out]
 clear HW1
 clear HW1
 have HBD:=ah (Below.refl W1.heap.size W1).drew
 have hle:w.heap.size+1<=W1.heap.size:=Nat.le_of_lt hlr
 obtain ⟨a0,a1,a2,a3⟩:=HCX.out W1 bR
 go_region_held3 (fun w'=>w'.cell? ⟨w.heap.size,0,none⟩=some (.bool s)/\w'.cell? ⟨w.heap.size,1,none⟩=some (.slice A n c)/\w'.cell? ⟨w.heap.size,2,none⟩=some (.bool s')/\w'.cell? ⟨w.heap.size,3,none⟩=some (.slice A' n' c'))
  (first | exact HCX.out _ (HB3.out.mono hle) | exact HCX.out _ (HB2.out.mono hle) | exact HCX.out _ (HBD.out.mono hle) | exact HCX.out _ (below_put4 (HB3.out.mono hle) nR _ _ _ _))
  (first
   | (have hx:=HB2.out;clear hx;go_at_call 32;refine (rICopy_any (s:=s') (HU.out _ HB2.out).2 hn').mono ?_;rintro _ W3 ⟨s3,A3,n3,c3,M3,rfl,ho3,hm3,hb3⟩;have HB3:=tM HB2 hb3;have HR3:=ah (HR.out.1.next HB3.out);have r0:=HR3.out.c0;have r1:=HR3.out.c1;have r2:=HR3.out.c2;have r3:=HR3.out.c3;have f0:=HR3.out.fz 0;have f1:=HR3.out.fz 1;have f2:=HR3.out.fz 2;have f3:=HR3.out.fz 3)
   | (go_at_call 32;refine (rICopy_any (s:=s) (HU.out _ HBD.out).1 hn).mono ?_;rintro _ W2 ⟨s2,A2,n2,c2,M2,rfl,ho2,hm2,hb2⟩;have HB2:=ah (HBD.out.trans hb2);have HO2:=ah (ho2.base (b':=w.heap.size) (by have:=HBD.out.size;omega))))
 all_goals
  have HO3:=ah (cJ (HO2.out.next hb3) (ho3.base (b':=w.heap.size) (by have:=HB2.out.size;omega)))
  have HK:=ah (QE.keepT (QE.of HR3.out) (.bool s2) (.slice A2 n2 c2) (.bool s3) (.slice A3 n3 c3))
  have HO9:=ah (cJ (HO3.out.1.keep HK.out) (HO3.out.2.keep HK.out))
  have HB9:=ah (below_put4 (HR.out.2.1.trans (HB3.out.mono HR.out.2.1.size)) (Nat.le_succ w.heap.size) (.bool s2) (.slice A2 n2 c2) (.bool s3) (.slice A3 n3 c3))
  have HR9:=ah (HR3.out.store s2 A2 n2 c2 s3 A3 n3 c3)
  unfold putQ at HR9
  unfold put4 at HO9 HK
  clear HO3 HK r0 r1 r2 r3 f0 f1 f2 f3 hb2 hb3 ho2 ho3 HR3
  go_wp2_with fail
  generalize (((W3.setCell ⟨w.heap.size+1,0,none⟩ (.bool s2)).setCell ⟨w.heap.size+1,1,none⟩ (.slice A2 n2 c2)).setCell ⟨w.heap.size+1,2,none⟩ (.bool s3)).setCell ⟨w.heap.size+1,3,none⟩ (.slice A3 n3 c3)=W9 at *
  have z0:=HR9.out.c0
  have z1:=HR9.out.c1
  have z2:=HR9.out.c2
  have z3:=HR9.out.c3
  exact bodyPost_ret (by simp [results,Tryz.results179,go_sem,z0,z1,z2,z3]) rfl ⟨s2,A2,n2,c2,M2,s3,A3,n3,c3,M3,rfl,HO9.out.1,HO9.out.2,ah (by rw [hm2.out,hm3.out]),HB9.out⟩
def EntRq (w:World)(b:Nat)(E:List (Ent × Ent))(F:Nat->RawQ):Prop:=∀ (i:Nat) (e:Ent × Ent),E[i]?=some e->e.1.1=(F i).1.1/\e.2.1=(F i).2.1/\OwU w b e.1.2.1 e.1.2.2.1 e.1.2.2.2 (F i).1.2/\OwU w b e.2.2.1 e.2.2.2.1 e.2.2.2.2 (F i).2.2
section
variable {w w':World}{g b:Nat}{E:List (Ent × Ent)}{F:Nat->RawQ}
theorem EntRq.next (h:EntRq w b E F)(hb:Below w.heap.size w w'):EntRq w' b E F:=fun i e he=>⟨(h i e he).1,(h i e he).2.1,(h i e he).2.2.1.next hb,(h i e he).2.2.2.next hb⟩
theorem EntRq.congr {F':Nat->RawQ}(h:EntRq w b E F)(e:∀ i,F i=F' i):EntRq w b E F':=fun i x hx=>by rw [<- e];exact h i x hx
theorem EntRq.store (h:EntRq w b E F)(hz:QB w g E){j:Nat}{e:Ent × Ent}{r:RawQ}(he:e.1.1=r.1.1/\e.2.1=r.2.1/\OwU w b e.1.2.1 e.1.2.2.1 e.1.2.2.2 r.1.2/\OwU w b e.2.2.1 e.2.2.2.1 e.2.2.2.2 r.2.2):EntRq (setQ w g j e) b (E.set j e) (fun i=>if i=j then r else F i):=by
 intro i e' h'
 have hk:=hz.keep j e
 by_cases hij:i=j
 ·subst hij
  simp only [if_true]
  have hl:i < E.length:=by
   rcases Nat.lt_or_ge i E.length with h1 | h1
   ·exact h1
   ·rw [gN (by rw [List.length_set];exact h1)] at h';cases h'
  rw [List.getElem?_set_self hl] at h'
  injection h' with h'
  subst h'
  exact ⟨he.1,he.2.1,he.2.2.1.keep hk,he.2.2.2.keep hk⟩
 ·simp only [if_neg hij]
  rw [List.getElem?_set_ne (Ne.symm hij)] at h'
  obtain ⟨h1,h2,h3,h4⟩:=h i e' h'
  exact ⟨h1,h2,h3.keep hk,h4.keep hk⟩
theorem EntRq.zeros (w:World)(b n:Nat):EntRq w b (List.replicate n zq) (fun _=>((false,[]),(false,[]))):=by
 intro i e he
 have e1:=List.eq_of_mem_replicate (gM he)
 subst e1
 exact ⟨rfl,rfl,OwU.nil w b,OwU.nil w b⟩
theorem QB.rq (h:QB w g E)(hE:EntRq w b E F){n:Nat}(hn:E.length=n)(hx:n<=maxLen){R:List RawQ}(hR:R.length=n)(hF:∀ j r,R[j]?=some r->F j=r):RdRQ w w.heap.size (some ⟨g,0,none⟩) n n R:=by
 refine ⟨hR,nR,hx,fun j r hr=>?_⟩
 have hj:j < R.length:=by
  rcases Nat.lt_or_ge j R.length with h5 | h5
  ·exact h5
  ·rw [gN h5] at hr;cases hr
 have he:=gE (l:=E) (i:=j) (by omega)
 obtain ⟨h1,h2,h3,h4⟩:=hE j _ he
 have h5:=hF j r hr
 rw [h5] at h1 h2 h3 h4
 obtain ⟨c0,c1,c2,c3⟩:=h.cells he
 have e1:(⟨g,0,none⟩:Addr).add (j*4)=⟨g,j*4,none⟩:=add_base g _
 refine ⟨_,_,_,_,_,_,_,rfl,h.lt,?_,?_,?_,?_,h3.rd,h4.rd⟩
 ·rw [e1,<- h1];exact c0
 ·rw [e1];exact c1
 ·rw [e1,<- h2];exact c2
 ·rw [e1];exact c3
end
def OwRq (w:World)(b:Nat)(A:Option Addr)(n c:Nat)(R:List RawQ):Prop :=
 ∃ (g:Nat) (E:List (Ent × Ent)),A=some ⟨g,0,none⟩/\c=n/\b<=g/\n<=maxLen/\QB w g E/\E.length=n/\R.length=n/\EntRq w b E (fun t=>R.getD t ((false,[]),(false,[])))
section
variable {w w':World}{b b':Nat}{A:Option Addr}{n c:Nat}{R:List RawQ}
theorem OwRq.len (h:OwRq w b A n c R):R.length=n:=by
 obtain ⟨_,_,_,_,_,_,_,_,h,_⟩:=h
 exact h
theorem OwRq.next (h:OwRq w b A n c R)(hb:Below w.heap.size w w'):OwRq w' b A n c R:=by
 obtain ⟨g,E,h1,h2,h3,h4,h5,h6,h7,h8⟩:=h
 exact ⟨g,E,h1,h2,h3,h4,h5.next hb,h6,h7,h8.next hb⟩
theorem OwRq.base (h:OwRq w b A n c R)(hb:b'<=b):OwRq w b' A n c R:=by
 obtain ⟨g,E,h1,h2,h3,h4,h5,h6,h7,h8⟩:=h
 exact ⟨g,E,h1,h2,nT hb h3,h4,h5,h6,h7,fun i e he=>⟨(h8 i e he).1,(h8 i e he).2.1,(h8 i e he).2.2.1.base hb,(h8 i e he).2.2.2.base hb⟩⟩
theorem OwRq.keep (h:OwRq w b A n c R)(hk:KeepQ w w'):OwRq w' b A n c R:=by
 obtain ⟨g,E,h1,h2,h3,h4,h5,h6,h7,h8⟩:=h
 exact ⟨g,E,h1,h2,h3,h4,hk.2 _ _ _ h5,h6,h7,fun i e he=>⟨(h8 i e he).1,(h8 i e he).2.1,(h8 i e he).2.2.1.keep hk.1,(h8 i e he).2.2.2.keep hk.1⟩⟩
theorem OwRq.rq (h:OwRq w b A n c R):RdRQ w w.heap.size A n c R:=by
 obtain ⟨g,E,rfl,rfl,h3,h4,h5,h6,h7,h8⟩:=h
 exact h5.rq h8 h6 h4 h7 fun j r hr=>by rw [List.getD_eq_getElem?_getD,hr];rfl
end
def RetRQo (R:List RawQ)(w:World)(e:Ending)(w':World):Prop :=
 ∃ (A:Option Addr) (n c:Nat),e=.returned (.slice A n c)/\OwRq w' w.heap.size A n c R/\Below w.heap.size w w'
theorem rQCopyAll_own {A:Option Addr}{n c:Nat}{R:List RawQ}{w:World}(h:RdRQ w w.heap.size A n c R)(hn:n<=1099511627776)(hN:rsz R<=4398046511103) :
  Calls Tryz.prog 126 #[.slice A n c] w (RetRQo R w):=by
 have HLEN:=ah h.len
 have hmk:=make_qs Tryz.underlying72 n (by omega)
 have hB0:=(Below.refl w.heap.size w).alloc nR (.cells (qcs (List.replicate n zq)).toArray 47)
 have hZ0:=QB.made w n
 have hE0:=EntRq.zeros (w.alloc (.cells (qcs (List.replicate n zq)).toArray 47)) w.heap.size n
 go_enter Tryz.func126,Tryz.ntmps126
 go_wp2_with fail
 obtain ⟨g,hg⟩:∃ g,g=w.heap.size:=⟨_,rfl⟩
 generalize w.alloc (.cells (qcs (List.replicate n zq)).toArray 47)=W1 at *
 rw [<- hg] at hZ0 ⊢
 have HG:=ah (Nat.le_of_eq hg.symm)
 clear hmk hg
 go_loopw [11] (fun iv wr=>∃ (i:Nat) (E:List (Ent × Ent)),iv=.int .i64 i/\i<=n/\QB wr g E/\Hid (E.length=n)/\EntRq wr w.heap.size E (fun t=>if t < i then R.getD t ((false,[]),(false,[])) else ((false,[]),(false,[])))/\Below w.heap.size w wr) (fun iv _=>n-(intOf iv).toNat)
 case atStart=>exact ⟨0,_,rfl,nZ,hZ0,ah (by simp),fun i e he=>by simpa using hE0 i e he,hB0⟩
 case round =>
  clear hZ0 hE0 hB0
  obtain ⟨i,E,rfl,hi,hZB,hEl,hE,hBi⟩:=hrel
  by_cases hik:i=n
  ·have HO:=ah (show OwRq wr w.heap.size (some ⟨g,0,none⟩) n n R from ⟨g,E,rfl,rfl,HG.out,by unfold maxLen;omega,hZB,hEl.out,HLEN.out,hE.congr fun t=>by
    by_cases e1:t < i
    ·rw [if_pos e1]
    ·rw [if_neg e1,List.getD_eq_getElem?_getD,gN (by rw [HLEN.out];omega)];rfl⟩)
   have hki:=hik.symm
   subst hki
   clear hik
   go_wp2
   go_ret
   exact ⟨_,_,_,rfl,HO.out,hBi⟩
  ·have hil:i < n:=by omega
   clear hik
   have hili:(i:Int) < (n:Nat):=by omega
   obtain ⟨ad,s3,M,s4,M',A3,n3,c3,A4,n4,c4,rfl,hbk,hx0,hx1,hx2,hx3,hrx,hrx',hx⟩:=rq_at h hil
   obtain ⟨hw0,hw1,hw2,hw3⟩:=qs_cells hBi hbk hx0 hx1 hx2 hx3
   have HSZ:=ah (show n3<=4398046511103/\n4<=4398046511103 from by
    have e1:=rsz_mem (gM hx.out)
    have e2:=hrx.len
    have e3:=hrx'.len
    simp only at e1
    omega)
   obtain ⟨W2,HW2⟩:∃ W,W=wr.alloc (.cells #[.bool s3,.slice A3 n3 c3,.bool s4,.slice A4 n4 c4] 47):=⟨_,rfl⟩
   have hb2:Below wr.heap.size wr W2:=by rw [HW2];exact bA
   have HW2:=ah HW2
   have hB2:=hBi.trans (hb2.mono hBi.size)
   have hrx2:=hrx.next hB2
   have hrx3:=hrx'.next hB2
   go_wp2_with fail
   rw [<- HW2.out]
   clear HW2 hw0 hw1 hw2 hw3 hx0 hx1 hx2 hx3
   clear HW2
   refine (rQCopy_own (s:=s3) (s':=s4) hrx2 hrx3 HSZ.out.1 HSZ.out.2).mono ?_
   rintro _ W4 ⟨s5,A5,n5,c5,M5,s6,A6,n6,c6,M6,rfl,ho5,ho6,hm5,hb4⟩
   have hB4:=hB2.trans (hb4.mono hB2.size)
   have hZ4:=(hZB.next hb2).next hb4
   have hE4:=(hE.next hb2).next hb4
   obtain ⟨e,he⟩:∃ e,E[i]?=some e:=⟨E[i]'(by rw [hEl.out];exact hil),gE _⟩
   obtain ⟨k0,k1,k2,k3⟩:=hZ4.cells he
   have f0:=hZ4.frozen (i*4)
   have f1:=hZ4.frozen (i*4+1)
   have f2:=hZ4.frozen (i*4+2)
   have f3:=hZ4.frozen (i*4+3)
   have HZ5:=ah (hZ4.store i ((s5,A5,n5,c5),(s6,A6,n6,c6)))
   have HE5:=ah (hE4.store (j:=i) (e:=((s5,A5,n5,c5),(s6,A6,n6,c6))) (r:=((s5,M5),(s6,M6))) hZ4 ⟨rfl,rfl,ho5.base hB2.size,ho6.base hB2.size⟩)
   have HB5:=ah (below_setQ hB4 HG.out i ((s5,A5,n5,c5),(s6,A6,n6,c6)))
   unfold setQ at HZ5 HE5 HB5
   have HF:=ah (show ((s5,M5),(s6,M6))=R.getD i ((false,[]),(false,[])) by rw [hm5.out,List.getD_eq_getElem?_getD,hx.out];rfl)
   clear hrx hrx' hrx2 hrx3 hb2 hb4 hZB hE hBi he hB2 hB4 hZ4 hE4 ho5 ho6
   go_wp2_with fail
   go_roundw
   case rel=>exact ⟨i+1,E.set i ((s5,A5,n5,c5),(s6,A6,n6,c6)),by go_num,by omega,HZ5.out,ah (by rw [List.length_set];exact hEl.out),HE5.out.congr fun t=>(by
     by_cases e1:t=i
     ·subst e1;rw [if_pos rfl,if_pos (Nat.lt_succ_self _),HF.out]
     ·rw [if_neg e1]
      by_cases e2:t < i
      ·rw [if_pos e2,if_pos (by omega)]
      ·rw [if_neg e2,if_neg (by omega)]),HB5.out⟩
   case measure=>simp [intOf];omega
theorem rPCopy_own {A:Option Addr}{n c:Nat}{R:List RawQ}{w:World}(h:RdRQ w w.heap.size A n c R)(hn:n<=1099511627776)(hN:rsz R<=4398046511103) :
  Calls Tryz.prog 72 #[.slice A n c] w (RetRQo R w):=by
 go_enter Tryz.func72,Tryz.ntmps72
 go_wp2_with fail
 refine (rQCopyAll_own h hn hN).mono ?_
 rintro _ W2 ⟨A2,n2,c2,rfl,hr2,hb2⟩
 go_wp2
 go_ret
 exact ⟨_,_,_,rfl,hr2,hb2⟩
structure RdPs (w:World)(B N K:Nat)(A:Option Addr)(n c:Nat)(LL:List (List (Int × Int))):Prop where
 len:LL.length=n
 le:n<=c
 mx:c<=maxLen
 at_:∀ (j:Nat) (L:List (Int × Int)),LL[j]?=some L->∃ (ad:Addr) (A1:Option Addr) (n1 c1:Nat),A=some ad/\ad.block < B/\w.cell? (ad.add j)=some (.slice A1 n1 c1)/\RdQs w B N A1 n1 c1 L/\n1<=K
section
variable {w w':World}{B B' N K:Nat}{A:Option Addr}{n c:Nat}{LL:List (List (Int × Int))}
theorem RdPs.below (h:RdPs w B N K A n c LL)(hb:Below B w w'):RdPs w' B N K A n c LL :=
 ⟨h.len,h.le,h.mx,fun j L hp=>by
  obtain ⟨ad,A1,n1,c1,h1,h2,h3,h4,h5⟩:=h.at_ j L hp
  exact ⟨ad,A1,n1,c1,h1,h2,(hb.cell (p:=ad.add j) (by rw [add_blk];exact h2)).trans h3,h4.below hb,h5⟩⟩
theorem RdPs.more (h:RdPs w B N K A n c LL)(hB:B<=B'):RdPs w B' N K A n c LL :=
 ⟨h.len,h.le,h.mx,fun j L hp=>by
  obtain ⟨ad,A1,n1,c1,h1,h2,h3,h4,h5⟩:=h.at_ j L hp
  exact ⟨ad,A1,n1,c1,h1,Nat.lt_of_lt_of_le h2 hB,h3,h4.more hB,h5⟩⟩
theorem RdPs.next (h:RdPs w w.heap.size N K A n c LL)(hb:Below w.heap.size w w'):RdPs w' w'.heap.size N K A n c LL:=(h.below hb).more hb.size
theorem ps_at (h:RdPs w B N K A n c LL){j:Nat}(hj:j < n) :
  ∃ (ad:Addr) (A1:Option Addr) (n1 c1:Nat) (L:List (Int × Int)),A=some ad/\ad.block < B/\w.cell? (ad.add j)=some (.slice A1 n1 c1)/\RdQs w B N A1 n1 c1 L/\n1<=K/\Hid (LL[j]?=some L):=by
 have hl:j < LL.length:=by rw [h.len];exact hj
 obtain ⟨ad,A1,n1,c1,h1,h2,h3,h4,h5⟩:=h.at_ j LL[j] (gE hl)
 exact ⟨ad,A1,n1,c1,_,h1,h2,h3,h4,h5,ah (gE hl)⟩
theorem ps_two {A1 A2:Option Addr}{n1 c1 n2 c2:Nat}{L L':List (Int × Int)}(h:RdQs w w.heap.size N A1 n1 c1 L)(h':RdQs w w.heap.size N A2 n2 c2 L')(hn:n1<=K)(hn':n2<=K){w1:World}(hw:w1=w.alloc (.cells #[.slice A1 n1 c1,.slice A2 n2 c2] 73)) :
  RdPs w1 w1.heap.size N K (some ⟨w.heap.size,0,none⟩) 2 2 [L,L']:=by
 have hb:Below w.heap.size w w1:=by rw [hw];exact bA
 have hr:w1.heap[w.heap.size]?=some (.cells #[.slice A1 n1 c1,.slice A2 n2 c2] 73 (0,0)):=by rw [hw];exact heap_alloc_new w _
 have hlt:w.heap.size < w1.heap.size:=(Array.getElem?_eq_some_iff.1 hr).1
 refine ⟨rfl,nR,by unfold maxLen;omega,fun j y hy=>?_⟩
 match j,hy with
 | 0, hy =>
   simp at hy
   subst hy
   exact ⟨_,A1,n1,c1,rfl,hlt,by rw [add_base,cell_of_row w1 _ _ _ _ _ hr];rfl,h.next hb,hn⟩
 | 1, hy =>
   simp at hy
   subst hy
   exact ⟨_,A2,n2,c2,rfl,hlt,by rw [add_base,cell_of_row w1 _ _ _ _ _ hr];rfl,h'.next hb,hn'⟩
 | j+2,hy=>simp at hy
end
def psl (e:Option Addr × Nat × Nat):Value:=.slice e.1 e.2.1 e.2.2
def EntP (w:World)(b:Nat)(E:List (Option Addr × Nat × Nat))(LL:List (List Rat)):Prop:=E.length=LL.length/\∀ (j:Nat) (e:Option Addr × Nat × Nat) (L:List Rat),E[j]?=some e->LL[j]?=some L->OwQp w b e.1 e.2.1 e.2.2 L
def OwPs (w:World)(b:Nat)(A:Option Addr)(n c:Nat)(LL:List (List Rat)):Prop :=
 ∃ E:List (Option Addr × Nat × Nat),w.ownsRow b 73 1 (.slice A n c) n (E.map psl)/\E.length=n/\EntP w b E LL
section
variable {w w':World}{b b':Nat}{A:Option Addr}{n c:Nat}{LL:List (List Rat)}{E:List (Option Addr × Nat × Nat)}
theorem EntP.next (h:EntP w b E LL)(hb:Below w.heap.size w w'):EntP w' b E LL:=⟨h.1,fun j e z he hz=>(h.2 j e z he hz).next hb⟩
theorem EntP.base (h:EntP w b E LL)(hb:b'<=b):EntP w b' E LL:=⟨h.1,fun j e z he hz=>(h.2 j e z he hz).base hb⟩
theorem EntP.keep (h:EntP w b E LL)(hk:KeepQ w w'):EntP w' b E LL:=⟨h.1,fun j e z he hz=>(h.2 j e z he hz).keep hk⟩
theorem EntP.snoc (h:EntP w b E LL){e:Option Addr × Nat × Nat}{L:List Rat}(he:OwQp w b e.1 e.2.1 e.2.2 L):EntP w b (E ++ [e]) (LL ++ [L]):=by
 refine ⟨by rw [List.length_append,List.length_append,h.1];rfl,fun j e' z' h1 h2=>?_⟩
 rcases Nat.lt_or_ge j E.length with hj | hj
 ·rw [List.getElem?_append_left hj] at h1
  rw [List.getElem?_append_left (by rw [<- h.1];exact hj)] at h2
  exact h.2 j e' z' h1 h2
 ·rw [List.getElem?_append_right hj] at h1
  rw [List.getElem?_append_right (by rw [<- h.1];exact hj)] at h2
  rw [<- h.1] at h2
  have hj0:j-E.length=0:=by
   rcases Nat.eq_zero_or_pos (j-E.length) with e0 | e0
   ·exact e0
   ·rw [gN (by simp;omega)] at h1;cases h1
  rw [hj0] at h1 h2
  simp at h1 h2
  subst h1 h2
  exact he
theorem OwPs.len (h:OwPs w b A n c LL):LL.length=n:=by
 obtain ⟨E,_,h2,h3⟩:=h
 rw [<- h3.1,h2]
theorem OwPs.nil (w:World)(b:Nat):OwPs w b none 0 0 []:=⟨[],World.ownsRow_nil _ _ _ _,rfl,rfl,fun j e z he _=>by simp at he⟩
theorem OwPs.next (h:OwPs w b A n c LL)(hb:Below w.heap.size w w'):OwPs w' b A n c LL:=by
 obtain ⟨E,h1,h2,h3⟩:=h
 exact ⟨E,row_next h1 hb,h2,h3.next hb⟩
theorem OwPs.base (h:OwPs w b A n c LL)(hb:b'<=b):OwPs w b' A n c LL:=by
 obtain ⟨E,h1,h2,h3⟩:=h
 exact ⟨E,row_base h1 hb,h2,h3.base hb⟩
theorem OwPs.form (h:OwPs w b A n c LL):(A=none/\n=0/\c=0) ∨ ∃ g,A=some ⟨g,0,none⟩/\b<=g/\g < w.heap.size/\n<=c/\c<=maxLen:=by
 obtain ⟨E,h,_,_⟩:=h
 rcases h.2 with ⟨h1,h2⟩ | ⟨g,cap,cur,h1,h2,h3,h4,h5,_⟩
 ·injection h1 with h1 h1' h1''
  exact .inl ⟨h1,h2,h1''⟩
 ·injection h1 with h1 h1' h1''
  subst h1''
  exact .inr ⟨g,h1,h2,(Array.getElem?_eq_some_iff.1 h3).1,h4,h5⟩
theorem keepQ_grown {w1:World}{xs:List Value}(hE:w.ownsRow b 73 1 (.slice A n c) n xs)(hg:w.grownBy w1 (Value.slice A n c).ownBlock):KeepQ w w1:=by
 have key:∀ (i:Nat) (cs:Array Value) (t:TypeId) (f:Nat × Nat),t ≠ 73->w.heap[i]?=some (.cells cs t f)->w1.heap[i]?=some (.cells cs t f):=by
  intro i cs t f ht hi
  rw [<- hi]
  refine hg.block i (Array.getElem?_eq_some_iff.1 hi).1 ?_
  rcases hE.2 with ⟨h1,_⟩ | ⟨g,cap,cur,h1,h2,h3,_⟩
  ·rw [h1]
   intro e0
   cases e0
  ·rw [h1]
   intro e0
   cases e0
   rw [hi] at h3
   injection h3 with h3
   injection h3 with _ h3
   exact ht h3
 exact ⟨fun i cs f=>key i cs _ f (by decide),fun i cs f=>key i cs _ f (by decide)⟩
theorem ps_more {wb w1:World}{v':Value}{e:Option Addr × Nat × Nat}{L:List Rat}{t:TypeId}(he:OwQp w b e.1 e.2.1 e.2.2 L)(hwb:wb=w.alloc (.cells #[.slice e.1 e.2.1 e.2.2] t))(hE:wb.ownsRow b 73 1 (.slice A n c) n (E.map psl))(hEl:E.length=n)(hEn:EntP wb b E LL)
  (hown':w1.ownsRow b 73 1 v' (n+1) (E.map psl ++ [.slice e.1 e.2.1 e.2.2])) (hg:wb.grownBy w1 (Value.slice A n c).ownBlock) :
  ∃ (A':Option Addr) (c':Nat),v'=.slice A' (n+1) c'/\OwPs w1 b A' (n+1) c' (LL ++ [L]):=by
 obtain ⟨A',c',rfl⟩:=row_sl hown'
 have hba:Below w.heap.size w wb:=by rw [hwb];exact (Below.refl w.heap.size w).alloc nR _
 have hk:=keepQ_grown hE hg
 refine ⟨A',c',rfl,E ++ [e],?_,by rw [List.length_append,hEl];rfl,?_⟩
 ·rw [List.map_append];exact hown'
 ·exact (hEn.snoc (he.next hba)).keep hk
theorem opl_at (h:OwPs w b A n c LL){j:Nat}(hj:j < n) :
  ∃ (g:Nat) (A1:Option Addr) (n1 c1:Nat) (L:List Rat),A=some ⟨g,0,none⟩/\g < w.heap.size/\w.cell? ⟨g,j,none⟩=some (.slice A1 n1 c1)/\OwQp w b A1 n1 c1 L/\Hid (LL[j]?=some L):=by
 have hl:=h.len
 rcases h.form with ⟨_,h0,_⟩ | ⟨g,rfl,h1,h2,h3,h4⟩
 ·omega
 ·obtain ⟨E,hr,hE,hel⟩:=h
  have hjE:j < E.length:=by omega
  have hjL:j < LL.length:=by omega
  refine ⟨g,E[j].1,E[j].2.1,E[j].2.2,LL[j],rfl,h2,?_,hel.2 j _ _ (gE hjE) (gE hjL),ah (gE hjL)⟩
  have:=hr.cellAt j (by omega)
  rw [this,List.getElem?_map,gE hjE]
  rfl
end
theorem infoPoly:(Tryz.prog.info? 73).map (fun i=>(i.zero,i.size,i.bytes))=some (some (.slice none 0 0),1,24):=by kernel_rfl
structure RdRp (w:World)(B N K:Nat)(A:Option Addr)(n c:Nat)(RR:List (List RawQ)):Prop where
 len:RR.length=n
 le:n<=c
 mx:c<=maxLen
 at_:∀ (j:Nat) (R:List RawQ),RR[j]?=some R->∃ (ad:Addr) (A1:Option Addr) (n1 c1:Nat),A=some ad/\ad.block < B/\w.cell? (ad.add j)=some (.slice A1 n1 c1)/\RdRQ w B A1 n1 c1 R/\n1<=K/\rsz R<=N
structure RdRpp (w:World)(B N K J:Nat)(A:Option Addr)(n c:Nat)(PP:List (List (List RawQ))):Prop where
 len:PP.length=n
 le:n<=c
 mx:c<=maxLen
 at_:∀ (j:Nat) (RR:List (List RawQ)),PP[j]?=some RR->∃ (ad:Addr) (A1:Option Addr) (n1 c1:Nat),A=some ad/\ad.block < B/\w.cell? (ad.add j)=some (.slice A1 n1 c1)/\RdRp w B N K A1 n1 c1 RR/\n1<=J
section
variable {w w':World}{B B' N K J:Nat}{A:Option Addr}{n c:Nat}{RR:List (List RawQ)}{PP:List (List (List RawQ))}
theorem RdRp.below (h:RdRp w B N K A n c RR)(hb:Below B w w'):RdRp w' B N K A n c RR :=
 ⟨h.len,h.le,h.mx,fun j L hp=>by
  obtain ⟨ad,A1,n1,c1,h1,h2,h3,h4,h5,h6⟩:=h.at_ j L hp
  exact ⟨ad,A1,n1,c1,h1,h2,(hb.cell (p:=ad.add j) (by rw [add_blk];exact h2)).trans h3,h4.below hb,h5,h6⟩⟩
theorem RdRp.more (h:RdRp w B N K A n c RR)(hB:B<=B'):RdRp w B' N K A n c RR :=
 ⟨h.len,h.le,h.mx,fun j L hp=>by
  obtain ⟨ad,A1,n1,c1,h1,h2,h3,h4,h5,h6⟩:=h.at_ j L hp
  exact ⟨ad,A1,n1,c1,h1,Nat.lt_of_lt_of_le h2 hB,h3,h4.more hB,h5,h6⟩⟩
theorem RdRp.next (h:RdRp w w.heap.size N K A n c RR)(hb:Below w.heap.size w w'):RdRp w' w'.heap.size N K A n c RR:=(h.below hb).more hb.size
theorem RdRpp.below (h:RdRpp w B N K J A n c PP)(hb:Below B w w'):RdRpp w' B N K J A n c PP :=
 ⟨h.len,h.le,h.mx,fun j L hp=>by
  obtain ⟨ad,A1,n1,c1,h1,h2,h3,h4,h5⟩:=h.at_ j L hp
  exact ⟨ad,A1,n1,c1,h1,h2,(hb.cell (p:=ad.add j) (by rw [add_blk];exact h2)).trans h3,h4.below hb,h5⟩⟩
theorem RdRpp.more (h:RdRpp w B N K J A n c PP)(hB:B<=B'):RdRpp w B' N K J A n c PP :=
 ⟨h.len,h.le,h.mx,fun j L hp=>by
  obtain ⟨ad,A1,n1,c1,h1,h2,h3,h4,h5⟩:=h.at_ j L hp
  exact ⟨ad,A1,n1,c1,h1,Nat.lt_of_lt_of_le h2 hB,h3,h4.more hB,h5⟩⟩
theorem RdRpp.next (h:RdRpp w w.heap.size N K J A n c PP)(hb:Below w.heap.size w w'):RdRpp w' w'.heap.size N K J A n c PP:=(h.below hb).more hb.size
theorem rp_at (h:RdRp w B N K A n c RR){j:Nat}(hj:j < n) :
  ∃ (ad:Addr) (A1:Option Addr) (n1 c1:Nat) (R:List RawQ),A=some ad/\ad.block < B/\w.cell? (ad.add j)=some (.slice A1 n1 c1)/\RdRQ w B A1 n1 c1 R/\n1<=K/\rsz R<=N/\Hid (RR[j]?=some R):=by
 have hl:j < RR.length:=by rw [h.len];exact hj
 obtain ⟨ad,A1,n1,c1,h1,h2,h3,h4,h5,h6⟩:=h.at_ j RR[j] (gE hl)
 exact ⟨ad,A1,n1,c1,_,h1,h2,h3,h4,h5,h6,ah (gE hl)⟩
theorem rpp_at (h:RdRpp w B N K J A n c PP){j:Nat}(hj:j < n) :
  ∃ (ad:Addr) (A1:Option Addr) (n1 c1:Nat) (RR:List (List RawQ)),A=some ad/\ad.block < B/\w.cell? (ad.add j)=some (.slice A1 n1 c1)/\RdRp w B N K A1 n1 c1 RR/\n1<=J/\Hid (PP[j]?=some RR):=by
 have hl:j < PP.length:=by rw [h.len];exact hj
 obtain ⟨ad,A1,n1,c1,h1,h2,h3,h4,h5⟩:=h.at_ j PP[j] (gE hl)
 exact ⟨ad,A1,n1,c1,_,h1,h2,h3,h4,h5,ah (gE hl)⟩
end
section
variable {w w':World}{b b':Nat}{A:Option Addr}{n c:Nat}{MM:List (List (List Rat))}{E:List (Option Addr × Nat × Nat)}
end
abbrev Pe:=Option Addr × Nat × Nat
def PX (w:World)(g:Nat)(T:TypeId)(xs:List Value):Prop:=∃ cs:Array Value,w.heap[g]?=some (.cells cs T (0,0))/\∀ (i:Nat) (v:Value),xs[i]?=some v->cs[i]?=some v
def KeepS (w w':World):Prop:=∀ (i:Nat) (cs:Array Value) (T:TypeId) (f:Nat × Nat),T ≠ 73->T ≠ 30->w.heap[i]?=some (.cells cs T f)->w'.heap[i]?=some (.cells cs T f)
section
variable {w w' w2:World}{g g':Nat}{T T':TypeId}{xs ys:List Value}
theorem PX.lt (h:PX w g T xs):g < w.heap.size:=by
 obtain ⟨cs,h1,_⟩:=h
 exact (Array.getElem?_eq_some_iff.1 h1).1
theorem PX.cell (h:PX w g T xs){i:Nat}{v:Value}(hv:xs[i]?=some v):w.cell? ⟨g,i,none⟩=some v:=by
 obtain ⟨cs,h1,h2⟩:=h
 rw [cell_of_row w g _ _ _ _ h1]
 exact h2 i v hv
theorem PX.frozen (h:PX w g T xs)(j:Nat):w.frozen? ⟨g,j,none⟩=false:=by
 obtain ⟨cs,h1,_⟩:=h
 exact frozen_of_row w g j _ _ h1
theorem PX.next (h:PX w g T xs)(hb:Below w.heap.size w w'):PX w' g T xs:=by
 have hl:=h.lt
 obtain ⟨cs,h1,h2⟩:=h
 exact ⟨cs,(hb.block g hl).trans h1,h2⟩
theorem PX.store (h:PX w g T xs)(i:Nat)(v:Value):PX (w.setCell ⟨g,i,none⟩ v) g T (xs.set i v):=by
 obtain ⟨cs,h1,h2⟩:=h
 refine ⟨cs.setIfInBounds i v,by simp [World.setCell,Array.getElem?_modify,h1],fun j u hu=>?_⟩
 rw [Array.getElem?_setIfInBounds]
 by_cases e:i=j
 ·subst e
  rw [if_pos rfl]
  have hl:i < xs.length:=by
   rcases Nat.lt_or_ge i xs.length with h3 | h3
   ·exact h3
   ·rw [gN (by simpa using h3)] at hu;cases hu
  rw [List.getElem?_set_self hl] at hu
  have h4:=h2 i _ (gE hl)
  rw [if_pos (Array.getElem?_eq_some_iff.1 h4).1]
  exact hu
 ·rw [if_neg e]
  rw [List.getElem?_set_ne e] at hu
  exact h2 j u hu
theorem PX.far (h:PX w g T xs){p:Addr}(hp:g ≠ p.block)(u:Value):PX (w.setCell p u) g T xs:=by
 obtain ⟨cs,h1,h2⟩:=h
 exact ⟨cs,by rw [Below.heap_setCell _ p u g hp];exact h1,h2⟩
theorem PX.ne (h:PX w g T xs)(h':PX w g' T' ys)(hT:T ≠ T'):g ≠ g':=by
 obtain ⟨cs,h1,_⟩:=h
 obtain ⟨cs',h1',_⟩:=h'
 rintro rfl
 rw [h1] at h1'
 injection h1' with h1'
 injection h1' with _ h1' _
 exact hT h1'
theorem PX.keep (h:PX w g T xs)(hk:KeepS w w')(h1:T ≠ 73)(h2:T ≠ 30):PX w' g T xs:=by
 obtain ⟨cs,h3,h4⟩:=h
 exact ⟨cs,hk _ _ _ _ h1 h2 h3,h4⟩
theorem PX.new (w:World)(T:TypeId)(xs:List Value):PX (w.alloc (.cells xs.toArray T)) w.heap.size T xs:=⟨xs.toArray,heap_alloc_new w _,fun i v hv=>by simpa using hv⟩
theorem KeepS.trans (h:KeepS w w')(h':KeepS w' w2):KeepS w w2:=fun i cs T f h1 h2 h3=>h' i cs T f h1 h2 (h i cs T f h1 h2 h3)
theorem KeepS.below (h:Below w.heap.size w w'):KeepS w w':=fun i _ _ _ _ _ h3=>(h.block i (Array.getElem?_eq_some_iff.1 h3).1).trans h3
theorem KeepS.q (h:KeepS w w'):KeepQ w w':=⟨fun i cs f=>h i cs _ f (by decide) (by decide),fun i cs f=>h i cs _ f (by decide) (by decide)⟩
theorem PX.keepS (h:PX w g T xs)(hT:T=73 ∨ T=30)(j:Nat)(u:Value):KeepS w (w.setCell ⟨g,j,none⟩ u):=fun i cs T' f h1 h2 h3=>by
 obtain ⟨cs',h4,_⟩:=h
 have hne:i ≠ g:=by
  rintro rfl
  rw [h3] at h4
  injection h4 with h4
  injection h4 with _ h4 _
  rcases hT with e | e
  ·exact h1 (h4.trans e)
  ·exact h2 (h4.trans e)
 rw [Below.heap_setCell _ (⟨g,j,none⟩:Addr) u i hne]
 exact h3
end
structure M2 where
 a:List Rat
 b:List Rat
 c:List Rat
 d:List Rat
deriving DecidableEq
structure T2 (w:World)(b t gr cr g0 c0 g1 c1:Nat)(x y z u:Pe)(M:M2):Prop where
 hd:PX w t 102 [.slice (some ⟨gr,0,none⟩) 2 cr,.int .i64 2]
 rw:PX w gr 30 [.slice (some ⟨g0,0,none⟩) 2 c0,.slice (some ⟨g1,0,none⟩) 2 c1]
 r0:PX w g0 73 [psl x,psl y]
 r1:PX w g1 73 [psl z,psl u]
 ne:g0 ≠ g1
 bt:b<=t
 br:b<=gr
 b0:b<=g0
 b1:b<=g1
 lr:2<=cr/\cr<=maxLen
 l0:2<=c0/\c0<=maxLen
 l1:2<=c1/\c1<=maxLen
 ea:OwQp w b x.1 x.2.1 x.2.2 M.a
 eb:OwQp w b y.1 y.2.1 y.2.2 M.b
 ec:OwQp w b z.1 z.2.1 z.2.2 M.c
 ed:OwQp w b u.1 u.2.1 u.2.2 M.d
def Tb (w:World)(b t:Nat)(M:M2):Prop:=∃ gr cr g0 c0 g1 c1 x y z u,T2 w b t gr cr g0 c0 g1 c1 x y z u M
section
variable {w w':World}{b t gr cr g0 c0 g1 c1:Nat}{x y z u e:Pe}{M:M2}{L:List Rat}
theorem T2.next (h:T2 w b t gr cr g0 c0 g1 c1 x y z u M)(hb:Below w.heap.size w w'):T2 w' b t gr cr g0 c0 g1 c1 x y z u M :=
 ⟨h.hd.next hb,h.rw.next hb,h.r0.next hb,h.r1.next hb,h.ne,h.bt,h.br,h.b0,h.b1,h.lr,h.l0,h.l1,h.ea.next hb,h.eb.next hb,h.ec.next hb,h.ed.next hb⟩
theorem Tb.next (h:Tb w b t M)(hb:Below w.heap.size w w'):Tb w' b t M:=by
 obtain ⟨gr,cr,g0,c0,g1,c1,x,y,z,u,h⟩:=h
 exact ⟨gr,cr,g0,c0,g1,c1,x,y,z,u,h.next hb⟩
theorem T2.ht (h:T2 w b t gr cr g0 c0 g1 c1 x y z u M):t ≠ gr:=h.hd.ne h.rw (by decide)
theorem T2.ht0 (h:T2 w b t gr cr g0 c0 g1 c1 x y z u M):t ≠ g0:=h.hd.ne h.r0 (by decide)
theorem T2.ht1 (h:T2 w b t gr cr g0 c0 g1 c1 x y z u M):t ≠ g1:=h.hd.ne h.r1 (by decide)
theorem T2.hr0 (h:T2 w b t gr cr g0 c0 g1 c1 x y z u M):gr ≠ g0:=h.rw.ne h.r0 (by decide)
theorem T2.hr1 (h:T2 w b t gr cr g0 c0 g1 c1 x y z u M):gr ≠ g1:=h.rw.ne h.r1 (by decide)
theorem T2.put0 (h:T2 w b t gr cr g0 c0 g1 c1 x y z u M)(he:OwQp w b e.1 e.2.1 e.2.2 L):T2 (w.setCell ⟨g0,0,none⟩ (psl e)) b t gr cr g0 c0 g1 c1 e y z u ⟨L,M.b,M.c,M.d⟩:=by
 have hk:=(h.r0.keepS (.inl rfl) 0 (psl e)).q
 exact ⟨h.hd.far h.ht0 _,h.rw.far h.hr0 _,h.r0.store 0 _,h.r1.far h.ne.symm _,h.ne,h.bt,h.br,h.b0,h.b1,h.lr,h.l0,h.l1,he.keep hk,h.eb.keep hk,h.ec.keep hk,h.ed.keep hk⟩
theorem T2.put1 (h:T2 w b t gr cr g0 c0 g1 c1 x y z u M)(he:OwQp w b e.1 e.2.1 e.2.2 L):T2 (w.setCell ⟨g0,1,none⟩ (psl e)) b t gr cr g0 c0 g1 c1 x e z u ⟨M.a,L,M.c,M.d⟩:=by
 have hk:=(h.r0.keepS (.inl rfl) 1 (psl e)).q
 exact ⟨h.hd.far h.ht0 _,h.rw.far h.hr0 _,h.r0.store 1 _,h.r1.far h.ne.symm _,h.ne,h.bt,h.br,h.b0,h.b1,h.lr,h.l0,h.l1,h.ea.keep hk,he.keep hk,h.ec.keep hk,h.ed.keep hk⟩
theorem T2.put2 (h:T2 w b t gr cr g0 c0 g1 c1 x y z u M)(he:OwQp w b e.1 e.2.1 e.2.2 L):T2 (w.setCell ⟨g1,0,none⟩ (psl e)) b t gr cr g0 c0 g1 c1 x y e u ⟨M.a,M.b,L,M.d⟩:=by
 have hk:=(h.r1.keepS (.inl rfl) 0 (psl e)).q
 exact ⟨h.hd.far h.ht1 _,h.rw.far h.hr1 _,h.r0.far h.ne _,h.r1.store 0 _,h.ne,h.bt,h.br,h.b0,h.b1,h.lr,h.l0,h.l1,h.ea.keep hk,h.eb.keep hk,he.keep hk,h.ed.keep hk⟩
theorem T2.put3 (h:T2 w b t gr cr g0 c0 g1 c1 x y z u M)(he:OwQp w b e.1 e.2.1 e.2.2 L):T2 (w.setCell ⟨g1,1,none⟩ (psl e)) b t gr cr g0 c0 g1 c1 x y z e ⟨M.a,M.b,M.c,L⟩:=by
 have hk:=(h.r1.keepS (.inl rfl) 1 (psl e)).q
 exact ⟨h.hd.far h.ht1 _,h.rw.far h.hr1 _,h.r0.far h.ne _,h.r1.store 1 _,h.ne,h.bt,h.br,h.b0,h.b1,h.lr,h.l0,h.l1,h.ea.keep hk,h.eb.keep hk,h.ec.keep hk,he.keep hk⟩
theorem T2.same0 (h:T2 w b t gr cr g0 c0 g1 c1 x y z u M):T2 (w.setCell ⟨gr,0,none⟩ (.slice (some ⟨g0,0,none⟩) 2 c0)) b t gr cr g0 c0 g1 c1 x y z u M:=by
 have hk:=(h.rw.keepS (.inr rfl) 0 (.slice (some ⟨g0,0,none⟩) 2 c0)).q
 exact ⟨h.hd.far h.ht _,h.rw.store 0 _,h.r0.far h.hr0.symm _,h.r1.far h.hr1.symm _,h.ne,h.bt,h.br,h.b0,h.b1,h.lr,h.l0,h.l1,h.ea.keep hk,h.eb.keep hk,h.ec.keep hk,h.ed.keep hk⟩
theorem T2.same1 (h:T2 w b t gr cr g0 c0 g1 c1 x y z u M):T2 (w.setCell ⟨gr,1,none⟩ (.slice (some ⟨g1,0,none⟩) 2 c1)) b t gr cr g0 c0 g1 c1 x y z u M:=by
 have hk:=(h.rw.keepS (.inr rfl) 1 (.slice (some ⟨g1,0,none⟩) 2 c1)).q
 exact ⟨h.hd.far h.ht _,h.rw.store 1 _,h.r0.far h.hr0.symm _,h.r1.far h.hr1.symm _,h.ne,h.bt,h.br,h.b0,h.b1,h.lr,h.l0,h.l1,h.ea.keep hk,h.eb.keep hk,h.ec.keep hk,h.ed.keep hk⟩
theorem T2.swap (h:T2 w b t gr cr g0 c0 g1 c1 x y z u M):T2 ((w.setCell ⟨gr,0,none⟩ (.slice (some ⟨g1,0,none⟩) 2 c1)).setCell ⟨gr,1,none⟩ (.slice (some ⟨g0,0,none⟩) 2 c0)) b t gr cr g1 c1 g0 c0 z u x y ⟨M.c,M.d,M.a,M.b⟩:=by
 have hs:=h.rw.store 0 (.slice (some ⟨g1,0,none⟩) 2 c1)
 have hk:=((h.rw.keepS (.inr rfl) 0 (.slice (some ⟨g1,0,none⟩) 2 c1)).trans (hs.keepS (.inr rfl) 1 (.slice (some ⟨g0,0,none⟩) 2 c0))).q
 exact ⟨(h.hd.far h.ht _).far h.ht _,hs.store 1 _,(h.r1.far h.hr1.symm _).far h.hr1.symm _,(h.r0.far h.hr0.symm _).far h.hr0.symm _,h.ne.symm,h.bt,h.br,h.b1,h.b0,h.lr,h.l1,h.l0,h.ec.keep hk,h.ed.keep hk,h.ea.keep hk,h.eb.keep hk⟩
theorem T2.cells (h:T2 w b t gr cr g0 c0 g1 c1 x y z u M):w.cell? ⟨t,0,none⟩=some (.slice (some ⟨gr,0,none⟩) 2 cr)/\w.cell? ⟨t,1,none⟩=some (.int .i64 2)/\w.cell? ⟨gr,0,none⟩=some (.slice (some ⟨g0,0,none⟩) 2 c0)/\w.cell? ⟨gr,1,none⟩=some (.slice (some ⟨g1,0,none⟩) 2 c1)/\w.cell? ⟨g0,0,none⟩=some (psl x)/\w.cell? ⟨g0,1,none⟩=some (psl y)/\w.cell? ⟨g1,0,none⟩=some (psl z)/\w.cell? ⟨g1,1,none⟩=some (psl u) :=
 ⟨h.hd.cell rfl,h.hd.cell rfl,h.rw.cell rfl,h.rw.cell rfl,h.r0.cell rfl,h.r0.cell rfl,h.r1.cell rfl,h.r1.cell rfl⟩
end
def M2.swap (M:M2)(i j:Int):M2:=if i=j then M else ⟨M.c,M.d,M.a,M.b⟩
def M2.flip (M:M2):M2:=⟨M.a,M.c,M.b,M.d⟩
def EntQr (w:World)(b:Nat)(E:List (Option Addr × Nat × Nat))(LL:List (List Rat)):Prop:=E.length=LL.length/\∀ (j:Nat) (e:Option Addr × Nat × Nat) (L:List Rat),E[j]?=some e->LL[j]?=some L->OwQp w b e.1 e.2.1 e.2.2 L
def OwQss (w:World)(b:Nat)(A:Option Addr)(n c:Nat)(LL:List (List Rat)):Prop :=
 ∃ E:List (Option Addr × Nat × Nat),w.ownsRow b 72 1 (.slice A n c) n (E.map psl)/\E.length=n/\EntQr w b E LL
section
variable {w w':World}{b b':Nat}{A:Option Addr}{n c:Nat}{LL:List (List Rat)}{E:List (Option Addr × Nat × Nat)}
theorem EntQr.next (h:EntQr w b E LL)(hb:Below w.heap.size w w'):EntQr w' b E LL:=⟨h.1,fun j e z he hz=>(h.2 j e z he hz).next hb⟩
theorem EntQr.base (h:EntQr w b E LL)(hb:b'<=b):EntQr w b' E LL:=⟨h.1,fun j e z he hz=>(h.2 j e z he hz).base hb⟩
theorem EntQr.keep (h:EntQr w b E LL)(hk:KeepQ w w'):EntQr w' b E LL:=⟨h.1,fun j e z he hz=>(h.2 j e z he hz).keep hk⟩
theorem EntQr.snoc (h:EntQr w b E LL){e:Option Addr × Nat × Nat}{L:List Rat}(he:OwQp w b e.1 e.2.1 e.2.2 L):EntQr w b (E ++ [e]) (LL ++ [L]):=by
 refine ⟨by rw [List.length_append,List.length_append,h.1];rfl,fun j e' z' h1 h2=>?_⟩
 rcases Nat.lt_or_ge j E.length with hj | hj
 ·rw [List.getElem?_append_left hj] at h1
  rw [List.getElem?_append_left (by rw [<- h.1];exact hj)] at h2
  exact h.2 j e' z' h1 h2
 ·rw [List.getElem?_append_right hj] at h1
  rw [List.getElem?_append_right (by rw [<- h.1];exact hj)] at h2
  rw [<- h.1] at h2
  have hj0:j-E.length=0:=by
   rcases Nat.eq_zero_or_pos (j-E.length) with e0 | e0
   ·exact e0
   ·rw [gN (by simp;omega)] at h1;cases h1
  rw [hj0] at h1 h2
  simp at h1 h2
  subst h1 h2
  exact he
theorem OwQss.len (h:OwQss w b A n c LL):LL.length=n:=by
 obtain ⟨E,_,h2,h3⟩:=h
 rw [<- h3.1,h2]
theorem OwQss.nil (w:World)(b:Nat):OwQss w b none 0 0 []:=⟨[],World.ownsRow_nil _ _ _ _,rfl,rfl,fun j e z he _=>by simp at he⟩
theorem OwQss.next (h:OwQss w b A n c LL)(hb:Below w.heap.size w w'):OwQss w' b A n c LL:=by
 obtain ⟨E,h1,h2,h3⟩:=h
 exact ⟨E,row_next h1 hb,h2,h3.next hb⟩
theorem OwQss.base (h:OwQss w b A n c LL)(hb:b'<=b):OwQss w b' A n c LL:=by
 obtain ⟨E,h1,h2,h3⟩:=h
 exact ⟨E,row_base h1 hb,h2,h3.base hb⟩
theorem OwQss.form (h:OwQss w b A n c LL):(A=none/\n=0/\c=0) ∨ ∃ g,A=some ⟨g,0,none⟩/\b<=g/\g < w.heap.size/\n<=c/\c<=maxLen:=by
 obtain ⟨E,h,_,_⟩:=h
 rcases h.2 with ⟨h1,h2⟩ | ⟨g,cap,cur,h1,h2,h3,h4,h5,_⟩
 ·injection h1 with h1 h1' h1''
  exact .inl ⟨h1,h2,h1''⟩
 ·injection h1 with h1 h1' h1''
  subst h1''
  exact .inr ⟨g,h1,h2,(Array.getElem?_eq_some_iff.1 h3).1,h4,h5⟩
theorem keepQ_grown2 {w1:World}{xs:List Value}(hE:w.ownsRow b 72 1 (.slice A n c) n xs)(hg:w.grownBy w1 (Value.slice A n c).ownBlock):KeepQ w w1:=by
 have key:∀ (i:Nat) (cs:Array Value) (t:TypeId) (f:Nat × Nat),t ≠ 72->w.heap[i]?=some (.cells cs t f)->w1.heap[i]?=some (.cells cs t f):=by
  intro i cs t f ht hi
  rw [<- hi]
  refine hg.block i (Array.getElem?_eq_some_iff.1 hi).1 ?_
  rcases hE.2 with ⟨h1,_⟩ | ⟨g,cap,cur,h1,h2,h3,_⟩
  ·rw [h1]
   intro e0
   cases e0
  ·rw [h1]
   intro e0
   cases e0
   rw [hi] at h3
   injection h3 with h3
   injection h3 with _ h3
   exact ht h3
 exact ⟨fun i cs f=>key i cs _ f (by decide),fun i cs f=>key i cs _ f (by decide)⟩
theorem qss_more {wb w1:World}{v':Value}{e:Option Addr × Nat × Nat}{L:List Rat}{t:TypeId}(he:OwQp w b e.1 e.2.1 e.2.2 L)(hwb:wb=w.alloc (.cells #[.slice e.1 e.2.1 e.2.2] t))(hE:wb.ownsRow b 72 1 (.slice A n c) n (E.map psl))(hEl:E.length=n)(hEn:EntQr wb b E LL)
  (hown':w1.ownsRow b 72 1 v' (n+1) (E.map psl ++ [.slice e.1 e.2.1 e.2.2])) (hg:wb.grownBy w1 (Value.slice A n c).ownBlock) :
  ∃ (A':Option Addr) (c':Nat),v'=.slice A' (n+1) c'/\OwQss w1 b A' (n+1) c' (LL ++ [L]):=by
 obtain ⟨A',c',rfl⟩:=row_sl hown'
 have hba:Below w.heap.size w wb:=by rw [hwb];exact (Below.refl w.heap.size w).alloc nR _
 have hk:=keepQ_grown2 hE hg
 refine ⟨A',c',rfl,E ++ [e],?_,by rw [List.length_append,hEl];rfl,?_⟩
 ·rw [List.map_append];exact hown'
 ·exact (hEn.snoc (he.next hba)).keep hk
theorem oql_at (h:OwQss w b A n c LL){j:Nat}(hj:j < n) :
  ∃ (g:Nat) (A1:Option Addr) (n1 c1:Nat) (L:List Rat),A=some ⟨g,0,none⟩/\g < w.heap.size/\w.cell? ⟨g,j,none⟩=some (.slice A1 n1 c1)/\OwQp w b A1 n1 c1 L/\Hid (LL[j]?=some L):=by
 have hl:=h.len
 rcases h.form with ⟨_,h0,_⟩ | ⟨g,rfl,h1,h2,h3,h4⟩
 ·omega
 ·obtain ⟨E,hr,hE,hel⟩:=h
  have hjE:j < E.length:=by omega
  have hjL:j < LL.length:=by omega
  refine ⟨g,E[j].1,E[j].2.1,E[j].2.2,LL[j],rfl,h2,?_,hel.2 j _ _ (gE hjE) (gE hjL),ah (gE hjL)⟩
  have:=hr.cellAt j (by omega)
  rw [this,List.getElem?_map,gE hjE]
  rfl
end
theorem infoQr:(Tryz.prog.info? 72).map (fun i=>(i.zero,i.size,i.bytes))=some (some (.slice none 0 0),1,24):=by kernel_rfl
end Go.Proofs.YtjnklbfhelbjgaaGreat
namespace Mx
section
variable {E:Nat → Nat → Rat}{n a b t:Nat}{LL MM:List (List Rat)}
end
end Mx
namespace Go.Proofs.YtjnklbfhelbjgaaGreat
open Go.RowKit Go.IntWalk
section
variable {w w':World}{b b' B g:Nat}{A:Option Addr}{k c N:Nat}{G:List Nat}{EE:Nat->List (Ent × Ent)}{F:Nat->Nat->Rat}
end
section
variable {w w' wr w1:World}{b g go n c:Nat}{T T':TypeId}{xs ys:List Value}{v r z:Value}{A:Option Addr}{o:Obj}
theorem PX.keepQ (h:PX w g T xs)(h1:T ≠ 171)(h2:T ≠ 47)(j:Nat)(u:Value):KeepQ w (w.setCell ⟨g,j,none⟩ u):=by
 obtain ⟨cs,h3,_⟩:=h
 have key:∀ (i:Nat) (cs':Array Value) (T':TypeId) (f:Nat × Nat),T' ≠ T->w.heap[i]?=some (.cells cs' T' f)->(w.setCell ⟨g,j,none⟩ u).heap[i]?=some (.cells cs' T' f):=by
  intro i cs' T' f ht hi
  have hne:i ≠ g:=by
   rintro rfl
   rw [hi] at h3
   injection h3 with h3
   injection h3 with _ h3 _
   exact ht h3
  rw [Below.heap_setCell _ (⟨g,j,none⟩:Addr) u i hne]
  exact hi
 exact ⟨fun i cs f=>key i cs _ f h1.symm,fun i cs f=>key i cs _ f h2.symm⟩
theorem own_type (hE:w.ownsRow b T 1 v n xs)(hg:w.grownBy w1 v.ownBlock){i:Nat}{cs:Array Value}{f:Nat × Nat}(hT:T' ≠ T)(hi:w.heap[i]?=some (.cells cs T' f)):w1.heap[i]?=some (.cells cs T' f):=by
 rw [<- hi]
 refine hg.block i (Array.getElem?_eq_some_iff.1 hi).1 ?_
 rcases hE.2 with ⟨h1,_⟩ | ⟨g,cap,cur,h1,h2,h3,_⟩
 ·rw [h1]
  intro e0
  cases e0
 ·rw [h1]
  intro e0
  cases e0
  rw [hi] at h3
  injection h3 with h3
  injection h3 with _ h3
  exact hT h3
theorem PX.grown (h:PX w g T' ys)(hE:w.ownsRow b T 1 v n xs)(hT:T' ≠ T)(hg:w.grownBy w1 v.ownBlock):PX w1 g T' ys:=by
 obtain ⟨cs,h1,h2⟩:=h
 exact ⟨cs,own_type hE hg hT h1,h2⟩
theorem own_set (hE:w.ownsRow b T 1 v n xs)(hz:PX w go T' ys)(hT:T' ≠ T)(j:Nat)(u:Value):(w.setCell ⟨go,j,none⟩ u).ownsRow b T 1 v n xs:=by
 refine ⟨hE.1,?_⟩
 rcases hE.2 with h0 | ⟨g',cap,cur,h1,h2,h3,h4⟩
 ·exact .inl h0
 ·have hne:g' ≠ go:=by
   rintro rfl
   obtain ⟨cs,h5,_⟩:=hz
   rw [h3] at h5
   injection h5 with h5
   injection h5 with _ h5 _
   exact hT h5.symm
  refine .inr ⟨g',cap,cur,h1,h2,?_,h4⟩
  rw [Below.heap_setCell _ (⟨go,j,none⟩:Addr) u g' hne]
  exact h3
theorem own_px (hE:w.ownsRow b T 1 (.slice A n c) n xs)(h0:0 < n):∃ g,A=some ⟨g,0,none⟩/\b<=g/\PX w g T xs/\n<=c/\c<=maxLen:=by
 rcases hE.2 with ⟨k1,k2⟩ | ⟨g,cap,cur,k1,k2,k3,k4,k5,k6,k7⟩
 ·omega
 ·injection k1 with k1 k1' k1''
  subst k1''
  refine ⟨g,k1,k2,⟨cur,k3,fun i u hu=>?_⟩,k4,k5⟩
  have hi:i < n*1:=by
   rcases Nat.lt_or_ge i (n*1) with h5 | h5
   ·exact h5
   ·rw [<- k7,List.getElem?_take_eq_none h5] at hu;cases hu
  rw [<- k7,List.getElem?_take_of_lt hi] at hu
  simpa using hu
theorem tpush {v':Value}(hT:PX wr go 102 [.slice A n c,z])(hE:wr.ownsRow b 30 1 (.slice A n c) n xs)(hown':w1.ownsRow b 30 1 v' (n+1) (xs ++ [r]))(hg:(wr.alloc o).grownBy w1 (Value.slice A n c).ownBlock) :
  ∃ (A':Option Addr) (c':Nat),v'=.slice A' (n+1) c'/\w1.cell? ⟨go,0,none⟩=some (.slice A n c)/\w1.frozen? ⟨go,0,none⟩=false/\PX (w1.setCell ⟨go,0,none⟩ v') go 102 [v',z]/\(w1.setCell ⟨go,0,none⟩ v').ownsRow b 30 1 v' (n+1) (xs ++ [r])/\(∀ (g:Nat) (T:TypeId) (ys:List Value),T ≠ 30->T ≠ 102->PX wr g T ys->PX (w1.setCell ⟨go,0,none⟩ v') g T ys)/\KeepQ wr (w1.setCell ⟨go,0,none⟩ v'):=by
 obtain ⟨A',c',rfl⟩:=row_sl hown'
 have hba:Below wr.heap.size wr (wr.alloc o):=bA
 have hE2:=row_next hE hba
 have hT1:=(hT.next hba).grown hE2 (by decide) hg
 refine ⟨A',c',rfl,hT1.cell rfl,hT1.frozen 0,hT1.store 0 _,own_set hown' hT1 (by decide) 0 _,fun g T ys h1 h2 h3=>?_,?_⟩
 ·have h4:=(h3.next hba).grown hE2 h1 hg
  exact h4.far (h4.ne hT1 h2) _
 ·have hk:=hT1.keepQ (by decide) (by decide) 0 (Value.slice A' (n+1) c')
  have hk0:KeepQ wr w1:=⟨fun i cs f hi=>own_type hE2 hg (by decide) ((hba.block i (Array.getElem?_eq_some_iff.1 hi).1).trans hi),fun i cs f hi=>own_type hE2 hg (by decide) ((hba.block i (Array.getElem?_eq_some_iff.1 hi).1).trans hi)⟩
  exact ⟨fun i cs f hi=>hk.1 i cs f (hk0.1 i cs f hi),fun i cs f hi=>hk.2 i cs f (hk0.2 i cs f hi)⟩
end
structure U1 (w:World)(b B t:Nat)(A:Option Addr)(c g0 c0:Nat)(x y:Pe)(P Q:List Rat):Prop where
 hd:PX w t 102 [.slice A 1 c,.int .i64 2]
 own:w.ownsRow B 30 1 (.slice A 1 c) 1 [.slice (some ⟨g0,0,none⟩) 2 c0]
 r0:PX w g0 73 [psl x,psl y]
 bt:B<=t
 b0:B<=g0
 l0:2<=c0/\c0<=maxLen
 ea:OwQp w b x.1 x.2.1 x.2.2 P
 eb:OwQp w b y.1 y.2.1 y.2.2 Q
section
variable {w w' wr w1:World}{b B t c g0 c0:Nat}{x y:Pe}{P Q:List Rat}{v':Value}{A:Option Addr}{o:Obj}
theorem U1.next (h:U1 w b B t A c g0 c0 x y P Q)(hb:Below w.heap.size w w'):U1 w' b B t A c g0 c0 x y P Q :=
 ⟨h.hd.next hb,row_next h.own hb,h.r0.next hb,h.bt,h.b0,h.l0,h.ea.next hb,h.eb.next hb⟩
theorem U1.put {g:Nat}{xs:List Value}(h:U1 w b B t A c g0 c0 x y P Q)(hp:PX w g 73 xs)(hne:g0 ≠ g)(j:Nat)(u:Value):U1 (w.setCell ⟨g,j,none⟩ u) b B t A c g0 c0 x y P Q:=by
 have hk:=(hp.keepS (.inl rfl) j u).q
 exact ⟨h.hd.far (h.hd.ne hp (by decide)) _,own_set h.own hp (by decide) j u,h.r0.far hne _,h.bt,h.b0,h.l0,h.ea.keep hk,h.eb.keep hk⟩
theorem U1.first (hT:PX wr t 102 [.slice none 0 0,.int .i64 2])(hbt:B<=t)(h0:PX wr g0 73 [psl x,psl y])(hb0:B<=g0)(hl:2<=c0/\c0<=maxLen)(ha:OwQp wr b x.1 x.2.1 x.2.2 P)(hb:OwQp wr b y.1 y.2.1 y.2.2 Q)
  (hown':w1.ownsRow B 30 1 v' (0+1) ([] ++ [.slice (some ⟨g0,0,none⟩) 2 c0])) (hg:(wr.alloc o).grownBy w1 (Value.slice none 0 0).ownBlock) :
  ∃ (A':Option Addr) (c':Nat),v'=.slice A' 1 c'/\w1.cell? ⟨t,0,none⟩=some (.slice none 0 0)/\w1.frozen? ⟨t,0,none⟩=false/\U1 (w1.setCell ⟨t,0,none⟩ v') b B t A' c' g0 c0 x y P Q:=by
 obtain ⟨A',c',rfl,e1,e2,h1,h2,h3,h4⟩:=tpush hT (World.ownsRow_nil _ _ _ _) hown' hg
 exact ⟨A',c',rfl,e1,e2,⟨h1,h2,h3 _ _ _ (by decide) (by decide) h0,hbt,hb0,hl,ha.keep h4,hb.keep h4⟩⟩
theorem U1.second {g1 c1:Nat}{z u:Pe}{R S:List Rat}(h:U1 wr b B t A c g0 c0 x y P Q)(h0:PX wr g1 73 [psl z,psl u])(hne:g0 ≠ g1)(hb1:B<=g1)(hbB:b<=B)(hl:2<=c1/\c1<=maxLen)(ha:OwQp wr b z.1 z.2.1 z.2.2 R)(hb:OwQp wr b u.1 u.2.1 u.2.2 S)
  (hown':w1.ownsRow B 30 1 v' (1+1) ([.slice (some ⟨g0,0,none⟩) 2 c0] ++ [.slice (some ⟨g1,0,none⟩) 2 c1])) (hg:(wr.alloc o).grownBy w1 (Value.slice A 1 c).ownBlock) :
  ∃ (A':Option Addr) (c':Nat),v'=.slice A' 2 c'/\w1.cell? ⟨t,0,none⟩=some (.slice A 1 c)/\w1.frozen? ⟨t,0,none⟩=false/\Tb (w1.setCell ⟨t,0,none⟩ v') b t ⟨P,Q,R,S⟩:=by
 obtain ⟨A',c',rfl,e1,e2,h1,h2,h3,h4⟩:=tpush h.hd h.own hown' hg
 obtain ⟨gr,rfl,k1,k2,k3,k4⟩:=own_px h2 (by decide)
 exact ⟨_,c',rfl,e1,e2,gr,c',g0,c0,g1,c1,x,y,z,u,h1,k2,h3 _ _ _ (by decide) (by decide) h.r0,h3 _ _ _ (by decide) (by decide) h0,hne,nT hbB h.bt,nT hbB k1,nT hbB h.b0,nT hbB hb1,⟨k3,k4⟩,h.l0,hl,h.ea.keep h4,h.eb.keep h4,ha.keep h4,hb.keep h4⟩
end
theorem tcell_new (w:World)(x:Value)(t:TypeId):∀ j u,[x][j]?=some u->(w.alloc (.cells #[x] t)).cell? ((⟨w.heap.size,0,none⟩:Addr).add j)=some u:=by
 intro j u hj
 match j,hj with
 | 0,hj=>simp at hj;subst hj;simp [Addr.add]
 | (j+1),hj=>simp at hj
theorem infoRow:(Tryz.prog.info? 30).map (fun i=>(i.zero,i.size,i.bytes))=some (some (.slice none 0 0),1,24):=by kernel_rfl
def KeepL (T:TypeId)(w w':World):Prop:=∀ (i:Nat) (cs:Array Value) (T':TypeId) (f:Nat × Nat),T' ≠ T->w.heap[i]?=some (.cells cs T' f)->w'.heap[i]?=some (.cells cs T' f)
section
variable {w w' w'' w1:World}{T T':TypeId}{b b' g n c:Nat}{A:Option Addr}{xs ys:List Value}{v:Value}
theorem KeepL.q (h:KeepL T w w')(h1:171 ≠ T)(h2:47 ≠ T):KeepQ w w':=⟨fun i cs f=>h i cs _ f h1,fun i cs f=>h i cs _ f h2⟩
theorem own_keepL (hE:w.ownsRow b T' 1 v n xs)(hT:T' ≠ T)(hk:KeepL T w w'):w'.ownsRow b T' 1 v n xs:=by
 refine ⟨hE.1,?_⟩
 rcases hE.2 with h0 | ⟨g,cap,cur,h1,h2,h3,h4⟩
 ·exact .inl h0
 ·exact .inr ⟨g,cap,cur,h1,h2,hk _ _ _ _ hT h3,h4⟩
theorem keepL_grown (hE:w.ownsRow b T 1 v n xs)(hg:w.grownBy w1 v.ownBlock):KeepL T w w1:=fun _ _ _ _ ht hi=>own_type hE hg ht hi
theorem PX.keepL (h:PX w g T xs)(j:Nat)(u:Value):KeepL T w (w.setCell ⟨g,j,none⟩ u):=by
 intro i cs T' f ht hi
 obtain ⟨cs',h3,_⟩:=h
 have hne:i ≠ g:=by
  rintro rfl
  rw [hi] at h3
  injection h3 with h3
  injection h3 with _ h3 _
  exact ht h3
 rw [Below.heap_setCell _ (⟨g,j,none⟩:Addr) u i hne]
 exact hi
end
structure Stay {α:Type}(T:TypeId)(P:World->Nat->Option Addr->Nat->Nat->α->Prop):Prop where
 next:∀ {w w':World} {b:Nat} {A:Option Addr} {n c:Nat} {x:α},P w b A n c x->Below w.heap.size w w'->P w' b A n c x
 base:∀ {w:World} {b b':Nat} {A:Option Addr} {n c:Nat} {x:α},P w b A n c x->b'<=b->P w b' A n c x
 keep:∀ {w w':World} {b:Nat} {A:Option Addr} {n c:Nat} {x:α},P w b A n c x->KeepL T w w'->P w' b A n c x
def EntL {α:Type}(P:World->Nat->Option Addr->Nat->Nat->α->Prop)(w:World)(b:Nat)(E:List (Option Addr × Nat × Nat))(LL:List α):Prop:=E.length=LL.length/\∀ (j:Nat) (e:Option Addr × Nat × Nat) (L:α),E[j]?=some e->LL[j]?=some L->P w b e.1 e.2.1 e.2.2 L
def OwL {α:Type}(T:TypeId)(P:World->Nat->Option Addr->Nat->Nat->α->Prop)(w:World)(b:Nat)(A:Option Addr)(n c:Nat)(LL:List α):Prop :=
 ∃ E:List (Option Addr × Nat × Nat),w.ownsRow b T 1 (.slice A n c) n (E.map psl)/\E.length=n/\EntL P w b E LL
section
variable {α:Type}{T T' T2:TypeId}{P:World->Nat->Option Addr->Nat->Nat->α->Prop}{w w' w1:World}{b b' n c:Nat}{A:Option Addr}{LL:List α}{E:List (Option Addr × Nat × Nat)}{L:α}
theorem EntL.next (hP:Stay T P)(h:EntL P w b E LL)(hb:Below w.heap.size w w'):EntL P w' b E LL:=⟨h.1,fun j e z he hz=>hP.next (h.2 j e z he hz) hb⟩
theorem EntL.base (hP:Stay T P)(h:EntL P w b E LL)(hb:b'<=b):EntL P w b' E LL:=⟨h.1,fun j e z he hz=>hP.base (h.2 j e z he hz) hb⟩
theorem EntL.keep (hP:Stay T P)(h:EntL P w b E LL)(hk:KeepL T w w'):EntL P w' b E LL:=⟨h.1,fun j e z he hz=>hP.keep (h.2 j e z he hz) hk⟩
theorem EntL.snoc (h:EntL P w b E LL){e:Option Addr × Nat × Nat}{L:α}(he:P w b e.1 e.2.1 e.2.2 L):EntL P w b (E ++ [e]) (LL ++ [L]):=by
 refine ⟨by rw [List.length_append,List.length_append,h.1];rfl,fun j e' z' h1 h2=>?_⟩
 rcases Nat.lt_or_ge j E.length with hj | hj
 ·rw [List.getElem?_append_left hj] at h1
  rw [List.getElem?_append_left (by rw [<- h.1];exact hj)] at h2
  exact h.2 j e' z' h1 h2
 ·rw [List.getElem?_append_right hj] at h1
  rw [List.getElem?_append_right (by rw [<- h.1];exact hj)] at h2
  rw [<- h.1] at h2
  have hj0:j-E.length=0:=by
   rcases Nat.eq_zero_or_pos (j-E.length) with e0 | e0
   ·exact e0
   ·rw [gN (by simp;omega)] at h1;cases h1
  rw [hj0] at h1 h2
  simp at h1 h2
  subst h1 h2
  exact he
theorem EntL.set (h:EntL P w b E LL)(j:Nat){e:Option Addr × Nat × Nat}{L:α}(he:P w b e.1 e.2.1 e.2.2 L):EntL P w b (E.set j e) (LL.set j L):=by
 refine ⟨by rw [List.length_set,List.length_set];exact h.1,fun i e' z' h1 h2=>?_⟩
 by_cases hij:j=i
 ·subst hij
  have hl:j < E.length:=by
   rcases Nat.lt_or_ge j E.length with h3 | h3
   ·exact h3
   ·rw [gN (by rw [List.length_set];exact h3)] at h1;cases h1
  rw [List.getElem?_set_self hl] at h1
  rw [List.getElem?_set_self (by rw [<- h.1];exact hl)] at h2
  injection h1 with h1
  injection h2 with h2
  subst h1 h2
  exact he
 ·rw [List.getElem?_set_ne hij] at h1 h2
  exact h.2 i e' z' h1 h2
theorem OwL.len (h:OwL T P w b A n c LL):LL.length=n:=by
 obtain ⟨E,_,h2,h3⟩:=h
 rw [<- h3.1,h2]
theorem OwL.nil (T:TypeId)(P:World->Nat->Option Addr->Nat->Nat->α->Prop)(w:World)(b:Nat):OwL T P w b none 0 0 []:=⟨[],World.ownsRow_nil _ _ _ _,rfl,rfl,fun j e z he _=>by simp at he⟩
theorem OwL.next (hP:Stay T P)(h:OwL T P w b A n c LL)(hb:Below w.heap.size w w'):OwL T P w' b A n c LL:=by
 obtain ⟨E,h1,h2,h3⟩:=h
 exact ⟨E,row_next h1 hb,h2,h3.next hP hb⟩
theorem OwL.base (hP:Stay T P)(h:OwL T P w b A n c LL)(hb:b'<=b):OwL T P w b' A n c LL:=by
 obtain ⟨E,h1,h2,h3⟩:=h
 exact ⟨E,row_base h1 hb,h2,h3.base hP hb⟩
theorem OwL.keep (hP:Stay T2 P)(hT:T ≠ T2)(h:OwL T P w b A n c LL)(hk:KeepL T2 w w'):OwL T P w' b A n c LL:=by
 obtain ⟨E,h1,h2,h3⟩:=h
 exact ⟨E,own_keepL h1 hT hk,h2,h3.keep hP hk⟩
theorem OwL.stay (hP:Stay T2 P)(hT:T ≠ T2):Stay T2 (OwL T P) :=
 ⟨fun h hb=>by
  obtain ⟨E,h1,h2,h3⟩:=h
  exact ⟨E,row_next h1 hb,h2,h3.next hP hb⟩,fun h hb=>by
  obtain ⟨E,h1,h2,h3⟩:=h
  exact ⟨E,row_base h1 hb,h2,h3.base hP hb⟩,fun h hk=>h.keep hP hT hk⟩
theorem OwL.form (h:OwL T P w b A n c LL):(A=none/\n=0/\c=0) ∨ ∃ g,A=some ⟨g,0,none⟩/\b<=g/\g < w.heap.size/\n<=c/\c<=maxLen:=by
 obtain ⟨E,h,_,_⟩:=h
 rcases h.2 with ⟨h1,h2⟩ | ⟨g,cap,cur,h1,h2,h3,h4,h5,_⟩
 ·injection h1 with h1 h1' h1''
  exact .inl ⟨h1,h2,h1''⟩
 ·injection h1 with h1 h1' h1''
  subst h1''
  exact .inr ⟨g,h1,h2,(Array.getElem?_eq_some_iff.1 h3).1,h4,h5⟩
theorem OwL.le (h:OwL T P w b A n c LL):n<=c/\c<=maxLen:=by
 rcases h.form with ⟨_,rfl,rfl⟩ | ⟨_,_,_,_,h1,h2⟩
 ·exact ⟨nR,nZ⟩
 ·exact ⟨h1,h2⟩
theorem OwL.at_ (h:OwL T P w b A n c LL){j:Nat}(hj:j < n) :
  ∃ (g:Nat) (A1:Option Addr) (n1 c1:Nat) (L:α),A=some ⟨g,0,none⟩/\g < w.heap.size/\w.cell? ⟨g,j,none⟩=some (.slice A1 n1 c1)/\P w b A1 n1 c1 L/\Hid (LL[j]?=some L):=by
 have hl:=h.len
 rcases h.form with ⟨_,h0,_⟩ | ⟨g,rfl,h1,h2,h3,h4⟩
 ·omega
 ·obtain ⟨E,hr,hE,hel⟩:=h
  have hjE:j < E.length:=by omega
  have hjL:j < LL.length:=by omega
  refine ⟨g,E[j].1,E[j].2.1,E[j].2.2,LL[j],rfl,h2,?_,hel.2 j _ _ (gE hjE) (gE hjL),ah (gE hjL)⟩
  have:=hr.cellAt j (by omega)
  rw [this,List.getElem?_map,gE hjE]
  rfl
theorem OwL.more (hP:Stay T P){v':Value}{e:Option Addr × Nat × Nat}{o:Obj}(he:P w b e.1 e.2.1 e.2.2 L)(hE:(w.alloc o).ownsRow b T 1 (.slice A n c) n (E.map psl))(hEl:E.length=n)(hEn:EntL P w b E LL)
  (hown':w1.ownsRow b T 1 v' (n+1) (E.map psl ++ [.slice e.1 e.2.1 e.2.2])) (hg:(w.alloc o).grownBy w1 (Value.slice A n c).ownBlock) :
  ∃ (A':Option Addr) (c':Nat),v'=.slice A' (n+1) c'/\OwL T P w1 b A' (n+1) c' (LL ++ [L]):=by
 obtain ⟨A',c',rfl⟩:=row_sl hown'
 have hba:Below w.heap.size w (w.alloc o):=(Below.refl w.heap.size w).alloc nR _
 refine ⟨A',c',rfl,E ++ [e],?_,by rw [List.length_append,hEl];rfl,?_⟩
 ·rw [List.map_append];exact hown'
 ·exact ((hEn.snoc he).next hP hba).keep hP (keepL_grown hE hg)
end
theorem stayQ {T:TypeId}(h1:171 ≠ T)(h2:47 ≠ T):Stay T OwQp:=⟨fun h hb=>h.next hb,fun h hb=>h.base hb,fun h hk=>h.keep (hk.q h1 h2)⟩
theorem stayR {T:TypeId}(h1:171 ≠ T)(h2:47 ≠ T):Stay T OwRq:=⟨fun h hb=>h.next hb,fun h hb=>h.base hb,fun h hk=>h.keep (hk.q h1 h2)⟩
theorem stayQP:Stay 73 OwQp:=stayQ (by decide) (by decide)
theorem stayRP:Stay 73 OwRq:=stayR (by decide) (by decide)
abbrev OwRp:=OwL 73 OwRq
abbrev OwRpp:=OwL 30 OwRp
abbrev OwP:=OwL 73 OwQp
abbrev OwPp:=OwL 30 OwP
theorem stayRpp:Stay 30 OwRp:=OwL.stay (stayR (by decide) (by decide)) (by decide)
theorem stayPp:Stay 30 OwP:=OwL.stay (stayQ (by decide) (by decide)) (by decide)
section
variable {w w':World}{b n c N K J:Nat}{A:Option Addr}{RR:List (List RawQ)}{PP:List (List (List RawQ))}{LL:List (List Rat)}{MM:List (List (List Rat))}
theorem OwRp.rp (h:OwRp w b A n c RR)(hN:∀ R ∈ RR,R.length<=K/\rsz R<=N):RdRp w w.heap.size N K A n c RR :=
 ⟨h.len,h.le.1,h.le.2,fun j R hR=>by
  have hj:j < n:=by
   rcases Nat.lt_or_ge j n with h1 | h1
   ·exact h1
   ·rw [gN (by rw [h.len];exact h1)] at hR;cases hR
  obtain ⟨g,A1,n1,c1,R',rfl,h2,h3,h4,h5⟩:=h.at_ hj
  rw [h5.out] at hR
  injection hR with hR
  subst hR
  have hm:=hN R' (gM h5.out)
  exact ⟨_,A1,n1,c1,rfl,h2,by rw [add_base];exact h3,h4.rq,by rw [<- h4.len];exact hm.1,hm.2⟩⟩
theorem OwRpp.rpp (h:OwRpp w b A n c PP)(hN:∀ RR ∈ PP,RR.length<=J/\∀ R ∈ RR,R.length<=K/\rsz R<=N):RdRpp w w.heap.size N K J A n c PP :=
 ⟨h.len,h.le.1,h.le.2,fun j RR hR=>by
  have hj:j < n:=by
   rcases Nat.lt_or_ge j n with h1 | h1
   ·exact h1
   ·rw [gN (by rw [h.len];exact h1)] at hR;cases hR
  obtain ⟨g,A1,n1,c1,R',rfl,h2,h3,h4,h5⟩:=h.at_ hj
  rw [h5.out] at hR
  injection hR with hR
  subst hR
  have hm:=hN R' (gM h5.out)
  exact ⟨_,A1,n1,c1,rfl,h2,by rw [add_base];exact h3,OwRp.rp h4 hm.2,by rw [<- h4.len];exact hm.1⟩⟩
theorem OwP.rp (h:OwP w b A n c LL)(hN:∀ L ∈ LL,L.length<=K/\rsz (L.map ofQ)<=N):RdRp w w.heap.size N K A n c (LL.map (·.map ofQ)) :=
 ⟨by rw [List.length_map];exact h.len,h.le.1,h.le.2,fun j R hR=>by
  rw [List.getElem?_map] at hR
  have hj:j < n:=by
   rcases Nat.lt_or_ge j n with h1 | h1
   ·exact h1
   ·rw [gN (by rw [h.len];exact h1)] at hR;cases hR
  obtain ⟨g,A1,n1,c1,R',rfl,h2,h3,h4,h5⟩:=h.at_ hj
  rw [h5.out] at hR
  injection hR with hR
  subst hR
  have hm:=hN R' (gM h5.out)
  exact ⟨_,A1,n1,c1,rfl,h2,by rw [add_base];exact h3,h4.rq,by rw [<- h4.len];exact hm.1,hm.2⟩⟩
theorem OwPp.rpp (h:OwPp w b A n c MM)(hN:∀ LL ∈ MM,LL.length<=J/\∀ L ∈ LL,L.length<=K/\rsz (L.map ofQ)<=N):RdRpp w w.heap.size N K J A n c (MM.map (·.map (·.map ofQ))) :=
 ⟨by rw [List.length_map];exact h.len,h.le.1,h.le.2,fun j R hR=>by
  rw [List.getElem?_map] at hR
  have hj:j < n:=by
   rcases Nat.lt_or_ge j n with h1 | h1
   ·exact h1
   ·rw [gN (by rw [h.len];exact h1)] at hR;cases hR
  obtain ⟨g,A1,n1,c1,R',rfl,h2,h3,h4,h5⟩:=h.at_ hj
  rw [h5.out] at hR
  injection hR with hR
  subst hR
  have hm:=hN R' (gM h5.out)
  exact ⟨_,A1,n1,c1,rfl,h2,by rw [add_base];exact h3,OwP.rp h4 hm.2,by rw [<- h4.len];exact hm.1⟩⟩
end
attribute [local go_sem ↓] Go.wp_at_zero Go.wp_at_succ
theorem map_qval_pr (M:List Rat):(M.map pr).map qval=M:=by rw [List.map_map,show (qval ∘ pr)=id from funext qval_pr,List.map_id]
theorem rqnorm_own {N:Nat}{A:Option Addr}{n c:Nat}{M:List Rat}{w:World}(h:RdQs w w.heap.size N A n c (M.map pr))(hn:n<=1048576)(hN:N<=1000000000000) :
  Calls Tryz.prog 54 #[.slice A n c] w (RetPq (Pq.co M) w):=by
 have:=rqnorm_any h (fun p hp=>by
  obtain ⟨x,_,rfl⟩:=List.mem_map.1 hp
  exact pr_ne x) hn hN
 rwa [map_qval_pr] at this
theorem range_co {f:Nat->Rat}{m:Nat}(h:∀ i,m<=i->f i=0)(i:Nat):Pq.co ((List.range m).map f) i=f i:=by
 rw [Pq.co_range]
 split
 ·rfl
 ·exact (h i (by omega)).symm
theorem rqAdd_any {N:Nat}{A A':Option Addr}{n c n' c':Nat}{L L':List (Int × Int)}{w:World}(h:RdQs w w.heap.size N A n c L)(h':RdQs w w.heap.size N A' n' c' L')(hd:∀ p ∈ L,p.2 ≠ 0)(hd':∀ p ∈ L',p.2 ≠ 0)(hn:n<=1048576)(hn':n'<=1048576)(hN:N<=200000000000)(h1N:1<=N) :
  Calls Tryz.prog 78 #[.slice A n c,.slice A' n' c'] w (RetPq (fun i=>Pq.co (L.map qval) i+Pq.co (L'.map qval) i) w):=by
 have HSZ:=ah (show ∀ i,Qs (N+N+1) (Pq.co (L.map qval) i+Pq.co (L'.map qval) i) from fun i=>(h.sz hd h1N i).add (h'.sz hd' h1N i))
 have HL:=ah (cJ h.len h'.len)
 have HD:=ah (cJ (cop_ne hd) (cop_ne hd'))
 clear hd hd'
 go_enter Tryz.func78,Tryz.ntmps78
 by_cases hlt:n < n'
 ·have hlti:(n:Int) < (n':Int):=by omega
  have HM:=ah (show n<=n'/\n'<=n' by omega)
  clear hlt
  have hmk:=make_qs Tryz.underlying73 n' (by omega)
  have hZ0:=QB.made w n'
  have hB0:=(Below.refl w.heap.size w).alloc nR (.cells (qcs (List.replicate n' zq)).toArray 47)
  go_wp2_with fail
  generalize w.alloc (.cells (qcs (List.replicate n' zq)).toArray 47)=W1 at *
  obtain ⟨g,hg⟩:∃ g,g=w.heap.size:=⟨_,rfl⟩
  rw [<- hg] at hZ0 ⊢
  have HG:=ah (show w.heap.size<=g by rw [hg];exact nR)
  clear hmk hg
  go_loopw [20] (fun iv wr=>∃ (j:Nat) (E:List (Ent × Ent)),iv=.int .i64 j/\j<=n'/\QB wr g E/\Hid (E.length=n')/\EntJ wr w.heap.size E (fun i=>Pq.co (L.map qval) i+Pq.co (L'.map qval) i) j/\Below w.heap.size w wr) (fun iv _=>n'-(intOf iv).toNat)
  case atStart=>exact ⟨0,_,rfl,nZ,hZ0,ah (by simp),EntJ.zero _ _ _ _,hB0⟩
  case round =>
   clear hZ0 hB0
   obtain ⟨j,E,rfl,hj,hZ,hEl,hE,hB⟩:=hrel
   by_cases hjm:j=n'
   ·have hmj:=hjm.symm
    subst hmj
    clear hjm
    have ho:=hZ.own hE HG.out hEl.out (by unfold maxLen;omega)
    have hrd:=ho.rd (N:=N+N+1) (fun x hx=>by
     obtain ⟨i,_,rfl⟩:=List.mem_map.1 hx
     exact HSZ.out i)
    go_wp2_with fail
    refine (rqnorm_own hrd (by omega) (by omega)).mono ?_
    rintro _ W4 ⟨A4,n4,c4,M4,rfl,ho4,hM4,hb4⟩
    go_wp2
    go_ret
    exact ⟨_,_,_,M4,rfl,ho4.base hB.size,ah (hM4.out.congr (range_co fun i hi=>by rw [Pq.co_ge (L:=L.map qval) (by rw [List.length_map,HL.out.1];have:=HM.out;omega),Pq.co_ge (L:=L'.map qval) (by rw [List.length_map,HL.out.2];have:=HM.out;omega),Rat.add_zero])),hB.trans (hb4.mono hB.size)⟩
   ·have hjl:j < n':=by omega
    have hjli:(j:Int) < (n':Int):=by omega
    clear hjm
    have HZ:=ah hZ
    have HE:=ah hE
    clear hZ hE
    go_wp2_with fail
    refine (rqat_any j (h.next hB) h1N).mono ?_
    rintro _ W2 ⟨s1,A1,n1,c1,s2,A2,n2,c2,rfl,hr1,hr2,hn1,hn2,hb2⟩
    have hB2:=hB.trans (hb2.mono hB.size)
    go_wp2_with fail
    refine (rqat_any j (h'.next hB2) h1N).mono ?_
    rintro _ W3 ⟨s3,A3,n3,c3,s4,A4,n4,c4,rfl,hr3,hr4,hn3,hn4,hb3⟩
    have hB3:=hB2.trans (hb3.mono hB2.size)
    go_wp2_with fail
    refine (rQAdd_any (N:=N) (hr1.next hb3) (hr2.next hb3) hr3 hr4 ⟨hn1,hn2,hn3,hn4⟩ hN (HD.out.1 j) (HD.out.2 j)).mono ?_
    rintro _ W5 ⟨s5,A5,n5,c5,s6,A6,n6,c6,q,rfl,ho5,hq,hb5⟩
    have hb25:=hb2.trans ((hb3.trans (hb5.mono hb3.size)).mono hb2.size)
    have hB5:=hB.trans (hb25.mono hB.size)
    have hZ4:=HZ.out.next hb25
    have hE4:=HE.out.next hb25
    obtain ⟨e,he⟩:∃ e,E[j]?=some e:=⟨E[j]'(by rw [hEl.out];exact hjl),gE _⟩
    obtain ⟨k0,k1,k2,k3⟩:=hZ4.cells he
    have f0:=hZ4.frozen (j*4)
    have f1:=hZ4.frozen (j*4+1)
    have f2:=hZ4.frozen (j*4+2)
    have f3:=hZ4.frozen (j*4+3)
    have HZ5:=ah (hZ4.store j ((s5,A5,n5,c5),(s6,A6,n6,c6)))
    have HE5:=ah (hE4.store (e:=((s5,A5,n5,c5),(s6,A6,n6,c6))) hZ4 (by have:=ho5.base (b':=w.heap.size) hB3.size;rw [hq.out] at this;show OwQ W5 w.heap.size s5 A5 n5 c5 s6 A6 n6 c6 (Pq.co (L.map qval) j+Pq.co (L'.map qval) j);rw [<- qval_cop,<- qval_cop];exact this))
    have HB5:=ah (below_setQ hB5 HG.out j ((s5,A5,n5,c5),(s6,A6,n6,c6)))
    unfold setQ at HZ5 HE5 HB5
    clear hb2 hb3 hb5 hb25 hB hB2 hB3 hB5 hZ4 hE4 he ho5 hr1 hr2 hr3 hr4 hq
    go_wp2_with fail
    go_roundw
    case rel=>exact ⟨j+1,E.set j ((s5,A5,n5,c5),(s6,A6,n6,c6)),by go_num,by omega,HZ5.out,ah (by rw [List.length_set];exact hEl.out),HE5.out,HB5.out⟩
    case measure=>simp [intOf];omega
 ·have hlti:decide (n < n')=false:=by simp;omega
  have HM:=ah (show n<=n/\n'<=n by omega)
  clear hlt
  have hmk:=make_qs Tryz.underlying73 n (by omega)
  have hZ0:=QB.made w n
  have hB0:=(Below.refl w.heap.size w).alloc nR (.cells (qcs (List.replicate n zq)).toArray 47)
  go_wp2_with fail
  generalize w.alloc (.cells (qcs (List.replicate n zq)).toArray 47)=W1 at *
  obtain ⟨g,hg⟩:∃ g,g=w.heap.size:=⟨_,rfl⟩
  rw [<- hg] at hZ0 ⊢
  have HG:=ah (show w.heap.size<=g by rw [hg];exact nR)
  clear hmk hg
  go_loopw [20] (fun iv wr=>∃ (j:Nat) (E:List (Ent × Ent)),iv=.int .i64 j/\j<=n/\QB wr g E/\Hid (E.length=n)/\EntJ wr w.heap.size E (fun i=>Pq.co (L.map qval) i+Pq.co (L'.map qval) i) j/\Below w.heap.size w wr) (fun iv _=>n-(intOf iv).toNat)
  case atStart=>exact ⟨0,_,rfl,nZ,hZ0,ah (by simp),EntJ.zero _ _ _ _,hB0⟩
  case round =>
   clear hZ0 hB0
   obtain ⟨j,E,rfl,hj,hZ,hEl,hE,hB⟩:=hrel
   by_cases hjm:j=n
   ·have hmj:=hjm.symm
    subst hmj
    clear hjm
    have ho:=hZ.own hE HG.out hEl.out (by unfold maxLen;omega)
    have hrd:=ho.rd (N:=N+N+1) (fun x hx=>by
     obtain ⟨i,_,rfl⟩:=List.mem_map.1 hx
     exact HSZ.out i)
    go_wp2_with fail
    refine (rqnorm_own hrd (by omega) (by omega)).mono ?_
    rintro _ W4 ⟨A4,n4,c4,M4,rfl,ho4,hM4,hb4⟩
    go_wp2
    go_ret
    exact ⟨_,_,_,M4,rfl,ho4.base hB.size,ah (hM4.out.congr (range_co fun i hi=>by rw [Pq.co_ge (L:=L.map qval) (by rw [List.length_map,HL.out.1];have:=HM.out;omega),Pq.co_ge (L:=L'.map qval) (by rw [List.length_map,HL.out.2];have:=HM.out;omega),Rat.add_zero])),hB.trans (hb4.mono hB.size)⟩
   ·have hjl:j < n:=by omega
    have hjli:(j:Int) < (n:Int):=by omega
    clear hjm
    have HZ:=ah hZ
    have HE:=ah hE
    clear hZ hE
    go_wp2_with fail
    refine (rqat_any j (h.next hB) h1N).mono ?_
    rintro _ W2 ⟨s1,A1,n1,c1,s2,A2,n2,c2,rfl,hr1,hr2,hn1,hn2,hb2⟩
    have hB2:=hB.trans (hb2.mono hB.size)
    go_wp2_with fail
    refine (rqat_any j (h'.next hB2) h1N).mono ?_
    rintro _ W3 ⟨s3,A3,n3,c3,s4,A4,n4,c4,rfl,hr3,hr4,hn3,hn4,hb3⟩
    have hB3:=hB2.trans (hb3.mono hB2.size)
    go_wp2_with fail
    refine (rQAdd_any (N:=N) (hr1.next hb3) (hr2.next hb3) hr3 hr4 ⟨hn1,hn2,hn3,hn4⟩ hN (HD.out.1 j) (HD.out.2 j)).mono ?_
    rintro _ W5 ⟨s5,A5,n5,c5,s6,A6,n6,c6,q,rfl,ho5,hq,hb5⟩
    have hb25:=hb2.trans ((hb3.trans (hb5.mono hb3.size)).mono hb2.size)
    have hB5:=hB.trans (hb25.mono hB.size)
    have hZ4:=HZ.out.next hb25
    have hE4:=HE.out.next hb25
    obtain ⟨e,he⟩:∃ e,E[j]?=some e:=⟨E[j]'(by rw [hEl.out];exact hjl),gE _⟩
    obtain ⟨k0,k1,k2,k3⟩:=hZ4.cells he
    have f0:=hZ4.frozen (j*4)
    have f1:=hZ4.frozen (j*4+1)
    have f2:=hZ4.frozen (j*4+2)
    have f3:=hZ4.frozen (j*4+3)
    have HZ5:=ah (hZ4.store j ((s5,A5,n5,c5),(s6,A6,n6,c6)))
    have HE5:=ah (hE4.store (e:=((s5,A5,n5,c5),(s6,A6,n6,c6))) hZ4 (by have:=ho5.base (b':=w.heap.size) hB3.size;rw [hq.out] at this;show OwQ W5 w.heap.size s5 A5 n5 c5 s6 A6 n6 c6 (Pq.co (L.map qval) j+Pq.co (L'.map qval) j);rw [<- qval_cop,<- qval_cop];exact this))
    have HB5:=ah (below_setQ hB5 HG.out j ((s5,A5,n5,c5),(s6,A6,n6,c6)))
    unfold setQ at HZ5 HE5 HB5
    clear hb2 hb3 hb5 hb25 hB hB2 hB3 hB5 hZ4 hE4 he ho5 hr1 hr2 hr3 hr4 hq
    go_wp2_with fail
    go_roundw
    case rel=>exact ⟨j+1,E.set j ((s5,A5,n5,c5),(s6,A6,n6,c6)),by go_num,by omega,HZ5.out,ah (by rw [List.length_set];exact hEl.out),HE5.out,HB5.out⟩
    case measure=>simp [intOf];omega
theorem rqScale_any {N:Nat}{s s':Bool}{A A' A'':Option Addr}{n c n' c' n'' c'':Nat}{L:List (Int × Int)}{z d:Int}{w:World}(h:RdQs w w.heap.size N A n c L)(h':RdZ w w.heap.size s A' n' c' z)(h'':RdZ w w.heap.size s' A'' n'' c'' d)(hd:∀ p ∈ L,p.2 ≠ 0)(hd0:d ≠ 0)(hn:n<=1048576)(hn':n'<=N)(hn'':n''<=N)(hN:N<=200000000000)(h1N:1<=N) :
  Calls Tryz.prog 133 #[.slice A n c,.agg #[.bool s,.slice A' n' c',.bool s',.slice A'' n'' c'']] w (RetPq (fun i=>Pq.co (L.map qval) i*Rat.divInt z d) w):=by
 have HSZ:=ah (show ∀ i,Qs (N+N) (Pq.co (L.map qval) i*Rat.divInt z d) from fun i=>(h.sz hd h1N i).mul (Qs.divInt hd0 (nT h'.len hn') (nT h''.len hn'')))
 have HLEN:=ah h.len
 have HD:=ah (cJ hd hd0)
 obtain ⟨W1,HW1⟩:∃ W,W=w.alloc (.cells #[.bool s,.slice A' n' c',.bool s',.slice A'' n'' c''] 47):=⟨_,rfl⟩
 have hX:QC W1 w.heap.size s A' n' c' s' A'' n'' c'':=by rw [HW1];exact QC.new w s A' n' c' s' A'' n'' c''
 have hB:Below w.heap.size w W1:=by rw [HW1];exact bA
 obtain ⟨W2,HW2⟩:∃ W,W=W1.alloc (.cells (qcs (List.replicate n zq)).toArray 47):=⟨_,rfl⟩
 have hmk:=make_qs Tryz.underlying73 n (by omega)
 have hZ0:=QB.made W1 n
 rw [<- HW2] at hZ0
 have hb2:Below W1.heap.size W1 W2:=by rw [HW2];exact bA
 have hB2:=hB.trans (hb2.mono hB.size)
 have hX2:=hX.next hb2
 have e0:W1.heap.size=w.heap.size+1:=by rw [HW1];simp
 rw [e0] at hZ0
 rw [HW1] at HW2
 have HW2:=ah HW2
 have HH:=ah (show ∀ W:World,Below w.heap.size w W->RdQs W W.heap.size N A n c L/\RdZ W W.heap.size s A' n' c' z/\RdZ W W.heap.size s' A'' n'' c'' d from fun W hb=>⟨h.next hb,h'.next hb,h''.next hb⟩)
 clear hX hB hb2 h' h'' h hd hd0 HW1 e0
 go_enter Tryz.func133,Tryz.ntmps133
 go_wp2_with fail
 rw [<- HW2.out]
 clear HW2
 clear HW2
 clear hmk
 go_loopw [12] (fun iv wr=>∃ (j:Nat) (E:List (Ent × Ent)),iv=.int .i64 j/\j<=n/\QB wr (w.heap.size+1) E/\Hid (E.length=n)/\EntJ wr w.heap.size E (fun i=>Pq.co (L.map qval) i*Rat.divInt z d) j/\Below w.heap.size w wr/\QC wr w.heap.size s A' n' c' s' A'' n'' c'') (fun iv _=>n-(intOf iv).toNat)
 case atStart=>exact ⟨0,_,rfl,nZ,hZ0,ah (by simp),EntJ.zero _ _ _ _,hB2,hX2⟩
 case round =>
  clear hZ0 hB2 hX2
  obtain ⟨j,E,rfl,hj,hZ,hEl,hE,hB,hX⟩:=hrel
  by_cases hjm:j=n
  ·have hmj:=hjm.symm
   subst hmj
   clear hjm
   have ho:=hZ.own hE (Nat.le_succ _) hEl.out (by unfold maxLen;omega)
   have hrd:=ho.rd (N:=N+N) (fun x hx=>by
    obtain ⟨i,_,rfl⟩:=List.mem_map.1 hx
    exact HSZ.out i)
   go_wp2_with fail
   refine (rqnorm_own hrd (by omega) (by omega)).mono ?_
   rintro _ W4 ⟨A4,n4,c4,M4,rfl,ho4,hM4,hb4⟩
   go_wp2
   go_ret
   exact ⟨_,_,_,M4,rfl,ho4.base hB.size,ah (hM4.out.congr (range_co fun i hi=>by rw [Pq.co_ge (L:=L.map qval) (by rw [List.length_map,HLEN.out];exact hi),Rat.zero_mul])),hB.trans (hb4.mono hB.size)⟩
  ·have hjl:j < n:=by omega
   have hjli:(j:Int) < (n:Int):=by omega
   clear hjm
   obtain ⟨hl,hr3,hr4⟩:=HH.out wr hB
   obtain ⟨ad,s1,A1,n1,c1,s2,A2,n2,c2,z1,d1,rfl,hbk,hx0,hx1,hx2,hx3,hr1,hr2,hn1,hn2,hp⟩:=qs_at hl hjl
   have HV:=ah (show Pq.co (L.map qval) j=Rat.divInt z1 d1 from Pq.co_get (by rw [List.getElem?_map,hp.out];rfl))
   have HBD:=ah (Below.refl wr.heap.size wr).drew
   have HMU:=ah (rQMul_any (N:=N) (hr1.next HBD.out) (hr2.next HBD.out) (hr3.next HBD.out) (hr4.next HBD.out) ⟨hn1,hn2,hn',hn''⟩ hN (HD.out.1 _ (gM hp.out)) HD.out.2)
   have a0:=hX.c0
   have a1:=hX.c1
   have a2:=hX.c2
   have a3:=hX.c3
   obtain ⟨e,he⟩:∃ e,E[j]?=some e:=⟨E[j]'(by rw [hEl.out];exact hjl),gE _⟩
   have HE:=ah he
   have HZ:=ah hZ
   have HEF:=ah hE
   have HX:=ah hX
   clear hl hr1 hr2 hr3 hr4 he hZ hE hX hp
   go_upto_region 5 with fail
   go_region_with (first
    | (go_at_call 124;refine HMU.out.mono ?_;rintro _ W7 ⟨s5,A5,n5,c5,s6,A6,n6,c6,q,rfl,ho7,hq,hb7⟩;have HB7:=ah (HBD.out.trans hb7);have lb0:=((HZ.out.next HB7.out).cells HE.out).1;have lb1:=((HZ.out.next HB7.out).cells HE.out).2.1;have lb2:=((HZ.out.next HB7.out).cells HE.out).2.2.1;have lb3:=((HZ.out.next HB7.out).cells HE.out).2.2.2;have lf0:=(HZ.out.next HB7.out).frozen (j*4);have lf1:=(HZ.out.next HB7.out).frozen (j*4+1);have lf2:=(HZ.out.next HB7.out).frozen (j*4+2);have lf3:=(HZ.out.next HB7.out).frozen (j*4+3)))
   all_goals
    have HZ7:=ah ((HZ.out.next HB7.out).store j ((s5,A5,n5,c5),(s6,A6,n6,c6)))
    have HE7:=ah ((HEF.out.next HB7.out).store (e:=((s5,A5,n5,c5),(s6,A6,n6,c6))) (HZ.out.next HB7.out) (by have:=ho7.base (b':=w.heap.size) (nT hB.size HBD.out.size);rw [hq.out,<- HV.out] at this;exact this))
    have HX7:=ah (((((HX.out.next HB7.out).far (p:=⟨w.heap.size+1,j*4,none⟩) (by simp) (.bool s5)).far (p:=⟨w.heap.size+1,j*4+1,none⟩) (by simp) (.slice A5 n5 c5)).far (p:=⟨w.heap.size+1,j*4+2,none⟩) (by simp) (.bool s6)).far (p:=⟨w.heap.size+1,j*4+3,none⟩) (by simp) (.slice A6 n6 c6))
    have HBF:=ah (below_setQ (hB.trans (HB7.out.mono hB.size)) (Nat.le_succ w.heap.size) j ((s5,A5,n5,c5),(s6,A6,n6,c6)))
    unfold setQ at HZ7 HE7 HBF
    clear hx0 hx1 hx2 hx3 a0 a1 a2 a3 lb0 lb1 lb2 lb3 lf0 lf1 lf2 lf3 hb7 ho7
    go_wp2
    go_roundw
    case rel=>exact ⟨j+1,E.set j ((s5,A5,n5,c5),(s6,A6,n6,c6)),by go_num,by omega,HZ7.out,ah (by rw [List.length_set];exact hEl.out),HE7.out,HBF.out,HX7.out⟩
    case measure=>simp [intOf];omega
end Go.Proofs.YtjnklbfhelbjgaaGreat
