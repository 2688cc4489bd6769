/- Sc20. -/
import Derived.Test.YtjnklbfhelbjgaaGreatSc19
import Derived.Test.YtjnklbfhelbjgaaGreatSc18
import Derived.Test.YtjnklbfhelbjgaaGreatSc12
import Derived.Test.YtjnklbfhelbjgaaGreatSc13
import Derived.Test.YtjnklbfhelbjgaaGreatSc15
import Derived.Test.YtjnklbfhelbjgaaGreatSc14
import Derived.Test.YtjnklbfhelbjgaaGreatSc00
set_option maxRecDepth 100000
set_option maxHeartbeats 32000000
set_option linter.all false
namespace Go.Proofs.YtjnklbfhelbjgaaGreat
open Go.RowKit Go.IntWalk
attribute [local go_sem ↓] Go.wp_at_zero Go.wp_at_succ
def ScV (PA:List (List (List RawQ)))(d:Int)(kk:Int):Prop:=(FitV PA kk/\kk ≠ 0) ∨ (FitV PA 0/\((d=0/\kk=6) ∨ (d ≠ 0/\kk=0)))
def ScR (PA:List (List (List RawQ)))(x:Rat)(d:Int)(w:World)(e:Ending)(w':World):Prop :=
 (∃ kk:Int,Hid (kk ≠ 0/\ScV PA d kk)/\RetME 0 [] kk w e w') ∨ (Hid (ScV PA d 0)/\RetME (denL (scT (nn PA) x).flatten) (fromN (scT (nn PA) x)) 0 w e w')
section
variable {w w':World}{T:TypeId}{g:Nat}{s s':Bool}{A A' G:Option Addr}{n c n' c' r k:Nat}
theorem QC.keepL (h:QC w g s A n c s' A' n' c')(hT:47 ≠ T)(hk:KeepL T w w'):QC w' g s A n c s' A' n' c':=hk g _ _ _ hT h
theorem MC.keepL (h:MC w g s A n c G r k)(hT:28 ≠ T)(hk:KeepL T w w'):MC w' g s A n c G r k:=hk g _ _ _ hT h
end
section
variable {w w':World}{b n c t k:Nat}{A:Option Addr}{p:Addr}
theorem OwQp.far {L:List Rat}(h:OwQp w b A n c L)(hp:p.block < b)(u:Value):OwQp (w.setCell p u) b A n c L:=by
 obtain ⟨E,h1,h2,h3,h4,h5⟩:=h
 refine ⟨E,h1,⟨h2.1,fun j e y he hy=>⟨(h2.2 j e y he hy).num.far hp u,(h2.2 j e y he hy).den.far hp u⟩⟩,h3,h4,h5.imp id ?_⟩
 rintro ⟨g,cs,k1,k2,k3,k4⟩
 exact ⟨g,cs,k1,k2,(Below.heap_setCell w p u g (by omega)).trans k3,k4⟩
theorem OwL.far {α:Type}{T:TypeId}{P:World->Nat->Option Addr->Nat->Nat->α->Prop}{LL:List α}(hP:∀ {A n c x},P w b A n c x->∀ u,P (w.setCell p u) b A n c x)(h:OwL T P w b A n c LL)(hp:p.block < b)(u:Value):OwL T P (w.setCell p u) b A n c LL:=by
 obtain ⟨E,h1,h2,h3⟩:=h
 exact ⟨E,row_far h1 hp u,h2,h3.1,fun j e z he hz=>hP (h3.2 j e z he hz) u⟩
theorem Tg.far {MM:List (List (List Rat))}(h:Tg w b t MM k)(hp:p.block < b)(u:Value):Tg (w.setCell p u) b t MM k:=by
 obtain ⟨A,n,c,h1,h2,h3⟩:=h
 exact ⟨A,n,c,h1.far (by omega) u,h2,OwL.far (fun h4 u=>OwL.far (fun h5 u=>h5.far hp u) h4 hp u) h3 hp u⟩
theorem keepL_putQ {g:Nat}{s s':Bool}{A A':Option Addr}{n c n' c':Nat}(h:QC w g s A n c s' A' n' c')(t:Bool)(D:Option Addr)(k m:Nat)(t':Bool)(D':Option Addr)(k' m':Nat):KeepL 47 w (putQ w g t D k m t' D' k' m'):=fun i cs T' f ht hi=>by
 have hne:i ≠ g:=by
  rintro rfl
  unfold QC at h
  rw [hi] at h
  injection h with h
  injection h with _ h _
  exact ht h
 unfold putQ
 rw [Below.heap_setCell _ (⟨g,3,none⟩:Addr) _ i hne,Below.heap_setCell _ (⟨g,2,none⟩:Addr) _ i hne,Below.heap_setCell _ (⟨g,1,none⟩:Addr) _ i hne,Below.heap_setCell _ (⟨g,0,none⟩:Addr) _ i hne]
 exact hi
theorem Tg.putQ {g:Nat}{MM:List (List (List Rat))}(h:Tg w b t MM k)(hg:g < b)(u:Bool)(D:Option Addr)(q m:Nat)(u':Bool)(D':Option Addr)(q' m':Nat):Tg (putQ w g u D q m u' D' q' m') b t MM k :=
 (((h.far (p:=⟨g,0,none⟩) hg _).far (p:=⟨g,1,none⟩) hg _).far (p:=⟨g,2,none⟩) hg _).far (p:=⟨g,3,none⟩) hg _
end
theorem PX.grownQ {w w1:World}{b g k n:Nat}{T T':TypeId}{xs ys:List Value}{v:Value}(h:PX w g T' ys)(hE:w.ownsRow b T k v n xs)(hT:T' ≠ T)(hg:w.grownBy w1 v.ownBlock):PX w1 g T' ys:=by
 obtain ⟨cs,h1,h2⟩:=h
 exact ⟨cs,grown_heap hE hg h1 hT,h2⟩
theorem own_keepLK {w w':World}{b k n:Nat}{T T':TypeId}{xs:List Value}{v:Value}(hE:w.ownsRow b T' k v n xs)(hT:T' ≠ T)(hk:KeepL T w w'):w'.ownsRow b T' k v n xs:=by
 refine ⟨hE.1,?_⟩
 rcases hE.2 with h0 | ⟨g,cap,cur,h1,h2,h3,h4⟩
 ·exact .inl h0
 ·exact .inr ⟨g,cap,cur,h1,h2,hk _ _ _ _ hT h3,h4⟩
theorem keepL_grownK {w w1:World}{b k n:Nat}{T:TypeId}{xs:List Value}{v:Value}(hE:w.ownsRow b T k v n xs)(hg:w.grownBy w1 v.ownBlock):KeepL T w w1:=fun _ _ _ _ ht hi=>grown_heap hE hg hi ht
theorem stayPr:Stay 72 OwP:=OwL.stay (stayQ (by decide) (by decide)) (by decide)
theorem stayQr:Stay 72 OwQp:=stayQ (by decide) (by decide)
theorem scalar_any {N K J:Nat}{A A' A'':Option Addr}{n c n' c' n'' c'':Nat}{s s':Bool}{z d:Int}{PA:List (List (List RawQ))}{w:World}(h:RdRpp w w.heap.size N K J A n c PA)(hz:RdZ w w.heap.size s A' n' c' z)(hd:RdZ w w.heap.size s' A'' n'' c'' d)
  (hn:n<=1048576) (hJ:J<=1048576) (hK:K<=1048576) (hN:N<=1000000000) (h1N:1<=N) (hn':n'<=1048576) (hn'':n''<=1048576) :
  Calls Tryz.prog 18 #[.slice A n c,.agg #[.bool s,.slice A' n' c',.bool s',.slice A'' n'' c'']] w (ScR PA (Rat.divInt z d) d w):=by
 obtain ⟨i0,hi,hz0,hz1,hz2⟩:=info_parts infoQ
 obtain ⟨W1,HW1⟩:∃ W,W=(w.alloc (.cells #[.bool s,.slice A' n' c',.bool s',.slice A'' n'' c''] 47)).alloc (.cells #[.bool false,.slice none 0 0,.slice none 0 0] 28):=⟨_,rfl⟩
 have hb1:Below w.heap.size w W1:=by rw [HW1];exact (bA).alloc (by simp) _
 have hX:QC W1 w.heap.size s A' n' c' s' A'' n'' c'':=by rw [HW1];exact (QC.new w s A' n' c' s' A'' n'' c'').next (bA)
 have hM:MC W1 (w.heap.size+1) false none 0 0 none 0 0:=by
  rw [HW1]
  have:=MC.new (w.alloc (.cells #[.bool s,.slice A' n' c',.bool s',.slice A'' n'' c''] 47)) false none 0 0 none 0 0
  simpa using this
 have HM1:=ah hM
 have HX1:=ah hX
 have HB1:=ah hb1
 have HF:=ah (fit_any (h.next hb1) hn hJ hK hN h1N)
 have HZ:=ah (show ∀ W,Below w.heap.size w W->RdZ W W.heap.size s A' n' c' z/\RdZ W W.heap.size s' A'' n'' c'' d from fun W hb=>⟨hz.next hb,hd.next hb⟩)
 have HW1:=ah HW1
 have HNN:=ah (cJ hn' hn'')
 have HXS:=ah (show d ≠ 0->Qs 1048576 (Rat.divInt z d) from fun h0=>Qs.divInt h0 (nT hz.len hn') (nT hd.len hn''))
 clear h hz hd hb1 hX hM hn hJ hK hN h1N hn' hn''
 go_enter Tryz.func18,Tryz.ntmps18
 go_wp2_with fail
 rw [<- HW1.out]
 clear HW1
 clear HW1
 refine HF.out.mono ?_
 clear HF
 intro _ W2 hpost
 rcases hpost with ⟨kk,rfl,hk,hb2⟩ | ⟨t,rfl,hV,hT,hb2⟩
 ·have hk0:¬kk=0:=hk.out.1
  have hk1:(kk == 0)=false:=by simp;exact hk0
  have hM2:=HM1.out.next hb2
  have r0:=hM2.c0
  have r1:=hM2.c1
  have r2:=hM2.c2
  have f0:=hM2.fz 0
  have f1:=hM2.fz 1
  have f2:=hM2.fz 2
  have HSS:=ah (hM2.store false none 0 0 none 0 0)
  have HV:=ah (show kk ≠ 0/\ScV PA d kk from ⟨hk0,.inl ⟨hk.out.2,hk0⟩⟩)
  have HBF:=ah (below_putM (HB1.out.trans (hb2.mono HB1.out.size)) (show w.heap.size<=w.heap.size+1 by omega) false none 0 0 none 0 0)
  unfold putM at HSS HBF
  clear hk hb2 hM2
  go_wp2_with fail
  generalize ((W2.setCell ⟨w.heap.size+1,0,none⟩ (.bool false)).setCell ⟨w.heap.size+1,1,none⟩ (.slice none 0 0)).setCell ⟨w.heap.size+1,2,none⟩ (.slice none 0 0)=W9 at *
  have z0:=HSS.out.c0
  have z1:=HSS.out.c1
  have z2:=HSS.out.c2
  exact bodyPost_ret (by simp [results,Tryz.results18,go_sem,z0,z1,z2]) rfl (.inl ⟨kk,HV,false,none,0,0,none,0,0,0,[],kk,rfl,OwZ.zero _ _,OwMs.nil _ _,ah ⟨rfl,rfl,rfl⟩,HBF.out⟩)
 ·have HV:=hV
  have HB2:=tM HB1 hb2
  have HT2:=ah hT
  have HG2:=ah (show w.heap.size < W1.heap.size from HX1.out.lt)
  have hX2:=HX1.out.next hb2
  have HM2:=ah (HM1.out.next hb2)
  have HX2:=ah hX2
  have a0:=hX2.c0
  have a1:=hX2.c1
  have a2:=hX2.c2
  have a3:=hX2.c3
  clear hV hb2 hT hX2
  go_wp2_with fail
  clear a0 a1 a2 a3
  by_cases h0:d=0
  ·refine (qnorm_zero (by have:=(HZ.out _ HB2.out).2;rw [h0] at this;exact this) (by have:=HNN.out.2;omega)).mono ?_
   rintro _ W3 ⟨rfl,hb3⟩
   have hX3:=HX2.out.next hb3
   have hM3:=HM2.out.next hb3
   have x0:=hX3.c0
   have x1:=hX3.c1
   have x2:=hX3.c2
   have x3:=hX3.c3
   have e0:=hX3.fz 0
   have e1:=hX3.fz 1
   have e2:=hX3.fz 2
   have e3:=hX3.fz 3
   have hM4:=hM3.keepL (by decide) (keepL_putQ hX3 false none 0 0 false none 0 0)
   have HM4:=ah hM4
   have HSS:=ah (hM4.store false none 0 0 none 0 0)
   have HV6:=ah (show (6:Int) ≠ 0/\ScV PA d 6 from ⟨by decide,.inr ⟨HV.out,.inl ⟨h0,rfl⟩⟩⟩)
   have HBF:=ah (below_putM (below_putQ (HB2.out.trans (hb3.mono HB2.out.size)) (Nat.le_refl w.heap.size) false none 0 0 false none 0 0) (show w.heap.size<=w.heap.size+1 by omega) false none 0 0 none 0 0)
   unfold putM at HSS HBF
   obtain ⟨W4,HW4⟩:∃ W,W=putQ W3 w.heap.size false none 0 0 false none 0 0:=⟨_,rfl⟩
   rw [<- HW4] at HSS HBF HM4
   unfold putQ at HW4
   have HW4:=ah HW4
   clear hb3 hX3 hM3 hM4
   go_upto_if 30 with fail
   rw [<- HW4.out]
   clear HW4 x0 x1 x2 x3 e0 e1 e2 e3
   clear HW4
   have r0:=HM4.out.c0
   have r1:=HM4.out.c1
   have r2:=HM4.out.c2
   have f0:=HM4.out.fz 0
   have f1:=HM4.out.fz 1
   have f2:=HM4.out.fz 2
   go_wp2_with fail
   generalize ((W4.setCell ⟨w.heap.size+1,0,none⟩ (.bool false)).setCell ⟨w.heap.size+1,1,none⟩ (.slice none 0 0)).setCell ⟨w.heap.size+1,2,none⟩ (.slice none 0 0)=W9 at *
   have z0:=HSS.out.c0
   have z1:=HSS.out.c1
   have z2:=HSS.out.c2
   exact bodyPost_ret (by simp [results,Tryz.results18,go_sem,z0,z1,z2]) rfl (.inl ⟨6,HV6,false,none,0,0,none,0,0,0,[],6,rfl,OwZ.zero _ _,OwMs.nil _ _,ah ⟨rfl,rfl,rfl⟩,HBF.out⟩)
  ·have HD0:=ah h0
   clear h0
   refine (qnorm_any (HZ.out _ HB2.out).1 (HZ.out _ HB2.out).2 (by have:=HNN.out.1;omega) (by have:=HNN.out.2;omega) HD0.out).mono ?_
   rintro _ W3 ⟨s3,A3,n3,c3,s4,A4,n4,c4,x,rfl,ho3,hy,hb3⟩
   have HXV:=ah hy.out
   have HXQ:=ah (show Qs 1048576 x by rw [hy.out];exact HXS.out HD0.out)
   have hX3:=HX2.out.next hb3
   have hM3:=HM2.out.next hb3
   have x0:=hX3.c0
   have x1:=hX3.c1
   have x2:=hX3.c2
   have x3:=hX3.c3
   have e0:=hX3.fz 0
   have e1:=hX3.fz 1
   have e2:=hX3.fz 2
   have e3:=hX3.fz 3
   obtain ⟨W4,HW4⟩:∃ W,W=putQ W3 w.heap.size s3 A3 n3 c3 s4 A4 n4 c4:=⟨_,rfl⟩
   have HM4:=ah (show MC W4 (w.heap.size+1) false none 0 0 none 0 0 by rw [HW4];exact hM3.keepL (by decide) (keepL_putQ hX3 s3 A3 n3 c3 s4 A4 n4 c4))
   have HX4:=ah (show QC W4 w.heap.size s3 A3 n3 c3 s4 A4 n4 c4 by rw [HW4];exact hX3.store s3 A3 n3 c3 s4 A4 n4 c4)
   have HT4:=ah (show Tg W4 W1.heap.size t (nn PA) (colq (nn PA)) by rw [HW4];exact (HT2.out.next hb3).putQ HG2.out s3 A3 n3 c3 s4 A4 n4 c4)
   have HO4:=ah (show OwQ W4 w.heap.size s3 A3 n3 c3 s4 A4 n4 c4 x by rw [HW4];exact (ho3.base HB2.out.size).keep (keep_putQ hX3 s3 A3 n3 c3 s4 A4 n4 c4))
   have HB4:=ah (show Below w.heap.size w W4 by rw [HW4];exact below_putQ (HB2.out.trans (hb3.mono HB2.out.size)) (Nat.le_refl w.heap.size) s3 A3 n3 c3 s4 A4 n4 c4)
   unfold putQ at HW4
   have HW4:=ah HW4
   clear hb3 hX3 hM3 hy ho3 HX2 HM2 HT2
   go_upto_if 30 with fail
   rw [<- HW4.out]
   clear HW4 x0 x1 x2 x3 e0 e1 e2 e3
   clear HW4
   obtain ⟨A5,n5,c5,hp5,hbt,ho5⟩:=HT4.out
   have HSZ:=ah (show (nn PA).length<=24/\colq (nn PA)<=24 by
    have h1:=HV.out.zero.2.2
    unfold Bigg at h1
    omega)
   have HL5:=ah (show (nn PA).length=n5 from OwL.len ho5)
   have hn5:n5<=24:=by rw [<- HL5.out];exact HSZ.out.1
   have hmk:=make_qr n5 (by omega)
   obtain ⟨W5,HW5⟩:∃ W,W=W4.alloc (.cells (madeCells #[.slice none 0 0] n5) 72):=⟨_,rfl⟩
   have hb5:Below W4.heap.size W4 W5:=by rw [HW5];exact bA
   obtain ⟨gr,hgr⟩:∃ g,g=W4.heap.size:=⟨_,rfl⟩
   obtain ⟨F,hF⟩:∃ F:Nat->List Rat,F=fun i=>(scT (nn PA) x).getD i []:=⟨_,rfl⟩
   have HFF:=ah hF
   have HR5:=ah (show Rw W5 w.heap.size gr n5 0 (List.replicate n5 (none,0,0)) F by rw [HW5,hgr];exact Rw.made W4 F HB4.out.size (by omega))
   have HG5:=ah (show w.heap.size<=gr by rw [hgr];exact HB4.out.size)
   have HB5:=tM HB4 hb5
   have HX5:=ah (show ∀ W,KeepL 72 W5 W->QC W w.heap.size s3 A3 n3 c3 s4 A4 n4 c4/\MC W (w.heap.size+1) false none 0 0 none 0 0/\OwQ W w.heap.size s3 A3 n3 c3 s4 A4 n4 c4 x/\OwPp W W1.heap.size A5 n5 c5 (nn PA) from fun W hk=>⟨(HX4.out.next hb5).keepL (by decide) hk,(HM4.out.next hb5).keepL (by decide) hk,(HO4.out.next hb5).keep (hk.q (by decide) (by decide)).1,OwL.keep stayPr (by decide) (OwL.next stayPp ho5 hb5) hk⟩)
   have k0:=hp5.cell (i:=0) rfl
   have k0':(W4.alloc (.cells (madeCells #[.slice none 0 0] n5) 72)).cell? ⟨t,0,none⟩=some (.slice A5 n5 c5):=by rw [<- HW5];exact (hp5.next hb5).cell (i:=0) rfl
   have HW5:=ah HW5
   clear hF hb5 hp5 hbt ho5 HX4 HM4 HO4 HT4
   go_wp2_with fail
   rw [<- HW5.out,<- hgr]
   clear HW5 hgr
   clear HW5 k0 k0'
   go_loopw [44] (fun iv wr=>∃ (i:Nat) (E:List (Option Addr × Nat × Nat)),iv=.int .i64 (i:Int)/\i<=n5/\Hid (Rw wr w.heap.size gr n5 i E F)/\Hid (KeepL 72 W5 wr)/\Below w.heap.size w wr) (fun iv _=>n5-(intOf iv).toNat)
   case atStart=>exact ⟨0,_,rfl,nZ,HR5,ah (.of bR),HB5.out⟩
   case round =>
    obtain ⟨i,E,rfl,hi5,hR,hK,hB⟩:=hrel
    by_cases hin:i=n5
    ·have HQS:=ah (show OwQss wr w.heap.size (some ⟨gr,0,none⟩) n5 n5 (scT (nn PA) x) by
      have h1:=hR.out
      rw [hin] at h1
      have e:rowF n5 F=scT (nn PA) x:=by
       have h2:=rowF_list (scT (nn PA) x) []
       rw [show (scT (nn PA) x).length=n5 by unfold scT;rw [List.length_map,HL5.out]] at h2
       rw [HFF.out]
       exact h2
      rw [<- e]
      exact h1.all)
     have HMM:=ah (HX5.out wr hK.out).2.1
     have HBW:=ah hB
     subst hin
     clear hR hK hB
     go_wp2_with fail
     refine (mFromB_any (N:=110000000) (q:=colq (nn PA)) HQS.out HBW.out.size (scT_len x HV.out.zero.2.1) (scT_qs (fit_sm HV.out) HXQ.out) (by decide) (by decide) hn5 HSZ.out.2).mono ?_
     rintro _ W8 ⟨s8,A8,n8,c8,G8,r8,k8,y8,M8,kk,rfl,ho8,hm8,hv8,hb8⟩
     obtain rfl:kk=0:=hv8.out.2.2
     have HB8:=tM HBW hb8
     have hMz:=HMM.out.next hb8
     have r0:=hMz.c0
     have r1:=hMz.c1
     have r2:=hMz.c2
     have f0:=hMz.fz 0
     have f1:=hMz.fz 1
     have f2:=hMz.fz 2
     have HSS:=ah (hMz.store s8 A8 n8 c8 G8 r8 k8)
     have HU:=ah ((ho8.base (b':=w.heap.size) HBW.out.size).keep (keepI_put hMz s8 A8 n8 c8 G8 r8 k8).1)
     have HWL:=ah (show w.heap.size+1 < wr.heap.size from HMM.out.lt)
     have HQQ:=ah ((hm8.put hMz HWL.out s8 A8 n8 c8 G8 r8 k8).base (b':=w.heap.size) HBW.out.size)
     have HF:=ah (below_putM HB8.out (show w.heap.size<=w.heap.size+1 by omega) s8 A8 n8 c8 G8 r8 k8)
     have HYV:=ah (show y8=denL (scT (nn PA) (Rat.divInt z d)).flatten/\M8=fromN (scT (nn PA) (Rat.divInt z d)) by
      rw [<- HXV.out,<- frD_eq,<- frN_eq]
      exact ⟨hv8.out.1,hv8.out.2.1⟩)
     have HV0:=ah (show ScV PA d 0 from .inr ⟨HV.out,.inr ⟨HD0.out,rfl⟩⟩)
     unfold putM at HSS HU HQQ HF
     clear hMz ho8 hm8 hv8 hb8
     go_wp2_with fail
     generalize ((W8.setCell ⟨w.heap.size+1,0,none⟩ (.bool s8)).setCell ⟨w.heap.size+1,1,none⟩ (.slice A8 n8 c8)).setCell ⟨w.heap.size+1,2,none⟩ (.slice G8 r8 k8)=W9 at *
     have z0:=HSS.out.c0
     have z1:=HSS.out.c1
     have z2:=HSS.out.c2
     exact bodyPost_ret (by simp [results,Tryz.results18,go_sem,z0,z1,z2]) rfl (.inr ⟨HV0,s8,A8,n8,c8,G8,r8,k8,y8,M8,0,rfl,HU.out,HQQ.out,ah ⟨HYV.out.1,HYV.out.2,rfl⟩,HF.out⟩)
    ·have hil:i < n5:=by omega
     have hili:(i:Int) < (n5:Int):=by omega
     obtain ⟨wo,rfl⟩:∃ V,V=wr:=⟨_,rfl⟩
     clear hin
     obtain ⟨g1,A6,n6,c6,LA,rfl,hgl,x1,oa,pa⟩:=(HX5.out wo hK.out).2.2.2.at_ hil
     have HMA:=ah (gM pa.out)
     have HN6:=ah (show LA.length=n6 from OwL.len oa)
     have hn6:n6<=24:=by rw [<- HN6.out,HV.out.zero.2.1 LA HMA.out];exact HSZ.out.2
     have HFI:=ah (show F i=LA.map (valq x) by
      rw [HFF.out]
      exact getD_of (by unfold scT;rw [List.getElem?_map,pa.out];rfl))
     have HE0:=ah (hR.out.rest i nR hil)
     have HSE:=ah (show E.set i (none,0,0)=E from List.ext_getElem? fun q=>by
      by_cases hq:i=q
      ·subst hq
       rw [List.getElem?_set_self (by rw [hR.out.len];exact hil),HE0.out]
      ·rw [List.getElem?_set_ne hq])
     have HO6:=ah (show ∀ W,KeepL 72 wo W->OwP W W1.heap.size A6 n6 c6 LA from fun W hk=>OwL.keep stayQr (by decide) oa hk)
     have HR:=hR
     have HKO:=hK
     have HBO:=ah hB
     clear oa hR hK hB
     go_wp2_with fail
     clear x1
     go_loopw [51] (fun iv wr=>∃ (j c':Nat) (A':Option Addr),iv=.int .i64 (j:Int)/\j<=n6/\Hid (wr.ownsRow w.heap.size 72 1 (.slice (some ⟨gr,0,none⟩) n5 n5) n5 ((E.set i (A',j,c')).map psl))/\OwQs wr wo.heap.size A' j c' ((LA.take j).map (valq x))/\Hid (KeepL 72 wo wr)/\Below w.heap.size w wr/\Hid (wo.heap.size<=wr.heap.size)) (fun iv _=>n6-(intOf iv).toNat)
     case atStart=>exact ⟨0,0,none,rfl,nZ,ah (by rw [HSE.out];exact HR.out.own),OwQs.nil _ _,ah (.of bR),HBO.out,ah nR⟩
     case round =>
      obtain ⟨j,c',A',rfl,hj,hE,ho,hk,hB,hs⟩:=hrel
      by_cases hjn:j=n6
      ·have HRN:=ah (show Rw wr w.heap.size gr n5 (i+1) (E.set i (A',n6,c')) F by
        refine ⟨by rw [<- hjn];exact hE.out,by rw [List.length_set];exact HR.out.len,fun q e hq he=>?_,fun q h1 h2=>?_⟩
        ·by_cases hqi:i=q
         ·subst hqi
          rw [List.getElem?_set_self (by rw [HR.out.len];exact hil)] at he
          injection he with he
          subst he
          rw [HFI.out]
          rw [hjn,List.take_of_length_le (by rw [HN6.out];exact nR)] at ho
          exact ho.p.base HBO.out.size
         ·rw [List.getElem?_set_ne hqi] at he
          exact (HR.out.done q e (by omega) he).keep (hk.out.q (by decide) (by decide))
        ·rw [List.getElem?_set_ne (by omega)]
         exact HR.out.rest q (by omega) h2)
       have HKN:=ah (HKO.out.trans hk.out)
       have HBN:=ah hB
       subst hjn
       clear hE ho hk hB hs
       go_wp2
       go_roundw
       case rel=>exact ⟨i+1,_,by go_num,by omega,HRN,HKN,HBN.out⟩
       case measure=>simp [intOf];omega
      ·have hjl:j < n6:=by omega
       have hjli:(j:Int) < (n6:Int):=by omega
       clear hjn
       obtain ⟨g7,A7,n7,c7,f,rfl,hgl7,x7,of7,pf⟩:=(HO6.out wr hk.out).at_ hjl
       have HFQ:=ah (show Fq f from fit_sm HV.out LA HMA.out f (gM pf.out))
       obtain ⟨hqx,_,hox,_⟩:=HX5.out wr (HKO.out.trans hk.out)
       have HOX:=ah (cJ hox of7)
       have HQX:=ah hqx
       have a0:=hqx.c0
       have a1:=hqx.c1
       have a2:=hqx.c2
       have a3:=hqx.c3
       have HE:=hE
       have HO:=ah ho
       have HK:=hk
       have HB:=ah hB
       have HS:=hs
       have hn7:n7<=101:=by rw [<- of7.len];exact HFQ.out.2.1
       clear hqx hox of7 hE ho hk hB hs
       go_wp2_with fail
       clear a0 a1 a2 a3 x7
       refine (qEval_any (N:=4097) (N':=1048576) (HOX.out.2.rd HFQ.out.qs) HOX.out.1.num.rd HOX.out.1.den.rd (by omega) (by rw [HOX.out.1.num.len];exact HXQ.out.1) (by rw [HOX.out.1.den.len];exact HXQ.out.2) (by
        have:=Nat.mul_le_mul_right (1048576+4097+1) (show n7+1<=102 by omega)
        omega) (by decide) (by decide)).mono ?_
       intro _ W7 hpost
       obtain ⟨s7,B7,m7,k7,s8,B8,m8,k8,y7,kk,rfl,ho7,hv7,hb7⟩:RetQcE wr.heap.size (fun y kk=>y=valq x f/\kk=0) wr _ W7:=by
        rcases hpost with ⟨_,h1⟩ | ⟨h1,_⟩
        ·obtain ⟨s7,B7,m7,k7,s8,B8,m8,k8,y7,kk,h2,h3,h4,h5⟩:=h1
         refine ⟨s7,B7,m7,k7,s8,B8,m8,k8,y7,kk,h2,h3,ah ⟨?_,h4.out.2⟩,h5⟩
         rw [h4.out.1,pr_map,Rat.num_divInt_den]
         show Pq.psum (Pq.co f) x n7=Pq.psum (Pq.co f) x f.length
         rw [HOX.out.2.len]
        ·exact absurd ⟨pr_okD _,qden_ne x⟩ h1
       obtain rfl:kk=0:=hv7.out.2
       have HV7:=ah hv7.out.1
       obtain ⟨V,HV1⟩:∃ V,V=W7.alloc (.cells #[.bool s7,.slice B7 m7 k7,.bool s8,.slice B8 m8 k8] 47):=⟨_,rfl⟩
       have hbV:Below wr.heap.size wr V:=by rw [HV1];exact hb7.alloc hb7.size _
       have HQV:=ah (show QC V W7.heap.size s7 B7 m7 k7 s8 B8 m8 k8 by rw [HV1];exact QC.new W7 s7 B7 m7 k7 s8 B8 m8 k8)
       have HOV:=ah (show OwQ V wr.heap.size s7 B7 m7 k7 s8 B8 m8 k8 y7 by rw [HV1];exact ho7.next (bA))
       have HBV:=ah hbV
       have HDD:=ah (Below.refl V.heap.size V).drew
       have HBD:=ah (hbV.trans (HDD.out.mono hbV.size))
       obtain ⟨_,hpx,_,_⟩:=own_putH (A2:=none) (n2:=0) (c2:=0) (row_next HE.out hbV) (by rw [List.length_set];exact HR.out.len) hil
       have HPX:=ah hpx
       obtain ⟨E1,hE1,hEl1,hEn1⟩:=HO.out.next HBD.out
       have HE1:=ah hE1
       have HEN1:=ah (cJ hEl1 hEn1)
       have hgi:((E.set i (A',j,c')).map psl)[i]?=some (.slice A' j c'):=by
        rw [List.getElem?_map,List.getElem?_set_self (by rw [HR.out.len];exact hil)]
        rfl
       have k0:=hpx.cell hgi
       have k0':=(hpx.next ((Below.refl V.heap.size V).alloc nR (.cells #[.bool s7,.slice B7 m7 k7,.bool s8,.slice B8 m8 k8] 47))).cell hgi
       have q0:=HQV.out.c0
       have q1:=HQV.out.c1
       have q2:=HQV.out.c2
       have q3:=HQV.out.c3
       have HGI:=ah hgi
       have HJN:=ah (show j<=24/\i < n5 by omega)
       have HV1:=ah HV1
       clear hpost ho7 hv7 hb7 hbV hpx hE1 hEl1 hEn1 hgi
       go_upto_region 15 with fail
       rw [<- HV1.out]
       clear HV1
       clear HV1
       go_region_law (refine step_append_sl rfl _ _ 72 rfl wo.heap.size 47 i0 (.agg #[.bool false,.slice none 0 0,.bool false,.slice none 0 0]) 4 64 Tryz.underlying72 hi hz0 hz1 hz2 rfl (by decide) _ _ _ rfl (HE1.out.alloc _) (some ⟨V.heap.size,0,none⟩) 1 1 [.bool s7,.slice B7 m7 k7,.bool s8,.slice B8 m8 k8] rfl rfl (fun e=>by cases e) (fun ad e=>by cases e;exact qcell_new V.drew _ _ _ _ _) (by simp [Value.oneCell']) (by have:=HJN.out;unfold maxLen;omega) (by have:=HJN.out;omega) (by have h1:=HS.out;have h2:=HBD.out.size;simp at h2 ⊢;omega) ?_;intro A9 c9 W9 hown9 hgrow9;have hp9:=(HPX.out.next (HDD.out.trans ((bR.alloc nR (.cells #[.bool s7,.slice B7 m7 k7,.bool s8,.slice B8 m8 k8] 47)).mono HDD.out.size))).grownQ (HE1.out.alloc _) (by decide) hgrow9;have m8c:=hp9.cell HGI.out;have m8f:=hp9.frozen i)
       all_goals
        have hba:Below V.drew.heap.size V.drew (V.drew.alloc (.cells #[.bool s7,.slice B7 m7 k7,.bool s8,.slice B8 m8 k8] 47)):=bA
        have hrow:=own_keepLK ((row_next (row_next HE.out HBD.out) hba)) (by decide) (keepL_grownK (HE1.out.alloc (.cells #[.bool s7,.slice B7 m7 k7,.bool s8,.slice B8 m8 k8] 47)) hgrow9)
        obtain ⟨_,_,hput,hkp⟩:=own_putH (A2:=A9) (n2:=j+1) (c2:=c9) hrow (by rw [List.length_set];exact HR.out.len) HJN.out.2
        rw [List.set_set] at hput
        obtain ⟨A10,c10,e10,ho10⟩:=qs_more (e:=((s7,B7,m7,k7),(s8,B8,m8,k8))) (x:=y7) ((HOV.out.next HDD.out).base (b':=wo.heap.size) HS.out) rfl (HE1.out.alloc _) HEN1.out.1 HEN1.out.2 hown9 hgrow9
        injection e10 with e1 e2 e3
        subst e1 e3
        have hb9:Below wo.heap.size wr W9:=((HBD.out.trans (hba.mono HBD.out.size)).mono HS.out).grown hgrow9 (by have h1:=HS.out;have h2:=HBD.out.size;simp at h2 ⊢;omega) (own_block HE1.out)
        have hk9:KeepL 72 wo W9:=HK.out.below hb9
        have HKN:=ah (hk9.trans hkp)
        have HBN:=ah ((HB.out.trans (hb9.mono HBO.out.size)).setCell (p:=⟨gr,i,none⟩) HG5.out (.slice A9 (j+1) c9))
        have HEN:=ah hput
        have HON:=ah (show OwQs (W9.setCell ⟨gr,i,none⟩ (.slice A9 (j+1) c9)) wo.heap.size A9 (j+1) c9 ((LA.take (j+1)).map (valq x)) by
         rw [List.take_add_one,pf.out,Option.toList_some,List.map_append]
         have h9:=ho10
         rw [HV7.out] at h9
         obtain ⟨E7,k1,k2,k3⟩:=h9
         exact ⟨E7,own_keepLK k1 (by decide) hkp,k2,k3.keep (hkp.q (by decide) (by decide)).1⟩)
        have HSN:=ah (show wo.heap.size<=(W9.setCell ⟨gr,i,none⟩ (.slice A9 (j+1) c9)).heap.size by
         rw [World.size_setCell]
         have h1:=HS.out
         have h2:=HBD.out.size
         have h3:=hgrow9.size
         simp at h2 h3 ⊢
         omega)
        clear hba hrow hput hkp ho10 hown9 hgrow9 hb9 hk9 k0 k0' q0 q1 q2 q3 m8c m8f hp9 HE1 HEN1
        go_wp2
        go_roundw
        case rel=>exact ⟨j+1,c9,A9,by go_num,by have:=HJN.out;omega,HEN,HON.out,HKN,HBN.out,HSN⟩
        case measure=>simp [intOf];omega
abbrev lcF (L:List Int):Int:=L.foldl (fun (g x:Int)=>((Nat.lcm g.natAbs x.natAbs:Nat):Int)) 1
theorem lcm_valP {y x:Int}(hy:0 < y):y*((x.natAbs:Int).tdiv (Int.gcd y x:Int))=((Nat.lcm y.natAbs x.natAbs:Nat):Int):=by
 have h:=lcm_val x y
 rw [Int.gcd_comm,show ((y.natAbs:Nat):Int)=y by omega,Nat.lcm_comm] at h
 rw [<- h,Int.mul_comm]
theorem rLcm_any {N M:Nat}{A:Option Addr}{n c:Nat}{L:List Int}{w:World}(h:RdZs w w.heap.size N A n c L)(hp:∀ x ∈ L,0 < x)(hN:N<=1000000000000)(hM:M<=1000000000000)(hS:∀ j,Zz.zl (lcF (L.take j))<=M) :
  Calls Tryz.prog 177 #[.slice A n c] w (RetI (lcF L) w):=by
 have HLEN:=ah h.len
 have HP:=ah hp
 have HSZ:=ah hS
 clear hp hS
 have hn48:n<=9223372036854775807:=by
  have h1:=h.mx
  have h2:=h.le
  unfold maxLen at h1
  omega
 obtain ⟨W1,HW1⟩:∃ W,W=w.alloc (.cells #[.bool false,.slice none 0 0] 25):=⟨_,rfl⟩
 have hR:ZC W1 w.heap.size false none 0 0:=by rw [HW1];exact ZC.new w false none 0 0
 have hB:Below w.heap.size w W1:=by rw [HW1];exact bA
 have HW1:=ah HW1
 go_enter Tryz.func177,Tryz.ntmps177
 go_wp2_with fail
 rw [<- HW1.out]
 clear HW1
 clear HW1
 refine (rIOf_any 1 (by decide) (by decide) W1).mono ?_
 rintro _ W2 ⟨s2,A2,n2,c2,y2,rfl,ho2,hy2,hb2⟩
 obtain rfl:y2=1:=hy2.out
 obtain ⟨W3,HW3⟩:∃ W,W=W2.alloc (.cells #[.bool s2,.slice A2 n2 c2] 25):=⟨_,rfl⟩
 have hb3:Below W2.heap.size W2 W3:=by rw [HW3];exact bA
 have hb13:=hb2.trans (hb3.mono hb2.size)
 have hC:ZC W3 W2.heap.size s2 A2 n2 c2:=by rw [HW3];exact ZC.new W2 s2 A2 n2 c2
 have hR3:=hR.next hb13
 have hB3:=hB.trans (hb13.mono hB.size)
 have ho3:=ho2.next hb3
 have HGR:=ah (show w.heap.size < W1.heap.size/\W1.heap.size<=W2.heap.size from ⟨hR.lt,hb2.size⟩)
 have HG3:=ah (show W2.heap.size < W3.heap.size from hC.lt)
 have HW3:=ah HW3
 clear hR hB hb2 hb3 hb13 ho2 hy2
 obtain ⟨gm,hgm⟩:∃ g,g=W2.heap.size:=⟨_,rfl⟩
 go_wp2_with fail
 rw [<- HW3.out]
 clear HW3
 clear HW3
 rw [<- hgm] at hC HG3 HGR ⊢
 clear hgm
 go_loopw [11] (fun iv wr=>∃ (j:Nat) (s:Bool) (A':Option Addr) (n' c':Nat) (y:Int),iv=.int .i64 j/\j<=n/\ZC wr gm s A' n' c'/\ZC wr w.heap.size false none 0 0/\Hid (W3.heap.size<=wr.heap.size)/\OwZ wr W1.heap.size s A' n' c' y/\Hid (y=lcF (L.take j)/\0 < y)/\Below w.heap.size w wr) (fun iv _=>n-(intOf iv).toNat)
 case atStart=>exact ⟨0,s2,A2,n2,c2,1,rfl,nZ,hC,hR3,ah nR,ho3,ah ⟨rfl,by decide⟩,hB3⟩
 case round =>
  clear hC hR3 ho3 hB3
  obtain ⟨j,s,A',n',c',y,rfl,hj,hZ,hR,HSW,ho,hy,hB⟩:=hrel
  by_cases hjn:j=n
  ·subst hjn
   have hc0:=hZ.c0
   have hc1:=hZ.c1
   have hr0:=hR.c0
   have hr1:=hR.c1
   have hf0:=hR.fz 0
   have hf1:=hR.fz 1
   have HZ5:=ah (hR.store s A' n' c')
   have HO5:=ah (((ho.keep (keep_set2 hR (.bool s) (.slice A' n' c')))).base (b':=w.heap.size) (Nat.le_of_lt HGR.out.1))
   have HB5:=ah (below_put2 hB (Nat.le_refl w.heap.size) (.bool s) (.slice A' n' c'))
   go_wp2
   generalize (wr.setCell ⟨w.heap.size,0,none⟩ (.bool s)).setCell ⟨w.heap.size,1,none⟩ (.slice A' n' c')=W5 at *
   exact bodyPost_ret (by simp [results,Tryz.results177,go_sem,HZ5.out.c0,HZ5.out.c1]) rfl ⟨s,A',n',c',y,rfl,HO5.out,ah (by rw [hy.out.1,List.take_of_length_le (by rw [HLEN.out];exact nR)]),HB5.out⟩
  ·have hjl:j < n:=by omega
   clear hjn
   have hjl':(j:Int) < (n:Int):=by omega
   obtain ⟨ad,s1,A1,n1,c1,x,rfl,hbk,hx0,hx1,hr,hn1,hp⟩:=zs_at h hjl
   obtain ⟨hy0,hy1⟩:=zs_cells hB hbk hx0 hx1
   have HXP:=ah (show 0 < x from HP.out x (gM hp.out))
   obtain ⟨W4,HW4⟩:∃ W,W=wr.alloc (.cells #[.bool s1,.slice A1 n1 c1] 25):=⟨_,rfl⟩
   have hX:ZC W4 wr.heap.size s1 A1 n1 c1:=by rw [HW4];exact ZC.new wr s1 A1 n1 c1
   have hb4:Below wr.heap.size wr W4:=by rw [HW4];exact (Below.refl wr.heap.size wr).alloc nR _
   have hB4:=hB.trans (hb4.mono hB.size)
   have a0:=hX.c0
   have a1:=hX.c1
   rw [HW4] at a0 a1
   have HNY:=ah (show n'<=1000000000000/\n1<=1000000000000 from ⟨by rw [ho.len,hy.out.1];exact nT (HSZ.out j) hM,nT hn1 hN⟩)
   have HX4:=ah (cJ hX (hZ.next hb4))
   have HR4:=ah (cJ (hR.next hb4) (cJ (ho.next hb4) (hr.next hB4)))
   have HB4:=ah hB4
   have HS4:=ah (show W3.heap.size<=wr.heap.size/\wr.heap.size < W4.heap.size from ⟨HSW.out,hX.lt⟩)
   have HW4:=ah HW4
   clear hX hb4 hB4 hZ hR ho hr hB hx0 hx1
   go_wp2_with fail
   rw [<- HW4.out]
   clear HW4 a0 a1 hy0 hy1
   clear HW4
   generalize wr.heap.size=gx at *
   refine (rISign_any HR4.out.2.2 (by have:=HNY.out;omega)).mono ?_
   rintro _ V ⟨k,rfl,hk,hbv⟩
   have hkb:(k == 0)=false:=by
    have e:=hk.out
    rw [Int.sign_eq_one_of_pos HXP.out] at e
    rw [e]
    rfl
   have HBV:=tM HB4 hbv
   have HSV:=ah (show W4.heap.size<=V.heap.size from hbv.size)
   have HFV:=ah (show ∀ W:World,Below V.heap.size V W->(ZC W gm s A' n' c'/\ZC W gx s1 A1 n1 c1)/\ZC W w.heap.size false none 0 0/\OwZ W W1.heap.size s A' n' c' y/\RdZ W W.heap.size s1 A1 n1 c1 x from fun W hb=>⟨⟨(HX4.out.2.next hbv).next hb,(HX4.out.1.next hbv).next hb⟩,(HR4.out.1.next hbv).next hb,(HR4.out.2.1.next hbv).next hb,(HR4.out.2.2.next hbv).next hb⟩)
   clear hbv hk HX4 HR4 HB4
   go_upto_region 7 with fail
   go_cut [6,7] from 19 to 27 (fun pv _ U=>∃ (gq:Nat) (s5:Bool) (A5:Option Addr) (n5 c5:Nat) (q:Int),pv=.pointer (some ⟨gq,0,none⟩)/\ZC U gq s5 A5 n5 c5/\OwZ U W1.heap.size s5 A5 n5 c5 q/\Hid (q=((x.natAbs:Int).tdiv (Int.gcd y x:Int))/\V.heap.size<=gq)/\Below V.heap.size V U)
   case first =>
    have HBD:=ah (Below.refl V.heap.size V).drew
    have HXX:=ah (show ∀ W:World,Below V.heap.size V W->(W.cell? ⟨gm,0,none⟩=some (.bool s)/\W.cell? ⟨gm,1,none⟩=some (.slice A' n' c')/\W.cell? ⟨gx,0,none⟩=some (.bool s1)/\W.cell? ⟨gx,1,none⟩=some (.slice A1 n1 c1)) from fun W hb=>⟨(HFV.out _ hb).1.1.c0,(HFV.out _ hb).1.1.c1,(HFV.out _ hb).1.2.c0,(HFV.out _ hb).1.2.c1⟩)
    have HRZ:=ah (show ∀ W:World,Below V.heap.size V W->RdZ W W.heap.size s1 A1 n1 c1 x/\OwZ W W1.heap.size s A' n' c' y from fun W hb=>⟨(HFV.out _ hb).2.2.2,(HFV.out _ hb).2.2.1⟩)
    have HGZ:=ah (show (Int.gcd y x:Int) ≠ 0 by
     have:Int.gcd y x ≠ 0:=fun e=>by have:=(Int.gcd_eq_zero_iff.1 e).2;have:=HXP.out;omega
     omega)
    obtain ⟨x0,x1,x2,x3⟩:=HXX.out _ bR
    go_region_held3 (fun w'=>w'.cell? ⟨gm,0,none⟩=some (.bool s)/\w'.cell? ⟨gm,1,none⟩=some (.slice A' n' c')/\w'.cell? ⟨gx,0,none⟩=some (.bool s1)/\w'.cell? ⟨gx,1,none⟩=some (.slice A1 n1 c1))
     (first | exact HXX.out _ HB7.out | exact HXX.out _ HB6.out | exact HXX.out _ HB5.out | exact HXX.out _ HBD.out | exact HXX.out _ (HBD.out.alloc HBD.out.size _) | exact HXX.out _ (HB5.out.alloc HB5.out.size _) | exact HXX.out _ (HB6.out.alloc HB6.out.size _) | exact HXX.out _ (HB7.out.alloc HB7.out.size _) | exact HXX.out _ (below_put2 HB7.out (by first | exact nR | exact HB5.out.size | exact HB6.out.size | exact HB7.out.size) _ _))
     (first
      | (go_at_call 216;refine (rIAbs_any (HRZ.out _ (by first | exact HBD.out | exact HBD.out.alloc HBD.out.size _)).1 (by have:=HNY.out;omega)).mono ?_;rintro _ W5 ⟨t5,D5,m5,l5,y5,rfl,ho5,hy5,hb5⟩;have HB5:Hid (Below V.heap.size V W5):=ah (by first | exact HBD.out.trans hb5 | exact (HBD.out.alloc HBD.out.size _).trans (hb5.mono (by simp)));(first | have HA5:Hid (ZC W5 V.heap.size false none 0 0):=ah (zcG1 hb5) | skip);have HO5:Hid (OwZ W5 V.heap.size t5 D5 m5 l5 y5):=ah (by first | exact ho5 | exact ho5.base (by simp));have HN5:=ah (show m5<=1000000000000 by { rw [ho5.len,hy5.out,Zz.zl_abs];have:=(HRZ.out _ bR).1.len;have:=HNY.out;omega }))
      | (go_at_call 152;refine (rIGcd_any (HRZ.out _ (by first | exact HB5.out | exact HB5.out.alloc HB5.out.size _)).2.rd (HRZ.out _ (by first | exact HB5.out | exact HB5.out.alloc HB5.out.size _)).1 (by have:=HNY.out;omega) (by have:=HNY.out;omega)).mono ?_;rintro _ W6 ⟨t6,D6,m6,l6,y6,rfl,ho6,hy6,hb6⟩;have HB56:Hid (Below W5.heap.size W5 W6):=ah (by first | exact hb6 | exact ((Below.refl W5.heap.size W5).alloc nR _).trans (hb6.mono (by simp)));have HB6:=tM HB5 HB56.out;(first | have HA6:Hid (ZC W6 V.heap.size false none 0 0):=ah (HA5.out.next HB56.out) | have HA6:Hid (ZC W6 W5.heap.size false none 0 0):=ah (zcG2 hb6) | skip);have HO6:Hid (OwZ W6 V.heap.size t6 D6 m6 l6 y6/\OwZ W6 V.heap.size t5 D5 m5 l5 y5):=ah ⟨by first | exact ho6.base HB5.out.size | exact ho6.base (by have:=HB5.out.size;simp;omega),HO5.out.next HB56.out⟩;have HN6:=ah (show m6<=2000000000000 by { rw [ho6.len,hy6.out];have:=Zz.zl_gcd y x;have:=(HRZ.out _ bR).1.len;have:=(HRZ.out _ bR).2.len;have:=HNY.out;omega }))
      | (go_at_call 153;refine (rIExact_any (HO6.out.2.next (by first | exact bR | exact bA)).rd (HO6.out.1.next (by first | exact bR | exact bA)).rd (by have:=HN5.out;omega) (by have:=HN6.out;omega) (by rw [hy6.out];exact HGZ.out)).mono ?_;rintro _ W7 ⟨s7,A7,n7,c7,q,e7,rfl,ho7,hq,hb7⟩;have HB67:Hid (Below W6.heap.size W6 W7):=ah (by first | exact hb7 | exact ((Below.refl W6.heap.size W6).alloc nR _).trans (hb7.mono (by simp)));have HB7:=tM HB6 HB67.out;have HO7:Hid (OwZ W7 W1.heap.size s7 A7 n7 c7 q):=ah (ho7.base (by have:=HB6.out.size;have:=HSV.out;have:=HS4.out;have:=HG3.out;have:=HGR.out;first | omega | (simp;omega)));(first | have hA7:ZC W7 V.heap.size false none 0 0:=HA6.out.next HB67.out | have hA7:ZC W7 W5.heap.size false none 0 0:=HA6.out.next HB67.out | have hA7:ZC W7 W6.heap.size false none 0 0:=zcG2 hb7 | skip);(try have r0:=hA7.c0);(try have r1:=hA7.c1);(try have f0:=hA7.fz 0);(try have f1:=hA7.fz 1)))
    all_goals
     have HV:=ah (show q=((x.natAbs:Int).tdiv (Int.gcd y x:Int)) by
      rw [<- hy6.out,<- hy5.out]
      rcases hq.out with ⟨_,f2,_⟩ | ⟨f1,_,_⟩
      ·exact f2
      ·exact absurd (Int.tmod_eq_zero_of_dvd (by rw [hy5.out,hy6.out];exact Int.dvd_natAbs.2 (Int.gcd_dvd_right y x))) f1)
     go_wp2
     go_meet
     first
      | exact ⟨V.heap.size,s7,A7,n7,c7,q,rfl,hA7.store s7 A7 n7 c7,HO7.out.keep (keep_set2 hA7 (.bool s7) (.slice A7 n7 c7)),ah ⟨HV.out,nR⟩,below_put2 HB7.out nR _ _⟩
      | exact ⟨W5.heap.size,s7,A7,n7,c7,q,rfl,hA7.store s7 A7 n7 c7,HO7.out.keep (keep_set2 hA7 (.bool s7) (.slice A7 n7 c7)),ah ⟨HV.out,HB5.out.size⟩,below_put2 HB7.out HB5.out.size _ _⟩
      | exact ⟨W6.heap.size,s7,A7,n7,c7,q,rfl,hA7.store s7 A7 n7 c7,HO7.out.keep (keep_set2 hA7 (.bool s7) (.slice A7 n7 c7)),ah ⟨HV.out,HB6.out.size⟩,below_put2 HB7.out HB6.out.size _ _⟩
      | exact ⟨W7.heap.size,s7,A7,n7,c7,q,rfl,ZC.new W7 s7 A7 n7 c7,HO7.out.next (bA),ah ⟨HV.out,HB7.out.size⟩,HB7.out.alloc HB7.out.size _⟩
   case rest =>
    obtain ⟨gq,s5,A5,n5,c5,q,rfl,hQ,hoq,hq,hbq⟩:=hcut
    obtain ⟨⟨hM5,_⟩,hR5,hy5,hx5⟩:=HFV.out wc hbq
    have HBQ:=tM HBV hbq
    have m0:=hM5.c0
    have m1:=hM5.c1
    have q0:=hQ.c0
    have q1:=hQ.c1
    have HNQ:=ah (show n5<=1000000000000 by
     rw [hoq.len,hq.out.1]
     have h1:=Zz.zl_tdiv (x.natAbs:Int) (Int.gcd y x:Int)
     rw [Zz.zl_abs] at h1
     have h2:=hx5.len
     have:=HNY.out
     omega)
    have HSQ:=ah (show W3.heap.size<=wc.heap.size by have:=HS4.out;have:=HSV.out;have:=hbq.size;omega)
    go_wp2_with fail
    refine (rIMul_any hy5.rd hoq.rd (by have:=HNY.out;omega) (by have:=HNQ.out;omega)).mono ?_
    rintro _ W6 ⟨s6,A6,n6,c6,y6,rfl,ho6,hy6,hb6⟩
    have hM6:=hM5.next hb6
    have f0:=hM6.fz 0
    have f1:=hM6.fz 1
    have g0:=hM6.c0
    have g1:=hM6.c1
    have HV6:=ah (show y6=lcF (L.take (j+1))/\0 < y6 by
     have e:y6=((Nat.lcm y.natAbs x.natAbs:Nat):Int):=by rw [hy6.out,hq.out.1];exact lcm_valP hy.out.2
     refine ⟨by rw [e];unfold lcF;rw [foldl_take hp.out,hy.out.1],?_⟩
     rw [e]
     have h1:=hy.out.2
     have h2:=HXP.out
     have:=Nat.lcm_pos (m:=y.natAbs) (n:=x.natAbs) (by omega) (by omega)
     omega)
    have HM9:=ah (hM6.store s6 A6 n6 c6)
    have HR9:=ah (((hR5.next hb6).far (p:=⟨gm,0,none⟩) (by have:=HGR.out;simp;omega) (.bool s6)).far (p:=⟨gm,1,none⟩) (by have:=HGR.out;simp;omega) (.slice A6 n6 c6))
    have HO9:=ah ((ho6.base (b':=W1.heap.size) (by have:=HSQ.out;have:=HG3.out;have:=HGR.out;omega)).keep (keep_set2 hM6 (.bool s6) (.slice A6 n6 c6)))
    have HB9:=ah (below_put2 (HBQ.out.trans (hb6.mono HBQ.out.size)) (show w.heap.size<=gm by have:=HGR.out;omega) (.bool s6) (.slice A6 n6 c6))
    have HS9:=ah (show W3.heap.size<=((W6.setCell ⟨gm,0,none⟩ (.bool s6)).setCell ⟨gm,1,none⟩ (.slice A6 n6 c6)).heap.size by have:=HSQ.out;have:=hb6.size;simp;omega)
    clear hM5 hR5 hy5 hx5 hQ hoq hq hbq hM6 ho6 hb6 hy6 m0 m1 q0 q1
    go_wp2
    generalize (W6.setCell ⟨gm,0,none⟩ (.bool s6)).setCell ⟨gm,1,none⟩ (.slice A6 n6 c6)=W9 at *
    go_roundw
    case rel=>exact ⟨j+1,s6,A6,n6,c6,y6,by go_num,by omega,HM9.out,HR9.out,HS9,HO9.out,HV6,HB9.out⟩
    case measure=>simp [intOf];omega
theorem num_mul {x:Rat}{D:Int}(h:(x.den:Int) ∣ D):(x*(D:Rat)).num=x.num*D.tdiv x.den:=by
 obtain ⟨k,rfl⟩:=h
 have hd:=qden_ne x
 rw [Int.mul_tdiv_cancel_left _ hd]
 have e:x*(((x.den:Int)*k:Int):Rat)=((x.num*k:Int):Rat):=by
  have h1:x=Rat.divInt x.num x.den:=(Rat.num_divInt_den x).symm
  conv=>lhs;rw [h1]
  have e1:∀ a:Int,(a:Rat)=Rat.divInt a 1:=fun a=>(Rat.num_divInt_den (a:Rat)).symm
  rw [e1,Rat.divInt_mul_divInt,e1,Rat.divInt_eq_divInt_iff (by simpa using hd) (by decide)]
  grind
 rw [e]
 rfl
theorem fieldQ0 (s:Bool)(A:Option Addr)(n c:Nat)(s':Bool)(A':Option Addr)(n' c':Nat)(w:World):(Instr.field 47 (.agg #[.bool s,.slice A n c,.bool s',.slice A' n' c']) 0).run Tryz.prog w=.ok (.agg #[.bool s,.slice A n c]) w:=by kernel_rfl
theorem fieldQ1 (s:Bool)(A:Option Addr)(n c:Nat)(s':Bool)(A':Option Addr)(n' c':Nat)(w:World):(Instr.field 47 (.agg #[.bool s,.slice A n c,.bool s',.slice A' n' c']) 1).run Tryz.prog w=.ok (.agg #[.bool s',.slice A' n' c']) w:=by kernel_rfl
def RetRC (d:Int)(P:List Int)(w:World)(e:Ending)(w':World):Prop :=
 ∃ (s:Bool) (A:Option Addr) (n c:Nat) (y:Int) (A':Option Addr) (n' c':Nat) (M:List Int),e=.returned (.tuple #[.agg #[.bool s,.slice A n c],.slice A' n' c'])/\OwZ w' w.heap.size s A n c y/\OwZs w' w.heap.size A' n' c' M/\Hid (y=d/\M=P)/\Below w.heap.size w w'
theorem rCommon_any {N M:Nat}{A:Option Addr}{n c:Nat}{L:List Rat}{w:World}(h:RdQs w w.heap.size N A n c (L.map pr))(hS:∀ j,Zz.zl (denF 1 (L.take j))<=M)(hn:n<=1048576)(hN:N<=100000000000)(hM:M<=100000000000) :
  Calls Tryz.prog 125 #[.slice A n c] w (RetRC (denL L) (numL L) w):=by
 have HLEN:=ah (show L.length=n by have:=h.len;rwa [List.length_map] at this)
 have HSZ:=ah hS
 have HRD:=ah h
 clear h hS
 obtain ⟨i0,hi,hz0,hz1,hz2⟩:=info_parts infoZ
 have hfq0:=fieldQ0
 have hfq1:=fieldQ1
 obtain ⟨W1,HW1⟩:∃ W,W=w.alloc (.cells #[.bool false,.slice none 0 0] 25):=⟨_,rfl⟩
 have hR:ZC W1 w.heap.size false none 0 0:=by rw [HW1];exact ZC.new w false none 0 0
 have hB:Below w.heap.size w W1:=by rw [HW1];exact bA
 have HW1:=ah HW1
 go_enter Tryz.func125,Tryz.ntmps125
 go_wp2_with fail
 rw [<- HW1.out]
 clear HW1
 clear HW1
 refine (rIOf_any 1 (by decide) (by decide) W1).mono ?_
 rintro _ W2 ⟨s2,A2,n2,c2,y2,rfl,ho2,hy2,hb2⟩
 obtain rfl:y2=1:=hy2.out
 obtain ⟨W3,HW3⟩:∃ W,W=W2.alloc (.cells #[.bool s2,.slice A2 n2 c2] 25):=⟨_,rfl⟩
 have hb3:Below W2.heap.size W2 W3:=by rw [HW3];exact bA
 have hb13:=hb2.trans (hb3.mono hb2.size)
 have hC:ZC W3 W2.heap.size s2 A2 n2 c2:=by rw [HW3];exact ZC.new W2 s2 A2 n2 c2
 have hR3:=hR.next hb13
 have hB3:=hB.trans (hb13.mono hB.size)
 have ho3:=ho2.next hb3
 have HGR:=ah (show w.heap.size < W1.heap.size/\W1.heap.size<=W2.heap.size from ⟨hR.lt,hb2.size⟩)
 have HG3:=ah (show W2.heap.size < W3.heap.size from hC.lt)
 have HW3:=ah HW3
 clear hR hB hb2 hb3 hb13 ho2 hy2
 obtain ⟨gm,hgm⟩:∃ g,g=W2.heap.size:=⟨_,rfl⟩
 go_wp2_with fail
 rw [<- HW3.out]
 clear HW3
 clear HW3
 rw [<- hgm] at hC HG3 HGR ⊢
 clear hgm
 go_loopw [13] (fun iv wr=>∃ (j:Nat) (s:Bool) (A':Option Addr) (n' c':Nat) (y:Int),iv=.int .i64 j/\j<=n/\ZC wr gm s A' n' c'/\ZC wr w.heap.size false none 0 0/\Hid (W3.heap.size<=wr.heap.size)/\OwZ wr W1.heap.size s A' n' c' y/\Hid (y=denF 1 (L.take j))/\Below w.heap.size w wr) (fun iv _=>n-(intOf iv).toNat)
 case atStart=>exact ⟨0,s2,A2,n2,c2,1,rfl,nZ,hC,hR3,ah nR,ho3,ah rfl,hB3⟩
 case round =>
  clear hC hR3 ho3 hB3
  obtain ⟨j,s,A',n',c',y,rfl,hj,hZ,hR,HSW,ho,hy,hB⟩:=hrel
  by_cases hjn:j=n
  ·subst hjn
   have HDN:=ah (show y=denL L by rw [hy.out,List.take_of_length_le (by rw [HLEN.out];exact nR)])
   have HYN:=ah (show n'<=M by rw [ho.len,hy.out];exact HSZ.out j)
   obtain ⟨wo,rfl⟩:∃ V,V=wr:=⟨_,rfl⟩
   have HF:=ah (show ∀ W:World,Below wo.heap.size wo W->ZC W gm s A' n' c'/\ZC W w.heap.size false none 0 0/\OwZ W W1.heap.size s A' n' c' y from fun W hb=>⟨hZ.next hb,hR.next hb,ho.next hb⟩)
   have HBO:=ah hB
   clear hZ hR ho hB hy
   go_wp2_with fail
   go_loopw [7,26] (fun ov iv wr=>∃ (i:Nat) (A5:Option Addr) (c5:Nat) (M5:List Int),ov=.slice A5 i c5/\iv=.int .i64 i/\i<=j/\OwZs wr wo.heap.size A5 i c5 M5/\Hid (M5=(L.take i).map (fun x=>x.num*y.tdiv x.den))/\Below wo.heap.size wo wr) (fun _ iv _=>j-(intOf iv).toNat)
   case atStart=>exact ⟨0,none,0,[],rfl,rfl,nZ,OwZs.nil _ _,ah rfl,bR⟩
   case round =>
    obtain ⟨i,A5,c5,M5,rfl,rfl,hij,hoz,hM5,hB5⟩:=hrel
    by_cases hin:i=j
    ·subst hin
     obtain ⟨hZ,hR,ho⟩:=HF.out _ hB5
     have hc0:=hZ.c0
     have hc1:=hZ.c1
     have hr0:=hR.c0
     have hr1:=hR.c1
     have hf0:=hR.fz 0
     have hf1:=hR.fz 1
     have HW:=ah (show w.heap.size < wo.heap.size/\w.heap.size<=wo.heap.size from ⟨by have:=HSW.out;have:=HG3.out;have:=HGR.out;omega,HBO.out.size⟩)
     have HZ5:=ah (hR.store s A' n' c')
     have HO5:=ah (((ho.keep (keep_set2 hR (.bool s) (.slice A' n' c')))).base (b':=w.heap.size) (Nat.le_of_lt HGR.out.1))
     have HL5:=ah (((hoz.far (p:=⟨w.heap.size,0,none⟩) HW.out.1 (.bool s)).far (p:=⟨w.heap.size,1,none⟩) HW.out.1 (.slice A' n' c')).base (b':=w.heap.size) HW.out.2)
     have HB5:=ah (below_put2 (HBO.out.trans (hB5.mono HBO.out.size)) (Nat.le_refl w.heap.size) (.bool s) (.slice A' n' c'))
     have HM5:=ah (show y=denL L/\M5=numL L from ⟨HDN.out,by
      rw [hM5.out,List.take_of_length_le (by rw [HLEN.out];exact nR),HDN.out]
      rfl⟩)
     clear hZ hR ho hoz hM5 hB5
     go_wp2
     generalize (wr.setCell ⟨w.heap.size,0,none⟩ (.bool s)).setCell ⟨w.heap.size,1,none⟩ (.slice A' n' c')=W5 at *
     exact bodyPost_ret (by simp [results,Tryz.results125,go_sem,HZ5.out.c0,HZ5.out.c1]) rfl ⟨s,A',n',c',y,A5,i,c5,M5,rfl,HO5.out,HL5.out,HM5,HB5.out⟩
    ·have hil:i < j:=by omega
     clear hin
     have hili:(i:Int) < (j:Int):=by omega
     obtain ⟨ad,s1,A1,n1,c1,s4,A4,n4,c4,x,hA,hbk,hx0,hx1,hx2,hx3,hr1,hr2,hn1,hn2,hp⟩:=qp_at HRD.out hil
     subst hA
     have hBW:=HBO.out.trans (hB5.mono HBO.out.size)
     obtain ⟨hy0,hy1,hy2,hy3⟩:=qs_cells hBW hbk hx0 hx1 hx2 hx3
     obtain ⟨W4,HW4⟩:∃ W,W=wr.alloc (.cells #[.bool s1,.slice A1 n1 c1,.bool s4,.slice A4 n4 c4] 47):=⟨_,rfl⟩
     have hb4:Below wr.heap.size wr W4:=by rw [HW4];exact bA
     have hX4:QC W4 wr.heap.size s1 A1 n1 c1 s4 A4 n4 c4:=by rw [HW4];exact QC.new wr s1 A1 n1 c1 s4 A4 n4 c4
     have HB4:=ah (hB5.trans (hb4.mono hB5.size))
     have HFX:=ah (show ∀ W:World,Below W4.heap.size W4 W->QC W wr.heap.size s1 A1 n1 c1 s4 A4 n4 c4/\RdZ W W.heap.size s1 A1 n1 c1 x.num/\RdZ W W.heap.size s4 A4 n4 c4 x.den from fun W hb=>⟨hX4.next hb,((hr1.next hBW).next hb4).next hb,((hr2.next hBW).next hb4).next hb⟩)
     have HOZ:=ah (hoz.next hb4)
     have HNX:=ah (cJ (nT hn1 hN) (nT hn2 hN))
     have HW4:=ah HW4
     have HIL:=ah hil
     clear hX4 hb4 hoz hr1 hr2 hx0 hx1 hx2 hx3 hBW hB5 hil
     go_upto_region 11 with fail
     rw [<- HW4.out]
     clear HW4 hy0 hy1 hy2 hy3
     clear HW4
     generalize wr.heap.size=gx at *
     have HBD:=ah (Below.refl W4.heap.size W4).drew
     have HFF:=ah (show ∀ W:World,Below W4.heap.size W4 W->ZC W gm s A' n' c'/\ZC W w.heap.size false none 0 0/\OwZ W W1.heap.size s A' n' c' y from fun W hb=>HF.out W (HB4.out.trans (hb.mono HB4.out.size)))
     have hX4:=(HFX.out W4 bR).1
     have hZ4:=(HFF.out W4 bR).1
     have x0:=hX4.c0
     have x1:=hX4.c1
     have x2:=hX4.c2
     have x3:=hX4.c3
     have x4:=hZ4.c0
     have x5:=hZ4.c1
     clear hX4 hZ4
     go_region_law (first
      | (refine step_append_sl rfl _ _ 65 rfl wo.heap.size 25 i0 (.agg #[.bool false,.slice none 0 0]) 2 32 Tryz.underlying65 hi hz0 hz1 hz2 rfl (by decide) _ _ _ rfl (HE.out.alloc _) (some ⟨W7.heap.size,0,none⟩) 1 1 [.bool s7,.slice A7 n7 c7] rfl rfl (fun e=>by cases e) (fun ad e=>by cases e;exact zcell_new _ _ _ _) (by simp [Value.oneCell']) (by have:=HIL.out;unfold maxLen;omega) (by have:=HIL.out;omega) (by have:=HB7.out.size;have:=HB4.out.size;simp;omega) ?_;intro A9 c9 W9 hown9 hgrow9)
      | (go_simp;go_at_call 178;refine (rQInt_any (HFF.out _ HBD.out).2.2.rd (by have:=HYN.out;omega)).mono ?_;rintro _ W5 ⟨s5,D5,n5,c6,s6,D6,n6,l6,y5,rfl,ho5,hy5,hb5⟩;have HB5:=ah (HBD.out.trans hb5);have hX5:=(HFX.out W5 HB5.out).1;have la0:=hX5.c0;have la1:=hX5.c1;have la2:=hX5.c2;have la3:=hX5.c3;have HN5:=ah (show n5<=100000000000/\n6<=100000000000 from ⟨by { rw [ho5.num.len,hy5.out];have e:=(HFF.out _ HBD.out).2.2.len;have:=HYN.out;show Zz.zl y<=_;omega },by { rw [ho5.den.len,hy5.out,show (((y:Rat).den:Nat):Int)=1 from rfl];exact nT (Zz.zl_small (by decide)) (by decide) }⟩);clear hX5)
      | (go_simp;go_at_call 124;refine (rQMul_any (N:=100000000000) (HFX.out _ HB5.out).2.1 (HFX.out _ HB5.out).2.2 ho5.num.rd ho5.den.rd ⟨HNX.out.1,HNX.out.2,HN5.out.1,HN5.out.2⟩ (by decide) (qden_ne x) (qden_ne y5)).mono ?_;rintro _ W7 ⟨s7,A7,n7,c7,s8,A8,n8,c8,q,rfl,ho7,hq,hb7⟩;have HB7:=tM HB5 hb7;have HQ:=ah (show q=x*(y:Rat) by rw [hq.out,hy5.out,Rat.num_divInt_den,Rat.num_divInt_den]);obtain ⟨E,hE,hEl,hEn⟩:=HOZ.out.next HB7.out;have HE:=ah hE;have HEN:=ah (cJ hEl hEn);have HO7:=ah (ho7.num.base (b':=wo.heap.size) (by have:=HB4.out.size;have:=HB5.out.size;omega));clear hE hEl hEn hq hb7 ho7))
     all_goals
      have hB7:=HB4.out.trans (HB7.out.mono HB4.out.size)
      obtain ⟨A0,k0,e0,ho9⟩:=zs_more (e:=(s7,A7,n7,c7)) (z:=q.num) HO7.out rfl (HE.out.alloc _) HEN.out.1 HEN.out.2 hown9 hgrow9
      injection e0 with e1 e2 e3
      subst e1 e3
      have HO9:=ah ho9
      have HB9:=ah ((hB7.alloc hB7.size (.cells #[.bool s7,.slice A7 n7 c7] 25)).grown hgrow9 (by have:=hB7.size;simp;omega) (own_block HE.out))
      have HM9:=ah (show M5 ++ [q.num]=(L.take (i+1)).map (fun x=>x.num*y.tdiv x.den) by
       rw [List.take_add_one,hp.out,List.map_append,hM5.out,HQ.out,num_mul (show (x.den:Int) ∣ y by rw [HDN.out];exact den_dvd L 1 x (gM hp.out))]
       rfl)
      clear ho9 hown9 hgrow9 hB7 x0 x1 x2 x3 x4 x5 la0 la1 la2 la3
      go_wp2
      go_roundw
      case rel=>exact ⟨i+1,A9,c9,M5 ++ [q.num],rfl,by go_num,by have:=HIL.out;omega,HO9.out,HM9,HB9.out⟩
      case measure=>simp [intOf];have:=HIL.out;omega
  ·have hjl:j < n:=by omega
   clear hjn
   have hjli:(j:Int) < (n:Int):=by omega
   obtain ⟨ad,s1,A1,n1,c1,s4,A4,n4,c4,x,hA,hbk,hx0,hx1,hx2,hx3,hr1,hr2,hn1,hn2,hp⟩:=qp_at HRD.out hjl
   subst hA
   obtain ⟨hy0,hy1,hy2,hy3⟩:=qs_cells hB hbk hx0 hx1 hx2 hx3
   have HYP:=ah (show 0 < y by rw [hy.out];exact denF_pos _ 1 (by decide))
   have HYN:=ah (show Zz.zl y<=M/\Zz.zl ((Nat.lcm y.natAbs x.den:Nat):Int)<=M from ⟨by rw [hy.out];exact HSZ.out j,by rw [hy.out,<- denF_take hp.out];exact HSZ.out (j+1)⟩)
   obtain ⟨W4,HW4⟩:∃ W,W=wr.alloc (.cells #[.bool s1,.slice A1 n1 c1,.bool s4,.slice A4 n4 c4] 47):=⟨_,rfl⟩
   have hb4:Below wr.heap.size wr W4:=by rw [HW4];exact bA
   have hX4:QC W4 wr.heap.size s1 A1 n1 c1 s4 A4 n4 c4:=by rw [HW4];exact QC.new wr s1 A1 n1 c1 s4 A4 n4 c4
   have HB4:=ah (hB.trans (hb4.mono hB.size))
   have HS4:=ah (show W3.heap.size<=W4.heap.size from nT HSW.out hb4.size)
   have HFX:=ah (show ∀ W:World,Below W4.heap.size W4 W->QC W wr.heap.size s1 A1 n1 c1 s4 A4 n4 c4/\RdZ W W.heap.size s1 A1 n1 c1 x.num/\RdZ W W.heap.size s4 A4 n4 c4 x.den from fun W hb=>⟨hX4.next hb,((hr1.next hB).next hb4).next hb,((hr2.next hB).next hb4).next hb⟩)
   have HFF:=ah (show ∀ W:World,Below W4.heap.size W4 W->ZC W gm s A' n' c'/\ZC W w.heap.size false none 0 0/\OwZ W W1.heap.size s A' n' c' y from fun W hb=>⟨(hZ.next hb4).next hb,(hR.next hb4).next hb,(ho.next hb4).next hb⟩)
   have HNX:=ah (cJ hn1 hn2)
   have HW4:=ah HW4
   clear hX4 hb4 hr1 hr2 hx0 hx1 hx2 hx3 hB hZ hR ho
   go_upto_region 5 with fail
   rw [<- HW4.out]
   clear HW4 hy0 hy1 hy2 hy3
   clear HW4
   generalize wr.heap.size=gx at *
   have HBD:=ah (Below.refl W4.heap.size W4).drew
   have hX4:=(HFX.out W4 bR).1
   have hZ4:=(HFF.out W4 bR).1
   have x0:=hX4.c0
   have x1:=hX4.c1
   have x2:=hX4.c2
   have x3:=hX4.c3
   have x4:=hZ4.c0
   have x5:=hZ4.c1
   clear hX4 hZ4
   go_region_law (first
    | (go_simp;go_at_call 100;refine (rQNorm_any (HFX.out _ HBD.out).2.1 (HFX.out _ HBD.out).2.2 (by have:=HNX.out;omega) (by have:=HNX.out;omega) (qden_ne x)).mono ?_;rintro _ W5 ⟨s5,A5,n5,c5,s6,A6,n6,c6,y5,rfl,ho5,hy5,hb5⟩;obtain rfl:y5=x:=(by rw [hy5.out,Rat.num_divInt_den]);have HB5:=ah (HBD.out.trans hb5);have hZ5:=(HFF.out W5 HB5.out).1;have la0:=hZ5.c0;have la1:=hZ5.c1;clear hZ5)
    | (go_simp; go_at_call 177; refine (rLcm_any (N := max N M) (M := M + 1) (zs_two (N := max N M) (HFF.out W5 HB5.out).2.2.rd ho5.den.rd (by have e := (HFF.out W5 HB5.out).2.2.len; have := HYN.out; omega) (by rw [ho5.den.len]; have e := (HFX.out _ HB5.out).2.2.len; have := HNX.out; omega) rfl) (fun u hu => by
      simp at hu
      rcases hu with rfl | rfl
      ·exact HYP.out
      ·exact Int.natCast_pos.2 (Rat.den_pos _)) (by omega) (by omega) (fun t=>by
      match t with
      | 0 =>
        show Zz.zl 1<=M+1
        exact nT (Zz.zl_small (by decide)) (by omega)
      | 1 =>
        have e:lcF ([y,(y5.den:Int)].take 1)=(y.natAbs:Int):=by simp [lcF,Nat.lcm_one_left]
        rw [e,Zz.zl_abs]
        have:=HYN.out.1
        omega
      | t + 2 =>
        rw [List.take_of_length_le (by simp)]
        unfold lcF
        rw [two_lcm HYP.out]
        have:=HYN.out.2
        omega)).mono ?_;rintro _ W6 ⟨t6,D6,m6,l6,y6,rfl,ho6,hy6,hb6⟩;have HB56:=ah (((Below.refl W5.heap.size W5).alloc nR (.cells #[.bool s,.slice A' n' c',.bool s6,.slice A6 n6 c6] 25)).trans (hb6.mono (by simp)));have HB6:=tM HB5 HB56.out;have hM6:=(HFF.out W6 HB6.out).1;have f0:=hM6.fz 0;have f1:=hM6.fz 1;have g0:=hM6.c0;have g1:=hM6.c1))
   all_goals
    have HV6:=ah (show y6=denF 1 (L.take (j+1)) by
     rw [hy6.out,denF_take hp.out,<- hy.out]
     exact two_lcm HYP.out _)
    have HM9:=ah (hM6.store t6 D6 m6 l6)
    have HR9:=ah (((HFF.out W6 HB6.out).2.1.far (p:=⟨gm,0,none⟩) (by have:=HGR.out;simp;omega) (.bool t6)).far (p:=⟨gm,1,none⟩) (by have:=HGR.out;simp;omega) (.slice D6 m6 l6))
    have HO9:=ah ((ho6.base (b':=W1.heap.size) (by have:=HB5.out.size;have:=HS4.out;have:=HG3.out;have:=HGR.out;simp;omega)).keep (keep_set2 hM6 (.bool t6) (.slice D6 m6 l6)))
    have HB9:=ah (below_put2 (HB4.out.trans (HB6.out.mono HB4.out.size)) (show w.heap.size<=gm by have:=HGR.out;omega) (.bool t6) (.slice D6 m6 l6))
    have HS9:=ah (show W3.heap.size<=((W6.setCell ⟨gm,0,none⟩ (.bool t6)).setCell ⟨gm,1,none⟩ (.slice D6 m6 l6)).heap.size by have:=HS4.out;have:=HB6.out.size;simp;omega)
    clear hM6 ho6 hb6 hy6 ho5 hb5 hy5 x0 x1 x2 x3 x4 x5 la0 la1 f0 f1 g0 g1
    go_wp2
    generalize (W6.setCell ⟨gm,0,none⟩ (.bool t6)).setCell ⟨gm,1,none⟩ (.slice D6 m6 l6)=W9 at *
    go_roundw
    case rel=>exact ⟨j+1,t6,D6,m6,l6,y6,by go_num,by omega,HM9.out,HR9.out,HS9,HO9.out,HV6,HB9.out⟩
    case measure=>simp [intOf];omega
theorem EntQ.append {w:World}{b:Nat}{E E':List (Ent × Ent)}{L L':List Rat}(h:EntQ w b E L)(h':EntQ w b E' L'):EntQ w b (E ++ E') (L ++ L'):=by
 refine ⟨by rw [List.length_append,List.length_append,h.1,h'.1],fun t e x he hx=>?_⟩
 rcases Nat.lt_or_ge t E.length with h1 | h1
 ·rw [List.getElem?_append_left h1] at he
  rw [List.getElem?_append_left (by rw [<- h.1];exact h1)] at hx
  exact h.2 t e x he hx
 ·rw [List.getElem?_append_right h1] at he
  rw [List.getElem?_append_right (by rw [<- h.1];exact h1),<- h.1] at hx
  exact h'.2 _ e x he hx
theorem flat_len {α:Type}{q:Nat}:∀ MM:List (List α),(∀ L ∈ MM,L.length=q)->MM.flatten.length=MM.length*q
 | [],_=>by simp
 | L :: MM, h => by
   rw [List.flatten_cons,List.length_append,flat_len MM fun M hM=>h M (List.mem_cons_of_mem _ hM),h L (List.mem_cons_self ..),List.length_cons,Nat.succ_mul]
   omega
end Go.Proofs.YtjnklbfhelbjgaaGreat
