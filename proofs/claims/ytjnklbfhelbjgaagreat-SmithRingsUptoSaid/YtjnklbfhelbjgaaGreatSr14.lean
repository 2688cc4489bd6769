/- Sr14. -/
import Derived.Test.YtjnklbfhelbjgaaGreatSr13
import Derived.Test.YtjnklbfhelbjgaaGreatSr10
import Derived.Deep.AppendLies
import Derived.Deep.RegionLaw
import Derived.Test.YtjnklbfhelbjgaaGreatSr11
import Derived.Test.YtjnklbfhelbjgaaGreatSr06
import Derived.Deep.RegionWith
import Derived.Test.YtjnklbfhelbjgaaGreatSr12
import Derived.Shelf.Small.Bits
import Derived.Test.YtjnklbfhelbjgaaGreatProg
import Derived.Test.YtjnklbfhelbjgaaGreatSr00
set_option maxRecDepth 100000
set_option maxHeartbeats 32000000
set_option linter.all false
namespace Go.Proofs.YtjnklbfhelbjgaaGreat
open Go.RowKit Go.IntWalk
attribute [local go_sem ↓] Go.wp_at_zero Go.wp_at_succ
def denF (g:Int)(L:List Rat):Int:=L.foldl (fun (g:Int) x=>((Nat.lcm g.natAbs x.den:Nat):Int)) g
abbrev denL (L:List Rat):Int:=denF 1 L
theorem denF_take {L:List Rat}{j:Nat}{x:Rat}(h:L[j]?=some x)(g:Int):denF g (L.take (j+1))=((Nat.lcm (denF g (L.take j)).natAbs x.den:Nat):Int):=by
 unfold denF
 rw [List.take_add_one,h,Option.toList_some,List.foldl_append]
 rfl
theorem denF_pos:∀ (L:List Rat) (g:Int),0 < g->0 < denF g L
 | [],_,h=>h
 | x :: L, g, h => by
   refine denF_pos L _ ?_
   have:=Nat.lcm_pos (m:=g.natAbs) (n:=x.den) (by omega) x.den_pos
   show 0 < ((Nat.lcm g.natAbs x.den:Nat):Int)
   omega
theorem denF_dvd:∀ (L:List Rat) (g:Int),g ∣ denF g L
 | [],_=>Int.dvd_refl _
 | x :: L, g => by
   refine Int.dvd_trans ?_ (denF_dvd L _)
   exact Int.natAbs_dvd.1 (Int.natCast_dvd_natCast.2 (Nat.dvd_lcm_left _ _))
theorem den_dvd:∀ (L:List Rat) (g:Int) (x:Rat),x ∈ L->(x.den:Int) ∣ denF g L
 | y :: L, g, x, h => by
   rcases List.mem_cons.1 h with rfl | h
   ·exact Int.dvd_trans (Int.natCast_dvd_natCast.2 (Nat.dvd_lcm_right _ _)) (denF_dvd L _)
   ·exact den_dvd L _ x h
def numL (L:List Rat):List Int:=L.map fun x=>x.num*(denL L).tdiv x.den
theorem two_lcm {y:Int}(_:0 < y)(d:Nat):[y,(d:Int)].foldl (fun (g x:Int)=>((Nat.lcm g.natAbs x.natAbs:Nat):Int)) 1=((Nat.lcm y.natAbs d:Nat):Int):=by
 simp [Nat.lcm_one_left]
theorem cc_grown {w w1:World}{b:Nat}{A:Option Addr}{n c:Nat}{xs:List Value}{g:Nat}{s:Bool}{A1 A2:Option Addr}{n1 c1 n2 c2:Nat}(hE:w.ownsRow b 25 2 (.slice A n c) n xs)(hg:w.grownBy w1 (Value.slice A n c).ownBlock)(h:CC w g s A1 n1 c1 A2 n2 c2):CC w1 g s A1 n1 c1 A2 n2 c2:=by
 unfold CC at *
 rw [<- h]
 refine hg.block g (Array.getElem?_eq_some_iff.1 h).1 ?_
 rcases hE.2 with ⟨h1,_⟩ | ⟨g2,cap,cur,h1,h2,h3,_⟩
 ·rw [h1]
  intro e0
  cases e0
 ·rw [h1]
  intro e0
  cases e0
  rw [h] at h3
  injection h3 with h3
  injection h3 with _ h3
  exact absurd h3 (by decide)
theorem keepT_grownZ {w w1:World}{b:Nat}{A:Option Addr}{n c:Nat}{xs:List Value}(hE:w.ownsRow b 25 2 (.slice A n c) n xs)(hg:w.grownBy w1 (Value.slice A n c).ownBlock):KeepT w w1:=fun i cs f hi=>by
 rw [<- hi]
 refine hg.block i (Array.getElem?_eq_some_iff.1 hi).1 ?_
 rcases hE.2 with ⟨h1,_⟩ | ⟨g,cap,cur,h1,h2,h3,_⟩
 ·rw [h1]
  intro e0
  cases e0
 ·rw [h1]
  intro e0
  cases e0
  rw [hi] at h3
  injection h3 with h3
  injection h3 with _ h3
  exact absurd h3 (by decide)
theorem keep_setC {w:World}{g j:Nat}{s:Bool}{A A':Option Addr}{n c n' c':Nat}(h:CC w g s A n c A' n' c')(x:Value):KeepT w (w.setCell ⟨g,j,none⟩ x):=fun i cs f e=>by
 have hne:i ≠ g:=by
  rintro rfl
  unfold CC at h
  rw [h] at e
  simp at e
 rw [Below.heap_setCell _ (⟨g,j,none⟩:Addr) _ i hne]
 exact e
theorem keep_setC2 {w:World}{g:Nat}{s:Bool}{A A':Option Addr}{n c n' c':Nat}(h:CC w g s A n c A' n' c')(x y:Value):KeepT w ((w.setCell ⟨g,0,none⟩ x).setCell ⟨g,1,none⟩ y):=fun i cs f e=>by
 have hne:i ≠ g:=by
  rintro rfl
  unfold CC at h
  rw [h] at e
  simp at e
 rw [Below.heap_setCell _ (⟨g,1,none⟩:Addr) _ i hne,Below.heap_setCell _ (⟨g,0,none⟩:Addr) _ i hne]
 exact e
theorem ents_keep {w w':World}{b:Nat}{E:List Ent}{L:List Int}(h:Ents w b E L)(hk:KeepT w w'):Ents w' b E L:=⟨h.1,fun j e z he hz=>(h.2 j e z he hz).keep hk⟩
theorem zs_setC {w:World}{g j b:Nat}{s:Bool}{A A' A1:Option Addr}{n c n' c' n1 c1:Nat}{L:List Int}(hz:OwZs w b A1 n1 c1 L)(h:CC w g s A n c A' n' c')(x:Value):OwZs (w.setCell ⟨g,j,none⟩ x) b A1 n1 c1 L:=by
 obtain ⟨E,hr,hE,hel⟩:=hz
 refine ⟨E,⟨hr.1,?_⟩,hE,ents_keep hel (keep_setC h x)⟩
 rcases hr.2 with h0 | ⟨g2,cap,cur,h1,h2,h3,h4⟩
 ·exact .inl h0
 ·have hne:g2 ≠ g:=by
   rintro rfl
   unfold CC at h
   rw [h] at h3
   simp at h3
  exact .inr ⟨g2,cap,cur,h1,h2,(Below.heap_setCell _ (⟨g,j,none⟩:Addr) _ g2 hne).trans h3,h4⟩
theorem CC.store2 {w:World}{g:Nat}{s:Bool}{A A':Option Addr}{n c n' c':Nat}(h:CC w g s A n c A' n' c')(t:Bool)(D:Option Addr)(k m:Nat):CC ((w.setCell ⟨g,0,none⟩ (.bool t)).setCell ⟨g,1,none⟩ (.slice D k m)) g t D k m A' n' c':=by
 unfold CC at *
 simp [World.setCell,Array.getElem?_modify,h]
theorem CC.store1 {w:World}{g:Nat}{s:Bool}{A A':Option Addr}{n c n' c':Nat}(h:CC w g s A n c A' n' c')(D:Option Addr)(k m:Nat):CC (w.setCell ⟨g,2,none⟩ (.slice D k m)) g s A n c D k m:=by
 unfold CC at *
 simp [World.setCell,Array.getElem?_modify,h]
theorem common_in {N M b:Nat}{A:Option Addr}{n c:Nat}{L:List Rat}{w:World}(h:OwQs w b A n c L)(hz:∀ x ∈ L,Qs N x)(hS:∀ j,Zz.zl (denF 1 (L.take j))<=M)(hn:n<=1048576)(hN:N<=200000000000)(hM:M<=200000000000)(h1N:1<=N) :
  Calls Tryz.prog 170 #[.slice A n c] w (RetCm (denL L) (numL L) w):=by
 have HLEN:=ah h.len
 have HRD:=ah (h.p.rd hz)
 have HSZ:=ah hS
 have HQ:=ah hz
 obtain ⟨i0,hi,hz0,hz1,hz2⟩:=info_parts infoZ
 obtain ⟨W1,HW1⟩:∃ W,W=w.alloc (.cells #[.bool false,.slice none 0 0,.slice none 0 0] 194):=⟨_,rfl⟩
 have hR:CC W1 w.heap.size false none 0 0 none 0 0:=by rw [HW1];exact CC.new w false none 0 0 none 0 0
 have hB:Below w.heap.size w W1:=by rw [HW1];exact bA
 have HW1:=ah HW1
 clear h hz hS
 go_enter Tryz.func170,Tryz.ntmps170
 go_wp2_with fail
 rw [<- HW1.out]
 clear HW1
 clear HW1
 refine (of_any 1 (by decide) (by decide) W1).mono ?_
 rintro _ W2 ⟨s2,A2,n2,c2,y2,rfl,ho2,hy2,hb2⟩
 obtain rfl:y2=1:=hy2.out
 obtain ⟨W3,HW3⟩:∃ W,W=W2.alloc (.cells #[.bool s2,.slice A2 n2 c2,.slice none 0 0] 194):=⟨_,rfl⟩
 have hb3:Below W2.heap.size W2 W3:=by rw [HW3];exact bA
 have hb13:=hb2.trans (hb3.mono hb2.size)
 have hC:CC W3 W2.heap.size s2 A2 n2 c2 none 0 0:=by rw [HW3];exact CC.new W2 s2 A2 n2 c2 none 0 0
 have hR3:=hR.next hb13
 have hB3:=hB.trans (hb13.mono hB.size)
 have ho3:=ho2.next hb3
 have HGR:=ah (show w.heap.size < W1.heap.size/\W1.heap.size<=W2.heap.size from ⟨hR.lt,hb2.size⟩)
 have HG3:=ah (show W2.heap.size < W3.heap.size from hC.lt)
 have HW3:=ah HW3
 clear hR hB hb2 hb3 hb13 ho2 hy2
 obtain ⟨gc,hgc⟩:∃ g,g=W2.heap.size:=⟨_,rfl⟩
 go_wp2_with fail
 rw [<- HW3.out]
 clear HW3
 clear HW3
 rw [<- hgc] at hC HG3 HGR ⊢
 clear hgc
 go_loopw [15] (fun iv wr=>∃ (j:Nat) (s:Bool) (A':Option Addr) (n' c':Nat) (y:Int),iv=.int .i64 j/\j<=n/\CC wr gc s A' n' c' none 0 0/\CC wr w.heap.size false none 0 0 none 0 0/\OwZ wr W1.heap.size s A' n' c' y/\Hid (y=denF 1 (L.take j)/\W3.heap.size<=wr.heap.size)/\Below w.heap.size w wr) (fun iv _=>n-(intOf iv).toNat)
 case atStart=>exact ⟨0,s2,A2,n2,c2,1,rfl,nZ,hC,hR3,ho3,ah ⟨rfl,nR⟩,hB3⟩
 case round =>
  clear hC hR3 ho3 hB3
  obtain ⟨j,s,A',n',c',y,rfl,hj,hC,hR,ho,hy,hB⟩:=hrel
  by_cases hjn:j=n
  ·have HDV:=ah (show y=denL L by rw [hy.out.1,List.take_of_length_le (by rw [HLEN.out];omega)])
   have HDN:=ah (show n'<=M by rw [ho.len,hy.out.1];exact HSZ.out j)
   have HSY:=ah (show W3.heap.size<=wr.heap.size from hy.out.2)
   have HDP:=ah (show 0 < y by rw [HDV.out];exact denF_pos L 1 (by decide))
   subst hjn
   clear hy
   go_wp2_with fail
   go_loopw [29] (fun iv we=>∃ (i:Nat) (A5:Option Addr) (c5:Nat) (M5:List Int),iv=.int .i64 i/\i<=j/\CC we gc s A' n' c' A5 i c5/\CC we w.heap.size false none 0 0 none 0 0/\OwZ we W1.heap.size s A' n' c' y/\OwZs we W1.heap.size A5 i c5 M5/\Hid (M5=(L.take i).map fun x=>x.num*y.tdiv x.den)/\Hid (W3.heap.size<=we.heap.size)/\Below w.heap.size w we) (fun iv _=>j-(intOf iv).toNat)
   case atStart=>exact ⟨0,none,0,[],rfl,nZ,hC,hR,ho,OwZs.nil _ _,ah rfl,ah HSY.out,hB⟩
   case round =>
    clear hC hR ho hB
    obtain ⟨i,A5,c5,M5,rfl,hi5,hC,hR,ho,hoz,hM5,HSW,hB⟩:=hrel
    by_cases hij:i=j
    ·subst hij
     have HV:=ah (show M5=numL L by rw [hM5.out,List.take_of_length_le (by rw [HLEN.out];exact nR),HDV.out];rfl)
     have r0:=hR.c0
     have r1:=hR.c1
     have r2:=hR.c2
     have f0:=hR.fz 0
     have f1:=hR.fz 1
     have f2:=hR.fz 2
     have a0:=hC.c0
     have a1:=hC.c1
     have a2:=hC.c2
     have HR9:=ah (hR.store s A' n' c' A5 i c5)
     have HO9:=ah (cJ ((((ho.far (p:=⟨w.heap.size,0,none⟩) HGR.out.1 (.bool s)).far (p:=⟨w.heap.size,1,none⟩) HGR.out.1 (.slice A' n' c')).far (p:=⟨w.heap.size,2,none⟩) HGR.out.1 (.slice A5 i c5)).base (b':=w.heap.size) (Nat.le_of_lt HGR.out.1)) ((((hoz.far (p:=⟨w.heap.size,0,none⟩) HGR.out.1 (.bool s)).far (p:=⟨w.heap.size,1,none⟩) HGR.out.1 (.slice A' n' c')).far (p:=⟨w.heap.size,2,none⟩) HGR.out.1 (.slice A5 i c5)).base (b':=w.heap.size) (Nat.le_of_lt HGR.out.1)))
     have HB9:=ah (below_putC hB (Nat.le_refl w.heap.size) (.bool s) (.slice A' n' c') (.slice A5 i c5))
     clear hC hR ho hoz hB
     go_wp2_with fail
     generalize ((wr.setCell ⟨w.heap.size,0,none⟩ (.bool s)).setCell ⟨w.heap.size,1,none⟩ (.slice A' n' c')).setCell ⟨w.heap.size,2,none⟩ (.slice A5 i c5)=W9 at *
     have z0:=HR9.out.c0
     have z1:=HR9.out.c1
     have z2:=HR9.out.c2
     exact bodyPost_ret (by simp [results,Tryz.results170,go_sem,z0,z1,z2]) rfl ⟨s,A',n',c',y,A5,i,c5,M5,0,rfl,HO9.out.1,HO9.out.2,ah ⟨HDV.out,HV.out,rfl⟩,HB9.out⟩
    ·have hil:i < j:=by omega
     clear hij
     have hili:(i:Int) < (j:Int):=by omega
     obtain ⟨ad,s1,A1,n1,c1,s4,A4,n4,c4,x,hA,hbk,hx0,hx1,hx2,hx3,hr1,hr2,hn1,hn2,hp⟩:=qp_at (HRD.out.next hB) hil
     subst hA
     obtain ⟨W4,HW4⟩:∃ W,W=wr.alloc (.cells #[.bool s1,.slice A1 n1 c1,.bool s4,.slice A4 n4 c4] 47):=⟨_,rfl⟩
     have hb4:Below wr.heap.size wr W4:=by rw [HW4];exact bA
     have hX4:QC W4 wr.heap.size s1 A1 n1 c1 s4 A4 n4 c4:=by rw [HW4];exact QC.new wr s1 A1 n1 c1 s4 A4 n4 c4
     have HC4:=ah (hC.next hb4)
     have b0:=HC4.out.c0
     have b1:=HC4.out.c1
     have a2:=hX4.c2
     have a3:=hX4.c3
     rw [HW4] at b0 b1 a2 a3
     have HX4:=ah hX4
     have HB4:=ah (hB.trans (hb4.mono hB.size))
     have HO4:=ah (cJ (ho.next hb4) (cJ (hoz.next hb4) (cJ (hr1.next hb4) (hr2.next hb4))))
     have HR4:=ah (hR.next hb4)
     have HXS:=ah (show wr.heap.size < W4.heap.size/\W3.heap.size<=wr.heap.size from ⟨hX4.lt,HSW.out⟩)
     have HW4:=ah HW4
     clear hC hR ho hoz hb4 hX4 hr1 hr2
     go_wp2_with fail
     rw [<- HW4.out]
     clear HW4 hx0 hx1 hx2 hx3 b0 b1 a2 a3
     clear HW4
     generalize wr.heap.size=gx at *
     refine (exact_any HO4.out.1.rd HO4.out.2.2.2 (by have:=HDN.out;omega) (by omega) (qden_ne x)).mono ?_
     rintro _ W5 ⟨s5,D5,n5,l5,q,e5,rfl,ho5,hq,hb5⟩
     have HQV:=ah (show q=y.tdiv x.den by
      rcases hq.out with ⟨_,f2,_⟩ | ⟨f1,_,_⟩
      ·exact f2
      ·exact absurd (Int.tmod_eq_zero_of_dvd (by rw [HDV.out];exact den_dvd L 1 x (gM hp.out))) f1)
     obtain ⟨W6,HW6⟩:∃ W,W=W5.alloc (.cells #[.bool s5,.slice D5 n5 l5] 25):=⟨_,rfl⟩
     have hb6:Below W5.heap.size W5 W6:=by rw [HW6];exact bA
     have hQ6:ZC W6 W5.heap.size s5 D5 n5 l5:=by rw [HW6];exact ZC.new W5 s5 D5 n5 l5
     have hb46:=hb5.trans (hb6.mono hb5.size)
     have HB6:=tM HB4 hb46
     have HB46:=ah hb46
     have HQN:=ah (show n5<=M by
      rw [ho5.len,HQV.out]
      refine nT (Zz.zl_tdiv _ _) ?_
      have:=HO4.out.1.len
      have:=HDN.out
      omega)
     have HQ6:=ah (cJ hQ6 ((ho5.base (b':=W1.heap.size) (by have:=HXS.out;have:=HG3.out;have:=HGR.out;have:=hb5.size;omega)).next hb6))
     have HGQ:=ah (show gc < W5.heap.size/\gx < W5.heap.size from ⟨by have:=HXS.out;have:=HG3.out;have:=hb5.size;omega,by have:=HXS.out;have:=hb5.size;omega⟩)
     have HW6:=ah HW6
     clear ho5 hq hb5 hb6 hb46 hQ6
     go_upto_region 11 with fail
     rw [<- HW6.out]
     clear HW6
     clear HW6
     generalize W5.heap.size=gq at *
     have HBD:=ah (Below.refl W6.heap.size W6).drew
     have HC6:=ah (HC4.out.next HB46.out)
     have HXX:=ah (show ∀ W:World,Below W6.heap.size W6 W->(CC W gc s A' n' c' A5 i c5/\QC W gx s1 A1 n1 c1 s4 A4 n4 c4/\ZC W gq s5 D5 n5 l5/\CC W w.heap.size false none 0 0 none 0 0)/\RdZ W W.heap.size s1 A1 n1 c1 x.num/\OwZ W W1.heap.size s5 D5 n5 l5 q/\OwZs W W1.heap.size A5 i c5 M5/\OwZ W W1.heap.size s A' n' c' y from fun W hb=>⟨⟨HC6.out.next hb,(HX4.out.next HB46.out).next hb,HQ6.out.1.next hb,(HR4.out.next HB46.out).next hb⟩,(HO4.out.2.2.1.next HB46.out).next hb,HQ6.out.2.next hb,(HO4.out.2.1.next HB46.out).next hb,(HO4.out.1.next HB46.out).next hb⟩)
     obtain ⟨⟨hC7,hX7,hQ7,_⟩,_⟩:=HXX.out W6 bR
     have x2:=hC7.c2
     have x3:=hX7.c0
     have x4:=hX7.c1
     have x5:=hQ7.c0
     have x6:=hQ7.c1
     obtain ⟨E,hE,hEl,hEn⟩:=HO4.out.2.1.next HB46.out
     have HE:=ah hE
     have HEN:=ah (cJ hEl hEn)
     have HIL:=ah hil
     clear hE hEl hEn hC7 hX7 hQ7 hil
     go_region_law (first
      | (refine step_append_lies _ rfl _ _ 65 rfl W1.heap.size 25 i0 (.agg #[.bool false,.slice none 0 0]) 2 32 Tryz.underlying65 hi hz0 hz1 hz2 rfl (by decide) _ _ _ rfl ((row_next HE.out HB7.out).alloc _) ⟨W7.heap.size,0,none⟩ 1 1 [.bool s7,.slice A7 n7 c7] rfl rfl (zcell_new _ _ _ _) (by simp [Value.oneCell']) (by omega) (by have:=HIL.out;unfold maxLen;omega) (by have:=HIL.out;omega) HSZ7.out _ rfl ?_;intro g9 c9 W9 hown9 hgrow9 _ _;have hC9:=cc_grown ((row_next HE.out HB7.out).alloc _) hgrow9 (((HXX.out _ HB7.out).1.1).next (bR.alloc nR (.cells #[.bool s7,.slice A7 n7 c7] 25)));have k2:=hC9.c2;have k3:=hC9.fz 2)
      | (go_simp;go_at_call 146;refine (imul_any (HXX.out _ HBD.out).2.1 (HXX.out _ HBD.out).2.2.1.rd (by omega) (by have:=HQN.out;omega)).mono ?_;rintro _ W7 ⟨s7,A7,n7,c7,z7,rfl,ho7,hz7,hb7⟩;have HB7:=ah (HBD.out.trans hb7);have l2:=(HXX.out _ HB7.out).1.1.c2;have l3:=(((HXX.out _ HB7.out).1.1).next (bR.alloc nR (.cells #[.bool s7,.slice A7 n7 c7] 25))).c2;have HSZ7:=ah (show W1.heap.size<=(W7.alloc (.cells #[.bool s7,.slice A7 n7 c7] 25)).heap.size by { have h1:=HGR.out;have h2:=HGQ.out;have h3:=HQ6.out.1.lt;have h4:=HB7.out.size;simp;omega })))
     all_goals
      have hB7:=HB6.out.trans (HB7.out.mono HB6.out.size)
      have hk9:=keepT_grownZ ((row_next HE.out HB7.out).alloc (.cells #[.bool s7,.slice A7 n7 c7] 25)) hgrow9
      have hr9:=cc_grown ((row_next HE.out HB7.out).alloc (.cells #[.bool s7,.slice A7 n7 c7] 25)) hgrow9 ((HXX.out _ HB7.out).1.2.2.2.next (bR.alloc nR (.cells #[.bool s7,.slice A7 n7 c7] 25)))
      have hy9:=((HXX.out _ HB7.out).2.2.2.2.next (bR.alloc nR (.cells #[.bool s7,.slice A7 n7 c7] 25))).keep hk9
      have hmore:=zs_more (A:=A5) (n:=i) (c:=c5) (b:=W1.heap.size) (e:=(s7,A7,n7,c7)) (z:=z7) (t:=25) (w:=W7) (w1:=W9) (E:=E) (L:=M5) (v':=.slice (some ⟨g9,0,none⟩) (i+1) c9) (ho7.base (by have h1:=HGR.out;have h2:=HGQ.out;have h3:=HQ6.out.1.lt;have h4:=HBD.out.size;omega)) rfl ((row_next HE.out HB7.out).alloc _) HEN.out.1 (HEN.out.2.next HB7.out) hown9 hgrow9
      have hBB:=(hB7.alloc hB7.size (.cells #[.bool s7,.slice A7 n7 c7] 25)).grown hgrow9 (by have:=hB7.size;simp;omega) (fun k hk=>nT (Nat.le_of_lt HGR.out.1) (own_block HE.out k hk))
      obtain ⟨A9,c9',e9,ho9⟩:=hmore
      injection e9 with e9 _ e9'
      subst e9 e9'
      have HM9:=ah (show M5 ++ [z7]=(L.take (i+1)).map (fun x=>x.num*y.tdiv x.den) by rw [List.take_add_one,hp.out,List.map_append,hM5.out,hz7.out,HQV.out];rfl)
      have HC9:=ah (hC9.store1 (some ⟨g9,0,none⟩) (i+1) c9)
      have HR9:=ah (hr9.far (p:=⟨gc,2,none⟩) (by have:=HGR.out;simp;omega) (.slice (some ⟨g9,0,none⟩) (i+1) c9))
      have HO9:=ah (cJ (hy9.keep (keep_setC (j:=2) hC9 (.slice (some ⟨g9,0,none⟩) (i+1) c9))) (zs_setC (j:=2) ho9 hC9 (.slice (some ⟨g9,0,none⟩) (i+1) c9)))
      have HB9:=ah (hBB.setCell (p:=⟨gc,2,none⟩) (by have:=HGR.out;show w.heap.size<=gc;omega) (.slice (some ⟨g9,0,none⟩) (i+1) c9))
      have HS9:=ah (show W3.heap.size<=(W9.setCell ⟨gc,2,none⟩ (.slice (some ⟨g9,0,none⟩) (i+1) c9)).heap.size by
       have h1:=HB6.out.size
       have h2:=HB7.out.size
       have h3:=HXS.out
       have h4:=HB46.out.size
       have h5:=hgrow9.size
       simp at h5 ⊢
       omega)
      clear hC9 hr9 hy9 hk9 hBB ho9 hown9 hgrow9 hB7 k2 k3 x2 x3 x4 x5 x6 hb7 ho7 hz7 l2 l3
      go_wp2
      generalize W9.setCell ⟨gc,2,none⟩ (.slice (some ⟨g9,0,none⟩) (i+1) c9)=V9 at *
      go_roundw
      case rel=>exact ⟨i+1,some ⟨g9,0,none⟩,c9,M5 ++ [z7],by go_num,by have:=HIL.out;omega,HC9.out,HR9.out,HO9.out.1,HO9.out.2,HM9,HS9,HB9.out⟩
      case measure=>simp [intOf];have:=HIL.out;omega
  ·have hjl:j < n:=by omega
   clear hjn
   have hjli:(j:Int) < (n:Int):=by omega
   obtain ⟨ad,s1,A1,n1,c1,s4,A4,n4,c4,x,hA,hbk,hx0,hx1,hx2,hx3,hr1,hr2,hn1,hn2,hp⟩:=qp_at (HRD.out.next hB) hjl
   subst hA
   have HYP:=ah (show 0 < y by rw [hy.out.1];exact denF_pos _ 1 (by decide))
   have HYN:=ah (show Zz.zl y<=M/\Zz.zl ((Nat.lcm y.natAbs x.den:Nat):Int)<=M from ⟨by rw [hy.out.1];exact HSZ.out j,by rw [hy.out.1,<- denF_take hp.out];exact HSZ.out (j+1)⟩)
   obtain ⟨W4,HW4⟩:∃ W,W=wr.alloc (.cells #[.bool s1,.slice A1 n1 c1,.bool s4,.slice A4 n4 c4] 47):=⟨_,rfl⟩
   have hb4:Below wr.heap.size wr W4:=by rw [HW4];exact bA
   have hX4:QC W4 wr.heap.size s1 A1 n1 c1 s4 A4 n4 c4:=by rw [HW4];exact QC.new wr s1 A1 n1 c1 s4 A4 n4 c4
   have hC4:=hC.next hb4
   obtain ⟨W5,HW5⟩:∃ W,W=W4.alloc (.cells #[.bool s,.slice A' n' c',.bool s4,.slice A4 n4 c4] 25):=⟨_,rfl⟩
   have hb5:Below W4.heap.size W4 W5:=by rw [HW5];exact bA
   have hq:=zs_two (N:=max N M) (ho.next hb4).rd (hr2.next hb4) (by rw [ho.len];have:=HYN.out;omega) (by omega) HW5
   have hs4:W4.heap.size=wr.heap.size+1:=by rw [HW4];simp
   have hb45:=hb4.trans (hb5.mono hb4.size)
   have b0:=hC4.c0
   have b1:=hC4.c1
   have a2:=hX4.c2
   have a3:=hX4.c3
   rw [hs4] at hq
   rw [HW4] at b0 b1 a2 a3 HW5
   have HQ:=ah hq
   have HC5:=ah (hC.next hb45)
   have HR5:=ah (hR.next hb45)
   have HB5:=ah (hB.trans (hb45.mono hB.size))
   have HW35:=ah (show W3.heap.size<=W5.heap.size from nT hy.out.2 hb45.size)
   have HYV:=ah hy.out.1
   have HW5:=ah HW5
   clear hC hR ho hb4 hb5 hb45 hX4 hC4 hr1 hr2 hq hs4 hB hy HW4
   go_wp2_with fail
   rw [<- HW5.out]
   clear HW5 hx0 hx1 hx2 hx3 b0 b1 a2 a3
   clear HW5
   refine (lcml_any (N:=max N M) (M:=M+1) HQ.out (fun u hu=>by
    simp at hu
    rcases hu with rfl | rfl
    ·exact HYP.out
    ·have:=x.den_pos;omega) (by omega) (by omega) (fun t=>by
    match t with
    | 0 =>
      show Zz.zl 1<=M+1
      exact nT (Zz.zl_small (by decide)) (by omega)
    | 1 =>
      have e:([y,(x.den:Int)].take 1).foldl (fun (g x:Int)=>((Nat.lcm g.natAbs x.natAbs:Nat):Int)) 1=(y.natAbs:Int):=by simp [Nat.lcm_one_left]
      rw [e,Zz.zl_abs]
      have:=HYN.out.1
      omega
    | t + 2 =>
      rw [List.take_of_length_le (by simp),two_lcm HYP.out]
      have:=HYN.out.2
      omega)).mono ?_
   rintro _ W6 ⟨s6,A6,n6,c6,y6,rfl,ho6,hy6,hb6⟩
   have hC6:=HC5.out.next hb6
   have g0:=hC6.c0
   have g1:=hC6.c1
   have f0:=hC6.fz 0
   have f1:=hC6.fz 1
   have HC9:=ah (hC6.store2 s6 A6 n6 c6)
   have HR9:=ah (((HR5.out.next hb6).far (p:=⟨gc,0,none⟩) (by have:=HGR.out;simp;omega) (.bool s6)).far (p:=⟨gc,1,none⟩) (by have:=HGR.out;simp;omega) (.slice A6 n6 c6))
   have HO9:=ah ((ho6.base (b':=W1.heap.size) (by have:=HW35.out;have:=HG3.out;have:=HGR.out;omega)).keep (keep_setC2 hC6 (.bool s6) (.slice A6 n6 c6)))
   have HB9:=ah (below_put2 (HB5.out.trans (hb6.mono HB5.out.size)) (show w.heap.size<=gc by have:=HGR.out;omega) (.bool s6) (.slice A6 n6 c6))
   have HV9:=ah (show y6=denF 1 (L.take (j+1)) by rw [hy6.out,two_lcm HYP.out,denF_take hp.out,HYV.out])
   have HS9:=ah (show W3.heap.size<=((W6.setCell ⟨gc,0,none⟩ (.bool s6)).setCell ⟨gc,1,none⟩ (.slice A6 n6 c6)).heap.size by have:=HW35.out;have:=hb6.size;simp;omega)
   clear hC6 ho6 hb6 hy6
   go_wp2_with fail
   generalize (W6.setCell ⟨gc,0,none⟩ (.bool s6)).setCell ⟨gc,1,none⟩ (.slice A6 n6 c6)=W9 at *
   go_roundw
   case rel=>exact ⟨j+1,s6,A6,n6,c6,y6,by go_num,by omega,HC9.out,HR9.out,HO9.out,ah ⟨HV9.out,HS9.out⟩,HB9.out⟩
   case measure=>simp [intOf];omega
theorem common_any {N M:Nat}{A:Option Addr}{n c:Nat}{L:List Rat}{w:World}(h:RdQs w w.heap.size N A n c (L.map pr))(hS:∀ j,Zz.zl (denF 1 (L.take j))<=M)(hn:n<=1048576)(hN:N<=200000000000)(hM:M<=200000000000)(h1N:1<=N) :
  Calls Tryz.prog 118 #[.slice A n c] w fun e w'=>∃ (s:Bool) (A:Option Addr) (n c:Nat) (y:Int) (A':Option Addr) (n' c':Nat) (P:List Int) (kk:Int),e=.returned (.tuple #[.agg #[.bool s,.slice A n c],.slice A' n' c',.int .i64 kk])/\OwZ w' w.heap.size s A n c y/\OwZs w' w.heap.size A' n' c' P/\Hid (y=denL L/\P=numL L/\kk=0)/\Below w.heap.size w w':=by
 have heg:=enters_of Tryz.func170 (by kernel_rfl) rfl
 have HSL:=ah (h.szp h1N)
 have HS:=ah hS
 obtain ⟨W1,HW1⟩:∃ W,W=w.alloc (.cells #[.bool false,.slice none 0 0] 25):=⟨_,rfl⟩
 have hR:ZC W1 w.heap.size false none 0 0:=by rw [HW1];exact ZC.new w false none 0 0
 have hB:Below w.heap.size w W1:=by rw [HW1];exact (Below.refl w.heap.size w).alloc nR _
 have HW1:=ah HW1
 have h1:=h.next hB
 clear hS
 go_enter Tryz.func118,Tryz.ntmps118
 go_wp2_with fail
 rw [<- HW1.out]
 clear HW1
 clear HW1
 refine (made_common (d:=denL L) (P:=numL L) h1 hn (by omega) (fun p hp=>by
  obtain ⟨x,_,rfl⟩:=List.mem_map.1 hp
  exact pr_ne x) heg (fun W A' c' b hb _ ho=>by
  rw [map_qval_pr] at ho
  exact common_in ho HSL.out.mem HS.out hn hN hM h1N)).mono ?_
 rintro _ W2 ⟨s2,A2,n2,c2,y,A3,n3,c3,P,kk,rfl,ho,hoz,hy,hb2⟩
 obtain ⟨W3,HW3⟩:∃ W,W=W2.alloc (.cells #[.bool s2,.slice A2 n2 c2,.slice A3 n3 c3] 194):=⟨_,rfl⟩
 have hb3:Below W2.heap.size W2 W3:=by rw [HW3];exact bA
 have hC:CC W3 W2.heap.size s2 A2 n2 c2 A3 n3 c3:=by rw [HW3];exact CC.new W2 s2 A2 n2 c2 A3 n3 c3
 have hb13:=hb2.trans (hb3.mono hb2.size)
 have hR3:=hR.next hb13
 have HB3:=ah (hB.trans (hb13.mono hB.size))
 have HLT:=ah (show w.heap.size < W1.heap.size/\W1.heap.size<=W2.heap.size from ⟨hR.lt,hb2.size⟩)
 have HO3:=ah (cJ (ho.next hb3) (hoz.next hb3))
 have q0:=hC.c0
 have q1:=hC.c1
 have q2:=hC.c2
 have HC:=ah hC
 have HR:=ah hR3
 have HW3:=ah HW3
 clear ho hoz hb2 hb3 hb13 hR hB h1 h hC hR3
 go_upto_region 2 with fail
 rw [<- HW3.out]
 clear HW3
 clear HW3
 generalize W2.heap.size=gc at *
 have r0:=HR.out.c0
 have r1:=HR.out.c1
 have f0:=HR.out.fz 0
 have f1:=HR.out.fz 1
 have HD:=ah (cJ (HC.out.next (Below.refl W3.heap.size W3).drew) (HR.out.next (Below.refl W3.heap.size W3).drew))
 have d0:=HD.out.1.c0
 have d1:=HD.out.1.c1
 have d2:=HD.out.1.c2
 have d3:=HD.out.2.c0
 have d4:=HD.out.2.c1
 have d5:=HD.out.2.fz 0
 have d6:=HD.out.2.fz 1
 have hF:=(HD.out.1.far (p:=⟨w.heap.size,0,none⟩) (by have:=HLT.out;simp;omega) (.bool s2)).far (p:=⟨w.heap.size,1,none⟩) (by have:=HLT.out;simp;omega) (.slice A2 n2 c2)
 have e2:=hF.c2
 have hlt:w.heap.size < W1.heap.size:=HLT.out.1
 have HO9:=ah (cJ (((HO3.out.1.keep (keep_set2 HR.out (.bool s2) (.slice A2 n2 c2))).next bR.drew).base (Nat.le_of_lt hlt)) ((((HO3.out.2.far (p:=⟨w.heap.size,0,none⟩) hlt (.bool s2)).far (p:=⟨w.heap.size,1,none⟩) hlt (.slice A2 n2 c2)).next bR.drew).base (Nat.le_of_lt hlt)))
 have HR9:=ah ((HR.out.store s2 A2 n2 c2).next bR.drew)
 have hB9:=below_put2 HB3.out (Nat.le_refl w.heap.size) (.bool s2) (.slice A2 n2 c2)
 have HB9:=ah (hB9.trans (bR.drew.mono hB9.size))
 clear hB9
 clear hF hlt
 go_region_with (fail)
 all_goals
  clear q0 q1 q2 r0 r1 f0 f1 d0 d1 d2 d3 d4 d5 d6 e2
  go_wp2
  generalize ((W3.setCell ⟨w.heap.size,0,none⟩ (.bool s2)).setCell ⟨w.heap.size,1,none⟩ (.slice A2 n2 c2)).drew=W9 at *
  have z0:=HR9.out.c0
  have z1:=HR9.out.c1
  exact bodyPost_ret (by simp [results,Tryz.results118,go_sem,z0,z1]) rfl ⟨s2,A2,n2,c2,y,A3,n3,c3,P,kk,rfl,HO9.out.1,HO9.out.2,hy,HB9.out⟩
def RetPt (d:Int)(P:List Int)(w:World)(e:Ending)(w':World):Prop :=
 ∃ (s:Bool) (A:Option Addr) (n c:Nat) (y:Int) (A':Option Addr) (n' c':Nat) (Q:List Int),e=.returned (.tuple #[.agg #[.bool s,.slice A n c],.slice A' n' c'])/\OwZ w' w.heap.size s A n c y/\OwZs w' w.heap.size A' n' c' Q/\Hid (y=d/\Q=P)/\Below w.heap.size w w'
theorem parts_any {N M:Nat}{A:Option Addr}{n c:Nat}{L:List Rat}{w:World}(h:RdQs w w.heap.size N A n c (L.map pr))(hS:∀ j,Zz.zl (denF 1 (L.take j))<=M)(hn:n<=1048576)(hN:N<=200000000000)(hM:M<=200000000000)(h1N:1<=N) :
  Calls Tryz.prog 217 #[.slice A n c] w (RetPt (denL L) (numL L) w):=by
 obtain ⟨W1,HW1⟩:∃ W,W=w.alloc (.cells #[.bool false,.slice none 0 0] 25):=⟨_,rfl⟩
 have hR:ZC W1 w.heap.size false none 0 0:=by rw [HW1];exact ZC.new w false none 0 0
 have hB:Below w.heap.size w W1:=by rw [HW1];exact (Below.refl w.heap.size w).alloc nR _
 have HW1:=ah HW1
 have h1:=h.next hB
 go_enter Tryz.func217,Tryz.ntmps217
 go_wp2_with fail
 rw [<- HW1.out]
 clear HW1
 clear HW1
 refine (common_any h1 hS hn hN hM h1N).mono ?_
 rintro _ W2 ⟨s2,A2,n2,c2,y,A3,n3,c3,P,kk,rfl,ho,hoz,hy,hb2⟩
 obtain ⟨W3,HW3⟩:∃ W,W=W2.alloc (.cells #[.bool s2,.slice A2 n2 c2] 25):=⟨_,rfl⟩
 have hb3:Below W2.heap.size W2 W3:=by rw [HW3];exact bA
 have hC:ZC W3 W2.heap.size s2 A2 n2 c2:=by rw [HW3];exact ZC.new W2 s2 A2 n2 c2
 have hb13:=hb2.trans (hb3.mono hb2.size)
 have hR3:=hR.next hb13
 have hB3:=hB.trans (hb13.mono hB.size)
 have hlt:w.heap.size < W1.heap.size:=hR.lt
 have HV:=ah (cJ hy.out.1 hy.out.2.1)
 have HO9:=ah (cJ (((ho.next hb3).keep (keep_set2 hR3 (.bool s2) (.slice A2 n2 c2))).base (Nat.le_of_lt hlt)) ((((hoz.next hb3).far (p:=⟨w.heap.size,0,none⟩) hlt (.bool s2)).far (p:=⟨w.heap.size,1,none⟩) hlt (.slice A2 n2 c2)).base (Nat.le_of_lt hlt)))
 have HR9:=ah (hR3.store s2 A2 n2 c2)
 have HB9:=ah (below_put2 hB3 (Nat.le_refl w.heap.size) (.bool s2) (.slice A2 n2 c2))
 have q0:=hC.c0
 have q1:=hC.c1
 have r0:=hR3.c0
 have r1:=hR3.c1
 have f0:=hR3.fz 0
 have f1:=hR3.fz 1
 rw [HW3] at q0 q1 r0 r1 f0 f1
 have HW3:=ah HW3
 clear ho hoz hb2 hb3 hb13 hR hB h1 h hC hR3 hB3 hlt hy
 go_wp2_with fail
 rw [<- HW3.out]
 clear HW3 q0 q1 r0 r1 f0 f1
 clear HW3
 generalize (W3.setCell ⟨w.heap.size,0,none⟩ (.bool s2)).setCell ⟨w.heap.size,1,none⟩ (.slice A2 n2 c2)=W9 at *
 have z0:=HR9.out.c0
 have z1:=HR9.out.c1
 exact bodyPost_ret (by simp [results,Tryz.results217,go_sem,z0,z1]) rfl ⟨s2,A2,n2,c2,y,A3,n3,c3,P,rfl,HO9.out.1,HO9.out.2,HV,HB9.out⟩
end Go.Proofs.YtjnklbfhelbjgaaGreat
namespace Pq
def pcv (a b:Nat → Rat):Nat → Nat → Rat
 | 0,_=>0
 | k+1,t=>pcv a b k t+(if k ≤ t then a k*b (t-k) else 0)
theorem pcv_succ (a b:Nat → Rat)(k t:Nat):pcv a b (k+1) t=pcv a b k t+(if k ≤ t then a k*b (t-k) else 0):=rfl
theorem pcv_cv (a b:Nat → Rat)(t:Nat):∀ n,pcv a b n t=cv (fun i=>if i < n then a i else 0) b t
 | 0 => by
   rw [show (fun i=>if i < 0 then a i else 0)=fun _=>(0:Rat) from funext fun i=>if_neg (Nat.not_lt_zero i),cv_zero_left]
   rfl
 | n + 1 => by
   have e:(fun i=>if i < n+1 then a i else 0)=fun i=>(if i < n then a i else 0)+mono (a n) n i:=by
    funext i
    unfold mono
    by_cases h1:i < n
    ·rw [if_pos h1,if_pos (by omega),if_neg (by omega),Rat.add_zero]
    ·by_cases h2:i=n
     ·subst h2
      rw [if_pos (by omega),if_neg h1,if_pos rfl,Rat.zero_add]
     ·rw [if_neg (by omega),if_neg h1,if_neg h2,Rat.add_zero]
   rw [pcv_succ,pcv_cv a b t n,e,cv_add_left,cv_mono]
theorem pcv_all {a:Nat → Rat}(b:Nat → Rat){n:Nat}(h:Up a n)(t:Nat):pcv a b n t=cv a b t:=by
 rw [pcv_cv]
 congr 1
 funext i
 by_cases h1:i < n
 ·rw [if_pos h1]
 ·rw [if_neg h1,h i (by omega)]
end Pq
namespace Go.Proofs.YtjnklbfhelbjgaaGreat
open Go.RowKit Go.IntWalk
theorem pcv_int {S T:Nat}{a b:Nat->Rat}{Z Y:Nat->Int}{D E:Int}(h:Com S a Z D)(h':Com T b Y E)(t:Nat):∀ n,Pq.pcv a b n t=((Pz.cvp Z Y n t:Int):Rat) / ((D:Rat)*(E:Rat))
 | 0 => by
   show (0:Rat)=_
   rw [Pz.cvp_zero,show ((0:Int):Rat)=0 from rfl,Rat.div_def,Rat.zero_mul]
 | n + 1 => by
   have hD:=int_ne h.ne
   have hE:=int_ne h'.ne
   rw [Pq.pcv_succ,pcv_int h h' t n,Pz.cvp_succ,h.at_,h'.at_,divInt_div,divInt_div]
   by_cases h1:n<=t
   ·rw [if_pos h1,if_pos h1,Rat.intCast_add,Rat.intCast_mul]
    grind
   ·rw [if_neg h1,if_neg h1,Int.add_zero,Rat.add_zero]
theorem com_pcv {S T n:Nat}{a b:Nat->Rat}{Z Y:Nat->Int}{D E:Int}(h:Com S a Z D)(h':Com T b Y E)(hn:n < 4294967295):Com (S+T+1) (Pq.pcv a b n) (Pz.cvp Z Y n) (D*E) :=
 ⟨Int.mul_ne_zero h.ne h'.ne,fun t=>by rw [pcv_int h h' t n,divInt_div,Rat.intCast_mul],fun t=>Pz.cvp_zl h.sz h'.sz hn t,by have e1:=Zz.zl_mul D E;have e2:=h.dz;have e3:=h'.dz;omega⟩
theorem com_cv {S T n:Nat}{a b:Nat->Rat}{Z Y:Nat->Int}{D E:Int}(h:Com S a Z D)(h':Com T b Y E)(hn:n < 4294967295)(hu:Pq.Up a n):Com (S+T+1) (Pq.cv a b) (Pz.cvp Z Y n) (D*E) :=
 (com_pcv h h' hn).congr fun i=>(Pq.pcv_all b hu i).symm
theorem com_add {S T:Nat}{a b:Nat->Rat}{Z Y:Nat->Int}{D E:Int}(h:Com S a Z D)(h':Com T b Y E):Com (S+T+1) (fun i=>a i+b i) (fun i=>Z i*E+Y i*D) (D*E):=by
 refine ⟨Int.mul_ne_zero h.ne h'.ne,fun t=>?_,fun t=>?_,by have e1:=Zz.zl_mul D E;have e2:=h.dz;have e3:=h'.dz;omega⟩
 ·show a t+b t=_
  rw [h.at_,h'.at_,Rat.divInt_add_divInt _ _ h.ne h'.ne]
 ·have e1:=Zz.zl_add (Z t*E) (Y t*D)
  have e2:=Zz.zl_mul (Z t) E
  have e3:=Zz.zl_mul (Y t) D
  have e4:=h.sz t
  have e5:=h'.sz t
  have e6:=h.dz
  have e7:=h'.dz
  omega
theorem com_zero:Com 1 (fun _=>(0:Rat)) (fun _=>0) 1:=⟨by decide,fun i=>rfl,fun i=>by rw [Zz.zl_zero];omega,Zz.zl_small (by decide)⟩
theorem com_smul {S N:Nat}{a:Nat->Rat}{Z:Nat->Int}{D:Int}{x:Rat}(h:Com S a Z D)(hx:Qs N x):Com (S+N) (fun i=>a i*x) (fun i=>Z i*x.num) (D*x.den):=by
 refine ⟨Int.mul_ne_zero h.ne (qden_ne x),fun t=>?_,fun t=>?_,?_⟩
 ·show a t*x=_
  conv=>lhs;rw [h.at_,<- Rat.num_divInt_den x,Rat.divInt_mul_divInt]
 ·have e1:=Zz.zl_mul (Z t) x.num
  have e2:=h.sz t
  have e3:=hx.1
  omega
 ·have e1:=Zz.zl_mul D x.den
  have e2:=h.dz
  have e3:=hx.2
  omega
theorem den_dvd' (z:Int){d:Int}(hd:d ≠ 0):((Rat.divInt z d).den:Int) ∣ d:=by
 rw [Rat.den_divInt,if_neg hd]
 exact Int.ofNat_dvd_left.2 (Nat.div_dvd_of_dvd (Nat.gcd_dvd_left _ _))
theorem com_den {S:Nat}{L:List Rat}{Z:Nat->Int}{D:Int}(h:Com S (Pq.co L) Z D){x:Rat}(hx:x ∈ L):(x.den:Int) ∣ D:=by
 obtain ⟨i,_,rfl⟩:=Pq.mem_co hx
 rw [h.at_]
 exact den_dvd' _ h.ne
theorem denF_dvd_of {D:Int}:∀ (L:List Rat) (g:Int),g ∣ D->(∀ x ∈ L,(x.den:Int) ∣ D)->denF g L ∣ D
 | [],g,h,_=>h
 | x :: L, g, h, hx => by
   refine denF_dvd_of L _ ?_ fun y hy=>hx y (List.mem_cons_of_mem _ hy)
   have h1:g.natAbs ∣ D.natAbs:=Int.natAbs_dvd_natAbs.2 h
   have h2:x.den ∣ D.natAbs:=by
    have:=Int.natAbs_dvd_natAbs.2 (hx x (List.mem_cons_self ..))
    simpa using this
   exact Int.ofNat_dvd_left.2 (Nat.lcm_dvd h1 h2)
theorem zl_dvd {x D:Int}(h:x ∣ D)(hD:D ≠ 0):Zz.zl x<=Zz.zl D:=Zz.zl_of_le (Nat.le_of_dvd (Int.natAbs_pos.2 hD) (Int.natAbs_dvd_natAbs.2 h))
theorem com_denF {S:Nat}{L:List Rat}{Z:Nat->Int}{D:Int}(h:Com S (Pq.co L) Z D)(j:Nat):Zz.zl (denF 1 (L.take j))<=S :=
 nT (zl_dvd (denF_dvd_of _ 1 (Int.one_dvd D) fun _ hx=>com_den h (List.mem_of_mem_take hx)) h.ne) h.dz
theorem co_numL (L:List Rat)(i:Nat):Pz.co (numL L) i=(Pq.co L i).num*(denL L).tdiv (Pq.co L i).den:=by
 unfold numL
 rcases Nat.lt_or_ge i L.length with h | h
 ·rw [Pz.co_get (by rw [List.getElem?_map,Pq.get_co h];rfl)]
 ·rw [Pz.co_ge (by rw [List.length_map];exact h),Pq.co_ge h]
  show (0:Int)=0*_
  rw [Int.zero_mul]
theorem parts_com {S:Nat}{L:List Rat}{Z:Nat->Int}{D:Int}(h:Com S (Pq.co L) Z D):Com S (Pq.co L) (Pz.co (numL L)) (denL L):=by
 have hp:=denF_pos L 1 (by decide)
 have hne:denL L ≠ 0:=by show denF 1 L ≠ 0;omega
 have hdv:∀ i,((Pq.co L i).den:Int) ∣ denL L:=fun i=>by
  rcases Nat.lt_or_ge i L.length with h1 | h1
  ·exact den_dvd L 1 _ (gM (Pq.get_co h1))
  ·rw [Pq.co_ge h1];exact Int.one_dvd _
 have hdd:denL L ∣ D:=denF_dvd_of L 1 (Int.one_dvd D) fun _ hx=>com_den h hx
 refine ⟨hne,fun i=>?_,fun i=>?_,nT (zl_dvd hdd h.ne) h.dz⟩
 ·obtain ⟨k,hk⟩:=hdv i
  have hx:=qden_ne (Pq.co L i)
  rw [co_numL,hk,Int.mul_tdiv_cancel_left _ hx]
  conv=>lhs;rw [<- Rat.num_divInt_den (Pq.co L i)]
  rw [Rat.divInt_eq_divInt_iff hx (by rw [<- hk];exact hne)]
  grind
 ·obtain ⟨k,hk⟩:=hdv i
  obtain ⟨u,hu⟩:=hdd
  have hx:=qden_ne (Pq.co L i)
  have e:Z i=Pz.co (numL L) i*u:=by
   have h2:=h.at_ i
   rw [<- Rat.num_divInt_den (Pq.co L i)] at h2
   have h3:=(Rat.divInt_eq_divInt_iff hx h.ne).1 h2
   rw [co_numL,hk,Int.mul_tdiv_cancel_left _ hx]
   have h4:((Pq.co L i).den:Int)*Z i=((Pq.co L i).den:Int)*((Pq.co L i).num*k*u):=by
    rw [hu,hk] at h3
    rw [Int.mul_comm _ (Z i),<- h3]
    grind
   exact Int.eq_of_mul_eq_mul_left hx h4
  have hu0:u ≠ 0:=by
   rintro rfl
   rw [Int.mul_zero] at hu
   exact h.ne hu
  refine nT (Zz.zl_of_le ?_) (h.sz i)
  rw [e,Int.natAbs_mul]
  exact Nat.le_mul_of_pos_right _ (Int.natAbs_pos.2 hu0)
attribute [local go_sem ↓] Go.wp_at_zero Go.wp_at_succ
theorem isp_zl {f:Nat->Int}{M:List Int}{N:Nat}(h:Pz.IsP f M)(hf:∀ i,Zz.zl (f i)<=N):∀ z ∈ M,Zz.zl z<=N:=fun z hz=>by
 obtain ⟨i,_,rfl⟩:=Pz.mem_co hz
 rw [h.2]
 exact hf i
theorem zmul_any {N N':Nat}{A A':Option Addr}{n c n' c':Nat}{L L':List Int}{w:World}(h:RdZs w w.heap.size N A n c L)(h':RdZs w w.heap.size N' A' n' c' L')(hn:n<=4294967290)(hn':n'<=4294967290)(hN:N<=2199023255551)(hN':N'<=2199023255551) :
  Calls Tryz.prog 219 #[.slice A n c,.slice A' n' c'] w (RetP (Pz.cvp (Pz.co L) (Pz.co L') n) w):=by
 have HC:=ah (cJ (zl_co h) (zl_co h'))
 have HLN:=ah (cJ h.len h'.len)
 go_enter Tryz.func219,Tryz.ntmps219
 go_wp2_with fail
 refine (znorm_any h (by omega) (by omega)).mono ?_
 rintro _ W1 ⟨A1,m1,c1,M1,rfl,ho1,hM1,hb1⟩
 go_wp2_with fail
 refine (znorm_any (h'.next hb1) (by omega) (by omega)).mono ?_
 rintro _ W2 ⟨A2,m2,c2,M2,rfl,ho2,hM2,hb2⟩
 have hr1:=(ho1.next hb2).rd (N:=N) (isp_zl hM1.out HC.out.1)
 have hr2:=ho2.rd (N:=N') (isp_zl hM2.out HC.out.2)
 have hm1:m1<=n:=by rw [<- ho1.len];exact hM1.out.len fun i hi=>Pz.co_ge (by rw [HLN.out.1];exact hi)
 have hm2:m2<=n':=by rw [<- ho2.len];exact hM2.out.len fun i hi=>Pz.co_ge (by rw [HLN.out.2];exact hi)
 have HLM:=ah (cJ ho1.len ho2.len)
 have HB:=ah (hb1.trans (hb2.mono hb1.size))
 have HEQ:=ah (show ∀ t,Pz.cvp (Pz.co L) (Pz.co L') n t=Pz.cvp (Pz.co M1) (Pz.co M2) m1 t from fun t=>by
  rw [Pz.cvp_congr (fun i=>(hM1.out.2 i).symm) (fun i=>(hM2.out.2 i).symm)]
  exact Pz.cvp_stop' (fun i hi=>Pz.co_ge (by rw [HLM.out.1];exact hi)) hm1 t)
 have HCM:=ah (show (∀ i,Zz.zl (Pz.co M1 i)<=N)/\(∀ i,Zz.zl (Pz.co M2 i)<=N') from ⟨fun i=>by rw [hM1.out.2];exact HC.out.1 i,fun i=>by rw [hM2.out.2];exact HC.out.2 i⟩)
 clear ho1 ho2 hb1 hb2 h h'
 rcases Nat.eq_zero_or_pos m1 with e1 | e1
 ·subst e1
  go_wp2
  go_ret
  exact ⟨none,0,0,[],rfl,OwZs.nil _ _,ah ⟨Pz.nz_nil,fun t=>by rw [HEQ.out t,Pz.co_nil];rfl⟩,HB.out⟩
 rcases Nat.eq_zero_or_pos m2 with e2 | e2
 ·subst e2
  have hmb:((m1:Int) == 0)=false:=by simp;omega
  go_wp2
  go_ret
  exact ⟨none,0,0,[],rfl,OwZs.nil _ _,ah ⟨Pz.nz_nil,fun t=>by
   rw [HEQ.out t,Pz.co_nil]
   have e3:∀ i,Pz.cvp (Pz.co M1) (Pz.co M2) i t=0:=by
    intro i
    induction i with
    | zero=>rfl
    | succ i ih =>
      rw [Pz.cvp_succ,ih,Pz.co_ge (L:=M2) (i:=t-i) (by rw [HLM.out.2];omega)]
      simp
   exact (e3 m1).symm⟩,HB.out⟩
 have hmb:((m1:Int) == 0)=false:=by simp;omega
 have hmb':((m2:Int) == 0)=false:=by simp;omega
 obtain ⟨m,hm⟩:∃ m,m=m1+m2-1:=⟨_,rfl⟩
 have hmi:(m1:Int)+m2-1=m:=by omega
 have hmk:=make_zs m (by omega)
 have hZ0:=ZB.made W2 m
 have hE0:=EntF.zeros (W2.alloc (.cells (zcs (List.replicate m (false,none,0,0))).toArray 25)) w.heap.size m
 have hbm:Below W2.heap.size W2 (W2.alloc (.cells (zcs (List.replicate m (false,none,0,0))).toArray 25)):=bA
 have HM:=ah hm
 clear hm
 go_wp2_with fail
 obtain ⟨g,hg⟩:∃ g,g=W2.heap.size:=⟨_,rfl⟩
 generalize W2.alloc (.cells (zcs (List.replicate m (false,none,0,0))).toArray 25)=W3 at *
 rw [<- hg] at hZ0 hr1 hr2 hbm ⊢
 have HG:=ah (show w.heap.size<=g by rw [hg];exact HB.out.size)
 have HBG:=ah (show ∀ W:World,Below g W2 W->Below w.heap.size w W from fun W hb=>HB.out.trans (hb.mono HG.out))
 have HR1:=ah hr1
 have HR2:=ah hr2
 clear hmk hg hr1 hr2
 go_loopw [31] (fun iv wr=>∃ (i:Nat) (E:List Ent),iv=.int .i64 i/\i<=m1/\ZB wr g E/\Hid (E.length=m)/\EntF wr w.heap.size E (Pz.cvp (Pz.co M1) (Pz.co M2) i)/\Below g W2 wr) (fun iv _=>m1-(intOf iv).toNat)
 case atStart=>exact ⟨0,_,rfl,nZ,hZ0,ah (by simp),hE0,hbm⟩
 case round =>
  clear hZ0 hE0 hbm
  obtain ⟨i,E,rfl,hi,hZ,hEl,hE,hBg⟩:=hrel
  have hB:=HBG.out _ hBg
  by_cases him:i=m1
  ·subst him
   have ho:=(hZ.own hE HG.out hEl.out (by unfold maxLen;omega))
   have hrd:=ho.rd (N:=N+N'+1) (fun z hz=>by
    obtain ⟨t,_,rfl⟩:=List.mem_map.1 hz
    exact Pz.cvp_zl HCM.out.1 HCM.out.2 (by omega) t)
   go_wp2_with fail
   refine (znorm_any hrd (by omega) (by omega)).mono ?_
   rintro _ W4 ⟨A4,n4,c4,M4,rfl,ho4,hM4,hb4⟩
   go_wp2
   go_ret
   refine ⟨_,_,_,M4,rfl,ho4.base hB.size,ah (hM4.out.congr fun t=>?_),hB.trans (hb4.mono hB.size)⟩
   rw [HEQ.out t]
   rcases Nat.lt_or_ge t m with ht | ht
   ·rw [Pz.co_get (z:=Pz.cvp (Pz.co M1) (Pz.co M2) i t) (by rw [List.getElem?_map,List.getElem?_range ht];rfl)]
   ·rw [Pz.co_ge (by simpa using ht),Pz.cvp_above (k:=m2) (fun i hi=>Pz.co_ge (by rw [HLM.out.2];exact hi)) (by have:=HM.out;omega)]
  ·have hil:i < m1:=by omega
   clear him
   have hili:(i:Int) < (m1:Int):=by omega
   obtain ⟨ad,s,A3,n3,c3,x,rfl,hbk,hx0,hx1,hrx,hn3,hx⟩:=zs_at HR1.out hil
   obtain ⟨hy0,hy1⟩:=zs_cells hBg hbk hx0 hx1
   obtain ⟨W4,HW4⟩:∃ W,W=wr.alloc (.cells #[.bool s,.slice A3 n3 c3] 25):=⟨_,rfl⟩
   have hX:ZC W4 wr.heap.size s A3 n3 c3:=by rw [HW4];exact ZC.new wr s A3 n3 c3
   have hb4:Below wr.heap.size wr W4:=by rw [HW4];exact bA
   have HW4:=ah HW4
   have HX:=ah (show Pz.co M1 i=x from Pz.co_get hx.out)
   go_wp2_with fail
   rw [<- HW4.out]
   clear HW4 hx0 hx1 hx hy0 hy1
   clear HW4
   obtain ⟨gx,hgx⟩:∃ g,g=wr.heap.size:=⟨_,rfl⟩
   rw [<- hgx] at hX ⊢
   have HGX:=ah (show g < gx by rw [hgx];exact hZ.lt)
   clear hgx
   have hZ4:=hZ.next hb4
   have hE4:=hE.next hb4
   have hB4:=hBg.trans (hb4.mono (Nat.le_of_lt hZ.lt))
   have HRX:=ah hrx
   clear hZ hE hB hBg hrx hb4
   go_loopw [38] (fun kv wr=>∃ (k:Nat) (E:List Ent),kv=.int .i64 k/\k<=m2/\ZB wr g E/\Hid (E.length=m)/\EntF wr w.heap.size E (Pz.cvm (Pz.co M1) (Pz.co M2) i k)/\Below g W2 wr/\ZC wr gx s A3 n3 c3) (fun kv _=>m2-(intOf kv).toNat)
   case atStart=>exact ⟨0,E,rfl,nZ,hZ4,hEl,hE4.congr fun t=>(Pz.cvm_zero _ _ _ _).symm,hB4,hX⟩
   case round =>
    clear hZ4 hE4 hB4 hX hEl
    obtain ⟨k,E,rfl,hk,hZ,hEl,hE,hBg,hX⟩:=hrel
    by_cases hkm:k=m2
    ·subst hkm
     go_wp2
     go_roundw
     case rel=>exact ⟨i+1,E,by go_num,by omega,hZ,hEl,hE.congr fun t=>Pz.cvm_end (fun j hj=>Pz.co_ge (by rw [HLM.out.2];exact hj)) i t,hBg⟩
     case measure=>simp [intOf];omega
    ·have hkl:k < m2:=by omega
     clear hkm
     have hkli:(k:Int) < (m2:Int):=by omega
     obtain ⟨ad',s',A5,n5,c5,y,rfl,hbk',hx0,hx1,hry,hn5,hy⟩:=zs_at HR2.out hkl
     obtain ⟨hy0,hy1⟩:=zs_cells hBg hbk' hx0 hx1
     obtain ⟨t,ht⟩:∃ t,t=i+k:=⟨_,rfl⟩
     have hti:(i:Int)+k=(t:Int):=by omega
     have htl:t < m:=by have:=HM.out;omega
     have htli:(t:Int) < (m:Int):=by omega
     have htw:IntKind.i64.wrap ((i:Int)+k)=(t:Int):=by rw [IntWalk.i64_in _ (by omega)];exact hti
     have ht0:(0:Int)<=(t:Int):=by omega
     obtain ⟨W5,HW5⟩:∃ W,W=wr.alloc (.cells #[.bool s',.slice A5 n5 c5] 25):=⟨_,rfl⟩
     have hY:ZC W5 wr.heap.size s' A5 n5 c5:=by rw [HW5];exact ZC.new wr s' A5 n5 c5
     have hb5:Below wr.heap.size wr W5:=by rw [HW5];exact bA
     have HW5:=ah HW5
     have HYV:=ah (show Pz.co M2 k=y from Pz.co_get hy.out)
     go_upto_region 11 with fail
     rw [<- HW5.out]
     clear HW5 hx0 hx1 hy0 hy1 hy
     clear HW5
     obtain ⟨gy,hgy⟩:∃ g,g=wr.heap.size:=⟨_,rfl⟩
     rw [<- hgy] at hY ⊢
     clear hgy
     have hZ5:=hZ.next hb5
     have HX5:=ah (hX.next hb5)
     have HY5:=ah hY
     have HZ5:=ah hZ5
     have HE5:=ah (hE.next hb5)
     have HB5:=ah (hBg.trans (hb5.mono (Nat.le_of_lt hZ.lt)))
     have HRY:=ah hry
     have HT:=ah ht
     obtain ⟨e,he⟩:∃ e,E[t]?=some e:=⟨E[t]'(by rw [hEl.out];exact htl),gE _⟩
     obtain ⟨s0,A0,n0,c0⟩:=e
     have HE0:=ah (HE5.out t _ he)
     have HEE:=ah he
     have HN0:=ah (show n0<=N+N'+1 by
      have e3:=HE0.out.len
      simp only at e3
      rw [e3]
      exact Pz.cvm_zl HCM.out.1 HCM.out.2 (by omega) k t)
     clear hZ hX hY hb5 hE hBg hry ht he hZ5 hti
     have HBD:=ah (Below.refl W5.heap.size W5).drew
     have HGS:=ah (show g<=W5.heap.size from Nat.le_of_lt HZ5.out.lt)
     have HMU:=ah (imul_any (((HRX.out.below HB5.out).more HGS.out).next HBD.out) (((HRY.out.below HB5.out).more HGS.out).next HBD.out) (by omega) (by omega))
     have HLX:=ah (show Zz.zl x<=N/\Zz.zl y<=N' from ⟨by rw [<- HX.out];exact HCM.out.1 i,by rw [<- HYV.out];exact HCM.out.2 k⟩)
     obtain ⟨k0,k1⟩:=HZ5.out.cells HEE.out
     have hx0:=HX5.out.c0
     have hx1:=HX5.out.c1
     have hy0:=HY5.out.c0
     have hy1:=HY5.out.c1
     simp only at k0 k1
     go_region_with (first
      | (go_at_call 146;refine HMU.out.mono ?_;rintro _ W6 ⟨s6,A6,n6,c6,z6,rfl,ho6,hz6,hb6⟩;have HB6:=ah (HBD.out.trans hb6);have la0:=((HZ5.out.next HB6.out).cells HEE.out).1;have la1:=((HZ5.out.next HB6.out).cells HEE.out).2;simp only at la0 la1)
      | (go_at_call 167;refine (add_any (HE0.out.next HB6.out).rd ho6.rd (by have:=HN0.out;omega) (by rw [ho6.len,hz6.out];have:=Zz.zl_mul x y;have:=HLX.out;omega)).mono ?_;rintro _ W7 ⟨s7,A7,n7,c7,z7,rfl,ho7,hz7,hb7⟩;have HB7:=tM HB6 hb7;have lb0:=((HZ5.out.next HB7.out).cells HEE.out).1;have lb1:=((HZ5.out.next HB7.out).cells HEE.out).2;have lf0:=(HZ5.out.next HB7.out).frozen (t*2);have lf1:=(HZ5.out.next HB7.out).frozen (t*2+1);simp only at lb0 lb1))
     all_goals
      have HZ7:=ah ((HZ5.out.next HB7.out).store t (s7,A7,n7,c7))
      have HE7:=ah ((HE5.out.next HB7.out).store (j:=t) (e:=(s7,A7,n7,c7)) (z:=z7) (HZ5.out.next HB7.out) (ho7.base (nT HG.out (nT HGS.out HB6.out.size))))
      have HX7:=ah (((HX5.out.next HB7.out).far (p:=⟨g,t*2,none⟩) (Nat.ne_of_gt HGX.out) (.bool s7)).far (p:=⟨g,t*2+1,none⟩) (Nat.ne_of_gt HGX.out) (.slice A7 n7 c7))
      have HBF:=ah (((HB5.out.trans (HB7.out.mono HGS.out)).setCell (p:=⟨g,t*2,none⟩) nR (.bool s7)).setCell (p:=⟨g,t*2+1,none⟩) nR (.slice A7 n7 c7))
      have HFA:=ah (show z7=Pz.cvm (Pz.co M1) (Pz.co M2) i k (i+k)+Pz.co M1 i*Pz.co M2 k by rw [hz7.out,hz6.out,HT.out,HX.out,HYV.out])
      clear k0 k1 hx0 hx1 hy0 hy1 la0 la1 lb0 lb1 lf0 lf1 hb6 hb7 ho6 ho7
      go_wp2
      go_roundw
      case rel=>exact ⟨k+1,E.set t (s7,A7,n7,c7),by go_num,by omega,HZ7.out,ah (by rw [List.length_set];exact hEl.out),HE7.out.congr fun u=>by rw [Pz.cvm_step,HT.out,HFA.out],HBF.out,HX7.out⟩
      case measure=>simp [intOf];omega
theorem qmul_poly {N S T:Nat}{A A':Option Addr}{n c n' c':Nat}{La Lb:List Rat}{Z Y:Nat->Int}{D E:Int}{w:World}(h:RdQs w w.heap.size N A n c (La.map pr))(h':RdQs w w.heap.size N A' n' c' (Lb.map pr))(hC:Com S (Pq.co La) Z D)(hC':Com T (Pq.co Lb) Y E)(hnn:n+n'<=1048576)(hN:N<=200000000000)(hST:S+T+1<=200000000000)(h1N:1<=N) :
  Calls Tryz.prog 183 #[.slice A n c,.slice A' n' c'] w (RetPq (Pq.cv (Pq.co La) (Pq.co Lb)) w):=by
 have hla:=h.lenp
 have hlb:=h'.lenp
 have HPC:=ah (cJ (parts_com hC) (parts_com hC'))
 have HDN:=ah (cJ (com_denF hC) (com_denF hC'))
 have HL:=ah (cJ hla hlb)
 have hn:n<=1048576:=by omega
 have hn':n'<=1048576:=by omega
 clear hla hlb hC hC'
 go_enter Tryz.func183,Tryz.ntmps183
 go_wp2_with fail
 refine (parts_any h HDN.out.1 hn hN (by omega) h1N).mono ?_
 rintro _ W2 ⟨s2,A2,n2,c2,y2,A3,n3,c3,P,rfl,ho2,ho3,hv2,hb2⟩
 obtain ⟨rfl,rfl⟩:=hv2.out
 obtain ⟨W3,HW3⟩:∃ W,W=W2.alloc (.cells #[.bool s2,.slice A2 n2 c2] 25):=⟨_,rfl⟩
 have hb3:Below W2.heap.size W2 W3:=by rw [HW3];exact bA
 have hX:ZC W3 W2.heap.size s2 A2 n2 c2:=by rw [HW3];exact ZC.new W2 s2 A2 n2 c2
 have hb13:=hb2.trans (hb3.mono hb2.size)
 have h'3:=h'.next hb13
 have ho2:=ho2.next hb3
 have ho3:=ho3.next hb3
 have HW3:=ah HW3
 clear hb2 hb3 h h' hv2
 go_wp2_with fail
 rw [<- HW3.out]
 clear HW3
 clear HW3
 generalize W2.heap.size=g2 at *
 refine (parts_any h'3 HDN.out.2 hn' hN (by omega) h1N).mono ?_
 rintro _ W4 ⟨s4,A4,n4,c4,y4,A5,n5,c5,Q,rfl,ho4,ho5,hv4,hb4⟩
 obtain ⟨rfl,rfl⟩:=hv4.out
 obtain ⟨W5,HW5⟩:∃ W,W=W4.alloc (.cells #[.bool s4,.slice A4 n4 c4] 25):=⟨_,rfl⟩
 have hb5:Below W4.heap.size W4 W5:=by rw [HW5];exact bA
 have hY:ZC W5 W4.heap.size s4 A4 n4 c4:=by rw [HW5];exact ZC.new W4 s4 A4 n4 c4
 have hb35:=hb4.trans (hb5.mono hb4.size)
 have hX5:=hX.next hb35
 have ho2:=ho2.next hb35
 have ho3:=ho3.next hb35
 have ho4:=ho4.next hb5
 have ho5:=ho5.next hb5
 have HB5:=ah (hb13.trans (hb35.mono hb13.size))
 have HLP:=ah (show n3=n/\n5=n' from ⟨by rw [<- ho3.len,<- HL.out.1];exact List.length_map ..,by rw [<- ho5.len,<- HL.out.2];exact List.length_map ..⟩)
 have HW5:=ah HW5
 clear hb4 hb5 hb13 hb35 hX h'3 hv4
 go_upto_region 3 with fail
 rw [<- HW5.out]
 clear HW5
 clear HW5
 generalize W4.heap.size=g4 at *
 have HCE:=ah (show ∀ W:World,Below W5.heap.size W5 W->W.cell? ⟨g2,0,none⟩=some (.bool s2)/\W.cell? ⟨g2,1,none⟩=some (.slice A2 n2 c2)/\W.cell? ⟨g4,0,none⟩=some (.bool s4)/\W.cell? ⟨g4,1,none⟩=some (.slice A4 n4 c4) from fun W hb=>⟨(hX5.next hb).c0,(hX5.next hb).c1,(hY.next hb).c0,(hY.next hb).c1⟩)
 have HZ:=ah (show ∀ W:World,Below W5.heap.size W5 W->RdZ W W.heap.size s2 A2 n2 c2 (denL La)/\RdZ W W.heap.size s4 A4 n4 c4 (denL Lb)/\RdZs W W.heap.size S A3 n3 c3 (numL La)/\RdZs W W.heap.size T A5 n5 c5 (numL Lb) from fun W hb=>⟨(ho2.next hb).rd,(ho4.next hb).rd,rd_st (ho3.next hb) HPC.out.1.sz,rd_st (ho5.next hb) HPC.out.2.sz⟩)
 have HNN:=ah (show n2<=S/\n4<=T from ⟨by rw [ho2.len];exact HPC.out.1.dz,by rw [ho4.len];exact HPC.out.2.dz⟩)
 have HBD:=ah (Below.refl W5.heap.size W5).drew
 have hn3:n3<=1048576:=by rw [HLP.out.1];exact hn
 have hn5:n5<=1048576:=by rw [HLP.out.2];exact hn'
 obtain ⟨a0,a1,b0,b1⟩:=HCE.out W5 bR
 clear ho2 ho3 ho4 ho5 hX5 hY
 go_region_held3 (fun w'=>w'.cell? ⟨g2,0,none⟩=some (.bool s2)/\w'.cell? ⟨g2,1,none⟩=some (.slice A2 n2 c2)/\w'.cell? ⟨g4,0,none⟩=some (.bool s4)/\w'.cell? ⟨g4,1,none⟩=some (.slice A4 n4 c4))
  (first | exact HCE.out _ HB8.out | exact HCE.out _ HB7.out | exact HCE.out _ HB6.out | exact HCE.out _ HBD.out)
  (first
   | (go_at_call 218;refine (qover_any (N:=S+T+1) HR6.out ho7.rd HN7.out HN6.out hST HNZ.out).mono ?_;rintro _ W8 ⟨A8,n8,c8,M8,rfl,ho8,hM8,hb8⟩;have HB8:=tM HB7 hb8)
   | (have hx:=HB6.out;clear hx;go_at_call 146;refine (imul_any (HZ.out _ HB6.out).1 (HZ.out _ HB6.out).2.1 (by have:=HNN.out;omega) (by have:=HNN.out;omega)).mono ?_;rintro _ W7 ⟨s7,A7,n7,c7,y7,rfl,ho7,hy7,hb7⟩;have HB7:=tM HB6 hb7;have HR6:=ah (HR6.out.next hb7);have HN7:=ah (show n7<=S+T+1 by { rw [ho7.len,hy7.out];have e1:=Zz.zl_mul (denL La) (denL Lb);have e2:=HPC.out.1.dz;have e3:=HPC.out.2.dz;omega });have HNZ:=ah (show y7 ≠ 0 by { rw [hy7.out];exact Int.mul_ne_zero HPC.out.1.ne HPC.out.2.ne }))
   | (go_at_call 219;refine (zmul_any (HZ.out _ HBD.out).2.2.1 (HZ.out _ HBD.out).2.2.2 (by omega) (by omega) (by omega) (by omega)).mono ?_;rintro _ W6 ⟨A6,n6,c6,M6,rfl,ho6,hM6,hb6⟩;have HB6:=ah (HBD.out.trans hb6);have HR6:=ah (rd_of' ho6 hM6.out.2 (fun t=>(com_pcv HPC.out.1 HPC.out.2 (n:=n3) (by omega)).sz t));have HN6:=ah (show n6<=1048576 by { rw [<- ho6.len];exact nT (Pz.nz_len hM6.out.1 (k:=n3+n5) fun i hi=>by { rw [hM6.out.2];exact Pz.cvp_above (k:=n5) (fun t ht=>Pz.co_ge (by { show (List.map _ Lb).length<=t;rw [List.length_map,HL.out.2,<- HLP.out.2];exact ht })) (by omega) }) (by rw [HLP.out.1,HLP.out.2];exact hnn) })))
 all_goals
  have HF:=tM HB5 HB8.out
  have HO:=ah (ho8.base (b':=w.heap.size) (nT HB5.out.size HB7.out.size))
  have HV:=ah (show Pq.IsP (Pq.cv (Pq.co La) (Pq.co Lb)) M8 from hM8.out.congr fun i=>by
   have e1:=(com_pcv HPC.out.1 HPC.out.2 (n:=n3) (by omega)).at_ i
   rw [hM6.out.2,hy7.out,<- e1]
   exact Pq.pcv_all _ (fun k hk=>Pq.co_ge (by rw [HL.out.1,<- HLP.out.1];exact hk)) i)
  clear a0 a1 b0 b1 hb6 hb7 hb8 ho6 ho7 ho8
  go_wp2
  go_ret
  exact ⟨_,_,_,M8,rfl,HO.out,HV,HF.out⟩
end Go.Proofs.YtjnklbfhelbjgaaGreat
namespace Go.Proofs.YtjnklbfhelbjgaaGreat
open Go.Shelf
end Go.Proofs.YtjnklbfhelbjgaaGreat
namespace Go.Proofs.YtjnklbfhelbjgaaGreat
open Go.RowKit Go.IntWalk
attribute [local go_sem ↓] Go.wp_at_zero Go.wp_at_succ
end Go.Proofs.YtjnklbfhelbjgaaGreat
