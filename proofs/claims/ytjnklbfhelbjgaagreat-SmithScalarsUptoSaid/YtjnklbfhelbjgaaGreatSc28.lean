/- Sc28. -/
import Derived.Test.YtjnklbfhelbjgaaGreatSc27
import Derived.Test.YtjnklbfhelbjgaaGreatSc13
import Derived.Test.YtjnklbfhelbjgaaGreatSc11
import Derived.Test.YtjnklbfhelbjgaaGreatSc00
set_option maxRecDepth 100000
set_option maxHeartbeats 32000000
set_option linter.all false
namespace Go.Proofs.YtjnklbfhelbjgaaGreat
open Go.RowKit Go.IntWalk
attribute [local go_sem ↓] Go.wp_at_zero Go.wp_at_succ
abbrev sm (z:Int):Prop:=z.natAbs < 4294967296
theorem mG_one (LL:List (List Int)):mG 1 LL=1:=by
 unfold mG
 rw [if_neg (by decide)]
 by_cases h:mg LL=0
 ·rw [if_pos h];rfl
 ·rw [if_neg h];simp
theorem zss_of (LL:List (List Int)):zss (LL.map (·.map ofZ))=LL:=by
 unfold zss
 rw [List.map_map]
 conv=>rhs;rw [<- List.map_id LL]
 refine List.map_congr_left fun L _=>?_
 show (L.map ofZ).map toZ=L
 rw [List.map_map]
 conv=>rhs;rw [<- List.map_id L]
 exact List.map_congr_left fun z _=>toZ_ofZ z
theorem mN_one (LL:List (List Int)):mN 1 LL=LL:=by
 unfold mN
 rw [mG_one]
 conv=>rhs;rw [<- List.map_id LL]
 refine List.map_congr_left fun L _=>?_
 show L.map (fun x=>x.tdiv 1)=L
 conv=>rhs;rw [<- List.map_id L]
 exact List.map_congr_left fun z _=>Int.tdiv_one z
theorem ev_of {z0 z1 z2 z3:Int}:Evn ([[z0,z1],[z2,z3]].map (·.map ofZ)):=fun R hR=>by
 simp at hR
 rcases hR with rfl | rfl <;> rfl
theorem divInt_of (z:Int):Rat.divInt (toZ (ofZ z)) 1=(z:Rat):=by rw [toZ_ofZ,divInt_div,Rat.div_def,show (((1:Int):Rat))⁻¹=1 by decide +kernel,Rat.mul_one]
theorem pnrm_any {b n c:Nat}{A:Option Addr}{P:List Rat}{w:World}(h:OwQp w b A n c P)(hP:∀ x ∈ P,Qs 1 x)(hn:n<=16):Calls Tryz.prog 110 #[.slice A n c] w (RetPe (Pq.nrm P) w):=by
 refine (qpnorm_any (h.rd hP) (by omega) (by decide) (by decide)).mono ?_
 rintro e w' (⟨_,A',n',c',M,rfl,ho,hM,hb⟩ | ⟨⟨p,hp,hp0⟩,_⟩)
 ·have e0:=hM.out
  rw [pr_map] at e0
  subst e0
  exact ⟨A',n',c',rfl,ho,hb⟩
 ·exact absurd hp0 (pr_okD _ p hp)
theorem OwQ.row {s s':Bool}{A A':Option Addr}{n c n' c' b:Nat}{x:Rat}{w:World}(h:OwQ w b s A n c s' A' n' c' x)(hb:b<=w.heap.size):OwQs (w.alloc (.cells #[.bool s,.slice A n c,.bool s',.slice A' n' c'] 47)) b (some ⟨w.heap.size,0,none⟩) 1 1 [x]:=by
 have h2:=h.next ((Below.refl w.heap.size w).alloc nR (.cells #[.bool s,.slice A n c,.bool s',.slice A' n' c'] 47))
 refine ⟨[((s,A,n,c),(s',A',n',c'))],⟨rfl,.inr ⟨w.heap.size,1,#[.bool s,.slice A n c,.bool s',.slice A' n' c'],rfl,hb,heap_alloc_new w _,nR,by decide,rfl,rfl⟩⟩,rfl,rfl,fun j e y he hy=>?_⟩
 match j,he,hy with
 | 0, he, hy =>
   simp at he hy
   subst he hy
   exact h2
 | j+1,he,hy=>simp at he
theorem T2.baseL {w:World}{b b' t gr cr g0 c0 g1 c1:Nat}{x y z u:Pe}{M:M2}(h:T2 w b t gr cr g0 c0 g1 c1 x y z u M)(hb:b'<=b):T2 w b' t gr cr g0 c0 g1 c1 x y z u M :=
 ⟨h.hd,h.rw,h.r0,h.r1,h.ne,nT hb h.bt,nT hb h.br,nT hb h.b0,nT hb h.b1,h.lr,h.l0,h.l1,h.ea.base hb,h.eb.base hb,h.ec.base hb,h.ed.base hb⟩
def RetTe (b:Nat)(M:M2)(w:World)(e:Ending)(w':World):Prop:=∃ t',e=.returned (.tuple #[.pointer (some ⟨t',0,none⟩),.int .i64 0])/\Tb w' b t' M/\Below w.heap.size w w'
theorem char_two {b:Nat}{s:Bool}{A G:Option Addr}{n c r k:Nat}{z0 z1 z2 z3:Int}{w:World}(h:OwZ w b s A n c 1)(h':OwMs w b G r k [[z0,z1],[z2,z3]])(h0:sm z0)(h1:sm z1)(h2:sm z2)(h3:sm z3)(hh:ht (entZ 1 [[z0,z1],[z2,z3]]).flatten<=4096) :
  Calls Tryz.prog 107 #[.agg #[.bool s,.slice A n c,.slice G r k]] w (RetTe w.heap.size ⟨Pq.nrm [-(z0:Rat),1],Pq.nrm [-(z1:Rat)],Pq.nrm [-(z2:Rat)],Pq.nrm [-(z3:Rat),1]⟩ w):=by
 obtain ⟨i0,hi,hz0,hz1,hz2⟩:=info_parts infoQ
 obtain ⟨LL,hLL⟩:∃ LL,LL=[[z0,z1],[z2,z3]]:=⟨_,rfl⟩
 have HLL:=ah hLL
 have HSZ:=ah (show ∀ L ∈ LL,L.length<=2/\∀ z ∈ L,Zz.zl z<=1 from by
  rw [hLL]
  intro L hL
  simp at hL
  rcases hL with rfl | rfl
  ·exact ⟨nR,fun z hz=>by simp at hz;rcases hz with rfl | rfl;exact Zz.zl_small h0;exact Zz.zl_small h1⟩
  ·exact ⟨nR,fun z hz=>by simp at hz;rcases hz with rfl | rfl;exact Zz.zl_small h2;exact Zz.zl_small h3⟩)
 have HSM:=ah (cJ h0 (cJ h1 (cJ h2 h3)))
 rw [<- hLL] at h' hh
 have HEV:=ah (show Evn (LL.map (·.map ofZ)) by rw [hLL];exact ev_of)
 have HCO:=ah (show colsOf (LL.map (·.map ofZ))=2 by rw [hLL];rfl)
 have HHT:=ah (show ht (ent 1 (LL.map (·.map ofZ))).flatten<=4096 by rw [ent_ofZ];exact hh)
 obtain ⟨W1,HW1⟩:∃ W,W=w.alloc (.cells #[.bool s,.slice A n c,.slice G r k] 28):=⟨_,rfl⟩
 have hM:MC W1 w.heap.size s A n c G r k:=by rw [HW1];exact MC.new w s A n c G r k
 have hb1:Below w.heap.size w W1:=by rw [HW1];exact bA
 obtain ⟨gm,hgm⟩:∃ g,g=w.heap.size:=⟨_,rfl⟩
 rw [<- hgm] at hM
 have hr2:r=2:=by rw [<- h'.len,hLL];rfl
 have HI:=ah (cJ (h.next hb1) (h'.next hb1))
 have HM1:=ah hM
 have HB1:=ah (cJ hb1 (show w.heap.size<=gm by omega))
 have HR2:=ah hr2
 have hn1:n<=1:=by rw [h.len];exact Zz.zl_small (by decide)
 have HN1:=ah hn1
 have HW1:=ah HW1
 clear hLL h h' h0 h1 h2 h3 hh hM hb1 hr2 hn1
 go_enter Tryz.func107,Tryz.ntmps107
 go_wp2_with fail
 rw [<- HW1.out,<- hgm]
 clear HW1
 clear HW1
 have HGM:=ah hgm
 clear hgm
 refine (mNorm_any (N:=1) (K:=2) HI.out.1.rd (HI.out.2.rd fun L hL=>⟨(HSZ.out L hL).1,(HSZ.out L hL).2⟩) (by decide) HEV.out (by have:=HN1.out;omega) (by decide) (by have:=HR2.out;omega) (by decide) (by rw [HCO.out];decide)).mono ?_
 rintro _ W2 ⟨s2,A2,n2,c2,G2,r2,k2,rfl,ho2,hm2,hb2⟩
 rw [zss_of,mG_one,Int.tdiv_one] at ho2
 rw [zss_of,mN_one] at hm2
 have hMz:=HM1.out.next hb2
 have r0:=hMz.c0
 have r1:=hMz.c1
 have q2:=hMz.c2
 have f0:=hMz.fz 0
 have f1:=hMz.fz 1
 have f2:=hMz.fz 2
 obtain rfl:r2=2:=by rw [<- hm2.len,HLL.out];rfl
 have hlt:gm < W1.heap.size:=HM1.out.lt
 have HSS:=ah (hMz.store s2 A2 n2 c2 G2 2 k2)
 have HU:=ah (ho2.keep (keepI_put hMz s2 A2 n2 c2 G2 2 k2).1)
 have HQQ:=ah (hm2.put hMz hlt s2 A2 n2 c2 G2 2 k2)
 have HF:=ah (below_putM (HB1.out.1.trans (hb2.mono HB1.out.1.size)) HB1.out.2 s2 A2 n2 c2 G2 2 k2)
 unfold putM at HSS HU HQQ HF
 clear hMz ho2 hm2 hb2 hlt
 go_upto_region 4 with fail
 generalize ((W2.setCell ⟨gm,0,none⟩ (.bool s2)).setCell ⟨gm,1,none⟩ (.slice A2 n2 c2)).setCell ⟨gm,2,none⟩ (.slice G2 2 k2)=W3 at *
 obtain ⟨gn,Aa,na,ca,La,rfl,_,j0,hoa,hLa⟩:=oml_at HQQ.out (show 0 < 2 by decide)
 obtain rfl:na=2:=by
  have e:=hLa.out
  rw [HLL.out] at e
  injection e with e
  rw [<- hoa.len,<- e]
  rfl
 have z0':=HSS.out.c0
 have z1':=HSS.out.c1
 have z2':=HSS.out.c2
 clear hoa hLa r0 r1 q2 f0 f1 f2
 go_quiet (fail)
 go_wp2_with fail
 have HNL:=ah (show n2<=1 by rw [HU.out.len];exact Zz.zl_small (by decide))
 refine (mHeight_any (N:=1) (K:=2) (HU.out.next (below_drawn _ _)).rd ((HQQ.out.next (below_drawn _ _)).rd fun L hL=>⟨(HSZ.out L hL).1,(HSZ.out L hL).2⟩) HNL.out (by decide) (by decide) (by decide) (by decide) (by decide)).mono ?_
 rintro _ W4 ⟨v,kk,rfl,hv,hb4⟩
 obtain ⟨rfl,rfl⟩:v=(ht (ent 1 (LL.map (·.map ofZ))).flatten:Int)/\kk=0:=by
  rcases hv.out with ⟨_,h1,h2⟩ | ⟨h0,_⟩
  ·exact ⟨h1,h2⟩
  ·exact absurd (show chk 1 (LL.map (·.map ofZ))=0 by unfold chk;rw [if_neg (by decide),if_pos HEV.out]) h0
 obtain ⟨hg,hhg⟩:∃ g:Nat,g=ht (ent 1 (LL.map (·.map ofZ))).flatten:=⟨_,rfl⟩
 rw [<- hhg]
 have hg1:¬(4096:Int) < (hg:Int):=by have:=HHT.out;omega
 have hb34:Below W3.heap.size W3 W4:=(below_drawn W3 _).trans hb4
 have HMT:=ah (show ∀ W,Below W4.heap.size W4 W->MC W gm s2 A2 n2 c2 (some ⟨gn,0,none⟩) 2 k2/\OwZ W W1.heap.size s2 A2 n2 c2 1/\OwMs W W1.heap.size (some ⟨gn,0,none⟩) 2 k2 LL from fun W hb=>⟨(HSS.out.next hb34).next hb,(HU.out.next hb34).next hb,(HQQ.out.next hb34).next hb⟩)
 have HB4:=ah (show Below w.heap.size w W4 from HF.out.trans (hb34.mono HF.out.size))
 have z0':=(HMT.out W4 bR).1.c0
 have z1':=(HMT.out W4 bR).1.c1
 have z2':=(HMT.out W4 bR).1.c2
 clear hv hb4 hb34 hhg j0
 go_wp2_with fail
 refine (identity_two W4).mono ?_
 rintro _ W5 ⟨t,rfl,ht5,hb5⟩
 obtain ⟨gr,cr,g0,c0,g1,c1,⟨xa,xn,xc⟩,⟨ya,yn,yc⟩,⟨za,zn,zc⟩,⟨ua,un,uc⟩,hT5⟩:=ht5
 have HTW5:=ah hT5
 have HBW5:=ah hb5
 clear hT5 hb5
 clear z0' z1' z2'
 have z2':=(HMT.out _ HBW5.out).1.c2
 go_wp2_with fail
 refine wp_loop_rounds 3 ?_
 rw [rounds_succ]
 obtain ⟨gq0,Aa0,na0,ca0,La0,hg0,_,j0,hoa,hLa⟩:=oml_at (HMT.out _ HBW5.out).2.2 (show 0 < 2 by decide)
 injection hg0 with hg0
 injection hg0 with hg0
 subst hg0
 obtain rfl:na0=2:=by
  have e:=hLa.out
  rw [HLL.out] at e
  injection e with e
  rw [<- hoa.len,<- e]
  rfl
 clear hoa hLa
 go_wp2_with fail
 refine wp_loop_rounds 3 ?_
 rw [rounds_succ]
 have z0':=(HMT.out _ HBW5.out).1.c0
 have z1':=(HMT.out _ HBW5.out).1.c1
 have z2':=(HMT.out _ HBW5.out).1.c2
 go_wp2_with fail
 refine (mAt_any (N:=1) (K:=2) (i:=0) (j:=0) (RR:=LL.map (·.map ofZ)) (x:=ofZ z0) (HMT.out _ HBW5.out).2.1.rd ((HMT.out _ HBW5.out).2.2.rd fun L hL=>⟨(HSZ.out L hL).1,(HSZ.out L hL).2⟩) (by decide) HEV.out (by have:=HNL.out;omega) (by decide) (by decide) (by decide) (by rw [HLL.out];rfl) rfl).mono ?_
 rintro _ P11 ⟨s51,A51,n51,c51,s61,A61,n61,c61,y5,rfl,ho5,hy5,hb⟩
 obtain rfl:=hy5.out
 rw [divInt_of] at ho5
 obtain ⟨P12,HP12⟩:∃ W,W=P11.alloc (.cells #[.bool s51,.slice A51 n51 c51,.bool s61,.slice A61 n61 c61] 47):=⟨_,rfl⟩
 obtain ⟨gc1,hgc⟩:∃ g,g=P11.heap.size:=⟨_,rfl⟩
 have hb2:Below P11.heap.size P11 P12:=by rw [HP12];exact bA
 have HC2:=ah (show QC P12 gc1 s51 A51 n51 c51 s61 A61 n61 c61 by rw [HP12,hgc];exact QC.new P11 s51 A51 n51 c51 s61 A61 n61 c61)
 have HO2:=ah (ho5.next hb2)
 have HV2:=ah (show Below W5.heap.size W5 P12/\W5.heap.size<=gc1 from ⟨hb.trans (hb2.mono hb.size),by rw [hgc];exact hb.size⟩)
 have HP12:=ah HP12
 clear ho5 hy5 hb hb2 z0' z1' z2'
 go_wp2_with fail
 rw [<- HP12.out,<- hgc]
 clear HP12 hgc
 clear HP12
 have HQS:=ah (show Qs 1 (z0:Rat) from Qs.int (Zz.zl_small HSM.out.1) nR)
 refine (qneg_any (N:=1) HO2.out.num.rd HO2.out.den.rd ⟨by rw [HO2.out.num.len];exact HQS.out.1,by rw [HO2.out.den.len];exact HQS.out.2⟩ (by decide)).mono ?_
 rintro _ P13 ⟨s71,A71,n71,c71,y7,s81,A81,n81,c81,y8,kk,rfl,ho7,ho8,hv,hb3⟩
 rw [Rat.num_divInt_den] at hv
 obtain ⟨rfl,rfl,rfl⟩:y7=(-(z0:Rat)).num/\y8=((-(z0:Rat)).den:Int)/\kk=0:=by
  rcases hv.out with ⟨_,h1,h2,h3⟩ | ⟨h1,_⟩
  ·exact ⟨h1,h2,h3⟩
  ·exact absurd (qden_ne _) h1
 have hC3:=HC2.out.next hb3
 have e0:=hC3.c0
 have e1:=hC3.c1
 have e2:=hC3.c2
 have e3:=hC3.c3
 have f0:=hC3.fz 0
 have f1:=hC3.fz 1
 have f2:=hC3.fz 2
 have f3:=hC3.fz 3
 have hC4:=hC3.store s71 A71 n71 c71 s81 A81 n81 c81
 have r0:=hC4.c0
 have r1:=hC4.c1
 have r2:=hC4.c2
 have r3:=hC4.c3
 have hV3:=HV2.out.1.trans (hb3.mono HV2.out.1.size)
 obtain ⟨P14,HP14⟩:∃ W,W=putQ P13 gc1 s71 A71 n71 c71 s81 A81 n81 c81:=⟨_,rfl⟩
 have hO4:OwQ P14 W5.heap.size s71 A71 n71 c71 s81 A81 n81 c81 (-(z0:Rat)):=by
  rw [HP14]
  exact (OwQ.base ⟨ho7,ho8⟩ HV2.out.1.size).keep (keep_putQ hC3 s71 A71 n71 c71 s81 A81 n81 c81)
 have hV4:Below W5.heap.size W5 P14:=by rw [HP14];exact below_putQ hV3 HV2.out.2 s71 A71 n71 c71 s81 A81 n81 c81
 have hs4:P14.heap.size=P13.heap.size:=by rw [HP14];unfold putQ;simp [World.setCell]
 obtain ⟨P15,HP15⟩:∃ W,W=P14.alloc (.cells #[.bool s71,.slice A71 n71 c71,.bool s81,.slice A81 n81 c81] 47):=⟨_,rfl⟩
 have hb5:Below P14.heap.size P14 P15:=by rw [HP15];exact bA
 have hR5:OwQs P15 W5.heap.size (some ⟨P13.heap.size,0,none⟩) 1 1 [-(z0:Rat)]:=by
  have h1:=hO4.row hV4.size
  rw [hs4] at h1
  rw [HP15]
  exact h1
 have HR5:=ah hR5
 have HV5:=ah (hV4.trans (hb5.mono hV4.size))
 unfold putQ at HP14 r0 r1 r2 r3
 have HP14:=ah HP14
 have HP15:=ah HP15
 clear ho7 ho8 hv hb3 hC3 hC4 hV3 hO4 hV4 hs4 hb5 hR5
 go_wp2_with fail
 rw [<- HP14.out,<- HP15.out]
 clear HP14 HP15
 clear HP14 HP15 e0 e1 e2 e3 f0 f1 f2 f3 r0 r1 r2 r3
 refine (qof_any 1 (by decide) (by decide) P15).mono ?_
 rintro _ P16 ⟨t11,D11,u11,v11,t21,D21,u21,v21,y6,rfl,ho6,hy6,hb6⟩
 obtain ⟨EE,hE,hEl,hEn⟩:=HR5.out.next hb6
 have HO6:=ah (ho6.base (b':=W5.heap.size) HV5.out.size)
 have HE:=ah hE
 have HEN:=ah (cJ hEl hEn)
 have HV6:=tM HV5 hb6
 have HY6:=ah (show y6=1 by rw [hy6.out];rfl)
 clear hE hEl hEn ho6 hy6 hb6
 go_wp2_with (at_builtin;refine wpList_append_own _ rfl _ _ 73 rfl W5.heap.size 47 i0 (.agg #[.bool false,.slice none 0 0,.bool false,.slice none 0 0]) 4 64 Tryz.underlying73 hi hz0 hz1 hz2 rfl (by decide) _ _ _ rfl (HE.out.alloc _) ⟨P16.heap.size,0,none⟩ 1 1 [.bool t11,.slice D11 u11 v11,.bool t21,.slice D21 u21 v21] rfl rfl (qcell_new _ _ _ _ _ _) (by simp [Value.oneCell']) (by decide) (by decide) (by have:=HV6.out.size;simp;omega) ?_;intro v' P17 hown' hgrow _)
 have hmore:=qs_more (e:=((t11,D11,u11,v11),(t21,D21,u21,v21))) (x:=y6) HO6.out rfl (HE.out.alloc _) HEN.out.1 HEN.out.2 hown' hgrow
 have hV7:=(HV6.out.alloc HV6.out.size (.cells #[.bool t11,.slice D11 u11 v11,.bool t21,.slice D21 u21 v21] 47)).grown hgrow (by have:=HV6.out.size;simp;omega) (own_block HE.out)
 obtain ⟨A91,c91,rfl,ho9⟩:=hmore
 rw [HY6.out] at ho9
 have HF:=ah (cJ ho9.p hV7)
 clear hown' hgrow HE HEN HO6 ho9 hV7
 go_upto_region 21 with fail
 have HTL:=ah (HTW5.out.next HF.out.2)
 have HS:=ah (show ∀ W,Below P17.heap.size P17 W->W.cell? ⟨t,0,none⟩=some (.slice (some ⟨gr,0,none⟩) 2 cr)/\W.cell? ⟨gr,0,none⟩=some (.slice (some ⟨g0,0,none⟩) 2 c0) from fun W hb=>⟨(HTL.out.next hb).hd.cell rfl,(HTL.out.next hb).rw.cell rfl⟩)
 have HSP:=ah (show ∀ W u,Below P17.heap.size P17 W->(W.setCell ⟨g0,0,none⟩ u).cell? ⟨t,0,none⟩=some (.slice (some ⟨gr,0,none⟩) 2 cr)/\(W.setCell ⟨g0,0,none⟩ u).cell? ⟨gr,0,none⟩=some (.slice (some ⟨g0,0,none⟩) 2 c0) from fun W u hb=>⟨((HTL.out.next hb).hd.far (p:=⟨g0,0,none⟩) (HTL.out.next hb).ht0 u).cell rfl,((HTL.out.next hb).rw.far (p:=⟨g0,0,none⟩) (HTL.out.next hb).hr0 u).cell rfl⟩)
 have HBD:=ah (Below.refl P17.heap.size P17).drew
 go_region_held3 (fun W=>W.cell? ⟨t,0,none⟩=some (.slice (some ⟨gr,0,none⟩) 2 cr)/\W.cell? ⟨gr,0,none⟩=some (.slice (some ⟨g0,0,none⟩) 2 c0))
  (first | exact HS.out _ HBD.out | exact HS.out _ HB9.out | exact HSP.out _ _ HB9.out)
  (first
   | (go_at_call 110;refine (pnrm_any (HF.out.1.next HBD.out) (fun x hx=>by simp at hx;rcases hx with rfl | rfl;exact HQS.out.neg;exact Qs.one nR) (by decide)).mono ?_;rintro _ P18 ⟨B91,m91,l91,rfl,ho9,hb9⟩;have HB9:Hid (Below P17.heap.size P17 P18):=tM HBD hb9;have HO9:=ah (ho9.base (b':=W4.heap.size) (by have h1:=HBW5.out.size;have h2:=HF.out.2.size;have h3:=HBD.out.size;omega));have e9:=(HTL.out.next HB9.out).r0.cell (i:=0) (v:=.slice xa xn xc) rfl;have f9:=(HTL.out.next HB9.out).r0.frozen 0;clear ho9 hb9))
 all_goals
 have hT:=(HTL.out.next HB9.out).put0 (e:=(B91,m91,l91)) HO9.out
 obtain ⟨U1,HU1⟩:∃ W,W=(P18.setCell ⟨g0,0,none⟩ (.slice B91 m91 l91)):=⟨_,rfl⟩
 have HTU1:=ah (show T2 U1 W4.heap.size t gr cr g0 c0 g1 c1 (B91,m91,l91) (ya,yn,yc) (za,zn,zc) (ua,un,uc) ⟨(Pq.nrm ([-(z0:Rat)] ++ [1])),[],[],[1]⟩ by rw [HU1];exact hT)
 have HBU1:=ah (show Below W4.heap.size W4 U1 by
  rw [HU1]
  exact ((HBW5.out.trans (HF.out.2.mono HBW5.out.size)).trans (HB9.out.mono (nT HBW5.out.size HF.out.2.size))).setCell (p:=⟨g0,0,none⟩) HTL.out.b0 _)
 go_upto_region 22 with fail
 rw [<- HU1]
 clear HU1 hT e9 f9 HS HSP HTL HF HB9 HO9
 go_wp2_with fail
 rw [rounds_succ]
 have z0':=(HMT.out _ HBU1.out).1.c0
 have z1':=(HMT.out _ HBU1.out).1.c1
 have z2':=(HMT.out _ HBU1.out).1.c2
 go_wp2_with fail
 refine (mAt_any (N:=1) (K:=2) (i:=0) (j:=1) (RR:=LL.map (·.map ofZ)) (x:=ofZ z1) (HMT.out _ HBU1.out).2.1.rd ((HMT.out _ HBU1.out).2.2.rd fun L hL=>⟨(HSZ.out L hL).1,(HSZ.out L hL).2⟩) (by decide) HEV.out (by have:=HNL.out;omega) (by decide) (by decide) (by decide) (by rw [HLL.out];rfl) rfl).mono ?_
 rintro _ P21 ⟨s52,A52,n52,c52,s62,A62,n62,c62,y5,rfl,ho5,hy5,hb⟩
 obtain rfl:=hy5.out
 rw [divInt_of] at ho5
 obtain ⟨P22,HP22⟩:∃ W,W=P21.alloc (.cells #[.bool s52,.slice A52 n52 c52,.bool s62,.slice A62 n62 c62] 47):=⟨_,rfl⟩
 obtain ⟨gc2,hgc⟩:∃ g,g=P21.heap.size:=⟨_,rfl⟩
 have hb2:Below P21.heap.size P21 P22:=by rw [HP22];exact bA
 have HC2:=ah (show QC P22 gc2 s52 A52 n52 c52 s62 A62 n62 c62 by rw [HP22,hgc];exact QC.new P21 s52 A52 n52 c52 s62 A62 n62 c62)
 have HO2:=ah (ho5.next hb2)
 have HV2:=ah (show Below U1.heap.size U1 P22/\U1.heap.size<=gc2 from ⟨hb.trans (hb2.mono hb.size),by rw [hgc];exact hb.size⟩)
 have HP22:=ah HP22
 clear ho5 hy5 hb hb2 z0' z1' z2'
 go_wp2_with fail
 rw [<- HP22.out,<- hgc]
 clear HP22 hgc
 clear HP22
 have HQS:=ah (show Qs 1 (z1:Rat) from Qs.int (Zz.zl_small HSM.out.2.1) nR)
 refine (qneg_any (N:=1) HO2.out.num.rd HO2.out.den.rd ⟨by rw [HO2.out.num.len];exact HQS.out.1,by rw [HO2.out.den.len];exact HQS.out.2⟩ (by decide)).mono ?_
 rintro _ P23 ⟨s72,A72,n72,c72,y7,s82,A82,n82,c82,y8,kk,rfl,ho7,ho8,hv,hb3⟩
 rw [Rat.num_divInt_den] at hv
 obtain ⟨rfl,rfl,rfl⟩:y7=(-(z1:Rat)).num/\y8=((-(z1:Rat)).den:Int)/\kk=0:=by
  rcases hv.out with ⟨_,h1,h2,h3⟩ | ⟨h1,_⟩
  ·exact ⟨h1,h2,h3⟩
  ·exact absurd (qden_ne _) h1
 have hC3:=HC2.out.next hb3
 have e0:=hC3.c0
 have e1:=hC3.c1
 have e2:=hC3.c2
 have e3:=hC3.c3
 have f0:=hC3.fz 0
 have f1:=hC3.fz 1
 have f2:=hC3.fz 2
 have f3:=hC3.fz 3
 have hC4:=hC3.store s72 A72 n72 c72 s82 A82 n82 c82
 have r0:=hC4.c0
 have r1:=hC4.c1
 have r2:=hC4.c2
 have r3:=hC4.c3
 have hV3:=HV2.out.1.trans (hb3.mono HV2.out.1.size)
 obtain ⟨P24,HP24⟩:∃ W,W=putQ P23 gc2 s72 A72 n72 c72 s82 A82 n82 c82:=⟨_,rfl⟩
 have hO4:OwQ P24 U1.heap.size s72 A72 n72 c72 s82 A82 n82 c82 (-(z1:Rat)):=by
  rw [HP24]
  exact (OwQ.base ⟨ho7,ho8⟩ HV2.out.1.size).keep (keep_putQ hC3 s72 A72 n72 c72 s82 A82 n82 c82)
 have hV4:Below U1.heap.size U1 P24:=by rw [HP24];exact below_putQ hV3 HV2.out.2 s72 A72 n72 c72 s82 A82 n82 c82
 have hs4:P24.heap.size=P23.heap.size:=by rw [HP24];unfold putQ;simp [World.setCell]
 obtain ⟨P25,HP25⟩:∃ W,W=P24.alloc (.cells #[.bool s72,.slice A72 n72 c72,.bool s82,.slice A82 n82 c82] 47):=⟨_,rfl⟩
 have hb5:Below P24.heap.size P24 P25:=by rw [HP25];exact bA
 have hR5:OwQs P25 U1.heap.size (some ⟨P23.heap.size,0,none⟩) 1 1 [-(z1:Rat)]:=by
  have h1:=hO4.row hV4.size
  rw [hs4] at h1
  rw [HP25]
  exact h1
 have HR5:=ah hR5
 have HV5:=ah (hV4.trans (hb5.mono hV4.size))
 unfold putQ at HP24 r0 r1 r2 r3
 have HP24:=ah HP24
 have HP25:=ah HP25
 clear ho7 ho8 hv hb3 hC3 hC4 hV3 hO4 hV4 hs4 hb5 hR5
 go_upto_region 21 with fail
 rw [<- HP24.out,<- HP25.out]
 clear HP24 HP25
 clear HP24 HP25 e0 e1 e2 e3 f0 f1 f2 f3 r0 r1 r2 r3
 have HF:=ah (cJ HR5.out.p HV5.out)
 have HTL:=ah (HTU1.out.next HF.out.2)
 have HS:=ah (show ∀ W,Below P25.heap.size P25 W->W.cell? ⟨t,0,none⟩=some (.slice (some ⟨gr,0,none⟩) 2 cr)/\W.cell? ⟨gr,0,none⟩=some (.slice (some ⟨g0,0,none⟩) 2 c0) from fun W hb=>⟨(HTL.out.next hb).hd.cell rfl,(HTL.out.next hb).rw.cell rfl⟩)
 have HSP:=ah (show ∀ W u,Below P25.heap.size P25 W->(W.setCell ⟨g0,1,none⟩ u).cell? ⟨t,0,none⟩=some (.slice (some ⟨gr,0,none⟩) 2 cr)/\(W.setCell ⟨g0,1,none⟩ u).cell? ⟨gr,0,none⟩=some (.slice (some ⟨g0,0,none⟩) 2 c0) from fun W u hb=>⟨((HTL.out.next hb).hd.far (p:=⟨g0,1,none⟩) (HTL.out.next hb).ht0 u).cell rfl,((HTL.out.next hb).rw.far (p:=⟨g0,1,none⟩) (HTL.out.next hb).hr0 u).cell rfl⟩)
 have HBD:=ah (Below.refl P25.heap.size P25).drew
 go_region_held3 (fun W=>W.cell? ⟨t,0,none⟩=some (.slice (some ⟨gr,0,none⟩) 2 cr)/\W.cell? ⟨gr,0,none⟩=some (.slice (some ⟨g0,0,none⟩) 2 c0))
  (first | exact HS.out _ HBD.out | exact HS.out _ HB9.out | exact HSP.out _ _ HB9.out)
  (first
   | (go_at_call 110;refine (pnrm_any (HF.out.1.next HBD.out) (fun x hx=>by simp at hx;subst hx;exact HQS.out.neg) (by decide)).mono ?_;rintro _ P28 ⟨B92,m92,l92,rfl,ho9,hb9⟩;have HB9:Hid (Below P25.heap.size P25 P28):=tM HBD hb9;have HO9:=ah (ho9.base (b':=W4.heap.size) (by have h1:=HBU1.out.size;have h2:=HF.out.2.size;have h3:=HBD.out.size;omega));have e9:=(HTL.out.next HB9.out).r0.cell (i:=1) (v:=.slice ya yn yc) rfl;have f9:=(HTL.out.next HB9.out).r0.frozen 1;clear ho9 hb9))
 all_goals
 have hT:=(HTL.out.next HB9.out).put1 (e:=(B92,m92,l92)) HO9.out
 obtain ⟨U2,HU2⟩:∃ W,W=(P28.setCell ⟨g0,1,none⟩ (.slice B92 m92 l92)):=⟨_,rfl⟩
 have HTU2:=ah (show T2 U2 W4.heap.size t gr cr g0 c0 g1 c1 (B91,m91,l91) (B92,m92,l92) (za,zn,zc) (ua,un,uc) ⟨(Pq.nrm ([-(z0:Rat)] ++ [1])),(Pq.nrm [-(z1:Rat)]),[],[1]⟩ by rw [HU2];exact hT)
 have HBU2:=ah (show Below W4.heap.size W4 U2 by
  rw [HU2]
  exact ((HBU1.out.trans (HF.out.2.mono HBU1.out.size)).trans (HB9.out.mono (nT HBU1.out.size HF.out.2.size))).setCell (p:=⟨g0,1,none⟩) HTL.out.b0 _)
 go_upto_region 22 with fail
 rw [<- HU2]
 clear HU2 hT e9 f9 HS HSP HTL HF HB9 HO9
 go_wp2_with fail
 rw [rounds_succ]
 go_wp2_with fail
 rw [rounds_succ]
 obtain ⟨gq1,Aa1,na1,ca1,La1,hg1,_,j1,hoa,hLa⟩:=oml_at (HMT.out _ HBU2.out).2.2 (show 1 < 2 by decide)
 injection hg1 with hg1
 injection hg1 with hg1
 subst hg1
 obtain rfl:na1=2:=by
  have e:=hLa.out
  rw [HLL.out] at e
  injection e with e
  rw [<- hoa.len,<- e]
  rfl
 clear hoa hLa
 go_wp2_with fail
 refine wp_loop_rounds 3 ?_
 rw [rounds_succ]
 have z0':=(HMT.out _ HBU2.out).1.c0
 have z1':=(HMT.out _ HBU2.out).1.c1
 have z2':=(HMT.out _ HBU2.out).1.c2
 go_wp2_with fail
 refine (mAt_any (N:=1) (K:=2) (i:=1) (j:=0) (RR:=LL.map (·.map ofZ)) (x:=ofZ z2) (HMT.out _ HBU2.out).2.1.rd ((HMT.out _ HBU2.out).2.2.rd fun L hL=>⟨(HSZ.out L hL).1,(HSZ.out L hL).2⟩) (by decide) HEV.out (by have:=HNL.out;omega) (by decide) (by decide) (by decide) (by rw [HLL.out];rfl) rfl).mono ?_
 rintro _ P31 ⟨s53,A53,n53,c53,s63,A63,n63,c63,y5,rfl,ho5,hy5,hb⟩
 obtain rfl:=hy5.out
 rw [divInt_of] at ho5
 obtain ⟨P32,HP32⟩:∃ W,W=P31.alloc (.cells #[.bool s53,.slice A53 n53 c53,.bool s63,.slice A63 n63 c63] 47):=⟨_,rfl⟩
 obtain ⟨gc3,hgc⟩:∃ g,g=P31.heap.size:=⟨_,rfl⟩
 have hb2:Below P31.heap.size P31 P32:=by rw [HP32];exact bA
 have HC2:=ah (show QC P32 gc3 s53 A53 n53 c53 s63 A63 n63 c63 by rw [HP32,hgc];exact QC.new P31 s53 A53 n53 c53 s63 A63 n63 c63)
 have HO2:=ah (ho5.next hb2)
 have HV2:=ah (show Below U2.heap.size U2 P32/\U2.heap.size<=gc3 from ⟨hb.trans (hb2.mono hb.size),by rw [hgc];exact hb.size⟩)
 have HP32:=ah HP32
 clear ho5 hy5 hb hb2 z0' z1' z2'
 go_wp2_with fail
 rw [<- HP32.out,<- hgc]
 clear HP32 hgc
 clear HP32
 have HQS:=ah (show Qs 1 (z2:Rat) from Qs.int (Zz.zl_small HSM.out.2.2.1) nR)
 refine (qneg_any (N:=1) HO2.out.num.rd HO2.out.den.rd ⟨by rw [HO2.out.num.len];exact HQS.out.1,by rw [HO2.out.den.len];exact HQS.out.2⟩ (by decide)).mono ?_
 rintro _ P33 ⟨s73,A73,n73,c73,y7,s83,A83,n83,c83,y8,kk,rfl,ho7,ho8,hv,hb3⟩
 rw [Rat.num_divInt_den] at hv
 obtain ⟨rfl,rfl,rfl⟩:y7=(-(z2:Rat)).num/\y8=((-(z2:Rat)).den:Int)/\kk=0:=by
  rcases hv.out with ⟨_,h1,h2,h3⟩ | ⟨h1,_⟩
  ·exact ⟨h1,h2,h3⟩
  ·exact absurd (qden_ne _) h1
 have hC3:=HC2.out.next hb3
 have e0:=hC3.c0
 have e1:=hC3.c1
 have e2:=hC3.c2
 have e3:=hC3.c3
 have f0:=hC3.fz 0
 have f1:=hC3.fz 1
 have f2:=hC3.fz 2
 have f3:=hC3.fz 3
 have hC4:=hC3.store s73 A73 n73 c73 s83 A83 n83 c83
 have r0:=hC4.c0
 have r1:=hC4.c1
 have r2:=hC4.c2
 have r3:=hC4.c3
 have hV3:=HV2.out.1.trans (hb3.mono HV2.out.1.size)
 obtain ⟨P34,HP34⟩:∃ W,W=putQ P33 gc3 s73 A73 n73 c73 s83 A83 n83 c83:=⟨_,rfl⟩
 have hO4:OwQ P34 U2.heap.size s73 A73 n73 c73 s83 A83 n83 c83 (-(z2:Rat)):=by
  rw [HP34]
  exact (OwQ.base ⟨ho7,ho8⟩ HV2.out.1.size).keep (keep_putQ hC3 s73 A73 n73 c73 s83 A83 n83 c83)
 have hV4:Below U2.heap.size U2 P34:=by rw [HP34];exact below_putQ hV3 HV2.out.2 s73 A73 n73 c73 s83 A83 n83 c83
 have hs4:P34.heap.size=P33.heap.size:=by rw [HP34];unfold putQ;simp [World.setCell]
 obtain ⟨P35,HP35⟩:∃ W,W=P34.alloc (.cells #[.bool s73,.slice A73 n73 c73,.bool s83,.slice A83 n83 c83] 47):=⟨_,rfl⟩
 have hb5:Below P34.heap.size P34 P35:=by rw [HP35];exact bA
 have hR5:OwQs P35 U2.heap.size (some ⟨P33.heap.size,0,none⟩) 1 1 [-(z2:Rat)]:=by
  have h1:=hO4.row hV4.size
  rw [hs4] at h1
  rw [HP35]
  exact h1
 have HR5:=ah hR5
 have HV5:=ah (hV4.trans (hb5.mono hV4.size))
 unfold putQ at HP34 r0 r1 r2 r3
 have HP34:=ah HP34
 have HP35:=ah HP35
 clear ho7 ho8 hv hb3 hC3 hC4 hV3 hO4 hV4 hs4 hb5 hR5
 go_upto_region 21 with fail
 rw [<- HP34.out,<- HP35.out]
 clear HP34 HP35
 clear HP34 HP35 e0 e1 e2 e3 f0 f1 f2 f3 r0 r1 r2 r3
 have HF:=ah (cJ HR5.out.p HV5.out)
 have HTL:=ah (HTU2.out.next HF.out.2)
 have HS:=ah (show ∀ W,Below P35.heap.size P35 W->W.cell? ⟨t,0,none⟩=some (.slice (some ⟨gr,0,none⟩) 2 cr)/\W.cell? ⟨gr,1,none⟩=some (.slice (some ⟨g1,0,none⟩) 2 c1) from fun W hb=>⟨(HTL.out.next hb).hd.cell rfl,(HTL.out.next hb).rw.cell rfl⟩)
 have HSP:=ah (show ∀ W u,Below P35.heap.size P35 W->(W.setCell ⟨g1,0,none⟩ u).cell? ⟨t,0,none⟩=some (.slice (some ⟨gr,0,none⟩) 2 cr)/\(W.setCell ⟨g1,0,none⟩ u).cell? ⟨gr,1,none⟩=some (.slice (some ⟨g1,0,none⟩) 2 c1) from fun W u hb=>⟨((HTL.out.next hb).hd.far (p:=⟨g1,0,none⟩) (HTL.out.next hb).ht1 u).cell rfl,((HTL.out.next hb).rw.far (p:=⟨g1,0,none⟩) (HTL.out.next hb).hr1 u).cell rfl⟩)
 have HBD:=ah (Below.refl P35.heap.size P35).drew
 go_region_held3 (fun W=>W.cell? ⟨t,0,none⟩=some (.slice (some ⟨gr,0,none⟩) 2 cr)/\W.cell? ⟨gr,1,none⟩=some (.slice (some ⟨g1,0,none⟩) 2 c1))
  (first | exact HS.out _ HBD.out | exact HS.out _ HB9.out | exact HSP.out _ _ HB9.out)
  (first
   | (go_at_call 110;refine (pnrm_any (HF.out.1.next HBD.out) (fun x hx=>by simp at hx;subst hx;exact HQS.out.neg) (by decide)).mono ?_;rintro _ P38 ⟨B93,m93,l93,rfl,ho9,hb9⟩;have HB9:Hid (Below P35.heap.size P35 P38):=tM HBD hb9;have HO9:=ah (ho9.base (b':=W4.heap.size) (by have h1:=HBU2.out.size;have h2:=HF.out.2.size;have h3:=HBD.out.size;omega));have e9:=(HTL.out.next HB9.out).r1.cell (i:=0) (v:=.slice za zn zc) rfl;have f9:=(HTL.out.next HB9.out).r1.frozen 0;clear ho9 hb9))
 all_goals
 have hT:=(HTL.out.next HB9.out).put2 (e:=(B93,m93,l93)) HO9.out
 obtain ⟨U3,HU3⟩:∃ W,W=(P38.setCell ⟨g1,0,none⟩ (.slice B93 m93 l93)):=⟨_,rfl⟩
 have HTU3:=ah (show T2 U3 W4.heap.size t gr cr g0 c0 g1 c1 (B91,m91,l91) (B92,m92,l92) (B93,m93,l93) (ua,un,uc) ⟨(Pq.nrm ([-(z0:Rat)] ++ [1])),(Pq.nrm [-(z1:Rat)]),(Pq.nrm [-(z2:Rat)]),[1]⟩ by rw [HU3];exact hT)
 have HBU3:=ah (show Below W4.heap.size W4 U3 by
  rw [HU3]
  exact ((HBU2.out.trans (HF.out.2.mono HBU2.out.size)).trans (HB9.out.mono (nT HBU2.out.size HF.out.2.size))).setCell (p:=⟨g1,0,none⟩) HTL.out.b1 _)
 go_upto_region 22 with fail
 rw [<- HU3]
 clear HU3 hT e9 f9 HS HSP HTL HF HB9 HO9
 go_wp2_with fail
 rw [rounds_succ]
 have z0':=(HMT.out _ HBU3.out).1.c0
 have z1':=(HMT.out _ HBU3.out).1.c1
 have z2':=(HMT.out _ HBU3.out).1.c2
 go_wp2_with fail
 refine (mAt_any (N:=1) (K:=2) (i:=1) (j:=1) (RR:=LL.map (·.map ofZ)) (x:=ofZ z3) (HMT.out _ HBU3.out).2.1.rd ((HMT.out _ HBU3.out).2.2.rd fun L hL=>⟨(HSZ.out L hL).1,(HSZ.out L hL).2⟩) (by decide) HEV.out (by have:=HNL.out;omega) (by decide) (by decide) (by decide) (by rw [HLL.out];rfl) rfl).mono ?_
 rintro _ P41 ⟨s54,A54,n54,c54,s64,A64,n64,c64,y5,rfl,ho5,hy5,hb⟩
 obtain rfl:=hy5.out
 rw [divInt_of] at ho5
 obtain ⟨P42,HP42⟩:∃ W,W=P41.alloc (.cells #[.bool s54,.slice A54 n54 c54,.bool s64,.slice A64 n64 c64] 47):=⟨_,rfl⟩
 obtain ⟨gc4,hgc⟩:∃ g,g=P41.heap.size:=⟨_,rfl⟩
 have hb2:Below P41.heap.size P41 P42:=by rw [HP42];exact bA
 have HC2:=ah (show QC P42 gc4 s54 A54 n54 c54 s64 A64 n64 c64 by rw [HP42,hgc];exact QC.new P41 s54 A54 n54 c54 s64 A64 n64 c64)
 have HO2:=ah (ho5.next hb2)
 have HV2:=ah (show Below U3.heap.size U3 P42/\U3.heap.size<=gc4 from ⟨hb.trans (hb2.mono hb.size),by rw [hgc];exact hb.size⟩)
 have HP42:=ah HP42
 clear ho5 hy5 hb hb2 z0' z1' z2'
 go_wp2_with fail
 rw [<- HP42.out,<- hgc]
 clear HP42 hgc
 clear HP42
 have HQS:=ah (show Qs 1 (z3:Rat) from Qs.int (Zz.zl_small HSM.out.2.2.2) nR)
 refine (qneg_any (N:=1) HO2.out.num.rd HO2.out.den.rd ⟨by rw [HO2.out.num.len];exact HQS.out.1,by rw [HO2.out.den.len];exact HQS.out.2⟩ (by decide)).mono ?_
 rintro _ P43 ⟨s74,A74,n74,c74,y7,s84,A84,n84,c84,y8,kk,rfl,ho7,ho8,hv,hb3⟩
 rw [Rat.num_divInt_den] at hv
 obtain ⟨rfl,rfl,rfl⟩:y7=(-(z3:Rat)).num/\y8=((-(z3:Rat)).den:Int)/\kk=0:=by
  rcases hv.out with ⟨_,h1,h2,h3⟩ | ⟨h1,_⟩
  ·exact ⟨h1,h2,h3⟩
  ·exact absurd (qden_ne _) h1
 have hC3:=HC2.out.next hb3
 have e0:=hC3.c0
 have e1:=hC3.c1
 have e2:=hC3.c2
 have e3:=hC3.c3
 have f0:=hC3.fz 0
 have f1:=hC3.fz 1
 have f2:=hC3.fz 2
 have f3:=hC3.fz 3
 have hC4:=hC3.store s74 A74 n74 c74 s84 A84 n84 c84
 have r0:=hC4.c0
 have r1:=hC4.c1
 have r2:=hC4.c2
 have r3:=hC4.c3
 have hV3:=HV2.out.1.trans (hb3.mono HV2.out.1.size)
 obtain ⟨P44,HP44⟩:∃ W,W=putQ P43 gc4 s74 A74 n74 c74 s84 A84 n84 c84:=⟨_,rfl⟩
 have hO4:OwQ P44 U3.heap.size s74 A74 n74 c74 s84 A84 n84 c84 (-(z3:Rat)):=by
  rw [HP44]
  exact (OwQ.base ⟨ho7,ho8⟩ HV2.out.1.size).keep (keep_putQ hC3 s74 A74 n74 c74 s84 A84 n84 c84)
 have hV4:Below U3.heap.size U3 P44:=by rw [HP44];exact below_putQ hV3 HV2.out.2 s74 A74 n74 c74 s84 A84 n84 c84
 have hs4:P44.heap.size=P43.heap.size:=by rw [HP44];unfold putQ;simp [World.setCell]
 obtain ⟨P45,HP45⟩:∃ W,W=P44.alloc (.cells #[.bool s74,.slice A74 n74 c74,.bool s84,.slice A84 n84 c84] 47):=⟨_,rfl⟩
 have hb5:Below P44.heap.size P44 P45:=by rw [HP45];exact bA
 have hR5:OwQs P45 U3.heap.size (some ⟨P43.heap.size,0,none⟩) 1 1 [-(z3:Rat)]:=by
  have h1:=hO4.row hV4.size
  rw [hs4] at h1
  rw [HP45]
  exact h1
 have HR5:=ah hR5
 have HV5:=ah (hV4.trans (hb5.mono hV4.size))
 unfold putQ at HP44 r0 r1 r2 r3
 have HP44:=ah HP44
 have HP45:=ah HP45
 clear ho7 ho8 hv hb3 hC3 hC4 hV3 hO4 hV4 hs4 hb5 hR5
 go_wp2_with fail
 rw [<- HP44.out,<- HP45.out]
 clear HP44 HP45
 clear HP44 HP45 e0 e1 e2 e3 f0 f1 f2 f3 r0 r1 r2 r3
 refine (qof_any 1 (by decide) (by decide) P45).mono ?_
 rintro _ P46 ⟨t14,D14,u14,v14,t24,D24,u24,v24,y6,rfl,ho6,hy6,hb6⟩
 obtain ⟨EE,hE,hEl,hEn⟩:=HR5.out.next hb6
 have HO6:=ah (ho6.base (b':=U3.heap.size) HV5.out.size)
 have HE:=ah hE
 have HEN:=ah (cJ hEl hEn)
 have HV6:=tM HV5 hb6
 have HY6:=ah (show y6=1 by rw [hy6.out];rfl)
 clear hE hEl hEn ho6 hy6 hb6
 go_wp2_with (at_builtin;refine wpList_append_own _ rfl _ _ 73 rfl U3.heap.size 47 i0 (.agg #[.bool false,.slice none 0 0,.bool false,.slice none 0 0]) 4 64 Tryz.underlying73 hi hz0 hz1 hz2 rfl (by decide) _ _ _ rfl (HE.out.alloc _) ⟨P46.heap.size,0,none⟩ 1 1 [.bool t14,.slice D14 u14 v14,.bool t24,.slice D24 u24 v24] rfl rfl (qcell_new _ _ _ _ _ _) (by simp [Value.oneCell']) (by decide) (by decide) (by have:=HV6.out.size;simp;omega) ?_;intro v' P47 hown' hgrow _)
 have hmore:=qs_more (e:=((t14,D14,u14,v14),(t24,D24,u24,v24))) (x:=y6) HO6.out rfl (HE.out.alloc _) HEN.out.1 HEN.out.2 hown' hgrow
 have hV7:=(HV6.out.alloc HV6.out.size (.cells #[.bool t14,.slice D14 u14 v14,.bool t24,.slice D24 u24 v24] 47)).grown hgrow (by have:=HV6.out.size;simp;omega) (own_block HE.out)
 obtain ⟨A94,c94,rfl,ho9⟩:=hmore
 rw [HY6.out] at ho9
 have HF:=ah (cJ ho9.p hV7)
 clear hown' hgrow HE HEN HO6 ho9 hV7
 go_upto_region 21 with fail
 have HTL:=ah (HTU3.out.next HF.out.2)
 have HS:=ah (show ∀ W,Below P47.heap.size P47 W->W.cell? ⟨t,0,none⟩=some (.slice (some ⟨gr,0,none⟩) 2 cr)/\W.cell? ⟨gr,1,none⟩=some (.slice (some ⟨g1,0,none⟩) 2 c1) from fun W hb=>⟨(HTL.out.next hb).hd.cell rfl,(HTL.out.next hb).rw.cell rfl⟩)
 have HSP:=ah (show ∀ W u,Below P47.heap.size P47 W->(W.setCell ⟨g1,1,none⟩ u).cell? ⟨t,0,none⟩=some (.slice (some ⟨gr,0,none⟩) 2 cr)/\(W.setCell ⟨g1,1,none⟩ u).cell? ⟨gr,1,none⟩=some (.slice (some ⟨g1,0,none⟩) 2 c1) from fun W u hb=>⟨((HTL.out.next hb).hd.far (p:=⟨g1,1,none⟩) (HTL.out.next hb).ht1 u).cell rfl,((HTL.out.next hb).rw.far (p:=⟨g1,1,none⟩) (HTL.out.next hb).hr1 u).cell rfl⟩)
 have HBD:=ah (Below.refl P47.heap.size P47).drew
 go_region_held3 (fun W=>W.cell? ⟨t,0,none⟩=some (.slice (some ⟨gr,0,none⟩) 2 cr)/\W.cell? ⟨gr,1,none⟩=some (.slice (some ⟨g1,0,none⟩) 2 c1))
  (first | exact HS.out _ HBD.out | exact HS.out _ HB9.out | exact HSP.out _ _ HB9.out)
  (first
   | (go_at_call 110;refine (pnrm_any (HF.out.1.next HBD.out) (fun x hx=>by simp at hx;rcases hx with rfl | rfl;exact HQS.out.neg;exact Qs.one nR) (by decide)).mono ?_;rintro _ P48 ⟨B94,m94,l94,rfl,ho9,hb9⟩;have HB9:Hid (Below P47.heap.size P47 P48):=tM HBD hb9;have HO9:=ah (ho9.base (b':=W4.heap.size) (by have h1:=HBU3.out.size;have h2:=HF.out.2.size;have h3:=HBD.out.size;omega));have e9:=(HTL.out.next HB9.out).r1.cell (i:=1) (v:=.slice ua un uc) rfl;have f9:=(HTL.out.next HB9.out).r1.frozen 1;clear ho9 hb9))
 all_goals
 have hT:=(HTL.out.next HB9.out).put3 (e:=(B94,m94,l94)) HO9.out
 obtain ⟨U4,HU4⟩:∃ W,W=(P48.setCell ⟨g1,1,none⟩ (.slice B94 m94 l94)):=⟨_,rfl⟩
 have HTU4:=ah (show T2 U4 W4.heap.size t gr cr g0 c0 g1 c1 (B91,m91,l91) (B92,m92,l92) (B93,m93,l93) (B94,m94,l94) ⟨(Pq.nrm ([-(z0:Rat)] ++ [1])),(Pq.nrm [-(z1:Rat)]),(Pq.nrm [-(z2:Rat)]),(Pq.nrm ([-(z3:Rat)] ++ [1]))⟩ by rw [HU4];exact hT)
 have HBU4:=ah (show Below W4.heap.size W4 U4 by
  rw [HU4]
  exact ((HBU3.out.trans (HF.out.2.mono HBU3.out.size)).trans (HB9.out.mono (nT HBU3.out.size HF.out.2.size))).setCell (p:=⟨g1,1,none⟩) HTL.out.b1 _)
 go_upto_region 22 with fail
 rw [<- HU4]
 clear HU4 hT e9 f9 HS HSP HTL HF HB9 HO9
 go_wp2_with fail
 rw [rounds_succ]
 go_wp2_with fail
 rw [rounds_succ]
 go_wp2
 go_ret2
 exact ⟨t,rfl,⟨_,_,_,_,_,_,_,_,_,_,HTU4.out.baseL HB4.out.size⟩,HB4.out.trans (HBU4.out.mono HB4.out.size)⟩
def RetFa (LL:List (List Rat))(w:World)(e:Ending)(w':World):Prop:=∃ (A:Option Addr) (n c:Nat),e=.returned (.tuple #[.slice A n c,.int .i64 0])/\OwPs w' w.heap.size A n c LL/\Below w.heap.size w w'
theorem factors_A {b:Nat}{s:Bool}{A G:Option Addr}{n c r k:Nat}{w:World}(h:OwZ w b s A n c 1)(h':OwMs w b G r k [[2,0],[0,2]]) :
  Calls Tryz.prog 60 #[.agg #[.bool s,.slice A n c,.slice G r k]] w (RetFa [xA.a,xA.d] w):=by
 obtain ⟨i1,hjf,hy0,hy1,hy2⟩:=info_parts infoPoly
 obtain ⟨W1,HW1⟩:∃ W,W=w.alloc (.cells #[.bool s,.slice A n c,.slice G r k] 28):=⟨_,rfl⟩
 have hb1:Below w.heap.size w W1:=by rw [HW1];exact bA
 have HI:=ah (cJ (h.next hb1) (h'.next hb1))
 have HB1:=ah hb1
 have HW1:=ah HW1
 clear h h' hb1
 go_enter Tryz.func60,Tryz.ntmps60
 go_wp2_with fail
 rw [<- HW1.out]
 clear HW1
 clear HW1
 refine (char_two HI.out.1 HI.out.2 (by decide) (by decide) (by decide) (by decide) (by decide +kernel)).mono ?_
 rintro _ W2 ⟨t,rfl,ht,hb2⟩
 have HT:=ah (show Tb W2 W1.heap.size t xA from by
  rw [show xA=⟨Pq.nrm [-((2:Int):Rat),1],Pq.nrm [-((0:Int):Rat)],Pq.nrm [-((0:Int):Rat)],Pq.nrm [-((2:Int):Rat),1]⟩ by decide +kernel]
  exact ht)
 have HB2:=ah (cJ hb2.size (HB1.out.trans (hb2.mono HB1.out.size)))
 clear ht hb2
 go_wp2_with fail
 refine (diagonal_any (E:=xA) HT.out HB2.out.1 (by decide +kernel) (by decide +kernel) run_A).mono ?_
 rintro _ W3 ⟨A3,n3,c3,rfl,ho3,hb3⟩
 obtain rfl:n3=2:=ho3.len.symm
 have HO:=ah (show ∀ W,Below W3.heap.size W3 W->OwPs W W1.heap.size A3 2 c3 [xA.a,xA.d] from fun W hb=>ho3.next hb)
 have HB3:=ah (show Below w.heap.size w W3/\W1.heap.size<=W3.heap.size from ⟨HB2.out.2.trans (hb3.mono HB1.out.size),nT HB2.out.1 hb3.size⟩)
 have HX0:=ah (Below.refl W3.heap.size W3)
 clear ho3 hb3
 go_wp2_with fail
 refine wp_loop_rounds 3 ?_
 rw [rounds_succ]
 obtain ⟨g0,B0,m0,l0,L0,hA0,_,k0,hq0,hL0⟩:=opl_at (HO.out _ HX0.out) (show 0 < 2 by decide)
 subst hA0
 obtain rfl:L0=xA.a:=by simpa using hL0.out.symm
 obtain rfl:m0=2:=by rw [<- hq0.len];rfl
 have HQ0:=ah hq0
 clear hq0 hL0
 go_wp2_with fail
 refine (deg_any (by decide)).mono ?_
 rintro _ Wd ⟨rfl,hwd⟩
 rw [hwd]
 clear hwd
 obtain ⟨EE,hE,hEl,hEn⟩:=(OwPs.nil W3 W1.heap.size)
 have HEE:=ah (cJ hE (cJ hEl hEn))
 clear hE hEl hEn
 go_wp2_with (at_builtin;refine wpList_append_own _ rfl _ _ 30 rfl W1.heap.size 73 i1 (.slice none 0 0) 1 24 Tryz.underlying30 hjf hy0 hy1 hy2 rfl (by decide) _ _ _ rfl (HEE.out.1.alloc _) ⟨W3.heap.size,0,none⟩ 1 1 [.slice B0 2 l0] rfl rfl (tcell_new W3 (.slice B0 2 l0) 73) (by simp [Value.oneCell']) (by decide) (by decide) (by have h1:=HB3.out.2;have h2:=HX0.out.size;simp;omega) ?_;intro v' Z0 hown' hgrow _)
 have hba:Below W3.heap.size W3 (W3.alloc (.cells #[.slice B0 2 l0] 73)):=bA
 obtain ⟨A50,c50,rfl,ho5⟩:=ps_more (e:=(B0,2,l0)) HQ0.out rfl (HEE.out.1.alloc _) HEE.out.2.1 (HEE.out.2.2.next hba) hown' hgrow
 have HBZ0:=ah (show Below w.heap.size w Z0 from by
  have h0:=HB3.out.1.trans (HX0.out.mono (nT HB1.out.size HB3.out.2))
  exact (h0.alloc h0.size (.cells #[.slice B0 2 l0] 73)).grown hgrow (by have h1:=h0.size;simp;omega) (fun k hk=>nT HB1.out.size (own_block HEE.out.1 k hk)))
 have HX1:=ah (HX0.out.trans ((hba.trans (bR.grown hgrow (by simp) (fun k hk=>by cases hk)))))
 have HR:=ah ho5
 clear hown' hgrow hba ho5 HEE k0
 go_wp2_with fail
 rw [rounds_succ]
 obtain ⟨g1,B1,m1,l1,L1,hA1,_,k1,hq1,hL1⟩:=opl_at (HO.out _ HX1.out) (show 1 < 2 by decide)
 injection hA1 with hA1;injection hA1 with hA1;subst hA1
 obtain rfl:L1=xA.d:=by simpa using hL1.out.symm
 obtain rfl:m1=2:=by rw [<- hq1.len];rfl
 have HQ1:=ah hq1
 clear hq1 hL1
 go_wp2_with fail
 refine (deg_any (by decide)).mono ?_
 rintro _ Wd ⟨rfl,hwd⟩
 rw [hwd]
 clear hwd
 obtain ⟨EE,hE,hEl,hEn⟩:=HR.out
 have HEE:=ah (cJ hE (cJ hEl hEn))
 clear hE hEl hEn
 go_wp2_with (at_builtin;refine wpList_append_own _ rfl _ _ 30 rfl W1.heap.size 73 i1 (.slice none 0 0) 1 24 Tryz.underlying30 hjf hy0 hy1 hy2 rfl (by decide) _ _ _ rfl (HEE.out.1.alloc _) ⟨Z0.heap.size,0,none⟩ 1 1 [.slice B1 2 l1] rfl rfl (tcell_new Z0 (.slice B1 2 l1) 73) (by simp [Value.oneCell']) (by decide) (by decide) (by have h1:=HB3.out.2;have h2:=HX1.out.size;simp;omega) ?_;intro v' Z1 hown' hgrow _)
 have hba:Below Z0.heap.size Z0 (Z0.alloc (.cells #[.slice B1 2 l1] 73)):=bA
 obtain ⟨A51,c51,rfl,ho5⟩:=ps_more (e:=(B1,2,l1)) HQ1.out rfl (HEE.out.1.alloc _) HEE.out.2.1 (HEE.out.2.2.next hba) hown' hgrow
 have HBZ1:=ah (show Below w.heap.size w Z1 from by
  have h0:=HBZ0.out
  exact (h0.alloc h0.size (.cells #[.slice B1 2 l1] 73)).grown hgrow (by have h1:=h0.size;simp;omega) (fun k hk=>nT HB1.out.size (own_block HEE.out.1 k hk)))
 have HR:=ah ho5
 clear hown' hgrow hba ho5 HEE k1
 go_wp2_with fail
 rw [rounds_succ]
 go_wp2
 go_ret2
 exact ⟨_,_,_,rfl,HR.out.base HB1.out.size,HBZ1.out⟩
theorem factors_B {b:Nat}{s:Bool}{A G:Option Addr}{n c r k:Nat}{w:World}(h:OwZ w b s A n c 1)(h':OwMs w b G r k [[2,0],[0,3]]) :
  Calls Tryz.prog 60 #[.agg #[.bool s,.slice A n c,.slice G r k]] w (RetFa [xE.d] w):=by
 obtain ⟨i1,hjf,hy0,hy1,hy2⟩:=info_parts infoPoly
 obtain ⟨W1,HW1⟩:∃ W,W=w.alloc (.cells #[.bool s,.slice A n c,.slice G r k] 28):=⟨_,rfl⟩
 have hb1:Below w.heap.size w W1:=by rw [HW1];exact bA
 have HI:=ah (cJ (h.next hb1) (h'.next hb1))
 have HB1:=ah hb1
 have HW1:=ah HW1
 clear h h' hb1
 go_enter Tryz.func60,Tryz.ntmps60
 go_wp2_with fail
 rw [<- HW1.out]
 clear HW1
 clear HW1
 refine (char_two HI.out.1 HI.out.2 (by decide) (by decide) (by decide) (by decide) (by decide +kernel)).mono ?_
 rintro _ W2 ⟨t,rfl,ht,hb2⟩
 have HT:=ah (show Tb W2 W1.heap.size t xB from by
  rw [show xB=⟨Pq.nrm [-((2:Int):Rat),1],Pq.nrm [-((0:Int):Rat)],Pq.nrm [-((0:Int):Rat)],Pq.nrm [-((3:Int):Rat),1]⟩ by decide +kernel]
  exact ht)
 have HB2:=ah (cJ hb2.size (HB1.out.trans (hb2.mono HB1.out.size)))
 clear ht hb2
 go_wp2_with fail
 refine (diagonal_any (E:=xE) HT.out HB2.out.1 (by decide +kernel) (by decide +kernel) run_B).mono ?_
 rintro _ W3 ⟨A3,n3,c3,rfl,ho3,hb3⟩
 obtain rfl:n3=2:=ho3.len.symm
 have HO:=ah (show ∀ W,Below W3.heap.size W3 W->OwPs W W1.heap.size A3 2 c3 [xE.a,xE.d] from fun W hb=>ho3.next hb)
 have HB3:=ah (show Below w.heap.size w W3/\W1.heap.size<=W3.heap.size from ⟨HB2.out.2.trans (hb3.mono HB1.out.size),nT HB2.out.1 hb3.size⟩)
 have HX0:=ah (Below.refl W3.heap.size W3)
 clear ho3 hb3
 go_wp2_with fail
 refine wp_loop_rounds 3 ?_
 rw [rounds_succ]
 obtain ⟨g0,B0,m0,l0,L0,hA0,_,k0,hq0,hL0⟩:=opl_at (HO.out _ HX0.out) (show 0 < 2 by decide)
 subst hA0
 obtain rfl:L0=xE.a:=by simpa using hL0.out.symm
 obtain rfl:m0=1:=by rw [<- hq0.len];rfl
 have HQ0:=ah hq0
 clear hq0 hL0
 go_wp2_with fail
 refine (deg_any (by decide)).mono ?_
 rintro _ Wd ⟨rfl,hwd⟩
 rw [hwd]
 clear hwd
 clear k0
 go_wp2_with fail
 rw [rounds_succ]
 obtain ⟨g1,B1,m1,l1,L1,hA1,_,k1,hq1,hL1⟩:=opl_at (HO.out _ HX0.out) (show 1 < 2 by decide)
 injection hA1 with hA1;injection hA1 with hA1;subst hA1
 obtain rfl:L1=xE.d:=by simpa using hL1.out.symm
 obtain rfl:m1=3:=by rw [<- hq1.len];rfl
 have HQ1:=ah hq1
 clear hq1 hL1
 go_wp2_with fail
 refine (deg_any (by decide)).mono ?_
 rintro _ Wd ⟨rfl,hwd⟩
 rw [hwd]
 clear hwd
 obtain ⟨EE,hE,hEl,hEn⟩:=(OwPs.nil W3 W1.heap.size)
 have HEE:=ah (cJ hE (cJ hEl hEn))
 clear hE hEl hEn
 go_wp2_with (at_builtin;refine wpList_append_own _ rfl _ _ 30 rfl W1.heap.size 73 i1 (.slice none 0 0) 1 24 Tryz.underlying30 hjf hy0 hy1 hy2 rfl (by decide) _ _ _ rfl (HEE.out.1.alloc _) ⟨W3.heap.size,0,none⟩ 1 1 [.slice B1 3 l1] rfl rfl (tcell_new W3 (.slice B1 3 l1) 73) (by simp [Value.oneCell']) (by decide) (by decide) (by have h1:=HB3.out.2;have h2:=HX0.out.size;simp;omega) ?_;intro v' Z1 hown' hgrow _)
 have hba:Below W3.heap.size W3 (W3.alloc (.cells #[.slice B1 3 l1] 73)):=bA
 obtain ⟨A51,c51,rfl,ho5⟩:=ps_more (e:=(B1,3,l1)) HQ1.out rfl (HEE.out.1.alloc _) HEE.out.2.1 (HEE.out.2.2.next hba) hown' hgrow
 have HBZ1:=ah (show Below w.heap.size w Z1 from by
  have h0:=HB3.out.1.trans (HX0.out.mono (nT HB1.out.size HB3.out.2))
  exact (h0.alloc h0.size (.cells #[.slice B1 3 l1] 73)).grown hgrow (by have h1:=h0.size;simp;omega) (fun k hk=>nT HB1.out.size (own_block HEE.out.1 k hk)))
 have HR:=ah ho5
 clear hown' hgrow hba ho5 HEE k1
 go_wp2_with fail
 rw [rounds_succ]
 go_wp2
 go_ret2
 exact ⟨_,_,_,rfl,HR.out.base HB1.out.size,HBZ1.out⟩
end Go.Proofs.YtjnklbfhelbjgaaGreat
