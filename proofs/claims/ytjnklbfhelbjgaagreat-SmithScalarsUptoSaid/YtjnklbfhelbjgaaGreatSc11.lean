/- Sc11. -/
import Derived.Test.YtjnklbfhelbjgaaGreatSc10
import Derived.Test.YtjnklbfhelbjgaaGreatSc09
import Derived.Test.YtjnklbfhelbjgaaGreatSc06
import Derived.Test.YtjnklbfhelbjgaaGreatSc00
set_option maxRecDepth 100000
set_option maxHeartbeats 32000000
set_option linter.all false
namespace Go.Proofs.YtjnklbfhelbjgaaGreat
open Go.RowKit Go.IntWalk
attribute [local go_sem ↓] Go.wp_at_zero Go.wp_at_succ
theorem qcF1 {V W:World}(hb:Below (V.drew.alloc (.cells #[.bool false,.slice none 0 0,.bool false,.slice none 0 0] 47)).heap.size (V.drew.alloc (.cells #[.bool false,.slice none 0 0,.bool false,.slice none 0 0] 47)) W):QC W V.heap.size false none 0 0 false none 0 0:=(QC.new V.drew false none 0 0 false none 0 0).next hb
theorem qcF2 {V W:World}(hb:Below (V.alloc (.cells #[.bool false,.slice none 0 0,.bool false,.slice none 0 0] 47)).heap.size (V.alloc (.cells #[.bool false,.slice none 0 0,.bool false,.slice none 0 0] 47)) W):QC W V.heap.size false none 0 0 false none 0 0:=(QC.new V false none 0 0 false none 0 0).next hb
theorem below_put4 {B g:Nat}{w w':World}(hb:Below B w w')(hg:B<=g)(x y z u:Value):Below B w ((((w'.setCell ⟨g,0,none⟩ x).setCell ⟨g,1,none⟩ y).setCell ⟨g,2,none⟩ z).setCell ⟨g,3,none⟩ u) :=
 (((hb.setCell (p:=⟨g,0,none⟩) hg _).setCell (p:=⟨g,1,none⟩) hg _).setCell (p:=⟨g,2,none⟩) hg _).setCell (p:=⟨g,3,none⟩) hg _
theorem qover_any {N:Nat}{A:Option Addr}{n c:Nat}{L:List Int}{s5:Bool}{A5:Option Addr}{n5 c5:Nat}{d:Int}{w:World}(h:RdZs w w.heap.size N A n c L)(h5:RdZ w w.heap.size s5 A5 n5 c5 d)(hn5:n5<=N)(hn:n<=1048576)(hN:N<=200000000000)(hd:d ≠ 0) :
  Calls Tryz.prog 218 #[.slice A n c,.agg #[.bool s5,.slice A5 n5 c5]] w (RetPq (fun i=>Rat.divInt (Pz.co L i) d) w):=by
 have HLEN:=ah h.len
 have HSY:=ah (show Zz.zl d<=N from nT h5.len hn5)
 have HSL:=ah (zl_co h)
 have HD:=ah hd
 obtain ⟨i0,hi,hz0,hz1,hz2⟩:=info_parts infoQ
 obtain ⟨W1,HW1⟩:∃ W,W=w.alloc (.cells #[.bool s5,.slice A5 n5 c5] 25):=⟨_,rfl⟩
 have hC:ZC W1 w.heap.size s5 A5 n5 c5:=by rw [HW1];exact ZC.new w s5 A5 n5 c5
 have hB1:Below w.heap.size w W1:=by rw [HW1];exact bA
 have HCY:=ah (show ∀ W:World,Below W1.heap.size W1 W->ZC W w.heap.size s5 A5 n5 c5/\RdZ W W.heap.size s5 A5 n5 c5 d/\RdZs W W.heap.size N A n c L from fun W hb=>⟨hC.next hb,(h5.next hB1).next hb,(h.next hB1).next hb⟩)
 have HB1:=ah hB1
 have HW1:=ah HW1
 clear hC hB1 h h5 hd
 go_enter Tryz.func218,Tryz.ntmps218
 go_wp2_with fail
 rw [<- HW1.out]
 clear HW1
 clear HW1
 go_loopw [5,12] (fun ov iv wr=>∃ (j c':Nat) (A':Option Addr) (M:List Rat),ov=.slice A' j c'/\iv=.int .i64 j/\j<=n/\OwQs wr W1.heap.size A' j c' M/\Hid (M=(List.range j).map fun i=>Rat.divInt (Pz.co L i) d)/\Below W1.heap.size W1 wr) (fun _ iv _=>n-(intOf iv).toNat)
 case atStart=>exact ⟨0,0,none,[],rfl,rfl,nZ,OwQs.nil _ _,ah rfl,bR⟩
 case round =>
  obtain ⟨j,c',A',M,rfl,rfl,hj,ho,hM,hB⟩:=hrel
  by_cases hjn:j=n
  ·subst hjn
   have HSM:=ah (show ∀ x ∈ M,Qs N x by
    rw [hM.out]
    intro x hx
    obtain ⟨u,hu,rfl⟩:=List.mem_map.1 hx
    exact Qs.divInt HD.out (HSL.out u) HSY.out)
   go_wp2_with fail
   refine (qtrim_any ho.p HSM.out (by omega) (by omega)).mono ?_
   rintro _ W4 ⟨A4,n4,c4,M4,rfl,ho4,hM4,hb4⟩
   go_wp2
   go_ret
   refine ⟨_,_,_,M4,rfl,ho4.base HB1.out.size,ah (hM4.out.congr fun i=>?_),HB1.out.trans ((hB.trans (hb4.mono hB.size)).mono HB1.out.size)⟩
   rw [hM.out,Pq.co_range]
   rcases Nat.lt_or_ge i j with h1 | h1
   ·rw [if_pos h1]
   ·rw [if_neg (by omega),Pz.co_ge (by rw [HLEN.out];exact h1),Rat.zero_divInt]
  ·have hjl:j < n:=by omega
   clear hjn
   have hjli:(j:Int) < (n:Int):=by omega
   obtain ⟨hC,hr5,hl⟩:=HCY.out wr hB
   obtain ⟨ad,s1,A1,n1,c1,x,rfl,hbk,hx0,hx1,hr1,hn1,hp⟩:=zs_at hl hjl
   obtain ⟨W2,HW2⟩:∃ W,W=wr.alloc (.cells #[.bool s1,.slice A1 n1 c1] 25):=⟨_,rfl⟩
   have hb2:Below wr.heap.size wr W2:=by rw [HW2];exact bA
   have hX2:ZC W2 wr.heap.size s1 A1 n1 c1:=by rw [HW2];exact ZC.new wr s1 A1 n1 c1
   have hB2:=hB.trans (hb2.mono hB.size)
   have a0:=hX2.c0
   have a1:=hX2.c1
   have b0:=(hC.next hb2).c0
   have b1:=(hC.next hb2).c1
   rw [HW2] at a0 a1 b0 b1
   have HO:=ah (ho.next hb2)
   have HRD:=ah (cJ (hr1.next hb2) (hr5.next hb2))
   have HB2:=ah hB2
   have HW2:=ah HW2
   clear ho hB hb2 hB2 hr1 hr5 hl hC hX2
   go_wp2_with fail
   rw [<- HW2.out]
   clear HW2 hx0 hx1 a0 a1 b0 b1
   clear HW2
   refine (qmake_any HRD.out.1 HRD.out.2 (by omega) (by omega) HD.out).mono ?_
   rintro _ W3 ⟨s3,A3,n3,c3,s4,A4,n4,c4,q,rfl,ho3,hq,hb3⟩
   have hB3:=HB2.out.trans (hb3.mono HB2.out.size)
   obtain ⟨W4,HW4⟩:∃ W,W=W3.alloc (.cells #[.bool s3,.slice A3 n3 c3,.bool s4,.slice A4 n4 c4] 47):=⟨_,rfl⟩
   have hb4:Below W3.heap.size W3 W4:=by rw [HW4];exact bA
   have hB4:=hB3.trans (hb4.mono hB3.size)
   obtain ⟨E,hE,hEl,hEn⟩:=(HO.out.next hb3).next hb4
   have HO4:=ah ((ho3.base HB2.out.size).next hb4)
   rw [HW4] at hE hB4 hEn
   rw [HW4] at HO4
   have HE:=ah hE
   have HEN:=ah (cJ hEl hEn)
   have HM2:=ah (show M ++ [q]=(List.range (j+1)).map (fun i=>Rat.divInt (Pz.co L i) d) by rw [hM.out,hq.out,<- Pz.co_get hp.out,List.range_succ,List.map_append];rfl)
   have HB4:=ah hB4
   clear hE hEl hEn hb3 ho3 hb4 hB3 hB4 hq HO hM
   clear HW4
   go_wp2_with (at_builtin;refine wpList_append_own _ rfl _ _ 73 rfl W1.heap.size 47 i0 (.agg #[.bool false,.slice none 0 0,.bool false,.slice none 0 0]) 4 64 Tryz.underlying73 hi hz0 hz1 hz2 rfl (by decide) _ _ _ rfl (HE.out.alloc _) ⟨W3.heap.size+1,0,none⟩ 1 1 [.bool s3,.slice A3 n3 c3,.bool s4,.slice A4 n4 c4] rfl rfl (by simpa using qcell_new (W3.alloc (.cells #[.bool s3,.slice A3 n3 c3,.bool s4,.slice A4 n4 c4] 47)) (.bool s3) (.slice A3 n3 c3) (.bool s4) (.slice A4 n4 c4) 47) (by simp [Value.oneCell']) (by unfold maxLen;omega) (by omega) (by have:=HB4.out.size;simp at this ⊢;omega) ?_;intro v' w1 hown' hgrow _)
   have hmore:=qs_more (e:=((s3,A3,n3,c3),(s4,A4,n4,c4))) (x:=q) HO4.out rfl (HE.out.alloc _) HEN.out.1 HEN.out.2 hown' hgrow
   have HB5:=ah ((HB4.out.alloc HB4.out.size (.cells #[.bool s3,.slice A3 n3 c3,.bool s4,.slice A4 n4 c4] 47)).grown hgrow (by have:=HB4.out.size;simp at this ⊢;omega) (own_block HE.out))
   obtain ⟨A9,c9,rfl,ho9⟩:=hmore
   clear hown' hgrow HE HEN HO4
   go_wp2
   go_roundw
   case rel=>exact ⟨j+1,c9,A9,M ++ [q],rfl,by go_num,by omega,ho9,HM2,HB5.out⟩
   case measure=>simp [intOf];omega
theorem pcell_new (w:World)(x:Value)(t:TypeId):∀ j a,[x][j]?=some a->(w.alloc (.cells #[x] t)).cell? ((⟨w.heap.size,0,none⟩:Addr).add j)=some a:=by
 intro j a hj
 match j,hj with
 | 0,hj=>simp at hj;subst hj;simp [Addr.add]
 | (j+1),hj=>simp at hj
abbrev nq (L:List (Int × Int)):List Rat:=Pq.nrm (L.map qval)
theorem mapn_snoc {L:List (List (Int × Int))}{j:Nat}{p:List (Int × Int)}(h:L[j]?=some p):(L.take j).map nq ++ [nq p]=(L.take (j+1)).map nq:=by
 rw [List.take_add_one,h]
 simp
def RetPqE (b:Nat)(Φ:List Rat->Int->Prop)(w:World)(e:Ending)(w':World):Prop :=
 ∃ (A:Option Addr) (n c:Nat) (M:List Rat) (kk:Int),e=.returned (.tuple #[.slice A n c,.int .i64 kk])/\OwQp w' b A n c M/\Hid (Φ M kk)/\Below w.heap.size w w'
theorem norms_poly {f N K:Nat}{A:Option Addr}{n c:Nat}{LL:List (List (Int × Int))}{w:World}{Φ:List Rat->Int->Prop}(h:RdPs w w.heap.size N K A n c LL)(hn:n<=1048576)(hK:K<=1048576)(hN:N<=1000000000000)(h1N:1<=N)(heg:∀ args w,(callFunc f args).run Tryz.prog w=.ok (.enter f args) w)
  (hdo:(∀ L ∈ LL,∀ p ∈ L,p.2 ≠ 0)->∀ (W:World) (A':Option Addr) (c':Nat),Below w.heap.size w W->OwPs W w.heap.size A' n c' (LL.map nq)->Calls Tryz.prog f #[.slice A' n c'] W (RetPqE w.heap.size Φ W)) :
  Calls Tryz.prog 180 #[.slice A n c,.func (.func f) #[] #[]] w fun e w'=>((∀ L ∈ LL,∀ p ∈ L,p.2 ≠ 0)/\RetPqE w.heap.size Φ w e w') ∨ ((∃ L ∈ LL,∃ p ∈ L,p.2=0)/\e=.returned (.tuple #[.slice none 0 0,.int .i64 6])/\Below w.heap.size w w'):=by
 have HD:=ah hdo
 have HLEN:=ah h.len
 obtain ⟨i0,hi,hz0,hz1,hz2⟩:=info_parts infoPoly
 clear hdo
 go_enter Tryz.func180,Tryz.ntmps180
 go_wp2_with fail
 go_loopw [7,14] (fun ov iv wr=>∃ (j c':Nat) (A':Option Addr) (M:List (List Rat)),ov=.slice A' j c'/\iv=.int .i64 j/\j<=n/\OwPs wr w.heap.size A' j c' M/\Hid (M=(LL.take j).map nq)/\Hid (∀ (i:Nat) (L:List (Int × Int)),i < j->LL[i]?=some L->∀ p ∈ L,p.2 ≠ 0)/\Below w.heap.size w wr) (fun _ iv _=>n-(intOf iv).toNat)
 case atStart=>exact ⟨0,0,none,[],rfl,rfl,nZ,OwPs.nil _ _,ah rfl,ah fun i p hi=>absurd hi (Nat.not_lt_zero _),bR⟩
 case round =>
  obtain ⟨j,c',A',M,rfl,rfl,hj,ho,hM,hne,hB⟩:=hrel
  by_cases hjn:j=n
  ·subst hjn
   have HALL:=ah (show ∀ L ∈ LL,∀ p ∈ L,p.2 ≠ 0 from fun L hp=>by
    obtain ⟨i,hi,e⟩:=List.mem_iff_getElem.1 hp
    exact hne.out i L (by rw [<- HLEN.out];exact hi) (by rw [gE hi,e]))
   have HO:=ah (show OwPs wr w.heap.size A' j c' (LL.map nq) by rw [<- List.take_of_length_le (l:=LL) (by rw [HLEN.out];exact nR),<- hM.out];exact ho)
   have HB:=ah hB
   clear ho hB hM hne
   go_wp2_with fail
   refine (HD.out HALL.out wr A' c' HB.out HO.out).mono ?_
   rintro _ W5 ⟨A5,n5,c5,M5,kk,rfl,ho5,hy,hb5⟩
   go_wp2
   exact bodyPost_ret (by simp [results,Tryz.results180,go_sem]) rfl (.inl ⟨HALL.out,_,_,_,M5,kk,rfl,ho5,hy,HB.out.trans (hb5.mono HB.out.size)⟩)
  ·have hjl:j < n:=by omega
   clear hjn
   have hjli:(j:Int) < (n:Int):=by omega
   obtain ⟨ad,A1,n1,c1,L,rfl,hbk,hx,hr,hn1,hp⟩:=ps_at h hjl
   have hy:=(hB.cell (p:=ad.add j) (by rw [add_blk];exact hbk)).trans hx
   have HR:=ah (hr.next hB)
   have HO:=ah ho
   clear hx hr ho
   go_wp2_with fail
   clear hy
   refine (qpnorm_any HR.out (by omega) hN h1N).mono ?_
   rintro _ W3 (⟨hall,A4,n4,c4,M4,rfl,ho4,hM4,hb3⟩ | ⟨hex,rfl,hb3⟩)
   ·have HALL:=ah hall
    have hB3:=hB.trans (hb3.mono hB.size)
    obtain ⟨E,hE,hEl,hEn⟩:=HO.out.next hb3
    have HO4:=ah (ho4.base hB.size)
    have HE:=ah hE
    have HEN:=ah (cJ hEl (hEn.next (bR.alloc nR (.cells #[.slice A4 n4 c4] 73))))
    have HM2:=ah (show M ++ [M4]=(LL.take (j+1)).map nq by rw [hM.out,hM4.out];exact mapn_snoc hp.out)
    have HNE2:=ah (show ∀ (i:Nat) (L:List (Int × Int)),i < j+1->LL[i]?=some L->∀ p ∈ L,p.2 ≠ 0 from fun i L' hi hq=>by
     rcases Nat.lt_or_ge i j with h1 | h1
     ·exact hne.out i L' h1 hq
     ·rw [show i=j by omega,hp.out] at hq
      injection hq with hq
      rw [<- hq]
      exact HALL.out)
    have HB3:=ah hB3
    clear hE hEl hEn hb3 ho4 hB3 hB hM4 HO hne hM hall
    go_wp2_with (at_builtin;refine wpList_append_own _ rfl _ _ 30 rfl w.heap.size 73 i0 (.slice none 0 0) 1 24 Tryz.underlying30 hi hz0 hz1 hz2 rfl (by decide) _ _ _ rfl (HE.out.alloc _) ⟨W3.heap.size,0,none⟩ 1 1 [.slice A4 n4 c4] rfl rfl (pcell_new _ _ _) (by simp [Value.oneCell']) (by unfold maxLen;omega) (by omega) (by have:=HB3.out.size;simp;omega) ?_;intro v' w1 hown' hgrow _)
    have hmore:=ps_more (e:=(A4,n4,c4)) (L:=M4) HO4.out rfl (HE.out.alloc _) HEN.out.1 HEN.out.2 hown' hgrow
    have HB5:=ah ((HB3.out.alloc HB3.out.size (.cells #[.slice A4 n4 c4] 73)).grown hgrow (by have:=HB3.out.size;simp;omega) (own_block HE.out))
    obtain ⟨A5,c5,rfl,ho5⟩:=hmore
    clear hown' hgrow HE HEN HO4
    go_wp2
    go_roundw
    case rel=>exact ⟨j+1,c5,A5,M ++ [M4],rfl,by go_num,by omega,ho5,HM2,HNE2,HB5.out⟩
    case measure=>simp [intOf];omega
   ·have HEX:=ah (show ∃ L ∈ LL,∃ p ∈ L,p.2=0 from ⟨L,gM hp.out,hex⟩)
    go_wp2
    exact bodyPost_ret (by simp [results,Tryz.results180,go_sem]) rfl (.inr ⟨HEX.out,rfl,hB.trans (hb3.mono hB.size)⟩)
abbrev okD (L:List (Int × Int)):Prop:=∀ p ∈ L,p.2 ≠ 0
def RetOp (ok:Prop)(f:Nat->Rat)(w:World)(e:Ending)(w':World):Prop :=
 (ok/\RetPqE w.heap.size (fun M kk=>Pq.IsP f M/\kk=0) w e w') ∨ (¬ok/\e=.returned (.tuple #[.slice none 0 0,.int .i64 6])/\Below w.heap.size w w')
theorem co_nq (L:List (Int × Int))(i:Nat):Pq.co (nq L) i=Pq.co (L.map qval) i:=Pq.co_nrm _ i
theorem nq_len (L:List (Int × Int)):(nq L).length<=L.length:=nT (Pq.nrm_len _) (Nat.le_of_eq (List.length_map ..))
theorem nq_qs {w:World}{B N:Nat}{A:Option Addr}{n c:Nat}{L:List (Int × Int)}(h:RdQs w B N A n c L)(hd:okD L)(hN:1<=N):∀ x ∈ nq L,Qs N x:=fun x hx=>by
 obtain ⟨i,_,rfl⟩:=Pq.mem_co hx
 rw [co_nq]
 exact h.sz hd hN i
theorem qAddIn_any {b N c:Nat}{A:Option Addr}{P Q:List Rat}{w:World}(h:OwPs w b A 2 c [P,Q])(hP:∀ x ∈ P,Qs N x)(hQ:∀ x ∈ Q,Qs N x)(hp:P.length<=1048576)(hq:Q.length<=1048576)(hN:N<=200000000000)(h1N:1<=N) :
  Calls Tryz.prog 184 #[.slice A 2 c] w (RetPqE w.heap.size (fun M kk=>Pq.IsP (fun i=>Pq.co P i+Pq.co Q i) M/\kk=0) w):=by
 obtain ⟨g,A1,n1,c1,L1,rfl,hbk,hx,ho1,hL1⟩:=opl_at h (show 0 < 2 by decide)
 obtain ⟨g',A2,n2,c2,L2,e,_,hy,ho2,hL2⟩:=opl_at h (show 1 < 2 by decide)
 injection e with e
 injection e with e
 subst e
 obtain rfl:P=L1:=by simpa using hL1.out
 obtain rfl:Q=L2:=by simpa using hL2.out
 have hn1:n1<=1048576:=by rw [<- ho1.len];exact hp
 have hn2:n2<=1048576:=by rw [<- ho2.len];exact hq
 have HX:=ah (show ∀ W,Below w.heap.size w W->(W.cell? ⟨g,0,none⟩=some (.slice A1 n1 c1)/\W.cell? ⟨g,1,none⟩=some (.slice A2 n2 c2))/\RdQs W W.heap.size N A1 n1 c1 (P.map pr)/\RdQs W W.heap.size N A2 n2 c2 (Q.map pr) from fun W hb=>⟨⟨(hb.cell (p:=⟨g,0,none⟩) hbk).trans hx,(hb.cell (p:=⟨g,1,none⟩) hbk).trans hy⟩,(ho1.next hb).rd hP,(ho2.next hb).rd hQ⟩)
 have HBD:=ah (Below.refl w.heap.size w).drew
 have HCX:=ah (show ∀ W,Below w.heap.size w W->_ from fun W hb=>(HX.out W hb).1)
 clear h hL1 hL2 ho1 ho2 hP hQ
 go_enter Tryz.func184,Tryz.ntmps184
 go_wp2_with fail
 go_region_held3 (fun w'=>w'.cell? ⟨g,0,none⟩=some (.slice A1 n1 c1)/\w'.cell? ⟨g,1,none⟩=some (.slice A2 n2 c2))
  (first | exact HCX.out _ HB3.out | exact HCX.out _ HBD.out)
  (first
   | (go_at_call 185;refine (qadd_poly (HX.out _ HBD.out).2.1 (HX.out _ HBD.out).2.2 hn1 hn2 hN h1N).mono ?_;rintro _ W3 ⟨A3,n3,c3,M3,rfl,ho3,hM3,hb3⟩;have HB3:=tM HBD hb3))
 all_goals
  have HO:=ah (ho3.base (b':=w.heap.size) HBD.out.size)
  go_wp2
  go_ret2
  exact ⟨_,_,_,M3,0,rfl,HO.out,ah ⟨hM3.out,rfl⟩,HB3.out⟩
theorem qAdd_any {N:Nat}{A A':Option Addr}{n c n' c':Nat}{L L':List (Int × Int)}{w:World}(h:RdQs w w.heap.size N A n c L)(h':RdQs w w.heap.size N A' n' c' L')(hn:n<=1048576)(hn':n'<=1048576)(hN:N<=200000000000)(h1N:1<=N) :
  Calls Tryz.prog 128 #[.slice A n c,.slice A' n' c'] w (RetOp (okD L/\okD L') (fun i=>Pq.co (L.map qval) i+Pq.co (L'.map qval) i) w):=by
 have HEG:=ah (enters_of Tryz.func184 (by kernel_rfl) rfl)
 have HH:=ah (cJ h h')
 obtain ⟨W2,HW2⟩:∃ W,W=w.alloc (.cells #[.slice A n c,.slice A' n' c'] 73):=⟨_,rfl⟩
 have hps:=ah (ps_two (K:=1048576) h h' hn hn' HW2)
 have HB2:=ah (show Below w.heap.size w W2 by rw [HW2];exact bA)
 have HW2:=ah HW2
 clear h h'
 go_enter Tryz.func128,Tryz.ntmps128
 go_wp2_with fail
 rw [<- HW2.out]
 clear HW2
 clear HW2
 refine (norms_poly (f:=184) (Φ:=fun M kk=>Pq.IsP (fun i=>Pq.co (L.map qval) i+Pq.co (L'.map qval) i) M/\kk=0) hps.out (by decide) (by decide) (by omega) h1N HEG.out (fun hall W A' c' hb ho=>(qAddIn_any (N:=N) (P:=nq L) (Q:=nq L') ho (nq_qs HH.out.1 (hall L (by simp)) h1N) (nq_qs HH.out.2 (hall L' (by simp)) h1N) (nT (nq_len L) (by rw [HH.out.1.len];exact hn)) (nT (nq_len L') (by rw [HH.out.2.len];exact hn')) hN h1N).mono fun e w' ⟨A2,n2,c2,M2,kk,h1,h2,h3,h4⟩=>⟨A2,n2,c2,M2,kk,h1,h2.base hb.size,ah ⟨h3.out.1.congr fun i=>by simp only [co_nq],h3.out.2⟩,h4⟩)).mono ?_
 intro e W3 hpost
 rcases hpost with ⟨hall,A2,n2,c2,M2,kk,rfl,ho2,hM2,hb2⟩ | ⟨hex,rfl,hb2⟩
 ·have HOK:=ah (show okD L/\okD L' from ⟨hall L (by simp),hall L' (by simp)⟩)
  have HO:=ah (ho2.base (b':=w.heap.size) HB2.out.size)
  have HB3:=tM HB2 hb2
  clear hall ho2 hb2
  go_wp2
  go_ret2
  exact .inl ⟨HOK.out,_,_,_,M2,kk,rfl,HO.out,hM2,HB3.out⟩
 ·have HOK:=ah (show ¬(okD L/\okD L') from fun ⟨h1,h2⟩=>by
   obtain ⟨L0,hL0,p,hp,hp0⟩:=hex
   rcases List.mem_cons.1 hL0 with rfl | h3
   ·exact h1 p hp hp0
   ·obtain rfl:=List.mem_singleton.1 h3
    exact h2 p hp hp0)
  have HB3:=tM HB2 hb2
  clear hex hb2
  go_wp2
  go_ret2
  exact .inr ⟨HOK.out,rfl,HB3.out⟩
theorem qs_one {w:World}{N:Nat}{s s':Bool}{A A':Option Addr}{n c n' c':Nat}{z d:Int}(h:RdZ w w.heap.size s A n c z)(h':RdZ w w.heap.size s' A' n' c' d)(hn:n<=N)(hn':n'<=N){w1:World}(hw:w1=w.alloc (.cells #[.bool s,.slice A n c,.bool s',.slice A' n' c'] 47)) :
  RdQs w1 w1.heap.size N (some ⟨w.heap.size,0,none⟩) 1 1 [(z,d)]:=by
 have hb:Below w.heap.size w w1:=by rw [hw];exact bA
 have hq:QC w1 w.heap.size s A n c s' A' n' c':=by rw [hw];exact QC.new w s A n c s' A' n' c'
 refine ⟨rfl,nR,by unfold maxLen;omega,fun j p hp=>?_⟩
 match j,hp with
 | 0, hp =>
   simp at hp
   subst hp
   exact ⟨_,s,A,n,c,s',A',n',c',rfl,hq.lt,hq.c0,hq.c1,hq.c2,hq.c3,h.next hb,h'.next hb,hn,hn'⟩
 | j+1,hp=>simp at hp
theorem qScaleIn_any {b N c:Nat}{A:Option Addr}{P Q:List Rat}{w:World}(h:OwPs w b A 2 c [P,Q])(hP:∀ x ∈ P,Qs N x)(hQ:∀ x ∈ Q,Qs N x)(hp:P.length<=1048576)(hN:N<=200000000000)(h1N:1<=N) :
  Calls Tryz.prog 257 #[.slice A 2 c] w (RetPqE w.heap.size (fun M kk=>Pq.IsP (fun i=>Pq.co P i*Pq.co Q 0) M/\kk=0) w):=by
 obtain ⟨g,A1,n1,c1,L1,rfl,hbk,hx,ho1,hL1⟩:=opl_at h (show 0 < 2 by decide)
 obtain ⟨g',A2,n2,c2,L2,e,_,hy,ho2,hL2⟩:=opl_at h (show 1 < 2 by decide)
 injection e with e
 injection e with e
 subst e
 obtain rfl:P=L1:=by simpa using hL1.out
 obtain rfl:Q=L2:=by simpa using hL2.out
 have hn1:n1<=1048576:=by rw [<- ho1.len];exact hp
 have HX:=ah (show ∀ W,Below w.heap.size w W->(W.cell? ⟨g,0,none⟩=some (.slice A1 n1 c1)/\W.cell? ⟨g,1,none⟩=some (.slice A2 n2 c2))/\RdQs W W.heap.size N A1 n1 c1 (P.map pr)/\RdQs W W.heap.size N A2 n2 c2 (Q.map pr) from fun W hb=>⟨⟨(hb.cell (p:=⟨g,0,none⟩) hbk).trans hx,(hb.cell (p:=⟨g,1,none⟩) hbk).trans hy⟩,(ho1.next hb).rd hP,(ho2.next hb).rd hQ⟩)
 have HBD:=ah (Below.refl w.heap.size w).drew
 have HCX:=ah (show ∀ W,Below w.heap.size w W->_ from fun W hb=>(HX.out W hb).1)
 clear h hL1 hL2 ho1 ho2 hP hQ
 go_enter Tryz.func257,Tryz.ntmps257
 go_wp2_with fail
 go_region_held3 (fun w'=>w'.cell? ⟨g,0,none⟩=some (.slice A1 n1 c1)/\w'.cell? ⟨g,1,none⟩=some (.slice A2 n2 c2))
  (first | exact HCX.out _ HB3.out | exact HCX.out _ HB2.out | exact HCX.out _ HBD.out)
  (first
   | (go_at_call 114;refine (qat_any 0 (HX.out _ HBD.out).2.2 h1N).mono ?_;rintro _ W2 ⟨s5,A5,n5,c5,s6,A6,n6,c6,rfl,h5,h6,hn5,hn6,hb2⟩;have HB2:=tM HBD hb2)
   | (go_at_call 258;refine (qscale_any (HX.out _ HB2.out).2.1 h5 h6 hn5 hn6 hn1 hN h1N).mono ?_;rintro _ W3 ⟨A3,n3,c3,M3,rfl,ho3,hM3,hb3⟩;have HB3:=tM HB2 hb3))
 all_goals
  have HO:=ah (ho3.base (b':=w.heap.size) HB2.out.size)
  go_wp2
  go_ret2
  exact ⟨_,_,_,M3,0,rfl,HO.out,ah ⟨hM3.out,rfl⟩,HB3.out⟩
theorem qScale_any {N:Nat}{A A' A'':Option Addr}{n c n' c' n'' c'':Nat}{s s':Bool}{L:List (Int × Int)}{z d:Int}{w:World}(h:RdQs w w.heap.size N A n c L)(h':RdZ w w.heap.size s A' n' c' z)(h'':RdZ w w.heap.size s' A'' n'' c'' d)(hn:n<=1048576)(hn':n'<=N)(hn'':n''<=N)(hN:N<=200000000000)(h1N:1<=N) :
  Calls Tryz.prog 248 #[.slice A n c,.agg #[.bool s,.slice A' n' c',.bool s',.slice A'' n'' c'']] w (RetOp (okD L/\d ≠ 0) (fun i=>Pq.co (L.map qval) i*Rat.divInt z d) w):=by
 have HEG:=ah (enters_of Tryz.func257 (by kernel_rfl) rfl)
 obtain ⟨W1,HW1⟩:∃ W,W=w.alloc (.cells #[.bool s,.slice A' n' c',.bool s',.slice A'' n'' c''] 47):=⟨_,rfl⟩
 have hb1:Below w.heap.size w W1:=by rw [HW1];exact bA
 have hR:QC W1 w.heap.size s A' n' c' s' A'' n'' c'':=by rw [HW1];exact QC.new w s A' n' c' s' A'' n'' c''
 obtain ⟨W2,HW2⟩:∃ W,W=W1.alloc (.cells #[.bool s,.slice A' n' c',.bool s',.slice A'' n'' c''] 47):=⟨_,rfl⟩
 have hb2:Below W1.heap.size W1 W2:=by rw [HW2];exact bA
 obtain ⟨W3,HW3⟩:∃ W,W=W2.alloc (.cells #[.slice A n c,.slice (some ⟨W1.heap.size,0,none⟩) 1 1] 73):=⟨_,rfl⟩
 have hb3:Below W2.heap.size W2 W3:=by rw [HW3];exact bA
 have hr:=(h.next hb1).next hb2
 have hq:=qs_one (h'.next hb1) (h''.next hb1) hn' hn'' HW2
 have HRQ:=ah (cJ hr hq)
 have hps:=ah (ps_two (K:=1048576) hr hq hn (by decide) HW3)
 have HB3:=ah ((hb1.trans (hb2.mono hb1.size)).trans (hb3.mono (nT hb1.size hb2.size)))
 have a0:=hR.c0
 have a1:=hR.c1
 have a2:=hR.c2
 have a3:=hR.c3
 have HW:=ah (cJ HW1 (cJ HW2 HW3))
 have e1:W1.heap.size=w.heap.size+1:=by rw [HW1];simp
 have e2:W2.heap.size=w.heap.size+1+1:=by rw [HW2];simp [e1]
 have HE:=ah (cJ e1 e2)
 rw [HW1] at a0 a1 a2 a3
 clear h h' h'' hr hq hb1 hb2 hb3 hR HW1 HW2 HW3 e1 e2
 go_enter Tryz.func248,Tryz.ntmps248
 go_wp2_with fail
 rw [<- HE.out.2,<- HE.out.1,<- HW.out.1,<- HW.out.2.1,<- HW.out.2.2]
 clear a0 a1 a2 a3 HW
 refine (norms_poly (f:=257) (Φ:=fun M kk=>Pq.IsP (fun i=>Pq.co (L.map qval) i*Rat.divInt z d) M/\kk=0) hps.out (by decide) (by decide) (by omega) h1N HEG.out (fun hall W A' c' hb ho=>(qScaleIn_any (N:=N) (P:=nq L) (Q:=nq [(z,d)]) ho (nq_qs HRQ.out.1 (hall L (by simp)) h1N) (nq_qs HRQ.out.2 (hall [(z,d)] (by simp)) h1N) (nT (nq_len L) (by rw [HRQ.out.1.len];exact hn)) hN h1N).mono fun e w' ⟨A2,n2,c2,M2,kk,h1,h2,h3,h4⟩=>⟨A2,n2,c2,M2,kk,h1,h2.base hb.size,ah ⟨h3.out.1.congr fun i=>by simp only [co_nq];rfl,h3.out.2⟩,h4⟩)).mono ?_
 intro e W4 hpost
 rcases hpost with ⟨hall,A2,n2,c2,M2,kk,rfl,ho2,hM2,hb2⟩ | ⟨hex,rfl,hb2⟩
 ·have HOK:=ah (show okD L/\d ≠ 0 from ⟨hall L (by simp),hall [(z,d)] (by simp) (z,d) (by simp)⟩)
  have HO:=ah (ho2.base (b':=w.heap.size) HB3.out.size)
  have HB4:=tM HB3 hb2
  clear hall ho2 hb2
  go_wp2
  go_ret2
  exact .inl ⟨HOK.out,_,_,_,M2,kk,rfl,HO.out,hM2,HB4.out⟩
 ·have HOK:=ah (show ¬(okD L/\d ≠ 0) from fun ⟨h1,h2⟩=>by
   obtain ⟨L0,hL0,p,hp,hp0⟩:=hex
   rcases List.mem_cons.1 hL0 with rfl | h3
   ·exact h1 p hp hp0
   ·obtain rfl:=List.mem_singleton.1 h3
    obtain rfl:=List.mem_singleton.1 hp
    exact h2 hp0)
  have HB4:=tM HB3 hb2
  clear hex hb2
  go_wp2
  go_ret2
  exact .inr ⟨HOK.out,rfl,HB4.out⟩
def RetZD2B (b:Nat)(z d k:Int)(w:World)(e:Ending)(w':World):Prop :=
 ∃ (s:Bool) (A:Option Addr) (n c:Nat) (y:Int) (s':Bool) (A':Option Addr) (n' c':Nat) (y':Int) (kk:Int),e=.returned (.tuple #[.agg #[.bool s,.slice A n c,.bool s',.slice A' n' c'],.int .i64 kk])/\OwZ w' b s A n c y/\OwZ w' b s' A' n' c' y'/\Hid (y=z/\y'=d/\kk=k)/\Below w.heap.size w w'
theorem made_base {f N:Nat}{A:Option Addr}{n c:Nat}{L:List (Int × Int)}{w:World}{z d k:Int}(h:RdQs w w.heap.size N A n c L)(hn:n<=1048576)(hN:N<=1000000000000)(heg:∀ args w,(callFunc f args).run Tryz.prog w=.ok (.enter f args) w)
  (hdo:(∀ p ∈ L,p.2 ≠ 0)->∀ (W:World) (A':Option Addr) (c':Nat) (b:Nat),Below w.heap.size w W->w.heap.size<=b->b<=W.heap.size->OwQs W b A' n c' (L.map qval)->Calls Tryz.prog f #[.slice A' n c'] W (RetZD2B w.heap.size z d k W)) :
  Calls Tryz.prog 85 #[.func (.func f) #[] #[],.slice A n c] w fun e w'=>((∀ p ∈ L,p.2 ≠ 0)/\RetZD2 z d k w e w') ∨ ((∃ p ∈ L,p.2=0)/\RetQ0 6 w e w'):=by
 have HD:=ah hdo
 have HLEN:=ah h.len
 have hmk:=fun W:World=>make_qroom n (by omega) W
 obtain ⟨i0,hi,hz0,hz1,hz2⟩:=info_parts infoQ
 have hX0:=QC.new w false none 0 0 false none 0 0
 have hb0:Below w.heap.size w (w.alloc (.cells #[.bool false,.slice none 0 0,.bool false,.slice none 0 0] 47)):=bA
 obtain ⟨W0,HW0⟩:∃ W,W=(w.alloc (.cells #[.bool false,.slice none 0 0,.bool false,.slice none 0 0] 47)).alloc (.cells #[.bool false,.slice none 0 0,.bool false,.slice none 0 0] 47):=⟨_,rfl⟩
 obtain ⟨hR0,hZ0,hB0⟩:=q_box1 w false none 0 0 false none 0 0 W0 HW0
 have hs0:W0.heap.size=w.heap.size+1+1:=by rw [HW0];simp
 obtain ⟨W1,HW1⟩:∃ W,W=W0.alloc (.cells (madeCells #[.bool false,.slice none 0 0,.bool false,.slice none 0 0] (n*4)) 47):=⟨_,rfl⟩
 have hb1:Below W0.heap.size W0 W1:=by rw [HW1];exact bA
 have hO1:OwQs W1 W0.heap.size (some ⟨W0.heap.size,0,none⟩) 0 n []:=by rw [HW1];exact OwQs.room W0 n (by unfold maxLen;omega)
 have HRZ:=ah (show ∀ W:World,Below W0.heap.size W0 W->QC W w.heap.size false none 0 0 false none 0 0/\QC W (w.heap.size+1) false none 0 0 false none 0 0 from fun W hb=>⟨hR0.next hb,hZ0.next hb⟩)
 have HB0:=ah hB0
 have HS0:=ah hs0
 rw [hs0] at hO1
 rw [HW0] at HW1
 have HW1:=ah HW1
 clear hdo hX0 hb0 hR0 hZ0 hB0 hs0 HW0
 go_enter Tryz.func85,Tryz.ntmps85
 go_wp2_with fail
 rw [<- HW1.out]
 clear HW1
 clear HW1
 have HLT:=ah (show w.heap.size+1 < W0.heap.size by rw [HS0.out];exact Nat.lt_succ_self _)
 rw [<- HS0.out] at hO1
 go_loopw [7,17] (fun ov iv wr=>∃ (j c':Nat) (A':Option Addr) (M:List Rat),ov=.slice A' j c'/\iv=.int .i64 j/\j<=n/\OwQs wr W0.heap.size A' j c' M/\Hid (M=(L.take j).map qval)/\Hid (∀ (i:Nat) (p:Int × Int),i < j->L[i]?=some p->p.2 ≠ 0)/\Below W0.heap.size W0 wr) (fun _ iv _=>n-(intOf iv).toNat)
 case atStart=>exact ⟨0,n,_,[],by rw [HS0.out],rfl,nZ,hO1,ah rfl,ah fun i p hi=>absurd hi (Nat.not_lt_zero _),hb1⟩
 case round =>
  clear hO1 hb1
  obtain ⟨j,c',A',M,rfl,rfl,hj,ho,hM,hne,hB⟩:=hrel
  by_cases hjn:j=n
  ·subst hjn
   have HALL:=ah (show ∀ p ∈ L,p.2 ≠ 0 from fun p hp=>by
    obtain ⟨i,hi,e⟩:=List.mem_iff_getElem.1 hp
    exact hne.out i p (by rw [<- HLEN.out];exact hi) (by rw [gE hi,e]))
   have HBW:=tM HB0 hB
   have HO:=ah (show OwQs wr W0.heap.size A' j c' (L.map qval) by rw [<- List.take_of_length_le (l:=L) (by rw [HLEN.out];exact nR),<- hM.out];exact ho)
   have HR:=ah (HRZ.out _ hB).1
   have HLW:=ah hB.size
   clear ho hB hM hne
   go_wp2_with fail
   refine (HD.out HALL.out wr A' c' _ HBW.out HB0.out.size HLW.out HO.out).mono ?_
   rintro _ W5 ⟨s5,A5,n5,c5,y5,s6,A6,n6,c6,y6,kk,rfl,ho5,ho6,hy,hb5⟩
   have hR5:=HR.out.next hb5
   have r0:=hR5.c0
   have r1:=hR5.c1
   have r2:=hR5.c2
   have r3:=hR5.c3
   have f0:=hR5.fz 0
   have f1:=hR5.fz 1
   have f2:=hR5.fz 2
   have f3:=hR5.fz 3
   have HR9:=ah (hR5.store s5 A5 n5 c5 s6 A6 n6 c6)
   have HO9:=ah (cJ (ho5.keep (keep_putQ hR5 s5 A5 n5 c5 s6 A6 n6 c6)) (ho6.keep (keep_putQ hR5 s5 A5 n5 c5 s6 A6 n6 c6)))
   have HB9:=ah (below_putQ (HBW.out.trans (hb5.mono HBW.out.size)) (Nat.le_refl w.heap.size) s5 A5 n5 c5 s6 A6 n6 c6)
   unfold putQ at HR9 HB9 HO9
   clear ho5 ho6 hb5 hR5
   go_wp2_with fail
   generalize (((W5.setCell ⟨w.heap.size,0,none⟩ (.bool s5)).setCell ⟨w.heap.size,1,none⟩ (.slice A5 n5 c5)).setCell ⟨w.heap.size,2,none⟩ (.bool s6)).setCell ⟨w.heap.size,3,none⟩ (.slice A6 n6 c6)=W9 at *
   have z0:=HR9.out.c0
   have z1:=HR9.out.c1
   have z2:=HR9.out.c2
   have z3:=HR9.out.c3
   exact bodyPost_ret (by simp [results,Tryz.results85,go_sem,z0,z1,z2,z3]) rfl (.inl ⟨HALL.out,_,_,_,_,_,_,_,_,_,_,_,rfl,HO9.out.1,HO9.out.2,hy,HB9.out⟩)
  ·have hjl:j < n:=by omega
   clear hjn
   have hjli:(j:Int) < (n:Int):=by omega
   have hBW:=HB0.out.trans (hB.mono HB0.out.size)
   obtain ⟨ad,s1,A1,n1,c1,s2,A2,n2,c2,z1,d1,rfl,hbk,hx0,hx1,hx2,hx3,hr1,hr2,hn1,hn2,hp⟩:=qs_at h hjl
   obtain ⟨hy0,hy1,hy2,hy3⟩:=qs_cells hBW hbk hx0 hx1 hx2 hx3
   obtain ⟨W2,HW2⟩:∃ W,W=wr.alloc (.cells #[.bool s1,.slice A1 n1 c1,.bool s2,.slice A2 n2 c2] 47):=⟨_,rfl⟩
   have hb2:Below wr.heap.size wr W2:=by rw [HW2];exact bA
   have hB2:=hB.trans (hb2.mono hB.size)
   have hBW2:=hBW.trans (hb2.mono hBW.size)
   have HO:=ah (ho.next hb2)
   have HRD:=ah (cJ (hr1.next hBW2) (hr2.next hBW2))
   have HB2:=ah hB2
   have HBW2:=ah hBW2
   have HNN:=ah (cJ (nT hn1 hN) (nT hn2 hN))
   have HW2:=ah HW2
   clear ho hB hb2 hB2 hBW hBW2 hr1 hr2 hx0 hx1 hx2 hx3
   go_wp2_with fail
   rw [<- HW2.out]
   clear HW2 hy0 hy1 hy2 hy3
   clear HW2
   by_cases hd0:d1=0
   ·subst hd0
    have HEX:=ah (show ∃ p ∈ L,p.2=0 from ⟨(z1,0),gM hp.out,rfl⟩)
    refine (qnorm_zero HRD.out.2 HNN.out.2).mono ?_
    rintro _ W3 ⟨rfl,hb3⟩
    obtain ⟨W4,HW4⟩:∃ W,W=W3.alloc (.cells #[.bool false,.slice none 0 0,.bool false,.slice none 0 0] 47):=⟨_,rfl⟩
    have hb4:Below W3.heap.size W3 W4:=by rw [HW4];exact bA
    have hb24:=hb3.trans (hb4.mono hb3.size)
    have hRZ:=HRZ.out _ (HB2.out.trans (hb24.mono HB2.out.size))
    have hR:=hRZ.1
    have r0:=hR.c0
    have r1:=hR.c1
    have r2:=hR.c2
    have r3:=hR.c3
    have f0:=hR.fz 0
    have f1:=hR.fz 1
    have f2:=hR.fz 2
    have f3:=hR.fz 3
    have g0:=hRZ.2.c0
    have g1:=hRZ.2.c1
    have g2:=hRZ.2.c2
    have g3:=hRZ.2.c3
    rw [HW4] at r0 r1 r2 r3 f0 f1 f2 f3 g0 g1 g2 g3
    have HR9:=ah (hR.store false none 0 0 false none 0 0)
    have HB9:=ah (below_putQ (HBW2.out.trans (hb24.mono HBW2.out.size)) (Nat.le_refl w.heap.size) false none 0 0 false none 0 0)
    unfold putQ at HR9 HB9
    have HW4:=ah HW4
    clear hb3 hb4 hb24 hR hRZ
    go_wp2_with fail
    rw [<- HW4.out]
    clear HW4 r0 r1 r2 r3 f0 f1 f2 f3 g0 g1 g2 g3
    clear HW4
    generalize (((W4.setCell ⟨w.heap.size,0,none⟩ (.bool false)).setCell ⟨w.heap.size,1,none⟩ (.slice none 0 0)).setCell ⟨w.heap.size,2,none⟩ (.bool false)).setCell ⟨w.heap.size,3,none⟩ (.slice none 0 0)=W9 at *
    have z0:=HR9.out.c0
    have z1:=HR9.out.c1
    have z2:=HR9.out.c2
    have z3:=HR9.out.c3
    exact bodyPost_ret (by simp [results,Tryz.results85,go_sem,z0,z1,z2,z3]) rfl (.inr ⟨HEX.out,rfl,HB9.out⟩)
   ·have HD1:=ah hd0
    clear hd0
    refine (qnorm_any HRD.out.1 HRD.out.2 HNN.out.1 HNN.out.2 HD1.out).mono ?_
    rintro _ W3 ⟨s3,A3,n3,c3,s4,A4,n4,c4,y,rfl,ho3,hy,hb3⟩
    have hB3:=HB2.out.trans (hb3.mono HB2.out.size)
    obtain ⟨W4,HW4⟩:∃ W,W=W3.alloc (.cells #[.bool s3,.slice A3 n3 c3,.bool s4,.slice A4 n4 c4] 47):=⟨_,rfl⟩
    have hb4:Below W3.heap.size W3 W4:=by rw [HW4];exact bA
    have hB4:=hB3.trans (hb4.mono hB3.size)
    obtain ⟨E,hE,hEl,hEn⟩:=(HO.out.next hb3).next hb4
    have HO4:=ah ((ho3.base HB2.out.size).next hb4)
    rw [HW4] at hE hB4 hEn
    rw [HW4] at HO4
    have HE:=ah hE
    have HEN:=ah (cJ hEl hEn)
    have HM2:=ah (show M ++ [y]=(L.take (j+1)).map qval by rw [hM.out,hy.out];exact mapq_snoc hp.out)
    have HNE2:=ah (show ∀ (i:Nat) (p:Int × Int),i < j+1->L[i]?=some p->p.2 ≠ 0 from fun i p hi hq=>by
     rcases Nat.lt_or_ge i j with h1 | h1
     ·exact hne.out i p h1 hq
     ·rw [show i=j by omega,hp.out] at hq
      injection hq with hq
      rw [<- hq]
      exact HD1.out)
    have HB4:=ah hB4
    clear hE hEl hEn hb3 ho3 hb4 hB3 hB4 hy HO hne hM
    clear HW4
    go_wp2_with (at_builtin;refine wpList_append_own _ rfl _ _ 72 rfl W0.heap.size 47 i0 (.agg #[.bool false,.slice none 0 0,.bool false,.slice none 0 0]) 4 64 Tryz.underlying72 hi hz0 hz1 hz2 rfl (by decide) _ _ _ rfl (HE.out.alloc _) ⟨W3.heap.size+1,0,none⟩ 1 1 [.bool s3,.slice A3 n3 c3,.bool s4,.slice A4 n4 c4] rfl rfl (by simpa using qcell_new (W3.alloc (.cells #[.bool s3,.slice A3 n3 c3,.bool s4,.slice A4 n4 c4] 47)) (.bool s3) (.slice A3 n3 c3) (.bool s4) (.slice A4 n4 c4) 47) (by simp [Value.oneCell']) (by unfold maxLen;omega) (by omega) (by have:=HB4.out.size;simp at this ⊢;omega) ?_;intro v' w1 hown' hgrow _)
    have hmore:=qs_more (e:=((s3,A3,n3,c3),(s4,A4,n4,c4))) (x:=y) HO4.out rfl (HE.out.alloc _) HEN.out.1 HEN.out.2 hown' hgrow
    have HB5:=ah ((HB4.out.alloc HB4.out.size (.cells #[.bool s3,.slice A3 n3 c3,.bool s4,.slice A4 n4 c4] 47)).grown hgrow (by have:=HB4.out.size;simp at this ⊢;omega) (own_block HE.out))
    obtain ⟨A5,c5,rfl,ho5⟩:=hmore
    clear hown' hgrow HE HEN HO4
    go_wp2
    go_roundw
    case rel=>exact ⟨j+1,c5,A5,M ++ [y],rfl,by go_num,by omega,ho5,HM2,HNE2,HB5.out⟩
    case measure=>simp [intOf];omega
theorem oq_one {w:World}{b:Nat}{A:Option Addr}{c:Nat}{x:Rat}(h:OwQs w b A 1 c [x]) :
  ∃ (g:Nat) (s1:Bool) (A1:Option Addr) (n1 c1:Nat) (s2:Bool) (A2:Option Addr) (n2 c2:Nat),A=some ⟨g,0,none⟩/\g < w.heap.size /\
   (w.cell? ⟨g,0,none⟩=some (.bool s1)/\w.cell? ⟨g,1,none⟩=some (.slice A1 n1 c1)/\w.cell? ⟨g,2,none⟩=some (.bool s2)/\w.cell? ⟨g,3,none⟩=some (.slice A2 n2 c2))/\OwQ w b s1 A1 n1 c1 s2 A2 n2 c2 x:=by
 rcases h.form with ⟨_,h0,_⟩ | ⟨g,rfl,h1,h2,h3,h4⟩
 ·omega
 ·obtain ⟨ad,s1,A1,n1,c1,s2,A2,n2,c2,x',e1,k1,a0,a1,a2,a3,hx,hx'⟩:=oq_at h (show 0 < 1 by omega)
  injection e1 with e1
  subst e1
  obtain rfl:x=x':=by simpa using hx'.out
  rw [add_base] at a0 a1 a2 a3
  exact ⟨g,s1,A1,n1,c1,s2,A2,n2,c2,rfl,h2,⟨a0,a1,a2,a3⟩,hx⟩
theorem qnegIn_any {N b:Nat}{A:Option Addr}{c:Nat}{x:Rat}{w:World}(h:OwQs w b A 1 c [x])(hb:b<=w.heap.size)(hx:Zz.zl x.num<=N/\Zz.zl x.den<=N)(hN:N<=1000000000000) :
  Calls Tryz.prog 86 #[.slice A 1 c] w (RetZD2B b (-x).num (-x).den 0 w):=by
 obtain ⟨g,s1,A1,n1,c1,s2,A2,n2,c2,rfl,hg,⟨a0,a1,a2,a3⟩,ox⟩:=oq_one h
 obtain ⟨W1,HW1⟩:∃ W,W=w.alloc (.cells #[.bool false,.slice none 0 0,.bool false,.slice none 0 0] 47):=⟨_,rfl⟩
 have hR:QC W1 w.heap.size false none 0 0 false none 0 0:=by rw [HW1];exact QC.new w false none 0 0 false none 0 0
 have hB:Below w.heap.size w W1:=by rw [HW1];exact bA
 have HCE:=ah (show ∀ W:World,Below W1.heap.size W1 W->(W.cell? ⟨g,0,none⟩=some (.bool s1)/\W.cell? ⟨g,1,none⟩=some (.slice A1 n1 c1)/\W.cell? ⟨g,2,none⟩=some (.bool s2)/\W.cell? ⟨g,3,none⟩=some (.slice A2 n2 c2)) from fun W hb=>by
  have hb':=hB.trans (hb.mono hB.size)
  exact ⟨(hb'.cell hg).trans a0,(hb'.cell hg).trans a1,(hb'.cell hg).trans a2,(hb'.cell hg).trans a3⟩)
 have HCP:=ah (show ∀ (W:World) (t:Bool) (D:Option Addr) (k m:Nat) (t':Bool) (D':Option Addr) (k' m':Nat),Below W1.heap.size W1 W->((putQ W w.heap.size t D k m t' D' k' m').cell? ⟨g,0,none⟩=some (.bool s1)/\(putQ W w.heap.size t D k m t' D' k' m').cell? ⟨g,1,none⟩=some (.slice A1 n1 c1)/\(putQ W w.heap.size t D k m t' D' k' m').cell? ⟨g,2,none⟩=some (.bool s2)/\(putQ W w.heap.size t D k m t' D' k' m').cell? ⟨g,3,none⟩=some (.slice A2 n2 c2)) from fun W t D k m t' D' k' m' hb=>by
  have hP:=below_putQ (Below.refl w.heap.size W) (Nat.le_refl w.heap.size) t D k m t' D' k' m'
  obtain ⟨e0,e1,e2,e3⟩:=HCE.out W hb
  exact ⟨(hP.cell hg).trans e0,(hP.cell hg).trans e1,(hP.cell hg).trans e2,(hP.cell hg).trans e3⟩)
 unfold putQ at HCP
 have HX:=ah (show ∀ W:World,Below W1.heap.size W1 W->RdZ W W.heap.size s1 A1 n1 c1 x.num/\OwZ W b s2 A2 n2 c2 x.den from fun W hb=>by
  have hb':=hB.trans (hb.mono hB.size)
  exact ⟨(ox.num.next hb').rd,ox.den.next hb'⟩)
 have HNN:=ah (show n1<=N from by rw [ox.num.len];exact hx.1)
 have HB:=ah hB
 have HBW:=ah (nT hb hB.size)
 have HRR:=ah (show ∀ W:World,Below W1.heap.size W1 W->QC W w.heap.size false none 0 0 false none 0 0 from fun W hb=>hR.next hb)
 have HD:=ah (Below.refl W1.heap.size W1).drew
 have HGN:=ah (show g ≠ w.heap.size by omega)
 have HW1:=ah HW1
 clear a0 a1 a2 a3 ox hR hB h hx
 obtain ⟨a0,a1,a2,a3⟩:=HCE.out W1 bR
 go_enter Tryz.func86,Tryz.ntmps86
 go_upto_region 1 with fail
 rw [<- HW1.out]
 clear HW1
 clear HW1
 go_region_held3 (fun w'=>w'.cell? ⟨g,0,none⟩=some (.bool s1)/\w'.cell? ⟨g,1,none⟩=some (.slice A1 n1 c1)/\w'.cell? ⟨g,2,none⟩=some (.bool s2)/\w'.cell? ⟨g,3,none⟩=some (.slice A2 n2 c2))
  (first | exact HCE.out _ HB2.out | exact HCE.out _ HD.out | exact HCP.out _ _ _ _ _ _ _ _ _ HB2.out)
  (first
   | (go_at_call 87;refine (neg_any (HX.out _ HD.out).1 (by have:=HNN.out;omega)).mono ?_;rintro _ W2 ⟨s7,A7,n7,c7,y2,rfl,ho2,hy2,hb2⟩;have HB2:=ah (HD.out.trans hb2);have hR4:=HRR.out _ HB2.out;have r0:=hR4.c0;have r1:=hR4.c1;have r2:=hR4.c2;have r3:=hR4.c3;have f0:=hR4.fz 0;have f1:=hR4.fz 1;have f2:=hR4.fz 2;have f3:=hR4.fz 3))
 all_goals
  have hR4':=HRR.out _ HB2.out
  have HR9:=ah (hR4'.store s7 A7 n7 c7 s2 A2 n2 c2)
  have HO9:=ah (cJ ((ho2.base (b':=b) (nT HBW.out HD.out.size)).keep (keep_putQ hR4' s7 A7 n7 c7 s2 A2 n2 c2)) ((HX.out _ HB2.out).2.keep (keep_putQ hR4' s7 A7 n7 c7 s2 A2 n2 c2)))
  have HB9:=ah (below_putQ (HB.out.trans (HB2.out.mono HB.out.size)) (Nat.le_refl w.heap.size) s7 A7 n7 c7 s2 A2 n2 c2)
  have HV:=ah (show y2=(-x).num by rw [hy2.out];rfl)
  unfold putQ at HR9 HO9 HB9
  clear a0 a1 a2 a3 r0 r1 r2 r3 f0 f1 f2 f3 hR4 hR4' ho2 hb2 hy2
  generalize (((W2.setCell ⟨w.heap.size,0,none⟩ (.bool s7)).setCell ⟨w.heap.size,1,none⟩ (.slice A7 n7 c7)).setCell ⟨w.heap.size,2,none⟩ (.bool s2)).setCell ⟨w.heap.size,3,none⟩ (.slice A2 n2 c2)=W9 at *
  have z0:=HR9.out.c0
  have z1:=HR9.out.c1
  have z2:=HR9.out.c2
  have z3:=HR9.out.c3
  go_wp2
  exact bodyPost_ret (by simp [results,Tryz.results86,go_sem,z0,z1,z2,z3];rfl) rfl ⟨_,_,_,_,_,_,_,_,_,_,_,rfl,HO9.out.1,HO9.out.2,ah (by rw [HV.out];exact ⟨rfl,rfl,rfl⟩),HB9.out⟩
theorem map_qval_pr (M:List Rat):(M.map pr).map qval=M:=by rw [List.map_map,show (qval ∘ pr)=id from funext qval_pr,List.map_id]
theorem RdQs.wide {w:World}{B N N':Nat}{A:Option Addr}{n c:Nat}{L:List (Int × Int)}(h:RdQs w B N A n c L)(hN:N<=N'):RdQs w B N' A n c L :=
 ⟨h.len,h.le,h.mx,fun j p hp=>by
  obtain ⟨ad,s,A1,n1,c1,s',A1',n1',c1',h1,h2,h3,h4,h5,h6,h7,h8,h9,h10⟩:=h.at_ j p hp
  exact ⟨ad,s,A1,n1,c1,s',A1',n1',c1',h1,h2,h3,h4,h5,h6,h7,h8,nT h9 hN,nT h10 hN⟩⟩
theorem qneg_any {N:Nat}{s s':Bool}{A A':Option Addr}{n c n' c':Nat}{z d:Int}{w:World}(h:RdZ w w.heap.size s A n c z)(h':RdZ w w.heap.size s' A' n' c' d)(hn:n<=N/\n'<=N)(hN:N<=200000000000) :
  Calls Tryz.prog 37 #[.agg #[.bool s,.slice A n c,.bool s',.slice A' n' c']] w (RetQE (d ≠ 0) (-(Rat.divInt z d)) w):=by
 have heg:=enters_of Tryz.func86 (by kernel_rfl) rfl
 obtain ⟨W1,HW1⟩:∃ W,W=(w.alloc (.cells #[.bool s,.slice A n c,.bool s',.slice A' n' c'] 47)).alloc (.cells #[.bool false,.slice none 0 0,.bool false,.slice none 0 0] 47):=⟨_,rfl⟩
 obtain ⟨hX,hR,hB⟩:=q_box1 w s A n c s' A' n' c' W1 HW1
 obtain ⟨W2,HW2⟩:∃ W,W=W1.alloc (.cells #[.bool s,.slice A n c,.bool s',.slice A' n' c'] 47):=⟨_,rfl⟩
 have hq:=qs_one (h.next hB) (h'.next hB) hn.1 hn.2 HW2
 have hb2:Below W1.heap.size W1 W2:=by rw [HW2];exact bA
 have a0:=hX.c0
 have a1:=hX.c1
 have a2:=hX.c2
 have a3:=hX.c3
 have hs1:W1.heap.size=w.heap.size+1+1:=by rw [HW1];simp
 rw [hs1] at hq
 rw [HW1] at a0 a1 a2 a3 HW2
 have HQ:=ah hq
 have HR2:=ah (hR.next hb2)
 have HB2:=ah (hB.trans (hb2.mono hB.size))
 have HSW:=ah (show w.heap.size<=W2.heap.size from nT hB.size hb2.size)
 have HLZ:=ah (show Zz.zl z<=N/\Zz.zl d<=N from ⟨nT h.len hn.1,nT h'.len hn.2⟩)
 have HW2:=ah HW2
 clear hX hR hB hq hb2 hs1 HW1 h h'
 go_enter Tryz.func37,Tryz.ntmps37
 go_wp2_with fail
 rw [<- HW2.out]
 clear HW2 a0 a1 a2 a3
 clear HW2
 refine (made_base (N:=N) (z:=(-(Rat.divInt z d)).num) (d:=(-(Rat.divInt z d)).den) (k:=0) HQ.out (by decide) (by omega) heg (fun hne W A' c' b hb hwb hbb ho=>by
  have e1:d ≠ 0:=hne (z,d) (by simp)
  have h5:=qnegIn_any (N:=N) (x:=Rat.divInt z d) ho hbb ⟨nT (zl_qnum e1) HLZ.out.1,nT (zl_qden e1) HLZ.out.2⟩ (by omega)
  exact h5.mono fun e w' ⟨s5,A5,n5,c5,y5,s6,A6,n6,c6,y6,kk,k1,k2,k3,k4,k5⟩=>⟨s5,A5,n5,c5,y5,s6,A6,n6,c6,y6,kk,k1,k2.base hwb,k3.base hwb,k4,k5⟩)).mono ?_
 intro e3 W3 hpost
 obtain ⟨s5,A5,n5,c5,y5,s6,A6,n6,c6,y6,kk,rfl,ho5,ho6,hy,hb3⟩:RetQE (d ≠ 0) (-(Rat.divInt z d)) W2 e3 W3:=by
  rcases hpost with ⟨hall,s5,A5,n5,c5,y5,s6,A6,n6,c6,y6,kk,k1,k2,k3,k4,k5⟩ | ⟨⟨p,hp,hp0⟩,k1,k2⟩
  ·exact ⟨s5,A5,n5,c5,y5,s6,A6,n6,c6,y6,kk,k1,k2,k3,ah (.inl ⟨hall (z,d) (by simp),k4.out⟩),k5⟩
  ·refine ⟨false,none,0,0,0,false,none,0,0,0,6,k1,OwZ.zero _ _,OwZ.zero _ _,ah (.inr ⟨?_,rfl,rfl,rfl⟩),k2⟩
   intro e1
   obtain rfl:=List.mem_singleton.1 hp
   exact e1 hp0
 have hR5:=HR2.out.next hb3
 have r0:=hR5.c0
 have r1:=hR5.c1
 have r2:=hR5.c2
 have r3:=hR5.c3
 have f0:=hR5.fz 0
 have f1:=hR5.fz 1
 have f2:=hR5.fz 2
 have f3:=hR5.fz 3
 have HR9:=ah (hR5.store s5 A5 n5 c5 s6 A6 n6 c6)
 have HO9:=ah (cJ ((ho5.base (b':=w.heap.size) HSW.out).keep (keep_putQ hR5 s5 A5 n5 c5 s6 A6 n6 c6)) ((ho6.base (b':=w.heap.size) HSW.out).keep (keep_putQ hR5 s5 A5 n5 c5 s6 A6 n6 c6)))
 have HB9:=ah (below_putQ (HB2.out.trans (hb3.mono HB2.out.size)) (show w.heap.size<=w.heap.size+1 by omega) s5 A5 n5 c5 s6 A6 n6 c6)
 unfold putQ at HR9 HB9 HO9
 clear ho5 ho6 hb3 hR5 hpost
 go_wp2_with fail
 generalize (((W3.setCell ⟨w.heap.size+1,0,none⟩ (.bool s5)).setCell ⟨w.heap.size+1,1,none⟩ (.slice A5 n5 c5)).setCell ⟨w.heap.size+1,2,none⟩ (.bool s6)).setCell ⟨w.heap.size+1,3,none⟩ (.slice A6 n6 c6)=W9 at *
 have z0:=HR9.out.c0
 have z1:=HR9.out.c1
 have z2:=HR9.out.c2
 have z3:=HR9.out.c3
 exact bodyPost_ret (by simp [results,Tryz.results37,go_sem,z0,z1,z2,z3]) rfl ⟨_,_,_,_,_,_,_,_,_,_,_,rfl,HO9.out.1,HO9.out.2,hy,HB9.out⟩
abbrev RawRow:=List (Bool × List Nat)
structure RdRss (w:World)(B N K:Nat)(A:Option Addr)(n c:Nat)(RR:List RawRow):Prop where
 len:RR.length=n
 le:n<=c
 mx:c<=maxLen
 at_:∀ (j:Nat) (R:RawRow),RR[j]?=some R->∃ (ad:Addr) (A1:Option Addr) (n1 c1:Nat),A=some ad/\ad.block < B/\w.cell? (ad.add j)=some (.slice A1 n1 c1)/\RdRs w B N A1 n1 c1 R/\n1<=K
section
variable {w w':World}{B B' N K:Nat}{A:Option Addr}{n c:Nat}{RR:List RawRow}
theorem RdRss.below (h:RdRss w B N K A n c RR)(hb:Below B w w'):RdRss w' B N K A n c RR :=
 ⟨h.len,h.le,h.mx,fun j L hp=>by
  obtain ⟨ad,A1,n1,c1,h1,h2,h3,h4,h5⟩:=h.at_ j L hp
  exact ⟨ad,A1,n1,c1,h1,h2,(hb.cell (p:=ad.add j) (by rw [add_blk];exact h2)).trans h3,h4.below hb,h5⟩⟩
theorem RdRss.more (h:RdRss w B N K A n c RR)(hB:B<=B'):RdRss w B' N K A n c RR :=
 ⟨h.len,h.le,h.mx,fun j L hp=>by
  obtain ⟨ad,A1,n1,c1,h1,h2,h3,h4,h5⟩:=h.at_ j L hp
  exact ⟨ad,A1,n1,c1,h1,Nat.lt_of_lt_of_le h2 hB,h3,h4.more hB,h5⟩⟩
theorem RdRss.next (h:RdRss w w.heap.size N K A n c RR)(hb:Below w.heap.size w w'):RdRss w' w'.heap.size N K A n c RR:=(h.below hb).more hb.size
theorem rss_at (h:RdRss w B N K A n c RR){j:Nat}(hj:j < n) :
  ∃ (ad:Addr) (A1:Option Addr) (n1 c1:Nat) (R:RawRow),A=some ad/\ad.block < B/\w.cell? (ad.add j)=some (.slice A1 n1 c1)/\RdRs w B N A1 n1 c1 R/\n1<=K/\Hid (RR[j]?=some R):=by
 have hl:j < RR.length:=by rw [h.len];exact hj
 obtain ⟨ad,A1,n1,c1,h1,h2,h3,h4,h5⟩:=h.at_ j RR[j] (gE hl)
 exact ⟨ad,A1,n1,c1,_,h1,h2,h3,h4,h5,ah (gE hl)⟩
end
def colsOf (RR:List RawRow):Nat:=(RR.headD []).length
def Evn (RR:List RawRow):Prop:=∀ R ∈ RR,R.length=colsOf RR
theorem even_any {N K:Nat}{A:Option Addr}{n c:Nat}{RR:List RawRow}{w:World}(h:RdRss w w.heap.size N K A n c RR)(hn:n<=1048576) :
  Calls Tryz.prog 136 #[.slice A n c] w (RetBo (Evn RR) w):=by
 have H:=ah h
 clear h
 go_enter Tryz.func136,Tryz.ntmps136
 go_wp2_with fail
 go_loopw [7] (fun iv wr=>∃ (j:Nat),iv=.int .i64 (j:Int)/\j<=n/\Hid (∀ (i:Nat) (R:RawRow),i < j->RR[i]?=some R->R.length=colsOf RR)/\Below w.heap.size w wr) (fun iv _=>n-(intOf iv).toNat)
 case atStart=>exact ⟨0,rfl,nZ,ah fun i R hi=>absurd hi (Nat.not_lt_zero _),bR⟩
 case round =>
  obtain ⟨j,rfl,hj,hall,hB⟩:=hrel
  by_cases hjn:j=n
  ·have HE:=ah (show Evn RR from fun R hR=>by
    obtain ⟨i,hi,e⟩:=List.mem_iff_getElem.1 hR
    exact hall.out i R (by rw [hjn,<- H.out.len];exact hi) (by rw [gE hi,e]))
   subst hjn
   have HB:=ah hB
   clear hB hall
   go_wp2
   go_ret
   exact ⟨true,rfl,ah ⟨fun _=>HE.out,fun _=>rfl⟩,HB.out⟩
  ·have hjl:j < n:=by omega
   have hjli:(j:Int) < (n:Int):=by omega
   have hn0:(0:Int) < (n:Int):=by omega
   have h0n:0 < n:=by omega
   clear hjn
   have h':=H.out.next hB
   obtain ⟨ad,A1,n1,c1,R,rfl,hbk,hx,hr,hn1,hp⟩:=rss_at h' hjl
   obtain ⟨ad',A2,n2,c2,R0,e,_,hy,hr0,hn2,hp0⟩:=rss_at h' h0n
   injection e with e
   subst e
   have HC:=ah (show colsOf RR=n2 from by
    unfold colsOf
    have e1:=hp0.out
    cases RR with
    | nil=>simp at e1
    | cons a t=>simp at e1;subst e1;exact hr0.len)
   have HR:=ah (show R.length=n1 from hr.len)
   have hy':wr.cell? ad=some (.slice A2 n2 c2):=by
    have:ad.add 0=ad:=by simp [Addr.add]
    rw [<- this];exact hy
   have HB:=ah hB
   clear hr hr0 hB h'
   by_cases hne:n1=n2
   ·have hb:decide ((n1:Int)=(n2:Int))=true:=by simp [hne]
    have hb2:((n1:Int) == (n2:Int))=true:=by simp [hne]
    have hb3:(n1:Int)=(n2:Int):=by omega
    have HA:=ah (show ∀ (i:Nat) (R:RawRow),i < j+1->RR[i]?=some R->R.length=colsOf RR from fun i R' hi hq=>by
     rcases Nat.lt_or_ge i j with h1 | h1
     ·exact hall.out i R' h1 hq
     ·rw [show i=j by omega,hp.out] at hq
      injection hq with hq
      rw [<- hq,HR.out,HC.out,hne])
    clear hne hall
    go_wp2
    go_roundw
    case rel=>exact ⟨j+1,by go_num,by omega,HA,HB.out⟩
    case measure=>simp [intOf];omega
   ·have hb2:((n1:Int) == (n2:Int))=false:=by simp;omega
    have hb3:¬(n1:Int)=(n2:Int):=by omega
    have HA:=ah (show ¬Evn RR from fun e=>hne (by rw [<- HR.out,<- HC.out];exact e R (gM hp.out)))
    clear hne hall
    go_wp2
    go_ret
    exact ⟨false,rfl,ah ⟨fun e=>by simp at e,fun e=>absurd e HA.out⟩,HB.out⟩
theorem cols_any {N K:Nat}{A:Option Addr}{n c:Nat}{RR:List RawRow}{w:World}(h:RdRss w w.heap.size N K A n c RR)(hn:n<=1048576) :
  Calls Tryz.prog 174 #[.slice A n c] w (RetK (colsOf RR:Int) w):=by
 have HB:=ah (Below.refl w.heap.size w)
 have HL:=ah h.len
 go_enter Tryz.func174,Tryz.ntmps174
 by_cases h0:n=0
 ·have HC:=ah (show colsOf RR=0 from by
   have e:=HL.out
   unfold colsOf
   cases RR with
   | nil=>rfl
   | cons a t=>simp at e;omega)
  subst h0
  go_wp2
  go_ret
  exact ⟨0,rfl,ah (by rw [HC.out];rfl),HB.out⟩
 ·have h0n:0 < n:=by omega
  have hn0:(0:Int) < (n:Int):=by omega
  have hnz:((n:Int) == 0)=false:=by simp;omega
  have hnz2:¬(n:Int)=0:=by omega
  clear h0
  obtain ⟨ad,A2,n2,c2,R0,rfl,_,hy,hr0,hn2,hp0⟩:=rss_at h h0n
  have HC:=ah (show colsOf RR=n2 from by
   unfold colsOf
   have e1:=hp0.out
   cases RR with
   | nil=>simp at e1
   | cons a t=>simp at e1;subst e1;exact hr0.len)
  have hy':w.cell? ad=some (.slice A2 n2 c2):=by
   have:ad.add 0=ad:=by simp [Addr.add]
   rw [<- this];exact hy
  clear hr0 h hp0
  go_wp2
  go_ret
  exact ⟨_,rfl,ah (by rw [HC.out]),HB.out⟩
def MC (w:World)(g:Nat)(s:Bool)(A:Option Addr)(n c:Nat)(G:Option Addr)(r k:Nat):Prop:=w.heap[g]?=some (.cells #[.bool s,.slice A n c,.slice G r k] 28 (0,0))
section
variable {w w':World}{g:Nat}{s:Bool}{A G:Option Addr}{n c r k:Nat}
theorem MC.lt (h:MC w g s A n c G r k):g < w.heap.size:=(Array.getElem?_eq_some_iff.1 h).1
theorem MC.c0 (h:MC w g s A n c G r k):w.cell? ⟨g,0,none⟩=some (.bool s):=by rw [cell_of_row w g 0 _ _ _ h];rfl
theorem MC.c1 (h:MC w g s A n c G r k):w.cell? ⟨g,1,none⟩=some (.slice A n c):=by rw [cell_of_row w g 1 _ _ _ h];rfl
theorem MC.c2 (h:MC w g s A n c G r k):w.cell? ⟨g,2,none⟩=some (.slice G r k):=by rw [cell_of_row w g 2 _ _ _ h];rfl
theorem MC.fz (h:MC w g s A n c G r k)(j:Nat):w.frozen? ⟨g,j,none⟩=false:=frozen_of_row w g j _ _ h
theorem MC.next (h:MC w g s A n c G r k)(hb:Below w.heap.size w w'):MC w' g s A n c G r k:=(hb.block g h.lt).trans h
theorem MC.new (w:World)(s:Bool)(A:Option Addr)(n c:Nat)(G:Option Addr)(r k:Nat):MC (w.alloc (.cells #[.bool s,.slice A n c,.slice G r k] 28)) w.heap.size s A n c G r k:=heap_alloc_new w _
end
instance (RR:List RawRow):Decidable (Evn RR):=by unfold Evn;infer_instance
def chk (d:Int)(RR:List RawRow):Int:=if d=0 then 6 else if Evn RR then 0 else 2
theorem mcheck_any {N K:Nat}{s:Bool}{A G:Option Addr}{n c r k:Nat}{d:Int}{RR:List RawRow}{w:World}(h:RdZ w w.heap.size s A n c d)(h':RdRss w w.heap.size N K G r k RR)(hn:n<=17592186044416)(hr:r<=1048576) :
  Calls Tryz.prog 82 #[.agg #[.bool s,.slice A n c,.slice G r k]] w (RetK (chk d RR) w):=by
 obtain ⟨W1,HW1⟩:∃ W,W=w.alloc (.cells #[.bool s,.slice A n c,.slice G r k] 28):=⟨_,rfl⟩
 have hM:MC W1 w.heap.size s A n c G r k:=by rw [HW1];exact MC.new w s A n c G r k
 have hB:Below w.heap.size w W1:=by rw [HW1];exact bA
 have HM:=ah hM
 have HB:=ah hB
 have HX:=ah (cJ (h.next hB) (h'.next hB))
 have HW1:=ah HW1
 clear h h' hM hB
 go_enter Tryz.func82,Tryz.ntmps82
 go_wp2_with fail
 rw [<- HW1.out]
 clear HW1
 clear HW1
 refine (sign_any HX.out.1 hn).mono ?_
 rintro _ W2 ⟨v,rfl,hv,hb2⟩
 have HB2:=tM HB hb2
 have hR2:=HX.out.2.next hb2
 have m2:=(HM.out.next hb2).c2
 by_cases h0:v=0
 ·have HC:=ah (show chk d RR=6 from if_pos (Int.sign_eq_zero_iff_zero.1 (by rw [<- hv.out];exact h0)))
  subst h0
  clear hv hb2 hR2
  go_wp2
  go_ret
  exact ⟨6,rfl,ah HC.out.symm,HB2.out⟩
 ·have hvb:(v == 0)=false:=by simp [h0]
  have HD:=ah (show d ≠ 0 from fun e=>h0 (by rw [hv.out,e];rfl))
  clear hv
  go_wp2_with fail
  refine (even_any hR2 hr).mono ?_
  rintro _ W3 ⟨b,rfl,hb,hb3⟩
  have HB3:=tM HB2 hb3
  have HBB:=ah hb.out
  clear hb hb2 hb3 hR2 m2
  cases b
  case true =>
   have HC:=ah (show chk d RR=0 from by unfold chk;rw [if_neg HD.out,if_pos (HBB.out.1 (by first | rfl | trivial))])
   clear HBB
   go_wp2
   go_ret
   exact ⟨0,rfl,ah HC.out.symm,HB3.out⟩
  case false =>
   have HC:=ah (show chk d RR=2 from by unfold chk;rw [if_neg HD.out,if_neg (fun e=>by have:=HBB.out.2 e;simp at this)])
   clear HBB
   go_wp2
   go_ret
   exact ⟨2,rfl,ah HC.out.symm,HB3.out⟩
def RetKK (a b:Int)(w:World)(e:Ending)(w':World):Prop:=∃ x y:Int,e=.returned (.tuple #[.int .i64 x,.int .i64 y])/\Hid (x=a/\y=b)/\Below w.heap.size w w'
def SizV (d:Int)(RR:List RawRow)(x y z:Int):Prop:=(chk d RR=0/\x=RR.length/\y=colsOf RR/\z=0) ∨ (chk d RR ≠ 0/\x=0/\y=0/\z=chk d RR)
def RetSz (d:Int)(RR:List RawRow)(w:World)(e:Ending)(w':World):Prop:=∃ x y z:Int,e=.returned (.tuple #[.int .i64 x,.int .i64 y,.int .i64 z])/\Hid (SizV d RR x y z)/\Below w.heap.size w w'
theorem msize_any {N K:Nat}{s:Bool}{A G:Option Addr}{n c r k:Nat}{RR:List RawRow}{w:World}(h':RdRss w w.heap.size N K G r k RR)(hr:r<=1048576) :
  Calls Tryz.prog 134 #[.agg #[.bool s,.slice A n c,.slice G r k]] w (RetKK RR.length (colsOf RR) w):=by
 obtain ⟨W1,HW1⟩:∃ W,W=w.alloc (.cells #[.bool s,.slice A n c,.slice G r k] 28):=⟨_,rfl⟩
 have hM:MC W1 w.heap.size s A n c G r k:=by rw [HW1];exact MC.new w s A n c G r k
 have hB:Below w.heap.size w W1:=by rw [HW1];exact bA
 have HM:=ah (show ∀ W,Below W1.heap.size W1 W->W.cell? ⟨w.heap.size,2,none⟩=some (.slice G r k) from fun W hb=>(hM.next hb).c2)
 have HB:=ah hB
 have HX:=ah (h'.next hB)
 have HL:=ah h'.len
 have HD:=ah (Below.refl W1.heap.size W1).drew
 have HW1:=ah HW1
 clear h' hM hB
 go_enter Tryz.func134,Tryz.ntmps134
 go_upto_region 1 with fail
 rw [<- HW1.out]
 clear HW1
 clear HW1
 have m2:=HM.out W1 bR
 go_region_held3 (fun w'=>w'.cell? ⟨w.heap.size,2,none⟩=some (.slice G r k))
  (first | exact HM.out _ HB2.out | exact HM.out _ HD.out)
  (first
   | (go_at_call 174;refine (cols_any (HX.out.next HD.out) hr).mono ?_;rintro _ W2 ⟨v,rfl,hv,hb2⟩;have HB2:=ah (HD.out.trans hb2)))
 all_goals
  have HF:=tM HB HB2.out
  clear m2 hb2
  go_wp2
  go_ret2
  exact ⟨_,_,rfl,ah ⟨by rw [HL.out],hv.out⟩,HF.out⟩
theorem mSize_any {N K:Nat}{s:Bool}{A G:Option Addr}{n c r k:Nat}{d:Int}{RR:List RawRow}{w:World}(h:RdZ w w.heap.size s A n c d)(h':RdRss w w.heap.size N K G r k RR)(hn:n<=17592186044416)(hr:r<=1048576) :
  Calls Tryz.prog 80 #[.agg #[.bool s,.slice A n c,.slice G r k]] w (RetSz d RR w):=by
 obtain ⟨W1,HW1⟩:∃ W,W=w.alloc (.cells #[.bool s,.slice A n c,.slice G r k] 28):=⟨_,rfl⟩
 have hM:MC W1 w.heap.size s A n c G r k:=by rw [HW1];exact MC.new w s A n c G r k
 have hB:Below w.heap.size w W1:=by rw [HW1];exact bA
 have HM:=ah hM
 have HB:=ah hB
 have HX:=ah (cJ (h.next hB) (h'.next hB))
 have m0:=hM.c0
 have m1:=hM.c1
 have m2:=hM.c2
 rw [HW1] at m0 m1 m2
 have HW1:=ah HW1
 clear h h' hM hB
 go_enter Tryz.func80,Tryz.ntmps80
 go_wp2_with fail
 rw [<- HW1.out]
 clear HW1
 clear HW1
 refine (mcheck_any HX.out.1 HX.out.2 hn hr).mono ?_
 rintro _ W2 ⟨v,rfl,hv,hb2⟩
 have HB2:=tM HB hb2
 have HR2:=ah (HX.out.2.next hb2)
 have q0:=(HM.out.next hb2).c0
 have q1:=(HM.out.next hb2).c1
 have q2:=(HM.out.next hb2).c2
 clear m0 m1 m2 hb2
 by_cases h0:v=0
 ·have HC:=ah (show chk d RR=0 from by rw [<- hv.out];exact h0)
  subst h0
  clear hv
  go_wp2_with fail
  refine (msize_any HR2.out hr).mono ?_
  rintro _ W3 ⟨x,y,rfl,hxy,hb3⟩
  have HB3:=tM HB2 hb3
  clear hb3 q0 q1 q2
  go_wp2
  go_ret3
  exact ⟨x,y,0,rfl,ah (.inl ⟨HC.out,hxy.out.1,hxy.out.2,rfl⟩),HB3.out⟩
 ·have hvb:(v == 0)=false:=by simp [h0]
  have HC:=ah (show chk d RR ≠ 0 from by rw [<- hv.out];exact h0)
  clear q0 q1 q2
  go_wp2
  go_ret3
  exact ⟨0,0,v,rfl,ah (.inr ⟨HC.out,rfl,rfl,hv.out⟩),HB2.out⟩
theorem ext_rows {RR RR':List RawRow}{n:Nat}(h:RR.length=n)(h':RR'.length=n)(e:∀ (i:Nat)(R R':RawRow),i < n->RR[i]?=some R->RR'[i]?=some R'->R=R'):RR=RR':=by
 refine List.ext_getElem (by rw [h,h']) fun i h1 h2=>?_
 exact e i _ _ (by omega) (gE h1) (gE h2)
theorem rMSame_any {N K N' K':Nat}{s s':Bool}{A G A' G':Option Addr}{n c r k n' c' r' k':Nat}{M M':List Nat}{RR RR':List RawRow}{w:World}(h:RdU w w.heap.size A n c M)(h':RdRss w w.heap.size N K G r k RR)(g:RdU w w.heap.size A' n' c' M')(g':RdRss w w.heap.size N' K' G' r' k' RR')(hr:r<=1048576) :
  Calls Tryz.prog 10 #[.agg #[.bool s,.slice A n c,.slice G r k],.agg #[.bool s',.slice A' n' c',.slice G' r' k']] w (RetBo ((s,M)=(s',M')/\RR=RR') w):=by
 obtain ⟨W1,HW1⟩:∃ W,W=(w.alloc (.cells #[.bool s,.slice A n c,.slice G r k] 28)).alloc (.cells #[.bool s',.slice A' n' c',.slice G' r' k'] 28):=⟨_,rfl⟩
 have hb0:Below w.heap.size w (w.alloc (.cells #[.bool s,.slice A n c,.slice G r k] 28)):=bA
 have hM:MC W1 w.heap.size s A n c G r k:=by rw [HW1];exact (MC.new w s A n c G r k).next (bA)
 have hM':MC W1 (w.heap.size+1) s' A' n' c' G' r' k':=by rw [HW1];have:=MC.new (w.alloc (.cells #[.bool s,.slice A n c,.slice G r k] 28)) s' A' n' c' G' r' k';simpa using this
 have hB:Below w.heap.size w W1:=by rw [HW1];exact hb0.alloc hb0.size _
 have HM:=ah (cJ hM hM')
 have HB:=ah hB
 have HX:=ah (cJ (h.next hB) (cJ (h'.next hB) (cJ (g.next hB) (g'.next hB))))
 have HL:=ah (cJ h'.len g'.len)
 have m0:=hM.c0
 have m1:=hM.c1
 have q0:=hM'.c0
 have q1:=hM'.c1
 rw [HW1] at m0 m1 q0 q1
 have HW1:=ah HW1
 clear h h' g g' hM hM' hB hb0
 go_enter Tryz.func10,Tryz.ntmps10
 go_wp2_with fail
 rw [<- HW1.out]
 clear HW1
 clear HW1
 clear m0 m1 q0 q1
 refine (same03_any HX.out.1 HX.out.2.2.1).mono ?_
 rintro _ W2 ⟨b,rfl,hb,hb2⟩
 have HB2:=tM HB hb2
 have HR2:=ah (cJ (HX.out.2.1.next hb2) (HX.out.2.2.2.next hb2))
 have HM2:=ah (cJ (HM.out.1.next hb2) (HM.out.2.next hb2))
 by_cases he:(s,M)=(s',M')
 ·have HE:=ah he
  obtain rfl:b=true:=hb.out.2 he
  have m2:=HM2.out.1.c2
  have q2:=HM2.out.2.c2
  clear hb hb2 he
  by_cases hrr:r=r'
  ·subst hrr
   have hrb:((r:Int) == (r:Int))=true:=by simp
   go_wp2_with fail
   clear m2 q2
   go_loopw [24] (fun iv wr=>∃ (j:Nat),iv=.int .i64 (j:Int)/\j<=r/\Hid (∀ (i:Nat) (R R':RawRow),i < j->RR[i]?=some R->RR'[i]?=some R'->R=R')/\Below W2.heap.size W2 wr) (fun iv _=>r-(intOf iv).toNat)
   case atStart=>exact ⟨0,rfl,nZ,ah fun i R R' hi=>absurd hi (Nat.not_lt_zero _),bR⟩
   case round =>
    obtain ⟨j,rfl,hj,hall,hB⟩:=hrel
    by_cases hjn:j=r
    ·have HF:=tM HB2 hB
     have HEQ:=ah (show RR=RR' from ext_rows HL.out.1 HL.out.2 (fun i R R' hi=>hall.out i R R' (by rw [hjn];exact hi)))
     subst hjn
     clear hB hall
     go_wp2
     go_ret
     exact ⟨true,rfl,ah ⟨fun _=>⟨HE.out,HEQ.out⟩,fun _=>rfl⟩,HF.out⟩
    ·have hjl:j < r:=by omega
     have hjli:(j:Int) < (r:Int):=by omega
     clear hjn
     obtain ⟨ad,A1,n1,c1,R,rfl,hbk,hx,hr1,hn1,hp⟩:=rss_at (HR2.out.1.next hB) hjl
     obtain ⟨ad',A2,n2,c2,R',rfl,hbk',hy,hr2,hn2,hp'⟩:=rss_at (HR2.out.2.next hB) hjl
     have m2:=(HM2.out.1.next hB).c2
     have q2:=(HM2.out.2.next hB).c2
     have HBF:=ah hB
     have HD:=ah (Below.refl wr.heap.size wr).drew
     have HS:=ah (show ∀ W,Below wr.heap.size wr W->RdRs W W.heap.size N A1 n1 c1 R/\RdRs W W.heap.size N' A2 n2 c2 R' from fun W hb=>⟨hr1.next hb,hr2.next hb⟩)
     have HCC:=ah (show ∀ W,Below wr.heap.size wr W->W.cell? ⟨w.heap.size,2,none⟩=some (.slice (some ad) r k)/\W.cell? ⟨w.heap.size+1,2,none⟩=some (.slice (some ad') r k')/\W.cell? (ad.add j)=some (.slice A1 n1 c1)/\W.cell? (ad'.add j)=some (.slice A2 n2 c2) from fun W hb=>⟨((HM2.out.1.next HBF.out).next hb).c2,((HM2.out.2.next HBF.out).next hb).c2,(hb.cell (p:=ad.add j) (by rw [add_blk];exact hbk)).trans hx,(hb.cell (p:=ad'.add j) (by rw [add_blk];exact hbk')).trans hy⟩)
     clear hr1 hr2 hB
     go_upto_region 6 with fail
     go_region_held3 (fun w'=>w'.cell? ⟨w.heap.size,2,none⟩=some (.slice (some ad) r k)/\w'.cell? ⟨w.heap.size+1,2,none⟩=some (.slice (some ad') r k')/\w'.cell? (ad.add j)=some (.slice A1 n1 c1)/\w'.cell? (ad'.add j)=some (.slice A2 n2 c2))
      (first | exact HCC.out _ HB3.out | exact HCC.out _ HD.out)
      (first
       | (go_at_call 43;refine (sameAll_any (HS.out _ HD.out).1 (HS.out _ HD.out).2).mono ?_;rintro _ W3 ⟨b3,rfl,hb3,hl3⟩;have HB3:=ah (HD.out.trans hl3)))
     all_goals
      have HF:=tM HBF HB3.out
      have HBB:=ah hb3.out
      clear m2 q2 hx hy hl3 hb3
      by_cases hRR:R=R'
      ·obtain rfl:b3=true:=HBB.out.2 hRR
       have HA:=ah (show ∀ (i:Nat) (S S':RawRow),i < j+1->RR[i]?=some S->RR'[i]?=some S'->S=S' from fun i S S' hi e1 e2=>by
        rcases Nat.lt_or_ge i j with h1 | h1
        ·exact hall.out i S S' h1 e1 e2
        ·have hij:i=j:=by omega
         rw [hij,hp.out] at e1
         rw [hij,hp'.out] at e2
         injection e1 with e1
         injection e2 with e2
         rw [<- e1,<- e2,hRR])
       clear hall HBB
       go_wp2
       go_roundw
       case rel=>exact ⟨j+1,by go_num,by omega,HA,HF.out⟩
       case measure=>simp [intOf];omega
      ·obtain rfl:b3=false:=by
        cases b3
        ·rfl
        ·exact absurd (HBB.out.1 rfl) hRR
       have HG:=tM HB2 HF.out
       have HN:=ah (show ¬((s,M)=(s',M')/\RR=RR') from fun e=>hRR (by
        have e1:=hp.out
        rw [e.2,hp'.out] at e1
        injection e1 with e1
        exact e1.symm))
       clear hall HBB
       go_wp2
       go_ret
       exact ⟨false,rfl,ah ⟨fun e=>by simp at e,fun e=>absurd e HN.out⟩,HG.out⟩
  ·have hrb:((r:Int) == (r':Int))=false:=by simp;omega
   have hrb3:¬(r:Int)=(r':Int):=by omega
   have HN:=ah (show ¬((s,M)=(s',M')/\RR=RR') from fun e=>hrr (by rw [<- HL.out.1,<- HL.out.2,e.2]))
   clear hrr
   go_wp2
   go_ret
   exact ⟨false,rfl,ah ⟨fun e=>by simp at e,fun e=>absurd e HN.out⟩,HB2.out⟩
 ·obtain rfl:b=false:=by
   cases b
   ·rfl
   ·exact absurd (hb.out.1 rfl) he
  have HN:=ah (show ¬((s,M)=(s',M')/\RR=RR') from fun e=>he e.1)
  clear hb hb2
  go_wp2
  go_ret
  exact ⟨false,rfl,ah ⟨fun e=>by simp at e,fun e=>absurd e HN.out⟩,HB2.out⟩
def KeepI (w w':World):Prop:=KeepT w w'/\∀ (i:Nat) (cs:Array Value) (f:Nat × Nat),w.heap[i]?=some (.cells cs 25 f)->w'.heap[i]?=some (.cells cs 25 f)
section
variable {w w':World}{b b':Nat}{A:Option Addr}{n c:Nat}{R:RawRow}
end
section
variable {w w':World}{b b':Nat}{A:Option Addr}{n c:Nat}{LL:List RawRow}{E:List (Option Addr × Nat × Nat)}
theorem keepI_grown {w1:World}{xs:List Value}(hE:w.ownsRow b 65 1 (.slice A n c) n xs)(hg:w.grownBy w1 (Value.slice A n c).ownBlock):KeepI w w1:=by
 have key:∀ (i:Nat) (cs:Array Value) (t:TypeId) (f:Nat × Nat),t ≠ 65->w.heap[i]?=some (.cells cs t f)->w1.heap[i]?=some (.cells cs t f):=by
  intro i cs t f ht hi
  rw [<- hi]
  refine hg.block i (Array.getElem?_eq_some_iff.1 hi).1 ?_
  rcases hE.2 with ⟨h1,_⟩ | ⟨g,cap,cur,h1,h2,h3,_⟩
  ·rw [h1]
   intro e0
   cases e0
  ·rw [h1]
   intro e0
   cases e0
   rw [hi] at h3
   injection h3 with h3
   injection h3 with _ h3
   exact ht h3
 exact ⟨fun i cs f=>key i cs _ f (by decide),fun i cs f=>key i cs _ f (by decide)⟩
end
theorem infoIs:(Tryz.prog.info? 65).map (fun i=>(i.zero,i.size,i.bytes))=some (some (.slice none 0 0),1,24):=by kernel_rfl
section
variable {w w':World}{b n:Nat}
theorem grown_heap {w1:World}{e t:TypeId}{k i:Nat}{v:Value}{xs:List Value}{cs:Array Value}{f:Nat × Nat}(hE:w.ownsRow b e k v n xs)(hg:w.grownBy w1 v.ownBlock)(hi:w.heap[i]?=some (.cells cs t f))(ht:t ≠ e):w1.heap[i]?=some (.cells cs t f):=by
 rw [<- hi]
 refine hg.block i (Array.getElem?_eq_some_iff.1 hi).1 ?_
 rcases hE.2 with ⟨h1,_⟩ | ⟨g,cap,cur,h1,h2,h3,_⟩
 ·rw [h1]
  intro e0
  cases e0
 ·rw [h1]
  intro e0
  cases e0
  rw [hi] at h3
  injection h3 with h3
  injection h3 with _ h3
  exact ht h3
end
section
variable {w w':World}{g b:Nat}{s:Bool}{A G:Option Addr}{n c r k:Nat}{RR:List RawRow}
theorem MC.grown {w1:World}{m:Nat}{xs:List Value}{v:Value}{q:Nat}(h:MC w g s A n c G r k)(hE:w.ownsRow b 65 q v m xs)(hg:w.grownBy w1 v.ownBlock):MC w1 g s A n c G r k:=grown_heap hE hg h (by decide)
theorem MC.alloc (h:MC w g s A n c G r k)(o:Obj):MC (w.alloc o) g s A n c G r k:=h.next ((Below.refl w.heap.size w).alloc nR o)
theorem MC.far (h:MC w g s A n c G r k){p:Addr}(hp:g ≠ p.block)(u:Value):MC (w.setCell p u) g s A n c G r k:=(Below.heap_setCell w p u g hp).trans h
theorem MC.num (h:MC w g s A n c G r k)(G':Option Addr)(r' k':Nat):MC (w.setCell ⟨g,2,none⟩ (.slice G' r' k')) g s A n c G' r' k':=by
 unfold MC at *
 simp [World.setCell,Array.getElem?_modify,h]
def putM (w:World)(g:Nat)(s:Bool)(A:Option Addr)(n c:Nat)(G:Option Addr)(r k:Nat):World:=((w.setCell ⟨g,0,none⟩ (.bool s)).setCell ⟨g,1,none⟩ (.slice A n c)).setCell ⟨g,2,none⟩ (.slice G r k)
theorem MC.store (h:MC w g s A n c G r k)(s':Bool)(A':Option Addr)(n' c':Nat)(G':Option Addr)(r' k':Nat):MC (putM w g s' A' n' c' G' r' k') g s' A' n' c' G' r' k':=by
 unfold MC putM at *
 simp [World.setCell,Array.getElem?_modify,h]
theorem keepI_mc (h:MC w g s A n c G r k)(j:Nat)(u:Value):KeepI w (w.setCell ⟨g,j,none⟩ u):=by
 have key:∀ (i:Nat) (cs:Array Value) (t:TypeId) (f:Nat × Nat),t ≠ 28->w.heap[i]?=some (.cells cs t f)->(w.setCell ⟨g,j,none⟩ u).heap[i]?=some (.cells cs t f):=fun i cs t f ht e=>by
  have hne:i ≠ g:=by
   rintro rfl
   unfold MC at h
   rw [h] at e
   injection e with e
   injection e with _ e
   exact ht e.symm
  rw [Below.heap_setCell _ (⟨g,j,none⟩:Addr) _ i hne]
  exact e
 exact ⟨fun i cs f=>key i cs _ f (by decide),fun i cs f=>key i cs _ f (by decide)⟩
theorem keepI_put (h:MC w g s A n c G r k)(s':Bool)(A':Option Addr)(n' c':Nat)(G':Option Addr)(r' k':Nat):KeepI w (putM w g s' A' n' c' G' r' k'):=by
 have key:∀ (i:Nat) (cs:Array Value) (t:TypeId) (f:Nat × Nat),t ≠ 28->w.heap[i]?=some (.cells cs t f)->(putM w g s' A' n' c' G' r' k').heap[i]?=some (.cells cs t f):=fun i cs t f ht e=>by
  have hne:i ≠ g:=by
   rintro rfl
   unfold MC at h
   rw [h] at e
   injection e with e
   injection e with _ e
   exact ht e.symm
  unfold putM
  rw [Below.heap_setCell _ (⟨g,2,none⟩:Addr) _ i hne,Below.heap_setCell _ (⟨g,1,none⟩:Addr) _ i hne,Below.heap_setCell _ (⟨g,0,none⟩:Addr) _ i hne]
  exact e
 exact ⟨fun i cs f=>key i cs _ f (by decide),fun i cs f=>key i cs _ f (by decide)⟩
theorem below_putM {B:Nat}(hb:Below B w w')(hg:B<=g)(s':Bool)(A':Option Addr)(n' c':Nat)(G':Option Addr)(r' k':Nat):Below B w (putM w' g s' A' n' c' G' r' k') :=
 ((hb.setCell (p:=⟨g,0,none⟩) hg _).setCell (p:=⟨g,1,none⟩) hg _).setCell (p:=⟨g,2,none⟩) hg _
end
end Go.Proofs.YtjnklbfhelbjgaaGreat
