/- Sr12. -/
import Derived.Test.YtjnklbfhelbjgaaGreatSr10
import Derived.Test.YtjnklbfhelbjgaaGreatSr11
import Derived.Test.YtjnklbfhelbjgaaGreatSr06
import Derived.Test.YtjnklbfhelbjgaaGreatSr00
import Derived.Test.YtjnklbfhelbjgaaGreatSr03
import Derived.Test.YtjnklbfhelbjgaaGreatSr05
import Derived.Test.YtjnklbfhelbjgaaGreatSr09
set_option maxRecDepth 100000
set_option maxHeartbeats 32000000
set_option linter.all false
namespace Go.Proofs.YtjnklbfhelbjgaaGreat
open Go.RowKit Go.IntWalk
attribute [local go_sem ↓] Go.wp_at_zero Go.wp_at_succ
theorem qover_any {N:Nat}{A:Option Addr}{n c:Nat}{L:List Int}{s5:Bool}{A5:Option Addr}{n5 c5:Nat}{d:Int}{w:World}(h:RdZs w w.heap.size N A n c L)(h5:RdZ w w.heap.size s5 A5 n5 c5 d)(hn5:n5<=N)(hn:n<=1048576)(hN:N<=200000000000)(hd:d ≠ 0) :
  Calls Tryz.prog 218 #[.slice A n c,.agg #[.bool s5,.slice A5 n5 c5]] w (RetPq (fun i=>Rat.divInt (Pz.co L i) d) w):=by
 have HLEN:=ah h.len
 have HSY:=ah (show Zz.zl d<=N from nT h5.len hn5)
 have HSL:=ah (zl_co h)
 have HD:=ah hd
 obtain ⟨i0,hi,hz0,hz1,hz2⟩:=info_parts infoQ
 obtain ⟨W1,HW1⟩:∃ W,W=w.alloc (.cells #[.bool s5,.slice A5 n5 c5] 25):=⟨_,rfl⟩
 have hC:ZC W1 w.heap.size s5 A5 n5 c5:=by rw [HW1];exact ZC.new w s5 A5 n5 c5
 have hB1:Below w.heap.size w W1:=by rw [HW1];exact bA
 have HCY:=ah (show ∀ W:World,Below W1.heap.size W1 W->ZC W w.heap.size s5 A5 n5 c5/\RdZ W W.heap.size s5 A5 n5 c5 d/\RdZs W W.heap.size N A n c L from fun W hb=>⟨hC.next hb,(h5.next hB1).next hb,(h.next hB1).next hb⟩)
 have HB1:=ah hB1
 have HW1:=ah HW1
 clear hC hB1 h h5 hd
 go_enter Tryz.func218,Tryz.ntmps218
 go_wp2_with fail
 rw [<- HW1.out]
 clear HW1
 clear HW1
 go_loopw [5,12] (fun ov iv wr=>∃ (j c':Nat) (A':Option Addr) (M:List Rat),ov=.slice A' j c'/\iv=.int .i64 j/\j<=n/\OwQs wr W1.heap.size A' j c' M/\Hid (M=(List.range j).map fun i=>Rat.divInt (Pz.co L i) d)/\Below W1.heap.size W1 wr) (fun _ iv _=>n-(intOf iv).toNat)
 case atStart=>exact ⟨0,0,none,[],rfl,rfl,nZ,OwQs.nil _ _,ah rfl,bR⟩
 case round =>
  obtain ⟨j,c',A',M,rfl,rfl,hj,ho,hM,hB⟩:=hrel
  by_cases hjn:j=n
  ·subst hjn
   have HSM:=ah (show ∀ x ∈ M,Qs N x by
    rw [hM.out]
    intro x hx
    obtain ⟨u,hu,rfl⟩:=List.mem_map.1 hx
    exact Qs.divInt HD.out (HSL.out u) HSY.out)
   go_wp2_with fail
   refine (qtrim_any ho.p HSM.out (by omega) (by omega)).mono ?_
   rintro _ W4 ⟨A4,n4,c4,M4,rfl,ho4,hM4,hb4⟩
   go_wp2
   go_ret
   refine ⟨_,_,_,M4,rfl,ho4.base HB1.out.size,ah (hM4.out.congr fun i=>?_),HB1.out.trans ((hB.trans (hb4.mono hB.size)).mono HB1.out.size)⟩
   rw [hM.out,Pq.co_range]
   rcases Nat.lt_or_ge i j with h1 | h1
   ·rw [if_pos h1]
   ·rw [if_neg (by omega),Pz.co_ge (by rw [HLEN.out];exact h1),Rat.zero_divInt]
  ·have hjl:j < n:=by omega
   clear hjn
   have hjli:(j:Int) < (n:Int):=by omega
   obtain ⟨hC,hr5,hl⟩:=HCY.out wr hB
   obtain ⟨ad,s1,A1,n1,c1,x,rfl,hbk,hx0,hx1,hr1,hn1,hp⟩:=zs_at hl hjl
   obtain ⟨W2,HW2⟩:∃ W,W=wr.alloc (.cells #[.bool s1,.slice A1 n1 c1] 25):=⟨_,rfl⟩
   have hb2:Below wr.heap.size wr W2:=by rw [HW2];exact bA
   have hX2:ZC W2 wr.heap.size s1 A1 n1 c1:=by rw [HW2];exact ZC.new wr s1 A1 n1 c1
   have hB2:=hB.trans (hb2.mono hB.size)
   have a0:=hX2.c0
   have a1:=hX2.c1
   have b0:=(hC.next hb2).c0
   have b1:=(hC.next hb2).c1
   rw [HW2] at a0 a1 b0 b1
   have HO:=ah (ho.next hb2)
   have HRD:=ah (cJ (hr1.next hb2) (hr5.next hb2))
   have HB2:=ah hB2
   have HW2:=ah HW2
   clear ho hB hb2 hB2 hr1 hr5 hl hC hX2
   go_wp2_with fail
   rw [<- HW2.out]
   clear HW2 hx0 hx1 a0 a1 b0 b1
   clear HW2
   refine (qmake_any HRD.out.1 HRD.out.2 (by omega) (by omega) HD.out).mono ?_
   rintro _ W3 ⟨s3,A3,n3,c3,s4,A4,n4,c4,q,rfl,ho3,hq,hb3⟩
   have hB3:=HB2.out.trans (hb3.mono HB2.out.size)
   obtain ⟨W4,HW4⟩:∃ W,W=W3.alloc (.cells #[.bool s3,.slice A3 n3 c3,.bool s4,.slice A4 n4 c4] 47):=⟨_,rfl⟩
   have hb4:Below W3.heap.size W3 W4:=by rw [HW4];exact bA
   have hB4:=hB3.trans (hb4.mono hB3.size)
   obtain ⟨E,hE,hEl,hEn⟩:=(HO.out.next hb3).next hb4
   have HO4:=ah ((ho3.base HB2.out.size).next hb4)
   rw [HW4] at hE hB4 hEn
   rw [HW4] at HO4
   have HE:=ah hE
   have HEN:=ah (cJ hEl hEn)
   have HM2:=ah (show M ++ [q]=(List.range (j+1)).map (fun i=>Rat.divInt (Pz.co L i) d) by rw [hM.out,hq.out,<- Pz.co_get hp.out,List.range_succ,List.map_append];rfl)
   have HB4:=ah hB4
   clear hE hEl hEn hb3 ho3 hb4 hB3 hB4 hq HO hM
   clear HW4
   go_wp2_with (at_builtin;refine wpList_append_own _ rfl _ _ 73 rfl W1.heap.size 47 i0 (.agg #[.bool false,.slice none 0 0,.bool false,.slice none 0 0]) 4 64 Tryz.underlying73 hi hz0 hz1 hz2 rfl (by decide) _ _ _ rfl (HE.out.alloc _) ⟨W3.heap.size+1,0,none⟩ 1 1 [.bool s3,.slice A3 n3 c3,.bool s4,.slice A4 n4 c4] rfl rfl (by simpa using qcell_new (W3.alloc (.cells #[.bool s3,.slice A3 n3 c3,.bool s4,.slice A4 n4 c4] 47)) (.bool s3) (.slice A3 n3 c3) (.bool s4) (.slice A4 n4 c4) 47) (by simp [Value.oneCell']) (by unfold maxLen;omega) (by omega) (by have:=HB4.out.size;simp at this ⊢;omega) ?_;intro v' w1 hown' hgrow _)
   have hmore:=qs_more (e:=((s3,A3,n3,c3),(s4,A4,n4,c4))) (x:=q) HO4.out rfl (HE.out.alloc _) HEN.out.1 HEN.out.2 hown' hgrow
   have HB5:=ah ((HB4.out.alloc HB4.out.size (.cells #[.bool s3,.slice A3 n3 c3,.bool s4,.slice A4 n4 c4] 47)).grown hgrow (by have:=HB4.out.size;simp at this ⊢;omega) (own_block HE.out))
   obtain ⟨A9,c9,rfl,ho9⟩:=hmore
   clear hown' hgrow HE HEN HO4
   go_wp2
   go_roundw
   case rel=>exact ⟨j+1,c9,A9,M ++ [q],rfl,by go_num,by omega,ho9,HM2,HB5.out⟩
   case measure=>simp [intOf];omega
theorem pcell_new (w:World)(x:Value)(t:TypeId):∀ j a,[x][j]?=some a->(w.alloc (.cells #[x] t)).cell? ((⟨w.heap.size,0,none⟩:Addr).add j)=some a:=by
 intro j a hj
 match j,hj with
 | 0,hj=>simp at hj;subst hj;simp [Addr.add]
 | (j+1),hj=>simp at hj
abbrev nq (L:List (Int × Int)):List Rat:=Pq.nrm (L.map qval)
theorem mapn_snoc {L:List (List (Int × Int))}{j:Nat}{p:List (Int × Int)}(h:L[j]?=some p):(L.take j).map nq ++ [nq p]=(L.take (j+1)).map nq:=by
 rw [List.take_add_one,h]
 simp
def RetPqE (b:Nat)(Φ:List Rat->Int->Prop)(w:World)(e:Ending)(w':World):Prop :=
 ∃ (A:Option Addr) (n c:Nat) (M:List Rat) (kk:Int),e=.returned (.tuple #[.slice A n c,.int .i64 kk])/\OwQp w' b A n c M/\Hid (Φ M kk)/\Below w.heap.size w w'
theorem norms_poly {f N K:Nat}{A:Option Addr}{n c:Nat}{LL:List (List (Int × Int))}{w:World}{Φ:List Rat->Int->Prop}(h:RdPs w w.heap.size N K A n c LL)(hn:n<=1048576)(hK:K<=1048576)(hN:N<=1000000000000)(h1N:1<=N)(heg:∀ args w,(callFunc f args).run Tryz.prog w=.ok (.enter f args) w)
  (hdo:(∀ L ∈ LL,∀ p ∈ L,p.2 ≠ 0)->∀ (W:World) (A':Option Addr) (c':Nat),Below w.heap.size w W->OwPs W w.heap.size A' n c' (LL.map nq)->Calls Tryz.prog f #[.slice A' n c'] W (RetPqE w.heap.size Φ W)) :
  Calls Tryz.prog 180 #[.slice A n c,.func (.func f) #[] #[]] w fun e w'=>((∀ L ∈ LL,∀ p ∈ L,p.2 ≠ 0)/\RetPqE w.heap.size Φ w e w') ∨ ((∃ L ∈ LL,∃ p ∈ L,p.2=0)/\e=.returned (.tuple #[.slice none 0 0,.int .i64 6])/\Below w.heap.size w w'):=by
 have HD:=ah hdo
 have HLEN:=ah h.len
 obtain ⟨i0,hi,hz0,hz1,hz2⟩:=info_parts infoPoly
 clear hdo
 go_enter Tryz.func180,Tryz.ntmps180
 go_wp2_with fail
 go_loopw [7,14] (fun ov iv wr=>∃ (j c':Nat) (A':Option Addr) (M:List (List Rat)),ov=.slice A' j c'/\iv=.int .i64 j/\j<=n/\OwPs wr w.heap.size A' j c' M/\Hid (M=(LL.take j).map nq)/\Hid (∀ (i:Nat) (L:List (Int × Int)),i < j->LL[i]?=some L->∀ p ∈ L,p.2 ≠ 0)/\Below w.heap.size w wr) (fun _ iv _=>n-(intOf iv).toNat)
 case atStart=>exact ⟨0,0,none,[],rfl,rfl,nZ,OwPs.nil _ _,ah rfl,ah fun i p hi=>absurd hi (Nat.not_lt_zero _),bR⟩
 case round =>
  obtain ⟨j,c',A',M,rfl,rfl,hj,ho,hM,hne,hB⟩:=hrel
  by_cases hjn:j=n
  ·subst hjn
   have HALL:=ah (show ∀ L ∈ LL,∀ p ∈ L,p.2 ≠ 0 from fun L hp=>by
    obtain ⟨i,hi,e⟩:=List.mem_iff_getElem.1 hp
    exact hne.out i L (by rw [<- HLEN.out];exact hi) (by rw [gE hi,e]))
   have HO:=ah (show OwPs wr w.heap.size A' j c' (LL.map nq) by rw [<- List.take_of_length_le (l:=LL) (by rw [HLEN.out];exact nR),<- hM.out];exact ho)
   have HB:=ah hB
   clear ho hB hM hne
   go_wp2_with fail
   refine (HD.out HALL.out wr A' c' HB.out HO.out).mono ?_
   rintro _ W5 ⟨A5,n5,c5,M5,kk,rfl,ho5,hy,hb5⟩
   go_wp2
   exact bodyPost_ret (by simp [results,Tryz.results180,go_sem]) rfl (.inl ⟨HALL.out,_,_,_,M5,kk,rfl,ho5,hy,HB.out.trans (hb5.mono HB.out.size)⟩)
  ·have hjl:j < n:=by omega
   clear hjn
   have hjli:(j:Int) < (n:Int):=by omega
   obtain ⟨ad,A1,n1,c1,L,rfl,hbk,hx,hr,hn1,hp⟩:=ps_at h hjl
   have hy:=(hB.cell (p:=ad.add j) (by rw [add_blk];exact hbk)).trans hx
   have HR:=ah (hr.next hB)
   have HO:=ah ho
   clear hx hr ho
   go_wp2_with fail
   clear hy
   refine (qpnorm_any HR.out (by omega) hN h1N).mono ?_
   rintro _ W3 (⟨hall,A4,n4,c4,M4,rfl,ho4,hM4,hb3⟩ | ⟨hex,rfl,hb3⟩)
   ·have HALL:=ah hall
    have hB3:=hB.trans (hb3.mono hB.size)
    obtain ⟨E,hE,hEl,hEn⟩:=HO.out.next hb3
    have HO4:=ah (ho4.base hB.size)
    have HE:=ah hE
    have HEN:=ah (cJ hEl (hEn.next (bR.alloc nR (.cells #[.slice A4 n4 c4] 73))))
    have HM2:=ah (show M ++ [M4]=(LL.take (j+1)).map nq by rw [hM.out,hM4.out];exact mapn_snoc hp.out)
    have HNE2:=ah (show ∀ (i:Nat) (L:List (Int × Int)),i < j+1->LL[i]?=some L->∀ p ∈ L,p.2 ≠ 0 from fun i L' hi hq=>by
     rcases Nat.lt_or_ge i j with h1 | h1
     ·exact hne.out i L' h1 hq
     ·rw [show i=j by omega,hp.out] at hq
      injection hq with hq
      rw [<- hq]
      exact HALL.out)
    have HB3:=ah hB3
    clear hE hEl hEn hb3 ho4 hB3 hB hM4 HO hne hM hall
    go_wp2_with (at_builtin;refine wpList_append_own _ rfl _ _ 30 rfl w.heap.size 73 i0 (.slice none 0 0) 1 24 Tryz.underlying30 hi hz0 hz1 hz2 rfl (by decide) _ _ _ rfl (HE.out.alloc _) ⟨W3.heap.size,0,none⟩ 1 1 [.slice A4 n4 c4] rfl rfl (pcell_new _ _ _) (by simp [Value.oneCell']) (by unfold maxLen;omega) (by omega) (by have:=HB3.out.size;simp;omega) ?_;intro v' w1 hown' hgrow _)
    have hmore:=ps_more (e:=(A4,n4,c4)) (L:=M4) HO4.out rfl (HE.out.alloc _) HEN.out.1 HEN.out.2 hown' hgrow
    have HB5:=ah ((HB3.out.alloc HB3.out.size (.cells #[.slice A4 n4 c4] 73)).grown hgrow (by have:=HB3.out.size;simp;omega) (own_block HE.out))
    obtain ⟨A5,c5,rfl,ho5⟩:=hmore
    clear hown' hgrow HE HEN HO4
    go_wp2
    go_roundw
    case rel=>exact ⟨j+1,c5,A5,M ++ [M4],rfl,by go_num,by omega,ho5,HM2,HNE2,HB5.out⟩
    case measure=>simp [intOf];omega
   ·have HEX:=ah (show ∃ L ∈ LL,∃ p ∈ L,p.2=0 from ⟨L,gM hp.out,hex⟩)
    go_wp2
    exact bodyPost_ret (by simp [results,Tryz.results180,go_sem]) rfl (.inr ⟨HEX.out,rfl,hB.trans (hb3.mono hB.size)⟩)
abbrev okD (L:List (Int × Int)):Prop:=∀ p ∈ L,p.2 ≠ 0
def RetOp (ok:Prop)(f:Nat->Rat)(w:World)(e:Ending)(w':World):Prop :=
 (ok/\RetPqE w.heap.size (fun M kk=>Pq.IsP f M/\kk=0) w e w') ∨ (¬ok/\e=.returned (.tuple #[.slice none 0 0,.int .i64 6])/\Below w.heap.size w w')
theorem co_nq (L:List (Int × Int))(i:Nat):Pq.co (nq L) i=Pq.co (L.map qval) i:=Pq.co_nrm _ i
theorem nq_len (L:List (Int × Int)):(nq L).length<=L.length:=nT (Pq.nrm_len _) (Nat.le_of_eq (List.length_map ..))
theorem nq_qs {w:World}{B N:Nat}{A:Option Addr}{n c:Nat}{L:List (Int × Int)}(h:RdQs w B N A n c L)(hd:okD L)(hN:1<=N):∀ x ∈ nq L,Qs N x:=fun x hx=>by
 obtain ⟨i,_,rfl⟩:=Pq.mem_co hx
 rw [co_nq]
 exact h.sz hd hN i
theorem qAddIn_any {b N c:Nat}{A:Option Addr}{P Q:List Rat}{w:World}(h:OwPs w b A 2 c [P,Q])(hP:∀ x ∈ P,Qs N x)(hQ:∀ x ∈ Q,Qs N x)(hp:P.length<=1048576)(hq:Q.length<=1048576)(hN:N<=200000000000)(h1N:1<=N) :
  Calls Tryz.prog 184 #[.slice A 2 c] w (RetPqE w.heap.size (fun M kk=>Pq.IsP (fun i=>Pq.co P i+Pq.co Q i) M/\kk=0) w):=by
 obtain ⟨g,A1,n1,c1,L1,rfl,hbk,hx,ho1,hL1⟩:=opl_at h (show 0 < 2 by decide)
 obtain ⟨g',A2,n2,c2,L2,e,_,hy,ho2,hL2⟩:=opl_at h (show 1 < 2 by decide)
 injection e with e
 injection e with e
 subst e
 obtain rfl:P=L1:=by simpa using hL1.out
 obtain rfl:Q=L2:=by simpa using hL2.out
 have hn1:n1<=1048576:=by rw [<- ho1.len];exact hp
 have hn2:n2<=1048576:=by rw [<- ho2.len];exact hq
 have HX:=ah (show ∀ W,Below w.heap.size w W->(W.cell? ⟨g,0,none⟩=some (.slice A1 n1 c1)/\W.cell? ⟨g,1,none⟩=some (.slice A2 n2 c2))/\RdQs W W.heap.size N A1 n1 c1 (P.map pr)/\RdQs W W.heap.size N A2 n2 c2 (Q.map pr) from fun W hb=>⟨⟨(hb.cell (p:=⟨g,0,none⟩) hbk).trans hx,(hb.cell (p:=⟨g,1,none⟩) hbk).trans hy⟩,(ho1.next hb).rd hP,(ho2.next hb).rd hQ⟩)
 have HBD:=ah (Below.refl w.heap.size w).drew
 have HCX:=ah (show ∀ W,Below w.heap.size w W->_ from fun W hb=>(HX.out W hb).1)
 clear h hL1 hL2 ho1 ho2 hP hQ
 go_enter Tryz.func184,Tryz.ntmps184
 go_wp2_with fail
 go_region_held3 (fun w'=>w'.cell? ⟨g,0,none⟩=some (.slice A1 n1 c1)/\w'.cell? ⟨g,1,none⟩=some (.slice A2 n2 c2))
  (first | exact HCX.out _ HB3.out | exact HCX.out _ HBD.out)
  (first
   | (go_at_call 185;refine (qadd_poly (HX.out _ HBD.out).2.1 (HX.out _ HBD.out).2.2 hn1 hn2 hN h1N).mono ?_;rintro _ W3 ⟨A3,n3,c3,M3,rfl,ho3,hM3,hb3⟩;have HB3:=tM HBD hb3))
 all_goals
  have HO:=ah (ho3.base (b':=w.heap.size) HBD.out.size)
  go_wp2
  go_ret2
  exact ⟨_,_,_,M3,0,rfl,HO.out,ah ⟨hM3.out,rfl⟩,HB3.out⟩
theorem qAdd_any {N:Nat}{A A':Option Addr}{n c n' c':Nat}{L L':List (Int × Int)}{w:World}(h:RdQs w w.heap.size N A n c L)(h':RdQs w w.heap.size N A' n' c' L')(hn:n<=1048576)(hn':n'<=1048576)(hN:N<=200000000000)(h1N:1<=N) :
  Calls Tryz.prog 128 #[.slice A n c,.slice A' n' c'] w (RetOp (okD L/\okD L') (fun i=>Pq.co (L.map qval) i+Pq.co (L'.map qval) i) w):=by
 have HEG:=ah (enters_of Tryz.func184 (by kernel_rfl) rfl)
 have HH:=ah (cJ h h')
 obtain ⟨W2,HW2⟩:∃ W,W=w.alloc (.cells #[.slice A n c,.slice A' n' c'] 73):=⟨_,rfl⟩
 have hps:=ah (ps_two (K:=1048576) h h' hn hn' HW2)
 have HB2:=ah (show Below w.heap.size w W2 by rw [HW2];exact bA)
 have HW2:=ah HW2
 clear h h'
 go_enter Tryz.func128,Tryz.ntmps128
 go_wp2_with fail
 rw [<- HW2.out]
 clear HW2
 clear HW2
 refine (norms_poly (f:=184) (Φ:=fun M kk=>Pq.IsP (fun i=>Pq.co (L.map qval) i+Pq.co (L'.map qval) i) M/\kk=0) hps.out (by decide) (by decide) (by omega) h1N HEG.out (fun hall W A' c' hb ho=>(qAddIn_any (N:=N) (P:=nq L) (Q:=nq L') ho (nq_qs HH.out.1 (hall L (by simp)) h1N) (nq_qs HH.out.2 (hall L' (by simp)) h1N) (nT (nq_len L) (by rw [HH.out.1.len];exact hn)) (nT (nq_len L') (by rw [HH.out.2.len];exact hn')) hN h1N).mono fun e w' ⟨A2,n2,c2,M2,kk,h1,h2,h3,h4⟩=>⟨A2,n2,c2,M2,kk,h1,h2.base hb.size,ah ⟨h3.out.1.congr fun i=>by simp only [co_nq],h3.out.2⟩,h4⟩)).mono ?_
 intro e W3 hpost
 rcases hpost with ⟨hall,A2,n2,c2,M2,kk,rfl,ho2,hM2,hb2⟩ | ⟨hex,rfl,hb2⟩
 ·have HOK:=ah (show okD L/\okD L' from ⟨hall L (by simp),hall L' (by simp)⟩)
  have HO:=ah (ho2.base (b':=w.heap.size) HB2.out.size)
  have HB3:=tM HB2 hb2
  clear hall ho2 hb2
  go_wp2
  go_ret2
  exact .inl ⟨HOK.out,_,_,_,M2,kk,rfl,HO.out,hM2,HB3.out⟩
 ·have HOK:=ah (show ¬(okD L/\okD L') from fun ⟨h1,h2⟩=>by
   obtain ⟨L0,hL0,p,hp,hp0⟩:=hex
   rcases List.mem_cons.1 hL0 with rfl | h3
   ·exact h1 p hp hp0
   ·obtain rfl:=List.mem_singleton.1 h3
    exact h2 p hp hp0)
  have HB3:=tM HB2 hb2
  clear hex hb2
  go_wp2
  go_ret2
  exact .inr ⟨HOK.out,rfl,HB3.out⟩
abbrev nqp (R:List RawQ):List Rat:=nq (R.map toQ)
abbrev nn (PP:List (List (List RawQ))):List (List (List Rat)):=PP.map (·.map nqp)
def okPP (PP:List (List (List RawQ))):Prop:=∀ RR ∈ PP,∀ R ∈ RR,okD (R.map toQ)
theorem scell1 (w:World)(x:Value)(t:TypeId):∀ j a,[x][j]?=some a->(w.alloc (.cells #[x] t)).cell? ((⟨w.heap.size,0,none⟩:Addr).add j)=some a:=by
 intro j a hj
 match j,hj with
 | 0,hj=>simp at hj;subst hj;simp [Addr.add]
 | (j+1),hj=>simp at hj
theorem own18_any {N K J:Nat}{A:Option Addr}{n c:Nat}{PP:List (List (List RawQ))}{w:World}(h:RdRpp w w.heap.size N K J A n c PP)(hn:n<=1048576)(hJ:J<=1048576)(hK:K<=1048576)(hN:N<=1000000000) :
  Calls Tryz.prog 22 #[.slice A n c] w fun e w'=>∃ (A':Option Addr) (n' c':Nat),e=.returned (.slice A' n' c')/\OwRpp w' w.heap.size A' n' c' PP/\Below w.heap.size w w':=by
 have HL:=ah h.len
 obtain ⟨i0,hi,hz0,hz1,hz2⟩:=info_parts infoPoly
 obtain ⟨i1,hjf,hy0,hy1,hy2⟩:=info_parts infoRow
 have HX:=ah (show ∀ W,Below w.heap.size w W->RdRpp W W.heap.size N K J A n c PP from fun W hb=>h.next hb)
 clear h
 go_enter Tryz.func22,Tryz.ntmps22
 go_wp2_with fail
 go_loopw [3,11] (fun ov iv wr=>∃ (j c':Nat) (A':Option Addr),ov=.slice A' j c'/\iv=.int .i64 (j:Int)/\j<=n/\OwRpp wr w.heap.size A' j c' (PP.take j)/\Below w.heap.size w wr) (fun _ iv _=>n-(intOf iv).toNat)
 case atStart=>exact ⟨0,0,none,rfl,rfl,nZ,OwL.nil _ _ _ _,bR⟩
 case round =>
  obtain ⟨j,c',A',rfl,rfl,hj,ho,hB⟩:=hrel
  by_cases hjr:j=n
  ·have HO:=ah (show OwRpp wr w.heap.size A' j c' PP by rw [<- List.take_of_length_le (l:=PP) (i:=j) (by rw [HL.out,hjr];exact nR)];exact ho)
   have HBF:=ah hB
   subst hjr
   clear ho hB
   go_wp2
   go_ret
   exact ⟨A',j,c',rfl,HO.out,HBF.out⟩
  ·have hjl:j < n:=by omega
   have hjli:(j:Int) < (n:Int):=by omega
   obtain ⟨wo,rfl⟩:∃ V,V=wr:=⟨_,rfl⟩
   clear hjr
   obtain ⟨ad,A1,n1,c1,RR,rfl,hbk,hx,hr1,hn1,hp⟩:=rpp_at (HX.out wo hB) hjl
   have HOT:=ah ho
   have HB3:=ah hB
   have HRR:=ah (show ∀ W,Below wo.heap.size wo W->RdRp W W.heap.size N K A1 n1 c1 RR from fun W hb=>hr1.next hb)
   have HLR:=ah hr1.len
   have HJL:=ah (show j+1<=1048576 by omega)
   clear ho hB hr1
   go_wp2_with fail
   clear hx
   go_loopw [6,17] (fun ov iv wr=>∃ (i c5:Nat) (A5:Option Addr),ov=.slice A5 i c5/\iv=.int .i64 (i:Int)/\i<=n1/\OwRp wr wo.heap.size A5 i c5 (RR.take i)/\Below wo.heap.size wo wr) (fun _ iv _=>n1-(intOf iv).toNat)
   case atStart=>exact ⟨0,0,none,rfl,rfl,nZ,OwL.nil _ _ _ _,bR⟩
   case round =>
    obtain ⟨i,c5,A5,rfl,rfl,hi5,ho5,hB5⟩:=hrel
    by_cases hin:i=n1
    ·have HO5:=ah (show OwRp wr w.heap.size A5 i c5 RR by rw [<- List.take_of_length_le (l:=RR) (i:=i) (by rw [HLR.out,hin];exact nR)];exact OwL.base stayRP ho5 HB3.out.size)
     have HB5:=ah hB5
     obtain ⟨E,hE,hEl,hEn⟩:=OwL.next stayRpp HOT.out hB5
     have HE:=ah hE
     have HEN:=ah (cJ hEl hEn)
     subst hin
     clear ho5 hB5 hE hEl hEn
     go_wp2_with (at_builtin;refine wpList_append_own _ rfl _ _ 45 rfl w.heap.size 30 i1 (.slice none 0 0) 1 24 Tryz.underlying45 hjf hy0 hy1 hy2 rfl (by decide) _ _ _ rfl (HE.out.alloc _) ⟨wr.heap.size,0,none⟩ 1 1 [.slice A5 i c5] rfl rfl (scell1 wr (.slice A5 i c5) 30) (by simp [Value.oneCell']) (by have:=HJL.out;unfold maxLen;omega) (by have:=HJL.out;omega) (by have h1:=HB5.out.size;have h2:=HB3.out.size;simp;omega) ?_;intro v' w1 hown' hgrow _)
     obtain ⟨A9,c9,rfl,ho9⟩:=OwL.more stayRpp (e:=(A5,i,c5)) HO5.out (HE.out.alloc _) HEN.out.1 HEN.out.2 hown' hgrow
     have hbx:=HB3.out.trans (HB5.out.mono HB3.out.size)
     have HB9:=ah ((hbx.alloc hbx.size (.cells #[.slice A5 i c5] 30)).grown hgrow (by have:=hbx.size;simp;omega) (own_block HE.out))
     have HO9:=ah (show OwRpp w1 w.heap.size A9 (j+1) c9 (PP.take (j+1)) by
      rw [List.take_add_one,hp.out]
      exact ho9)
     clear hown' hgrow HE HEN ho9 hbx
     go_wp2
     go_roundw
     case rel=>exact ⟨j+1,c9,A9,rfl,by go_num,by omega,HO9.out,HB9.out⟩
     case measure=>simp [intOf];omega
    ·have hil:i < n1:=by omega
     have hili:(i:Int) < (n1:Int):=by omega
     clear hin
     obtain ⟨ad2,A6,n6,c6,R,rfl,hbk6,hx6,hr6,hn6,hs6,hp6⟩:=rp_at (HRR.out wr hB5) hil
     have HO5:=ah ho5
     have HB5:=ah hB5
     have HR6:=ah (cJ hr6 (cJ hs6 hn6))
     clear ho5 hB5 hr6 hs6
     go_wp2_with fail
     clear hx6
     refine (rPCopy_own HR6.out.1 (by have:=HR6.out.2.2;omega) (by have:=HR6.out.2.1;omega)).mono ?_
     rintro _ W7 ⟨A7,n7,c7,rfl,ho7,hb7⟩
     have HB7:=tM HB5 hb7
     obtain ⟨E,hE,hEl,hEn⟩:=OwL.next stayRP HO5.out hb7
     have HO7:=ah (ho7.base (b':=wo.heap.size) HB5.out.size)
     have HE:=ah hE
     have HEN:=ah (cJ hEl hEn)
     clear hE hEl hEn hb7 ho7
     go_wp2_with (at_builtin;refine wpList_append_own _ rfl _ _ 30 rfl wo.heap.size 73 i0 (.slice none 0 0) 1 24 Tryz.underlying30 hi hz0 hz1 hz2 rfl (by decide) _ _ _ rfl (HE.out.alloc _) ⟨W7.heap.size,0,none⟩ 1 1 [.slice A7 n7 c7] rfl rfl (scell1 W7 (.slice A7 n7 c7) 73) (by simp [Value.oneCell']) (by unfold maxLen;omega) (by omega) (by have:=HB7.out.size;simp;omega) ?_;intro v' w1 hown' hgrow _)
     obtain ⟨A9,c9,rfl,ho9⟩:=OwL.more stayRP (e:=(A7,n7,c7)) HO7.out (HE.out.alloc _) HEN.out.1 HEN.out.2 hown' hgrow
     have HB9:=ah ((HB7.out.alloc HB7.out.size (.cells #[.slice A7 n7 c7] 73)).grown hgrow (by have:=HB7.out.size;simp;omega) (own_block HE.out))
     have HO9:=ah (show OwRp w1 wo.heap.size A9 (i+1) c9 (RR.take (i+1)) by
      rw [List.take_add_one,hp6.out]
      exact ho9)
     clear hown' hgrow HE HEN ho9
     go_wp2
     go_roundw
     case rel=>exact ⟨i+1,c9,A9,rfl,by go_num,by omega,HO9.out,HB9.out⟩
     case measure=>simp [intOf];omega
theorem rNorm18_any {N K J:Nat}{A:Option Addr}{n c:Nat}{PP:List (List (List RawQ))}{w:World}(h:RdRpp w w.heap.size N K J A n c PP)(hok:okPP PP)(hn:n<=1048576)(hJ:J<=1048576)(hK:K<=1048576)(hN:N<=1000000000) :
  Calls Tryz.prog 29 #[.slice A n c] w fun e w'=>∃ (A':Option Addr) (n' c':Nat),e=.returned (.slice A' n' c')/\OwPp w' w.heap.size A' n' c' (nn PP)/\Below w.heap.size w w':=by
 have HL:=ah h.len
 obtain ⟨i0,hi,hz0,hz1,hz2⟩:=info_parts infoPoly
 obtain ⟨i1,hjf,hy0,hy1,hy2⟩:=info_parts infoRow
 have HX:=ah (show ∀ W,Below w.heap.size w W->RdRpp W W.heap.size N K J A n c PP from fun W hb=>h.next hb)
 clear h
 go_enter Tryz.func29,Tryz.ntmps29
 go_wp2_with fail
 go_loopw [3,11] (fun ov iv wr=>∃ (j c':Nat) (A':Option Addr),ov=.slice A' j c'/\iv=.int .i64 (j:Int)/\j<=n/\OwPp wr w.heap.size A' j c' (nn (PP.take j))/\Below w.heap.size w wr) (fun _ iv _=>n-(intOf iv).toNat)
 case atStart=>exact ⟨0,0,none,rfl,rfl,nZ,OwL.nil _ _ _ _,bR⟩
 case round =>
  obtain ⟨j,c',A',rfl,rfl,hj,ho,hB⟩:=hrel
  by_cases hjr:j=n
  ·have HO:=ah (show OwPp wr w.heap.size A' j c' (nn PP) by rw [<- List.take_of_length_le (l:=PP) (i:=j) (by rw [HL.out,hjr];exact nR)];exact ho)
   have HBF:=ah hB
   subst hjr
   clear ho hB
   go_wp2
   go_ret
   exact ⟨A',j,c',rfl,HO.out,HBF.out⟩
  ·have hjl:j < n:=by omega
   have hjli:(j:Int) < (n:Int):=by omega
   obtain ⟨wo,rfl⟩:∃ V,V=wr:=⟨_,rfl⟩
   clear hjr
   obtain ⟨ad,A1,n1,c1,RR,rfl,hbk,hx,hr1,hn1,hp⟩:=rpp_at (HX.out wo hB) hjl
   have HOT:=ah ho
   have HB3:=ah hB
   have HRR:=ah (show ∀ W,Below wo.heap.size wo W->RdRp W W.heap.size N K A1 n1 c1 RR from fun W hb=>hr1.next hb)
   have HLR:=ah hr1.len
   have HJL:=ah (show j+1<=1048576 by omega)
   have HOK:=ah (hok RR (gM hp.out))
   clear ho hB hr1
   go_wp2_with fail
   clear hx
   go_loopw [6,17] (fun ov iv wr=>∃ (i c5:Nat) (A5:Option Addr),ov=.slice A5 i c5/\iv=.int .i64 (i:Int)/\i<=n1/\OwP wr wo.heap.size A5 i c5 ((RR.take i).map nqp)/\Below wo.heap.size wo wr) (fun _ iv _=>n1-(intOf iv).toNat)
   case atStart=>exact ⟨0,0,none,rfl,rfl,nZ,OwL.nil _ _ _ _,bR⟩
   case round =>
    obtain ⟨i,c5,A5,rfl,rfl,hi5,ho5,hB5⟩:=hrel
    by_cases hin:i=n1
    ·have HO5:=ah (show OwP wr w.heap.size A5 i c5 (RR.map nqp) by rw [<- List.take_of_length_le (l:=RR) (i:=i) (by rw [HLR.out,hin];exact nR)];exact OwL.base stayQP ho5 HB3.out.size)
     have HB5:=ah hB5
     obtain ⟨E,hE,hEl,hEn⟩:=OwL.next stayPp HOT.out hB5
     have HE:=ah hE
     have HEN:=ah (cJ hEl hEn)
     subst hin
     clear ho5 hB5 hE hEl hEn
     go_wp2_with (at_builtin;refine wpList_append_own _ rfl _ _ 45 rfl w.heap.size 30 i1 (.slice none 0 0) 1 24 Tryz.underlying45 hjf hy0 hy1 hy2 rfl (by decide) _ _ _ rfl (HE.out.alloc _) ⟨wr.heap.size,0,none⟩ 1 1 [.slice A5 i c5] rfl rfl (scell1 wr (.slice A5 i c5) 30) (by simp [Value.oneCell']) (by have:=HJL.out;unfold maxLen;omega) (by have:=HJL.out;omega) (by have h1:=HB5.out.size;have h2:=HB3.out.size;simp;omega) ?_;intro v' w1 hown' hgrow _)
     obtain ⟨A9,c9,rfl,ho9⟩:=OwL.more stayPp (e:=(A5,i,c5)) HO5.out (HE.out.alloc _) HEN.out.1 HEN.out.2 hown' hgrow
     have hbx:=HB3.out.trans (HB5.out.mono HB3.out.size)
     have HB9:=ah ((hbx.alloc hbx.size (.cells #[.slice A5 i c5] 30)).grown hgrow (by have:=hbx.size;simp;omega) (own_block HE.out))
     have HO9:=ah (show OwPp w1 w.heap.size A9 (j+1) c9 (nn (PP.take (j+1))) by
      rw [List.take_add_one,hp.out]
      rw [nn,List.map_append];exact ho9)
     clear hown' hgrow HE HEN ho9 hbx
     go_wp2
     go_roundw
     case rel=>exact ⟨j+1,c9,A9,rfl,by go_num,by omega,HO9.out,HB9.out⟩
     case measure=>simp [intOf];omega
    ·have hil:i < n1:=by omega
     have hili:(i:Int) < (n1:Int):=by omega
     clear hin
     obtain ⟨ad2,A6,n6,c6,R,rfl,hbk6,hx6,hr6,hn6,hs6,hp6⟩:=rp_at (HRR.out wr hB5) hil
     have HO5:=ah ho5
     have HB5:=ah hB5
     have HR6:=ah (cJ hr6 (cJ hs6 hn6))
     have HD6:=ah (HOK.out R (gM hp6.out))
     clear ho5 hB5 hr6 hs6
     go_wp2_with fail
     clear hx6
     refine (rqnorm_any (N:=N) (HR6.out.1.rd HR6.out.2.1) HD6.out (by have:=HR6.out.2.2;omega) (by omega)).mono ?_
     rintro _ W7 ⟨A7,n7,c7,M7,rfl,ho7,hM7,hb7⟩
     have HB7:=tM HB5 hb7
     obtain ⟨E,hE,hEl,hEn⟩:=OwL.next stayQP HO5.out hb7
     have HO7:=ah (show OwQp W7 wo.heap.size A7 n7 c7 (Pq.nrm ((R.map toQ).map qval)) by rw [<- Pq.IsP.nrm hM7.out];exact ho7.base HB5.out.size)
     have HE:=ah hE
     have HEN:=ah (cJ hEl hEn)
     clear hE hEl hEn hb7 ho7
     go_wp2_with (at_builtin;refine wpList_append_own _ rfl _ _ 30 rfl wo.heap.size 73 i0 (.slice none 0 0) 1 24 Tryz.underlying30 hi hz0 hz1 hz2 rfl (by decide) _ _ _ rfl (HE.out.alloc _) ⟨W7.heap.size,0,none⟩ 1 1 [.slice A7 n7 c7] rfl rfl (scell1 W7 (.slice A7 n7 c7) 73) (by simp [Value.oneCell']) (by unfold maxLen;omega) (by omega) (by have:=HB7.out.size;simp;omega) ?_;intro v' w1 hown' hgrow _)
     obtain ⟨A9,c9,rfl,ho9⟩:=OwL.more stayQP (e:=(A7,n7,c7)) HO7.out (HE.out.alloc _) HEN.out.1 HEN.out.2 hown' hgrow
     have HB9:=ah ((HB7.out.alloc HB7.out.size (.cells #[.slice A7 n7 c7] 73)).grown hgrow (by have:=HB7.out.size;simp;omega) (own_block HE.out))
     have HO9:=ah (show OwP w1 wo.heap.size A9 (i+1) c9 ((RR.take (i+1)).map nqp) by
      rw [List.take_add_one,hp6.out]
      rw [List.map_append];exact ho9)
     clear hown' hgrow HE HEN ho9
     go_wp2
     go_roundw
     case rel=>exact ⟨i+1,c9,A9,rfl,by go_num,by omega,HO9.out,HB9.out⟩
     case measure=>simp [intOf];omega
def nlen (v:Nat):Nat:=if (Dg.dg v).length=0 then 0 else 32*((Dg.dg v).length-1)+Lib.bitLen (Dg.ld (Dg.dg v) ((Dg.dg v).length-1))
theorem nlen_nil {v:Nat}(h:Dg.dg v=[]):nlen v=0:=by unfold nlen;rw [h];rfl
theorem nlen_top {v j x:Nat}(h:(Dg.dg v).length=j+1)(hx:Dg.ld (Dg.dg v) j=x):nlen v=32*j+Lib.bitLen x:=by
 unfold nlen
 rw [if_neg (by omega),h]
 show 32*(j+1-1)+Lib.bitLen (Dg.ld (Dg.dg v) (j+1-1))=_
 rw [Nat.add_sub_cancel,hx]
theorem nlen_any {A:Option Addr}{n c:Nat}{L:List Nat}{w:World}(h:RdU w w.heap.size A n c L)(hn:n<=17592186044416) :
  Calls Tryz.prog 84 #[.slice A n c] w fun e w'=>∃ z:Nat,e=.returned (.int .i64 z)/\Hid (z=nlen (Dg.val L))/\w=w':=by
 have hlen:=ah h.len
 go_enter Tryz.func84,Tryz.ntmps84
 go_wp2_with fail
 refine (trim_any h (by omega)).mono ?_
 rintro _ _ ⟨k,rfl,hk,rfl⟩
 have hkl:=hk.out.1
 have hkn:k<=n:=by rw [hlen.out] at hkl;exact hkl
 rcases Nat.eq_zero_or_pos k with h0 | h0
 ·subst h0
  have HZ:=ah (hk.out.2.symm.trans (List.take_zero))
  clear hkl
  go_wp2
  go_ret
  exact ⟨0,rfl,ah (nlen_nil HZ.out).symm,rfl⟩
 ·obtain ⟨j,rfl⟩:∃ j,k=j+1:=⟨k-1,by omega⟩
  have hj:j < (L.take (j+1)).length:=by rw [List.length_take];omega
  obtain ⟨hx,ad,rfl,hb,hc⟩:=(h.take hkn).at_ j (Dg.ld (L.take (j+1)) j) (Dg.get_of_ld hj)
  have hpos:Dg.ld (L.take (j+1)) j ≠ 0:=by
   have hne:L.take (j+1) ≠ []:=fun e=>by rw [e] at hj;simp at hj
   have hnm:=Dg.dg_nm (Dg.val L)
   rw [<- hk.out.2] at hnm
   have hh:=hnm hne
   rw [List.getLast_eq_getElem] at hh
   rw [Dg.ld_lt hj]
   simpa [List.length_take,Nat.min_eq_left hkl] using hh
  have HNL:=ah (show ∀ x,Dg.ld (L.take (j+1)) j=x->nlen (Dg.val L)=32*j+Lib.bitLen x from fun x hx=>nlen_top (by rw [<- hk.out.2,List.length_take];omega) (by rw [<- hk.out.2];exact hx))
  obtain ⟨x,hxe⟩:∃ x,Dg.ld (L.take (j+1)) j=x:=⟨_,rfl⟩
  have HXE:=ah (HNL.out x hxe)
  rw [hxe] at hx hc hpos
  clear hj hkl hxe HNL
  have HP:=ah hpos
  clear hpos
  go_wp2_with fail
  refine (bits_Len32 _ _ (by omega) (by omega)).mono ?_
  rintro _ _ ⟨rfl,rfl⟩
  have hbl:=ah (Lib.bitLen_half x HP.out (by omega))
  have hle:Lib.bitLen x<=64:=Lib.bitLen_le x 64 nR (by omega)
  go_wp2
  go_ret
  refine ⟨32*j+Lib.bitLen x,?_,ah HXE.out.symm,rfl⟩
  exact ret_i (by simp)
theorem rnlen_any {A:Option Addr}{n c:Nat}{L:List Nat}{w:World}(h:RdU w w.heap.size A n c L)(hn:n<=17592186044416) :
  Calls Tryz.prog 150 #[.slice A n c] w (RetK (nlen (Dg.val L):Int) w):=by
 go_enter Tryz.func150,Tryz.ntmps150
 go_wp2_with fail
 refine (refNorm_any h hn).mono ?_
 rintro _ W2 ⟨A2,n2,c2,x,rfl,ho,hx,hb⟩
 obtain rfl:x=Dg.val L:=hx.out
 have HB:=ah hb
 have hlen:(Dg.dg (Dg.val L)).length=n2:=ho.len
 have HJB:=ah (show n2<=n from by rw [<- hlen,<- h.len];exact Dg.dg_len_lt.2 (Dg.val_lt h.wd))
 have hm1:=ho.rd.le
 have hm2:=ho.rd.mx
 unfold maxLen at hm2
 rcases Nat.eq_zero_or_pos n2 with h0 | h0
 ·subst h0
  have HZ:=ah (List.eq_nil_of_length_eq_zero hlen)
  clear hb hlen ho hm1 hm2
  go_wp2
  go_ret
  exact ⟨0,rfl,ah (by rw [nlen_nil HZ.out];rfl),HB.out⟩
 ·obtain ⟨j,rfl⟩:∃ j,n2=j+1:=⟨n2-1,by omega⟩
  have hj:j < (Dg.dg (Dg.val L)).length:=by omega
  obtain ⟨hx4,ad,rfl,hb4,hc4⟩:=ho.rd.at_ j (Dg.ld (Dg.dg (Dg.val L)) j) (Dg.get_of_ld hj)
  have HNL:=ah (nlen_top hlen rfl)
  generalize Dg.ld (Dg.dg (Dg.val L)) j=y at *
  have HN:=ah HNL.out
  have hjb:j<=17592186044416:=by have:=HJB.out;omega
  have hyl:Lib.bitLen y<=64:=Lib.bitLen_le y 64 nR (by omega)
  have HYL:=ah hyl
  clear hb hlen ho hj hm1 hm2
  go_wp2_with fail
  go_loopw [3,4] (fun nv xv wr=>∃ (m y:Nat),nv=.int .i64 (m:Int)/\xv=.int .u32 (y:Int)/\y < 4294967296/\m<=32*j+64/\Hid (m+Lib.bitLen y=nlen (Dg.val L))/\wr=W2) (fun _ xv _=>(intOf xv).toNat)
  case atStart=>exact ⟨32*j,y,by go_num,rfl,hx4,by omega,ah HN.out.symm,rfl⟩
  case round =>
   obtain ⟨m,y,rfl,rfl,hy,hm,hv,rfl⟩:=hrel
   by_cases h0:y=0
   ·subst h0
    have HV:=ah (show m=nlen (Dg.val L) from by rw [<- hv.out];rfl)
    clear hv
    go_wp2
    go_ret
    exact ⟨_,rfl,ah (by rw [HV.out]),HB.out⟩
   ·have hyp:(0:Int) < (y:Int):=by omega
    have hbl:=Lib.bitLen_half y h0 (by omega)
    have hle:Lib.bitLen y<=64:=Lib.bitLen_le y 64 nR (by omega)
    have HV:=ah (show (m+1)+Lib.bitLen (y / 2)=nlen (Dg.val L) from by rw [<- hv.out];omega)
    have HJ:=ah (show m+1<=32*j+64 from by
     have h1:=HV.out
     have h2:=HN.out
     have h3:=HYL.out
     omega)
    clear h0 hbl hle
    go_wp2
    go_roundw
    case rel=>exact ⟨m+1,y / 2,by go_num,by go_num,by omega,HJ.out,HV,by first | rfl | trivial⟩
    case measure=>simp [intOf];omega
def RetKE (Φ:Int->Int->Prop)(w:World)(e:Ending)(w':World):Prop :=
 ∃ (v:Int) (kk:Int),e=.returned (.tuple #[.int .i64 v,.int .i64 kk])/\Hid (Φ v kk)/\Below w.heap.size w w'
theorem made_int {f N:Nat}{A:Option Addr}{n c:Nat}{L:List (Int × Int)}{w:World}{Φ:Int->Int->Prop}(h:RdQs w w.heap.size N A n c L)(hn:n<=1048576)(hN:N<=1000000000000)(heg:∀ args w,(callFunc f args).run Tryz.prog w=.ok (.enter f args) w)(hall:∀ p ∈ L,p.2 ≠ 0)
  (hdo:∀ (W:World) (A':Option Addr) (c':Nat),Below w.heap.size w W->OwQs W w.heap.size A' n c' (L.map qval)->Calls Tryz.prog f #[.slice A' n c'] W (RetKE Φ W)) :
  Calls Tryz.prog 188 #[.func (.func f) #[] #[],.slice A n c] w (RetKE Φ w):=by
 have HD:=ah hdo
 have HAL:=ah hall
 have HLEN:=ah h.len
 have hmk:=fun W:World=>make_qroom n (by omega) W
 obtain ⟨i0,hi,hz0,hz1,hz2⟩:=info_parts infoQ
 obtain ⟨W1,HW1⟩:∃ W,W=w.alloc (.cells (madeCells #[.bool false,.slice none 0 0,.bool false,.slice none 0 0] (n*4)) 47):=⟨_,rfl⟩
 have hb1:Below w.heap.size w W1:=by rw [HW1];exact bA
 have hO1:OwQs W1 w.heap.size (some ⟨w.heap.size,0,none⟩) 0 n []:=by rw [HW1];exact OwQs.room w n (by unfold maxLen;omega)
 have HW1:=ah HW1
 clear hdo hall
 go_enter Tryz.func188,Tryz.ntmps188
 go_wp2_with fail
 rw [<- HW1.out]
 clear HW1
 clear HW1
 go_loopw [7,17] (fun ov iv wr=>∃ (j c':Nat) (A':Option Addr) (M:List Rat),ov=.slice A' j c'/\iv=.int .i64 j/\j<=n/\OwQs wr w.heap.size A' j c' M/\Hid (M=(L.take j).map qval)/\Below w.heap.size w wr) (fun _ iv _=>n-(intOf iv).toNat)
 case atStart=>exact ⟨0,n,_,[],rfl,rfl,nZ,hO1,ah rfl,hb1⟩
 case round =>
  clear hO1 hb1
  obtain ⟨j,c',A',M,rfl,rfl,hj,ho,hM,hB⟩:=hrel
  by_cases hjn:j=n
  ·subst hjn
   have HO:=ah (show OwQs wr w.heap.size A' j c' (L.map qval) by rw [<- List.take_of_length_le (l:=L) (by rw [HLEN.out];exact nR),<- hM.out];exact ho)
   have HBW:=ah hB
   clear ho hB hM
   go_wp2_with fail
   refine (HD.out wr A' c' HBW.out HO.out).mono ?_
   rintro _ W5 ⟨v,kk,rfl,hy,hb5⟩
   go_wp2
   exact bodyPost_ret (by simp [results,Tryz.results188,go_sem]) rfl ⟨v,kk,rfl,hy,HBW.out.trans (hb5.mono HBW.out.size)⟩
  ·have hjl:j < n:=by omega
   clear hjn
   have hjli:(j:Int) < (n:Int):=by omega
   obtain ⟨ad,s1,A1,n1,c1,s2,A2,n2,c2,z1,d1,rfl,hbk,hx0,hx1,hx2,hx3,hr1,hr2,hn1,hn2,hp⟩:=qs_at h hjl
   obtain ⟨hy0,hy1,hy2,hy3⟩:=qs_cells hB hbk hx0 hx1 hx2 hx3
   obtain ⟨W2,HW2⟩:∃ W,W=wr.alloc (.cells #[.bool s1,.slice A1 n1 c1,.bool s2,.slice A2 n2 c2] 47):=⟨_,rfl⟩
   have hb2:Below wr.heap.size wr W2:=by rw [HW2];exact bA
   have hB2:=hB.trans (hb2.mono hB.size)
   have HO:=ah (ho.next hb2)
   have HRD:=ah (cJ (hr1.next hB2) (hr2.next hB2))
   have HB2:=ah hB2
   have HNN:=ah (cJ (nT hn1 hN) (nT hn2 hN))
   have HD1:=ah (show d1 ≠ 0 from HAL.out _ (gM hp.out))
   have HW2:=ah HW2
   clear ho hB hb2 hB2 hr1 hr2 hx0 hx1 hx2 hx3
   go_wp2_with fail
   rw [<- HW2.out]
   clear HW2 hy0 hy1 hy2 hy3
   clear HW2
   refine (qnorm_any HRD.out.1 HRD.out.2 HNN.out.1 HNN.out.2 HD1.out).mono ?_
   rintro _ W3 ⟨s3,A3,n3,c3,s4,A4,n4,c4,y,rfl,ho3,hy,hb3⟩
   have hB3:=HB2.out.trans (hb3.mono HB2.out.size)
   obtain ⟨W4,HW4⟩:∃ W,W=W3.alloc (.cells #[.bool s3,.slice A3 n3 c3,.bool s4,.slice A4 n4 c4] 47):=⟨_,rfl⟩
   have hb4:Below W3.heap.size W3 W4:=by rw [HW4];exact bA
   have hB4:=hB3.trans (hb4.mono hB3.size)
   obtain ⟨E,hE,hEl,hEn⟩:=(HO.out.next hb3).next hb4
   have HO4:=ah ((ho3.base HB2.out.size).next hb4)
   rw [HW4] at hE hB4 hEn
   rw [HW4] at HO4
   have HE:=ah hE
   have HEN:=ah (cJ hEl hEn)
   have HM2:=ah (show M ++ [y]=(L.take (j+1)).map qval by rw [hM.out,hy.out];exact mapq_snoc hp.out)
   have HB4:=ah hB4
   clear hE hEl hEn hb3 ho3 hb4 hB3 hB4 hy HO hM
   clear HW4
   go_wp2_with (at_builtin;refine wpList_append_own _ rfl _ _ 72 rfl w.heap.size 47 i0 (.agg #[.bool false,.slice none 0 0,.bool false,.slice none 0 0]) 4 64 Tryz.underlying72 hi hz0 hz1 hz2 rfl (by decide) _ _ _ rfl (HE.out.alloc _) ⟨W3.heap.size+1,0,none⟩ 1 1 [.bool s3,.slice A3 n3 c3,.bool s4,.slice A4 n4 c4] rfl rfl (by simpa using qcell_new (W3.alloc (.cells #[.bool s3,.slice A3 n3 c3,.bool s4,.slice A4 n4 c4] 47)) (.bool s3) (.slice A3 n3 c3) (.bool s4) (.slice A4 n4 c4) 47) (by simp [Value.oneCell']) (by unfold maxLen;omega) (by omega) (by have:=HB4.out.size;simp at this ⊢;omega) ?_;intro v' w1 hown' hgrow _)
   have hmore:=qs_more (e:=((s3,A3,n3,c3),(s4,A4,n4,c4))) (x:=y) HO4.out rfl (HE.out.alloc _) HEN.out.1 HEN.out.2 hown' hgrow
   have HB5:=ah ((HB4.out.alloc HB4.out.size (.cells #[.bool s3,.slice A3 n3 c3,.bool s4,.slice A4 n4 c4] 47)).grown hgrow (by have:=HB4.out.size;simp at this ⊢;omega) (own_block HE.out))
   obtain ⟨A5,c5,rfl,ho5⟩:=hmore
   clear hown' hgrow HE HEN HO4
   go_wp2
   go_roundw
   case rel=>exact ⟨j+1,c5,A5,M ++ [y],rfl,by go_num,by omega,ho5,HM2,HB5.out⟩
   case measure=>simp [intOf];omega
theorem qcmp_zero (x y:Rat):(x.num*(y.den:Int)-y.num*(x.den:Int)).sign=0 ↔ x=y:=by
 rw [Int.sign_eq_zero_iff_zero,Int.sub_eq_zero]
 constructor
 ·intro e
  rw [<- Rat.num_divInt_den x,<- Rat.num_divInt_den y]
  exact (Rat.divInt_eq_divInt_iff (qden_ne x) (qden_ne y)).2 e
 ·rintro rfl;rfl
theorem qcmpIn_any {N b:Nat}{A:Option Addr}{c:Nat}{x y:Rat}{w:World}(h:OwQs w b A 2 c [x,y])(hx:Zz.zl x.num<=N/\Zz.zl x.den<=N)(hy:Zz.zl y.num<=N/\Zz.zl y.den<=N)(hN:N<=400000000000) :
  Calls Tryz.prog 241 #[.slice A 2 c] w (RetKE (fun v kk=>(v=0 ↔ x=y)/\kk=0) w):=by
 obtain ⟨g,s1,A1,n1,c1,s2,A2,n2,c2,s3,A3,n3,c3,s4,A4,n4,c4,rfl,hg,⟨a0,a1,a2,a3⟩,⟨b0,b1,b2,b3⟩,ox,oy⟩:=oq_two h
 have HCE:=ah (show ∀ W:World,Below w.heap.size w W->(W.cell? ⟨g,0,none⟩=some (.bool s1)/\W.cell? ⟨g,1,none⟩=some (.slice A1 n1 c1)/\W.cell? ⟨g,2,none⟩=some (.bool s2)/\W.cell? ⟨g,3,none⟩=some (.slice A2 n2 c2)/\W.cell? ⟨g,4,none⟩=some (.bool s3)/\W.cell? ⟨g,5,none⟩=some (.slice A3 n3 c3)/\W.cell? ⟨g,6,none⟩=some (.bool s4)/\W.cell? ⟨g,7,none⟩=some (.slice A4 n4 c4)) from fun W hb'=>by
  exact ⟨(hb'.cell hg).trans a0,(hb'.cell hg).trans a1,(hb'.cell hg).trans a2,(hb'.cell hg).trans a3,(hb'.cell hg).trans b0,(hb'.cell hg).trans b1,(hb'.cell hg).trans b2,(hb'.cell hg).trans b3⟩)
 have HX:=ah (show ∀ W:World,Below w.heap.size w W->RdZ W W.heap.size s1 A1 n1 c1 x.num/\RdZ W W.heap.size s2 A2 n2 c2 x.den/\RdZ W W.heap.size s3 A3 n3 c3 y.num/\RdZ W W.heap.size s4 A4 n4 c4 y.den from fun W hb'=>by
  exact ⟨(ox.num.next hb').rd,(ox.den.next hb').rd,(oy.num.next hb').rd,(oy.den.next hb').rd⟩)
 have HNN:=ah (show n1<=N/\n2<=N/\n3<=N/\n4<=N from ⟨by rw [ox.num.len];exact hx.1,by rw [ox.den.len];exact hx.2,by rw [oy.num.len];exact hy.1,by rw [oy.den.len];exact hy.2⟩)
 have HD:=ah (Below.refl w.heap.size w).drew
 have HXY:=ah (cJ hx hy)
 clear ox oy h hx hy
 go_enter Tryz.func241,Tryz.ntmps241
 go_upto_region 1 with fail
 go_region_held3 (fun w'=>w'.cell? ⟨g,0,none⟩=some (.bool s1)/\w'.cell? ⟨g,1,none⟩=some (.slice A1 n1 c1)/\w'.cell? ⟨g,2,none⟩=some (.bool s2)/\w'.cell? ⟨g,3,none⟩=some (.slice A2 n2 c2)/\w'.cell? ⟨g,4,none⟩=some (.bool s3)/\w'.cell? ⟨g,5,none⟩=some (.slice A3 n3 c3)/\w'.cell? ⟨g,6,none⟩=some (.bool s4)/\w'.cell? ⟨g,7,none⟩=some (.slice A4 n4 c4))
  (first | exact HCE.out _ HB4.out | exact HCE.out _ HB3.out | exact HCE.out _ HB2.out | exact HCE.out _ HD.out)
  (first
   | (go_at_call 144;refine (zcmp_any ho2.rd ho3.rd HN2.out HN3.out).mono ?_;rintro _ W4 ⟨v,rfl,hv,hb4⟩;have HB4:=tM HB3 hb4)
   | (have hxx:=HB2.out;clear hxx;go_at_call 146;refine (imul_any (HX.out _ HB2.out).2.2.1 (HX.out _ HB2.out).2.1 (by have:=HNN.out;omega) (by have:=HNN.out;omega)).mono ?_;rintro _ W3 ⟨s6,A6,n6,c6,y3,rfl,ho3,hy3,hb3⟩;have HB3:=tM HB2 hb3;have ho2:=ho2.next hb3;have HN3:=ah (show n6<=17592186044416 by { rw [ho3.len,hy3.out];have e1:=Zz.zl_mul y.num (x.den:Int);have e2:=HXY.out;omega }))
   | (go_at_call 146;refine (imul_any (HX.out _ HD.out).1 (HX.out _ HD.out).2.2.2 (by have:=HNN.out;omega) (by have:=HNN.out;omega)).mono ?_;rintro _ W2 ⟨s5,A5,n5,c5,y2,rfl,ho2,hy2,hb2⟩;have HB2:=ah (HD.out.trans hb2);have HN2:=ah (show n5<=17592186044416 by { rw [ho2.len,hy2.out];have e1:=Zz.zl_mul x.num (y.den:Int);have e2:=HXY.out;omega })))
 all_goals
  have HV:=ah (show v=0 ↔ x=y by rw [hv.out,hy2.out,hy3.out];exact qcmp_zero x y)
  go_wp2
  go_ret2
  exact ⟨v,0,rfl,ah ⟨HV.out,rfl⟩,HB4.out⟩
theorem qcmp_any {N:Nat}{s1 s2 s3 s4:Bool}{A1 A2 A3 A4:Option Addr}{n1 c1 n2 c2 n3 c3 n4 c4:Nat}{x y:Rat}{w:World}(h1:RdZ w w.heap.size s1 A1 n1 c1 x.num)(h2:RdZ w w.heap.size s2 A2 n2 c2 (x.den:Int))(h3:RdZ w w.heap.size s3 A3 n3 c3 y.num)(h4:RdZ w w.heap.size s4 A4 n4 c4 (y.den:Int))(hn:n1<=N/\n2<=N/\n3<=N/\n4<=N)(hN:N<=200000000000) :
  Calls Tryz.prog 221 #[.agg #[.bool s1,.slice A1 n1 c1,.bool s2,.slice A2 n2 c2],.agg #[.bool s3,.slice A3 n3 c3,.bool s4,.slice A4 n4 c4]] w (RetKE (fun v kk=>(v=0 ↔ x=y)/\kk=0) w):=by
 have heg:=enters_of Tryz.func241 (by kernel_rfl) rfl
 obtain ⟨W1,HW1⟩:∃ W,W=(w.alloc (.cells #[.bool s1,.slice A1 n1 c1,.bool s2,.slice A2 n2 c2] 47)).alloc (.cells #[.bool s3,.slice A3 n3 c3,.bool s4,.slice A4 n4 c4] 47):=⟨_,rfl⟩
 have hX:QC W1 w.heap.size s1 A1 n1 c1 s2 A2 n2 c2:=by rw [HW1];exact (QC.new w s1 A1 n1 c1 s2 A2 n2 c2).next (bA)
 have hY:QC W1 (w.heap.size+1) s3 A3 n3 c3 s4 A4 n4 c4:=by rw [HW1];simpa using QC.new (w.alloc (.cells #[.bool s1,.slice A1 n1 c1,.bool s2,.slice A2 n2 c2] 47)) s3 A3 n3 c3 s4 A4 n4 c4
 have hB:Below w.heap.size w W1:=by rw [HW1];exact ((Below.refl w.heap.size w).alloc nR _).alloc (by simp) _
 obtain ⟨W2,HW2⟩:∃ W,W=W1.alloc (.cells #[.bool s1,.slice A1 n1 c1,.bool s2,.slice A2 n2 c2,.bool s3,.slice A3 n3 c3,.bool s4,.slice A4 n4 c4] 47):=⟨_,rfl⟩
 have hq:=qs_two (h1.next hB) (h2.next hB) (h3.next hB) (h4.next hB) hn HW2
 have hb2:Below W1.heap.size W1 W2:=by rw [HW2];exact bA
 have a0:=hX.c0
 have a1:=hX.c1
 have a2:=hX.c2
 have a3:=hX.c3
 have b0:=hY.c0
 have b1:=hY.c1
 have b2:=hY.c2
 have b3:=hY.c3
 have hs1:W1.heap.size=w.heap.size+1+1:=by rw [HW1];simp
 rw [hs1] at hq
 rw [HW1] at a0 a1 a2 a3 b0 b1 b2 b3 HW2
 have HQ:=ah hq
 have HB2:=ah (hB.trans (hb2.mono hB.size))
 have HLZ:=ah (show (Zz.zl x.num<=N/\Zz.zl x.den<=N)/\Zz.zl y.num<=N/\Zz.zl y.den<=N from ⟨⟨nT h1.len hn.1,nT h2.len hn.2.1⟩,nT h3.len hn.2.2.1,nT h4.len hn.2.2.2⟩)
 have HW2:=ah HW2
 clear hX hY hB hq hb2 hs1 HW1 h1 h2 h3 h4
 go_enter Tryz.func221,Tryz.ntmps221
 go_wp2_with fail
 rw [<- HW2.out]
 clear HW2 a0 a1 a2 a3 b0 b1 b2 b3
 clear HW2
 refine (made_int (N:=N) (Φ:=fun v kk=>(v=0 ↔ x=y)/\kk=0) HQ.out (by decide) (by omega) heg (fun p hp=>by
  simp at hp
  rcases hp with rfl | rfl
  ·exact qden_ne x
  ·exact qden_ne y) (fun W A' c' hb ho=>qcmpIn_any (N:=N) (b:=W2.heap.size) (by
   have e:List.map qval [(x.num,(x.den:Int)),(y.num,(y.den:Int))]=[x,y]:=by simp [qval]
   rw [<- e];exact ho) HLZ.out.1 HLZ.out.2 (by omega))).mono ?_
 rintro _ W3 ⟨v,kk,rfl,hv,hb3⟩
 have HF:=tM HB2 hb3
 clear hb3
 go_wp2
 go_ret2
 exact ⟨v,kk,rfl,hv,HF.out⟩
def qbits (x:Rat):Nat:=max (nlen x.num.natAbs) (nlen x.den)
def ht (L:List Rat):Nat:=L.foldl (fun h x=>max h (qbits x)) 0
theorem ht_snoc (L:List Rat)(x:Rat):ht (L ++ [x])=max (ht L) (qbits x):=by unfold ht;rw [List.foldl_append];rfl
theorem max3_if (v z1 z2:Nat):(if (if v < z1 then (z1:Int) else (v:Int)) < (z2:Int) then (z2:Int) else if v < z1 then (z1:Int) else (v:Int))=((max (max v z1) z2:Nat):Int):=by
 rcases Nat.lt_or_ge v z1 with h1 | h1
 ·simp only [if_pos h1]
  rcases Nat.lt_or_ge z1 z2 with h2 | h2
  ·rw [if_pos (by omega)];omega
  ·rw [if_neg (by omega)];omega
 ·simp only [if_neg (Nat.not_lt.2 h1)]
  rcases Nat.lt_or_ge v z2 with h2 | h2
  ·rw [if_pos (by omega)];omega
  ·rw [if_neg (by omega)];omega
theorem qheightIn_any {N b:Nat}{A:Option Addr}{n c:Nat}{L:List Rat}{w:World}(h:OwQs w b A n c L)(hx:∀ x ∈ L,Qs N x)(hN:N<=1000000000000)(hn:n<=1048576) :
  Calls Tryz.prog 189 #[.slice A n c] w (RetKE (fun v kk=>v=(ht L:Int)/\kk=0) w):=by
 have H:=ah (show ∀ W,Below w.heap.size w W->OwQs W b A n c L from fun W hb=>h.next hb)
 have HL:=ah h.len
 have HX:=ah hx
 clear h hx
 go_enter Tryz.func189,Tryz.ntmps189
 go_wp2_with fail
 go_loopw [4,9] (fun nv iv wr=>∃ (j v:Nat),nv=.int .i64 (v:Int)/\iv=.int .i64 (j:Int)/\j<=n/\Hid (v=ht (L.take j))/\Below w.heap.size w wr) (fun _ iv _=>n-(intOf iv).toNat)
 case atStart=>exact ⟨0,0,rfl,rfl,nZ,ah rfl,bR⟩
 case round =>
  obtain ⟨j,v,rfl,rfl,hj,hv,hB⟩:=hrel
  by_cases hjn:j=n
  ·have HV:=ah (show v=ht L from by rw [hv.out,hjn,List.take_of_length_le (by rw [HL.out];exact nR)])
   subst hjn
   have HF:=ah hB
   clear hB hv
   go_wp2
   go_ret2
   exact ⟨_,0,rfl,ah ⟨by rw [HV.out],rfl⟩,HF.out⟩
  ·have hjl:j < n:=by omega
   have hjli:(j:Int) < (n:Int):=by omega
   clear hjn
   obtain ⟨ad,s1,A1,n1,c1,s2,A2,n2,c2,x,rfl,hbk,hx0,hx1,hx2,hx3,ho,hp⟩:=oq_at (H.out wr hB) hjl
   obtain ⟨W5,HW5⟩:∃ W,W=wr.alloc (.cells #[.bool s1,.slice A1 n1 c1,.bool s2,.slice A2 n2 c2] 47):=⟨_,rfl⟩
   have hb5:Below wr.heap.size wr W5:=by rw [HW5];exact bA
   have hQ5:QC W5 wr.heap.size s1 A1 n1 c1 s2 A2 n2 c2:=by rw [HW5];exact QC.new wr s1 A1 n1 c1 s2 A2 n2 c2
   have HXS:=ah (HX.out x (gM hp.out))
   have HO5:=ah (show RdU W5.drew W5.drew.heap.size A1 n1 c1 (Dg.dg x.num.natAbs)/\RdU W5.drew W5.drew.heap.size A2 n2 c2 (Dg.dg x.den) from ⟨((ho.next hb5).num.own.next (Below.refl W5.heap.size W5).drew).rd,((ho.next hb5).den.own.next (Below.refl W5.heap.size W5).drew).rd⟩)
   have HNN:=ah (show n1<=N/\n2<=N from ⟨by rw [ho.num.len];exact HXS.out.1,by rw [ho.den.len];exact HXS.out.2⟩)
   have HQ5:=ah hQ5
   have HF:=ah (hB.trans ((hb5.drew).mono hB.size))
   have HV:=ah (show max (max v (nlen x.num.natAbs)) (nlen x.den)=ht (L.take (j+1)) from by
    rw [List.take_add_one,hp.out,show (some x).toList=[x] from rfl,ht_snoc,hv.out,qbits,Nat.max_assoc])
   have HW5:=ah HW5
   clear hb5 hQ5 ho hB hv hp
   go_upto_region 5 with fail
   rw [<- HW5.out]
   clear HW5 hx0 hx1 hx2 hx3
   clear HW5
   have q1:=HQ5.out.c1
   have q3:=HQ5.out.c3
   go_region_held3 (fun w'=>w'.cell? ⟨wr.heap.size,1,none⟩=some (.slice A1 n1 c1)/\w'.cell? ⟨wr.heap.size,3,none⟩=some (.slice A2 n2 c2))
    (exact ⟨q1,q3⟩)
    (first
     | (have hz:=HZ1.out;clear hz;go_at_call 84;refine (nlen_any HO5.out.2 (by have:=HNN.out;omega)).mono ?_;rintro _ _ ⟨z2,rfl,hz2,rfl⟩;have HZ2:=ah (show z2=nlen x.den by rw [hz2.out,Dg.val_dg]))
     | (go_at_call 84;refine (nlen_any HO5.out.1 (by have:=HNN.out;omega)).mono ?_;rintro _ _ ⟨z1,rfl,hz1,rfl⟩;have HZ1:=ah (show z1=nlen x.num.natAbs by rw [hz1.out,Dg.val_dg])))
   all_goals
    have HVV:=ah (show max (max v z1) z2=ht (L.take (j+1)) from by rw [<- HV.out,HZ1.out,HZ2.out])
    rw [max3_if v z1 z2]
    clear q1 q3 hz1 hz2 HZ1 HZ2
    go_wp2
    go_roundw
    case rel=>exact ⟨j+1,max (max v z1) z2,rfl,by go_num,by omega,HVV,HF.out⟩
    case measure=>simp [intOf];omega
theorem qheight_any {N:Nat}{A:Option Addr}{n c:Nat}{L:List (Int × Int)}{w:World}(h:RdQs w w.heap.size N A n c L)(hd:∀ p ∈ L,p.2 ≠ 0)(hn:n<=1048576)(hN:N<=1000000000000)(h1N:1<=N) :
  Calls Tryz.prog 135 #[.slice A n c] w (RetKE (fun v kk=>v=(ht (L.map qval):Int)/\kk=0) w):=by
 have heg:=enters_of Tryz.func189 (by kernel_rfl) rfl
 have HS:=ah (show ∀ x ∈ L.map qval,Qs N x from fun x hx=>by
  obtain ⟨i,_,rfl⟩:=Pq.mem_co hx
  exact h.sz hd h1N i)
 go_enter Tryz.func135,Tryz.ntmps135
 go_wp2_with fail
 refine (made_int (N:=N) (Φ:=fun v kk=>v=(ht (L.map qval):Int)/\kk=0) h hn hN heg hd (fun W A' c' hb ho=>qheightIn_any (N:=N) ho HS.out hN hn)).mono ?_
 rintro _ W2 ⟨v,kk,rfl,hv,hb2⟩
 go_wp2
 go_ret2
 exact ⟨v,kk,rfl,hv,hb2⟩
theorem ix0 (a b:Int)(w:World):(Instr.index 180 (.agg #[.int .i64 a,.int .i64 b]) (.int .i64 0)).run Tryz.prog w=.ok (.int .i64 a) w:=by kernel_rfl
theorem ix1 (a b:Int)(w:World):(Instr.index 180 (.agg #[.int .i64 a,.int .i64 b]) (.int .i64 1)).run Tryz.prog w=.ok (.int .i64 b) w:=by kernel_rfl
theorem rQHeight_any {N:Nat}{A:Option Addr}{n c:Nat}{L:List (Int × Int)}{w:World}(h:RdQs w w.heap.size N A n c L)(hd:∀ p ∈ L,p.2 ≠ 0)(hn:n<=1048576)(hN:N<=1000000000000)(h1N:1<=N) :
  Calls Tryz.prog 96 #[.slice A n c] w (RetK (ht (L.map qval):Int) w):=by
 have H:=ah (show ∀ W,Below w.heap.size w W->RdQs W W.heap.size N A n c L from fun W hb=>h.next hb)
 have HL:=ah h.len
 have HD:=ah hd
 have HS:=ah (h.sz hd h1N)
 clear h hd
 go_enter Tryz.func96,Tryz.ntmps96
 go_wp2_with fail
 go_loopw [3,10] (fun nv iv wr=>∃ (j v:Nat),nv=.int .i64 (v:Int)/\iv=.int .i64 (j:Int)/\j<=n/\Hid (v=ht ((L.take j).map qval))/\Below w.heap.size w wr) (fun _ iv _=>n-(intOf iv).toNat)
 case atStart=>exact ⟨0,0,rfl,rfl,nZ,ah rfl,bR⟩
 case round =>
  obtain ⟨j,v,rfl,rfl,hj,hv,hB⟩:=hrel
  by_cases hjn:j=n
  ·have HV:=ah (show v=ht (L.map qval) from by rw [hv.out,hjn,List.take_of_length_le (by rw [HL.out];exact nR)])
   subst hjn
   have HF:=ah hB
   clear hB hv
   go_wp2
   go_ret
   exact ⟨_,rfl,ah (by rw [HV.out]),HF.out⟩
  ·have hjl:j < n:=by omega
   have hjli:(j:Int) < (n:Int):=by omega
   clear hjn
   obtain ⟨ad,s1,A1,n1,c1,s2,A2,n2,c2,z,d,rfl,hbk,hx0,hx1,hx2,hx3,hr1,hr2,hn1,hn2,hp⟩:=qs_at (H.out wr hB) hjl
   obtain ⟨W5,HW5⟩:∃ W,W=wr.alloc (.cells #[.bool s1,.slice A1 n1 c1,.bool s2,.slice A2 n2 c2] 47):=⟨_,rfl⟩
   have hb5:Below wr.heap.size wr W5:=by rw [HW5];exact bA
   have hQ5:QC W5 wr.heap.size s1 A1 n1 c1 s2 A2 n2 c2:=by rw [HW5];exact QC.new wr s1 A1 n1 c1 s2 A2 n2 c2
   have HQ5:=ah hQ5
   have HR5:=ah (cJ (hr1.next hb5) (hr2.next hb5))
   have HD1:=ah (HD.out _ (gM hp.out))
   have HXV:=ah (show Pq.co (L.map qval) j=Rat.divInt z d from Pq.co_get (by rw [List.getElem?_map,hp.out];rfl))
   have HF5:=ah (hB.trans (hb5.mono hB.size))
   have HWS:=ah hB.size
   have HTK:=ah (show ht ((L.take (j+1)).map qval)=max v (qbits (Rat.divInt z d)) from by
    rw [List.take_add_one,hp.out,List.map_append,show ((some (z,d)).toList).map qval=[Rat.divInt z d] from rfl,ht_snoc,hv.out])
   have HXS:=ah (show Qs N (Rat.divInt z d) from by rw [<- HXV.out];exact HS.out j)
   have q0:=hQ5.c0
   have q1:=hQ5.c1
   have q2:=hQ5.c2
   have q3:=hQ5.c3
   rw [HW5] at q0 q1 q2 q3
   have HW5:=ah HW5
   clear hb5 hQ5 hB hv hp hr1 hr2
   go_wp2_with fail
   rw [<- HW5.out]
   clear HW5 hx0 hx1 hx2 hx3 q0 q1 q2 q3
   clear HW5
   refine (rQNorm_any HR5.out.1 HR5.out.2 (by omega) (by omega) HD1.out).mono ?_
   rintro _ W6 ⟨s5,A5,n5,c5,s6,A6,n6,c6,y,rfl,ho6,hy,hb6⟩
   obtain rfl:=hy.out
   have hQ6:=HQ5.out.next hb6
   have f0:=hQ6.fz 0
   have f1:=hQ6.fz 1
   have f2:=hQ6.fz 2
   have f3:=hQ6.fz 3
   have q0:=hQ6.c0
   have q1:=hQ6.c1
   have q2:=hQ6.c2
   have q3:=hQ6.c3
   have HS7:=ah (hQ6.store s5 A5 n5 c5 s6 A6 n6 c6)
   have HO7:=ah (ho6.keep (keep_putQ hQ6 s5 A5 n5 c5 s6 A6 n6 c6))
   have HF7:=ah (below_putQ (HF5.out.trans (hb6.mono HF5.out.size)) (HWS.out) s5 A5 n5 c5 s6 A6 n6 c6)
   unfold putQ at HS7 HO7 HF7
   clear hQ6 ho6 hb6
   go_upto_region 6 with fail
   generalize (((W6.setCell ⟨wr.heap.size,0,none⟩ (.bool s5)).setCell ⟨wr.heap.size,1,none⟩ (.slice A5 n5 c5)).setCell ⟨wr.heap.size,2,none⟩ (.bool s6)).setCell ⟨wr.heap.size,3,none⟩ (.slice A6 n6 c6)=W7 at *
   clear q0 q1 q2 q3 f0 f1 f2 f3
   have q1:=HS7.out.c1
   have q3:=HS7.out.c3
   have HB8:=ah (Below.refl W7.heap.size W7).drew
   have HCC:=ah (show ∀ W,Below W7.heap.size W7 W->W.cell? ⟨wr.heap.size,1,none⟩=some (.slice A5 n5 c5)/\W.cell? ⟨wr.heap.size,3,none⟩=some (.slice A6 n6 c6) from fun W hb=>⟨(HS7.out.next hb).c1,(HS7.out.next hb).c3⟩)
   have HRD:=ah (show ∀ W,Below W7.heap.size W7 W->RdU W W.heap.size A5 n5 c5 (Dg.dg (Rat.divInt z d).num.natAbs)/\RdU W W.heap.size A6 n6 c6 (Dg.dg (Rat.divInt z d).den) from fun W hb=>⟨(HO7.out.num.own.next hb).rd,(HO7.out.den.own.next hb).rd⟩)
   have HNN:=ah (show n5<=N/\n6<=N from ⟨by rw [HO7.out.num.len];exact HXS.out.1,by rw [HO7.out.den.len];exact HXS.out.2⟩)
   go_region_held3 (fun w'=>w'.cell? ⟨wr.heap.size,1,none⟩=some (.slice A5 n5 c5)/\w'.cell? ⟨wr.heap.size,3,none⟩=some (.slice A6 n6 c6))
    (first | exact HCC.out _ HB9.out | exact HCC.out _ HB10.out | exact HCC.out _ HB8.out)
    (first
     | (have hz:=HZ1.out;clear hz;go_at_call 150;refine (rnlen_any (HRD.out _ HB9.out).2 (by have:=HNN.out;omega)).mono ?_;rintro _ W10 ⟨z2,rfl,hz2,hb10⟩;have HB10:=tM HB9 hb10;have HZ2:=ah (show z2=(nlen (Rat.divInt z d).den:Int) by rw [hz2.out,Dg.val_dg]))
     | (go_at_call 150;refine (rnlen_any (HRD.out _ HB8.out).1 (by have:=HNN.out;omega)).mono ?_;rintro _ W9 ⟨z1,rfl,hz1,hb9⟩;have HB9:=ah (HB8.out.trans hb9);have HZ1:=ah (show z1=(nlen (Rat.divInt z d).num.natAbs:Int) by rw [hz1.out,Dg.val_dg])))
   all_goals
    have HFF:=tM HF7 HB10.out
    obtain ⟨a,ha⟩:∃ a,a=nlen (Rat.divInt z d).num.natAbs:=⟨_,rfl⟩
    obtain ⟨b,hb⟩:∃ b,b=nlen (Rat.divInt z d).den:=⟨_,rfl⟩
    obtain rfl:z1=(a:Int):=by rw [HZ1.out,ha]
    obtain rfl:z2=(b:Int):=by rw [HZ2.out,hb]
    have HAB:=ah (show ht ((L.take (j+1)).map qval)=max (max v a) b from by rw [HTK.out,qbits,ha,hb,Nat.max_assoc])
    clear q1 q3 hz1 hz2 hb9 hb10 HZ1 HZ2 ha hb
    go_wp2_with fail
    go_loopw [3,25] (fun nv iv wx=>∃ (i m:Nat),nv=.int .i64 (m:Int)/\iv=.int .i64 (i:Int)/\Hid ((i=0/\m=v) ∨ (i=1/\m=max v a) ∨ (i=2/\m=max (max v a) b))/\wx=W10) (fun _ iv _=>2-(intOf iv).toNat)
    case atStart=>exact ⟨0,v,rfl,rfl,ah (.inl ⟨rfl,rfl⟩),rfl⟩
    case round =>
     obtain ⟨i,m,rfl,rfl,him,rfl⟩:=hrel
     rcases him.out with ⟨rfl,rfl⟩ | ⟨rfl,rfl⟩ | ⟨rfl,rfl⟩
     ·rcases Nat.lt_or_ge m a with hlt | hge
      ·have hli:(m:Int) < (a:Int):=by omega
       have HM:=ah (show a=max m a by omega)
       clear hlt him
       have e0:=fun W:World=>ix0 (a:Int) (b:Int) W
       have e1:=fun W:World=>ix1 (a:Int) (b:Int) W
       go_wp2
       go_roundw
       case rel=>exact ⟨1,a,rfl,by go_num,ah (.inr (.inl ⟨rfl,HM.out⟩)),by first | rfl | trivial⟩
       case measure=>simp [intOf]
      ·have hli:decide ((m:Int) < (a:Int))=false:=by simp only [decide_eq_false_iff_not];omega
       have hli2:¬(m:Int) < (a:Int):=by omega
       have HM:=ah (show m=max m a by omega)
       clear hge him
       have e0:=fun W:World=>ix0 (a:Int) (b:Int) W
       have e1:=fun W:World=>ix1 (a:Int) (b:Int) W
       go_wp2
       go_roundw
       case rel=>exact ⟨1,m,rfl,by go_num,ah (.inr (.inl ⟨rfl,HM.out⟩)),by first | rfl | trivial⟩
       case measure=>simp [intOf]
     ·generalize hq:max v a=q at *
      rcases Nat.lt_or_ge q b with hlt | hge
      ·have hli:(q:Int) < (b:Int):=by omega
       have HM:=ah (show b=max q b by omega)
       have HQ:=ah hq
       clear hlt him hq
       have e0:=fun W:World=>ix0 (a:Int) (b:Int) W
       have e1:=fun W:World=>ix1 (a:Int) (b:Int) W
       go_wp2
       go_roundw
       case rel=>exact ⟨2,b,rfl,by go_num,ah (.inr (.inr ⟨rfl,by first | exact HM.out | (rw [HQ.out];exact HM.out)⟩)),by first | rfl | trivial⟩
       case measure=>simp [intOf]
      ·have hli:decide ((q:Int) < (b:Int))=false:=by simp only [decide_eq_false_iff_not];omega
       have hli2:¬(q:Int) < (b:Int):=by omega
       have HM:=ah (show q=max q b by omega)
       have HQ:=ah hq
       clear hge him hq
       have e0:=fun W:World=>ix0 (a:Int) (b:Int) W
       have e1:=fun W:World=>ix1 (a:Int) (b:Int) W
       go_wp2
       go_roundw
       case rel=>exact ⟨2,q,rfl,by go_num,ah (.inr (.inr ⟨rfl,by first | exact HM.out | (rw [HQ.out];exact HM.out)⟩)),by first | rfl | trivial⟩
       case measure=>simp [intOf]
     ·clear him
      go_wp2
      go_roundw
      case rel=>exact ⟨j+1,max (max v a) b,rfl,by go_num,by omega,ah HAB.out.symm,HFF.out⟩
      case measure=>simp [intOf];omega
theorem pr_map' (L:List Rat):(L.map pr).map qval=L:=by
 rw [List.map_map]
 conv=>rhs;rw [<- List.map_id L]
 exact List.map_congr_left fun x _=>qval_pr x
theorem pr_okD' (L:List Rat):okD (L.map pr):=fun p hp=>by
 obtain ⟨x,_,rfl⟩:=List.mem_map.1 hp
 exact pr_ne x
def fpv (L:List (Int × Int)):Int:=if ¬okD L then 6 else if 101 < (nq L).length ∨ 4096 < ht (nq L) then 4 else 0
theorem fitPoly_any {N:Nat}{A:Option Addr}{n c:Nat}{L:List (Int × Int)}{w:World}(h:RdQs w w.heap.size N A n c L)(hn:n<=1048576)(hN:N<=1000000000000)(h1N:1<=N) :
  Calls Tryz.prog 68 #[.slice A n c] w (RetK (fpv L) w):=by
 have HH:=ah h
 have HB:=ah (cJ hn (cJ hN h1N))
 clear h hn hN h1N
 go_enter Tryz.func68,Tryz.ntmps68
 go_wp2_with fail
 refine (rPMay_any HH.out (by have:=HB.out.1;omega) (by have:=HB.out.2.1;omega)).mono ?_
 rintro _ W1 ⟨v,rfl,hv,hb1⟩
 have HB1:=ah hb1
 by_cases hd:okD L
 ·obtain rfl:v=true:=hv.out.2 hd
  have HD:=ah hd
  clear hv hb1 hd
  go_wp2_with fail
  refine (rqnorm_any (HH.out.next HB1.out) HD.out HB.out.1 HB.out.2.1).mono ?_
  rintro _ W2 ⟨A2,n2,c2,M,rfl,ho2,hM2,hb2⟩
  obtain rfl:M=nq L:=Pq.IsP.nrm hM2.out
  have HL2:=ah ho2.len
  have HO2:=ah ho2
  have HB2:=tM HB1 hb2
  clear ho2 hM2 hb2
  by_cases hl:101 < n2
  ·have hli:(101:Int) < (n2:Int):=by omega
   have HV:=ah (show fpv L=4 by unfold fpv;rw [if_neg (fun e=>e HD.out),if_pos (.inl (by rw [HL2.out];exact hl))])
   clear hl
   go_wp2
   go_ret
   exact ⟨4,rfl,ah HV.out.symm,HB2.out⟩
  ·have hli:¬(101:Int) < (n2:Int):=by omega
   have HNL:=ah hl
   clear hl
   go_wp2_with fail
   refine (rQHeight_any (N:=N) (HO2.out.rd (nq_qs HH.out HD.out HB.out.2.2)) (pr_okD' _) (by have:=HNL.out;omega) HB.out.2.1 HB.out.2.2).mono ?_
   rintro _ W3 ⟨z,rfl,hz,hb3⟩
   have HB3:=tM HB2 hb3
   have HZ:=ah (show z=(ht (nq L):Int) by rw [hz.out,pr_map'])
   clear hz hb3
   by_cases hh:4096 < ht (nq L)
   ·have hzi:(4096:Int) < z:=by rw [HZ.out];omega
    have HV:=ah (show fpv L=4 by unfold fpv;rw [if_neg (fun e=>e HD.out),if_pos (.inr hh)])
    clear hh
    go_wp2
    go_ret
    exact ⟨4,rfl,ah HV.out.symm,HB3.out⟩
   ·have hzi:¬(4096:Int) < z:=by rw [HZ.out];omega
    have HV:=ah (show fpv L=0 by unfold fpv;rw [if_neg (fun e=>e HD.out),if_neg (fun e=>e.elim (fun e=>HNL.out (by rw [<- HL2.out];exact e)) hh)])
    clear hh
    go_wp2
    go_ret
    exact ⟨0,rfl,ah HV.out.symm,HB3.out⟩
 ·obtain rfl:v=false:=by
   cases v with
   | false=>rfl
   | true=>exact absurd (hv.out.1 rfl) hd
  have HV:=ah (show fpv L=6 by unfold fpv;rw [if_pos hd])
  clear hv hb1 hd
  go_wp2
  go_ret
  exact ⟨6,rfl,ah HV.out.symm,HB1.out⟩
def Tg (w:World)(b t:Nat)(MM:List (List (List Rat)))(k:Nat):Prop:=∃ (A:Option Addr) (n c:Nat),PX w t 102 [.slice A n c,.int .i64 (k:Int)]/\b<=t/\OwPp w b A n c MM
structure Fine (N:Nat)(MM:List (List (List Rat))):Prop where
 rows:MM.length<=1048576
 cols:∀ LL ∈ MM,LL.length<=1048576
 len:∀ LL ∈ MM,∀ L ∈ LL,L.length<=1048576
 sz:∀ LL ∈ MM,∀ L ∈ LL,∀ x ∈ L,Qs N x
section
variable {w w':World}{b b' t k N N' K J:Nat}{A:Option Addr}{n c:Nat}{MM:List (List (List Rat))}{PP:List (List (List RawQ))}{kk kk':Int}
theorem Tg.next (h:Tg w b t MM k)(hb:Below w.heap.size w w'):Tg w' b t MM k:=by
 obtain ⟨A,n,c,h1,h2,h3⟩:=h
 exact ⟨A,n,c,h1.next hb,h2,OwL.next stayPp h3 hb⟩
theorem Tg.base (h:Tg w b t MM k)(hb:b'<=b):Tg w b' t MM k:=by
 obtain ⟨A,n,c,h1,h2,h3⟩:=h
 exact ⟨A,n,c,h1,nT hb h2,OwL.base stayPp h3 hb⟩
theorem rq_one (h:RdRpp w w.heap.size N K J A n c PP){RR:List (List RawQ)}(h1:RR ∈ PP):∃ (A1:Option Addr) (n1 c1:Nat),RdRp w w.heap.size N K A1 n1 c1 RR/\n1<=J:=by
 obtain ⟨j,hj,rfl⟩:=List.mem_iff_getElem.1 h1
 obtain ⟨ad,A1,n1,c1,_,_,_,h5,h6⟩:=h.at_ j _ (gE hj)
 exact ⟨A1,n1,c1,h5,h6⟩
theorem rq_two {RR:List (List RawQ)}(h:RdRp w w.heap.size N K A n c RR){R:List RawQ}(h1:R ∈ RR):∃ (A1:Option Addr) (n1 c1:Nat),RdRQ w w.heap.size A1 n1 c1 R/\n1<=K/\rsz R<=N:=by
 obtain ⟨j,hj,rfl⟩:=List.mem_iff_getElem.1 h1
 obtain ⟨ad,A1,n1,c1,_,_,_,h5,h6⟩:=h.at_ j _ (gE hj)
 exact ⟨A1,n1,c1,h5,h6⟩
theorem fine_nn (h:RdRpp w w.heap.size N K J A n c PP)(hok:okPP PP)(hn:n<=1048576)(hJ:J<=1048576)(hK:K<=1048576)(h1N:1<=N):Fine N (nn PP):=by
 refine ⟨by rw [nn,List.length_map,h.len];exact hn,fun LL hL=>?_,fun LL hL L hl=>?_,fun LL hL L hl x hx=>?_⟩
 ·obtain ⟨RR,h1,rfl⟩:=List.mem_map.1 hL
  obtain ⟨A1,n1,c1,h2,h3⟩:=rq_one h h1
  rw [List.length_map,h2.len]
  omega
 ·obtain ⟨RR,h1,rfl⟩:=List.mem_map.1 hL
  obtain ⟨R,h4,rfl⟩:=List.mem_map.1 hl
  obtain ⟨A1,n1,c1,h2,h3⟩:=rq_one h h1
  obtain ⟨A2,n2,c2,h5,h6,h7⟩:=rq_two h2 h4
  have e1:=nq_len (R.map toQ)
  have e2:R.length=n2:=h5.len
  rw [List.length_map] at e1
  show (nq (R.map toQ)).length<=_
  omega
 ·obtain ⟨RR,h1,rfl⟩:=List.mem_map.1 hL
  obtain ⟨R,h4,rfl⟩:=List.mem_map.1 hl
  obtain ⟨A1,n1,c1,h2,h3⟩:=rq_one h h1
  obtain ⟨A2,n2,c2,h5,h6,h7⟩:=rq_two h2 h4
  exact nq_qs (h5.rd h7) (hok RR h1 R h4) h1N x hx
def bigv (MM:List (List (List Rat))):Prop:=∃ LL ∈ MM,∃ L ∈ LL,101 < L.length ∨ 4096 < ht L
def colq (MM:List (List (List Rat))):Nat:=(MM.headD []).length
def Rect (MM:List (List (List Rat))):Prop:=∀ LL ∈ MM,LL.length=colq MM
def Bigg (MM:List (List (List Rat))):Prop:=24 < MM.length ∨ 24 < colq MM ∨ bigv MM
def FitV (PP:List (List (List RawQ)))(kk:Int):Prop:=(kk=6/\¬okPP PP) ∨ (kk=2/\okPP PP/\¬Rect (nn PP)) ∨ (kk=4/\okPP PP/\Rect (nn PP)/\Bigg (nn PP)) ∨ (kk=0/\okPP PP/\Rect (nn PP)/\¬Bigg (nn PP))
theorem FitV.uniq (h:FitV PP kk)(h':FitV PP kk'):kk=kk':=by
 rcases h with ⟨h1,h2⟩ | ⟨h1,h2,h3⟩ | ⟨h1,h2,h3,h4⟩ | ⟨h1,h2,h3,h4⟩ <;> rcases h' with ⟨g1,g2⟩ | ⟨g1,g2,g3⟩ | ⟨g1,g2,g3,g4⟩ | ⟨g1,g2,g3,g4⟩ <;> first | exact absurd h2 g2 | exact absurd g2 h2 | exact absurd h3 g3 | exact absurd g3 h3 | exact absurd h4 g4 | exact absurd g4 h4 | exact h1.trans g1.symm
theorem FitV.zero (h:FitV PP 0):okPP PP/\Rect (nn PP)/\¬Bigg (nn PP):=by
 rcases h with ⟨h1,_⟩ | ⟨h1,_⟩ | ⟨h1,_⟩ | ⟨_,h2⟩
 ·exact absurd h1 (by decide)
 ·exact absurd h1 (by decide)
 ·exact absurd h1 (by decide)
 ·exact h2
end
theorem bigv_more {MM:List (List (List Rat))}{j:Nat}{LL:List (List Rat)}(hp:MM[j]?=some LL)(h:¬bigv (MM.take j))(h1:∀ L ∈ LL,¬(101 < L.length ∨ 4096 < ht L)):¬bigv (MM.take (j+1)):=by
 rintro ⟨L1,hL1,L2,hL2,e⟩
 rw [List.take_add_one,hp] at hL1
 rcases List.mem_append.1 hL1 with h2 | h2
 ·exact h ⟨L1,h2,L2,hL2,e⟩
 ·simp at h2
  subst h2
  exact h1 L2 hL2 e
theorem big_any {N b t k:Nat}{MM:List (List (List Rat))}{w:World}(h:Tg w b t MM k)(hF:Fine N MM)(hN:N<=1000000000000)(h1N:1<=N) :
  Calls Tryz.prog 111 #[.pointer (some ⟨t,0,none⟩)] w (RetBo (bigv MM) w):=by
 obtain ⟨A,n,c,hT,hbt,ho⟩:=h
 have HL:=ah ho.len
 have HF:=ah hF
 have HX:=ah (show ∀ W,Below w.heap.size w W->OwPp W b A n c MM from fun W hb=>OwL.next stayPp ho hb)
 have k0:=hT.cell (i:=0) rfl
 have hn:n<=1048576:=by rw [<- ho.len];exact hF.rows
 clear ho hT hF
 go_enter Tryz.func111,Tryz.ntmps111
 go_wp2_with fail
 clear k0
 go_loopw [14] (fun iv wr=>∃ (j:Nat),iv=.int .i64 (j:Int)/\j<=n/\Hid (¬bigv (MM.take j))/\Below w.heap.size w wr) (fun iv _=>n-(intOf iv).toNat)
 case atStart=>exact ⟨0,rfl,nZ,ah (by rintro ⟨L,hL,_⟩;simp at hL),bR⟩
 case round =>
  obtain ⟨j,rfl,hj,hbg,hB⟩:=hrel
  by_cases hjn:j=n
  ·have HV:=ah (show ¬bigv MM by rw [<- List.take_of_length_le (l:=MM) (i:=j) (by rw [HL.out,hjn];exact nR)];exact hbg.out)
   have HBF:=ah hB
   subst hjn
   clear hbg hB
   go_wp2
   go_ret
   exact ⟨false,rfl,ah ⟨fun e=>by simp at e,fun e=>absurd e HV.out⟩,HBF.out⟩
  ·have hjl:j < n:=by omega
   have hjli:(j:Int) < (n:Int):=by omega
   obtain ⟨wo,rfl⟩:∃ V,V=wr:=⟨_,rfl⟩
   clear hjn
   obtain ⟨g,A1,n1,c1,LL,rfl,hgl,hx,ho1,hp⟩:=(HX.out wo hB).at_ hjl
   have HB3:=ah hB
   have HO1:=ah (show ∀ W,Below wo.heap.size wo W->OwP W b A1 n1 c1 LL from fun W hb=>OwL.next stayQP ho1 hb)
   have HL1:=ah ho1.len
   have HM:=ah (gM hp.out)
   have hn1:n1<=1048576:=by rw [<- ho1.len];exact HF.out.cols LL HM.out
   clear hB ho1
   go_wp2_with fail
   clear hx
   go_loopw [20] (fun iv wr=>∃ (i:Nat),iv=.int .i64 (i:Int)/\i<=n1/\Hid (∀ L ∈ LL.take i,¬(101 < L.length ∨ 4096 < ht L))/\Below wo.heap.size wo wr) (fun iv _=>n1-(intOf iv).toNat)
   case atStart=>exact ⟨0,rfl,nZ,ah (fun L hL=>by simp at hL),bR⟩
   case round =>
    obtain ⟨i,rfl,hi5,hq5,hB5⟩:=hrel
    by_cases hin:i=n1
    ·have HV:=ah (bigv_more hp.out hbg.out (by rw [<- List.take_of_length_le (l:=LL) (i:=i) (by rw [HL1.out,hin];exact nR)];exact hq5.out))
     have HB9:=tM HB3 hB5
     subst hin
     clear hq5 hB5 hbg
     go_wp2
     go_roundw
     case rel=>exact ⟨j+1,by go_num,by omega,HV,HB9.out⟩
     case measure=>simp [intOf];omega
    ·have hil:i < n1:=by omega
     have hili:(i:Int) < (n1:Int):=by omega
     clear hin
     obtain ⟨g6,A6,n6,c6,L,rfl,hgl6,hx6,ho6,hp6⟩:=(HO1.out wr hB5).at_ hil
     have HB5:=ah hB5
     have HM6:=ah (gM hp6.out)
     have HR6:=ah (ho6.rd (HF.out.sz LL HM.out L HM6.out))
     have HL6:=ah ho6.len
     have hn6:n6<=1048576:=by rw [<- ho6.len];exact HF.out.len LL HM.out L HM6.out
     clear ho6 hB5
     go_wp2_with fail
     clear hx6
     refine (qheight_any HR6.out (pr_okD' L) hn6 hN h1N).mono ?_
     rintro _ W7 ⟨v,kk,rfl,hv,hb7⟩
     have HB7:=tM HB5 hb7
     have HB8:=tM HB3 HB7.out
     have HV:=ah (show v=(ht L:Int) by rw [hv.out.1,pr_map'])
     clear hv hb7
     by_cases hl:101 < n6
     ·have hli:(100:Int) < (n6:Int)-1:=by omega
      have HY:=ah (show bigv MM from ⟨LL,HM.out,L,HM6.out,.inl (by rw [HL6.out];exact hl)⟩)
      clear hl
      go_wp2
      go_ret
      exact ⟨true,rfl,ah ⟨fun _=>HY.out,fun _=>rfl⟩,HB8.out⟩
     ·have hli:¬(100:Int) < (n6:Int)-1:=by omega
      have HNL:=ah (show ¬101 < L.length by rw [HL6.out];exact hl)
      clear hl
      by_cases hh:4096 < ht L
      ·have hzi:(4096:Int) < v:=by rw [HV.out];omega
       have HY:=ah (show bigv MM from ⟨LL,HM.out,L,HM6.out,.inr hh⟩)
       clear hh
       go_wp2
       go_ret
       exact ⟨true,rfl,ah ⟨fun _=>HY.out,fun _=>rfl⟩,HB8.out⟩
      ·have hzi:¬(4096:Int) < v:=by rw [HV.out];omega
       have HQ:=ah (show ∀ L ∈ LL.take (i+1),¬(101 < L.length ∨ 4096 < ht L) from fun L' h'=>by
        rw [List.take_add_one,hp6.out] at h'
        rcases List.mem_append.1 h' with h2 | h2
        ·exact hq5.out L' h2
        ·simp at h2
         subst h2
         exact fun e=>e.elim HNL.out hh)
       clear hh hq5
       go_wp2
       go_roundw
       case rel=>exact ⟨i+1,by go_num,by omega,HQ,HB7.out⟩
       case measure=>simp [intOf];omega
end Go.Proofs.YtjnklbfhelbjgaaGreat
