/- Sc18. -/
import Derived.Test.YtjnklbfhelbjgaaGreatSc16
import Derived.Test.YtjnklbfhelbjgaaGreatSc17
import Derived.Test.YtjnklbfhelbjgaaGreatSc11
import Derived.Test.YtjnklbfhelbjgaaGreatSc06
import Derived.Test.YtjnklbfhelbjgaaGreatSc15
import Derived.Test.YtjnklbfhelbjgaaGreatSc12
import Derived.Test.YtjnklbfhelbjgaaGreatSc00
set_option maxRecDepth 100000
set_option maxHeartbeats 32000000
set_option linter.all false
namespace Go.Proofs.YtjnklbfhelbjgaaGreat
open Go.RowKit Go.IntWalk
attribute [local go_sem ↓] Go.wp_at_zero Go.wp_at_succ
section
variable {w w':World}{g b:Nat}{s s':Bool}{A A' Al:Option Addr}{n c n' c' nl cl:Nat}
theorem heap_grown {w1:World}{e t:TypeId}{k i:Nat}{v:Value}{xs:List Value}{cs:Array Value}{f:Nat × Nat}(hE:w.ownsRow b e k v n xs)(hg:w.grownBy w1 v.ownBlock)(hi:w.heap[i]?=some (.cells cs t f))(ht:t ≠ e):w1.heap[i]?=some (.cells cs t f):=by
 rw [<- hi]
 refine hg.block i (Array.getElem?_eq_some_iff.1 hi).1 ?_
 rcases hE.2 with ⟨h1,_⟩ | ⟨g,cap,cur,h1,h2,h3,_⟩
 ·rw [h1]
  intro e0
  cases e0
 ·rw [h1]
  intro e0
  cases e0
  rw [hi] at h3
  injection h3 with h3
  injection h3 with _ h3
  exact ht h3
end
theorem QC.grown {w w1:World}{g b:Nat}{s s':Bool}{A A':Option Addr}{n c n' c' m:Nat}{xs:List Value}{v:Value}{k:Nat}(h:QC w g s A n c s' A' n' c')(hE:w.ownsRow b 73 k v m xs)(hg:w.grownBy w1 v.ownBlock):QC w1 g s A n c s' A' n' c':=heap_grown hE hg h (by decide)
def RetQcE (b:Nat)(Φ:Rat->Int->Prop)(w:World)(e:Ending)(w':World):Prop :=
 ∃ (s:Bool) (A:Option Addr) (n c:Nat) (s':Bool) (A':Option Addr) (n' c':Nat) (x:Rat) (kk:Int),e=.returned (.tuple #[.agg #[.bool s,.slice A n c,.bool s',.slice A' n' c'],.int .i64 kk])/\OwQ w' b s A n c s' A' n' c' x/\Hid (Φ x kk)/\Below w.heap.size w w'
theorem norms_rat {f N K:Nat}{A:Option Addr}{n c:Nat}{LL:List (List (Int × Int))}{w:World}{Φ:Rat->Int->Prop}(h:RdPs w w.heap.size N K A n c LL)(hn:n<=1048576)(hK:K<=1048576)(hN:N<=1000000000000)(h1N:1<=N)(heg:∀ args w,(callFunc f args).run Tryz.prog w=.ok (.enter f args) w)
  (hdo:(∀ L ∈ LL,∀ p ∈ L,p.2 ≠ 0)->∀ (W:World) (A':Option Addr) (c':Nat),Below w.heap.size w W->OwPs W w.heap.size A' n c' (LL.map nq)->Calls Tryz.prog f #[.slice A' n c'] W (RetQcE w.heap.size Φ W)) :
  Calls Tryz.prog 112 #[.slice A n c,.func (.func f) #[] #[]] w (fun e w'=>((∀ L ∈ LL,∀ p ∈ L,p.2 ≠ 0)/\RetQcE w.heap.size Φ w e w') ∨ ((∃ L ∈ LL,∃ p ∈ L,p.2=0)/\e=.returned (.tuple #[.agg #[.bool false,.slice none 0 0,.bool false,.slice none 0 0],.int .i64 6])/\Below w.heap.size w w')):=by
 have HD:=ah hdo
 have HLEN:=ah h.len
 obtain ⟨i0,hi,hz0,hz1,hz2⟩:=info_parts infoPoly
 have hb1:Below w.heap.size w ((w.alloc (.cells #[.bool false,.slice none 0 0,.bool false,.slice none 0 0] 47)).alloc (.cells #[.bool false,.slice none 0 0,.bool false,.slice none 0 0] 47)):=(bA).alloc (by simp) _
 have hR0:QC ((w.alloc (.cells #[.bool false,.slice none 0 0,.bool false,.slice none 0 0] 47)).alloc (.cells #[.bool false,.slice none 0 0,.bool false,.slice none 0 0] 47)) w.heap.size false none 0 0 false none 0 0:=(QC.new w false none 0 0 false none 0 0).next (bA)
 have hZ0:QC ((w.alloc (.cells #[.bool false,.slice none 0 0,.bool false,.slice none 0 0] 47)).alloc (.cells #[.bool false,.slice none 0 0,.bool false,.slice none 0 0] 47)) (w.heap.size+1) false none 0 0 false none 0 0:=by have:=QC.new (w.alloc (.cells #[.bool false,.slice none 0 0,.bool false,.slice none 0 0] 47)) false none 0 0 false none 0 0;simpa using this
 have HR0:=ah (cJ hb1 (cJ hR0 hZ0))
 clear hdo hb1 hR0 hZ0
 go_enter Tryz.func112,Tryz.ntmps112
 go_wp2_with fail
 generalize (w.alloc (.cells #[.bool false,.slice none 0 0,.bool false,.slice none 0 0] 47)).alloc (.cells #[.bool false,.slice none 0 0,.bool false,.slice none 0 0] 47)=W1 at *
 obtain ⟨gz,hgz⟩:∃ g,g=w.heap.size+1:=⟨_,rfl⟩
 rw [<- hgz] at HR0 ⊢
 have HGZ:=ah hgz
 clear hgz
 go_loopw [7,14] (fun ov iv wr=>∃ (j c':Nat) (A':Option Addr) (M:List (List Rat)),ov=.slice A' j c'/\iv=.int .i64 j/\j<=n/\OwPs wr w.heap.size A' j c' M/\Hid (M=(LL.take j).map nq)/\Hid (∀ (i:Nat) (L:List (Int × Int)),i < j->LL[i]?=some L->∀ p ∈ L,p.2 ≠ 0)/\Hid (QC wr w.heap.size false none 0 0 false none 0 0/\QC wr gz false none 0 0 false none 0 0)/\Below w.heap.size w wr) (fun _ iv _=>n-(intOf iv).toNat)
 case atStart=>exact ⟨0,0,none,[],rfl,rfl,nZ,OwPs.nil _ _,ah rfl,ah fun i p hi=>absurd hi (Nat.not_lt_zero _),ah HR0.out.2,HR0.out.1⟩
 case round =>
  obtain ⟨j,c',A',M,rfl,rfl,hj,ho,hM,hne,HX,hB⟩:=hrel
  by_cases hjn:j=n
  ·subst hjn
   have HALL:=ah (show ∀ L ∈ LL,∀ p ∈ L,p.2 ≠ 0 from fun L hp=>by
    obtain ⟨i,hi,e⟩:=List.mem_iff_getElem.1 hp
    exact hne.out i L (by rw [<- HLEN.out];exact hi) (by rw [gE hi,e]))
   have HO:=ah (show OwPs wr w.heap.size A' j c' (LL.map nq) by rw [<- List.take_of_length_le (l:=LL) (by rw [HLEN.out];exact nR),<- hM.out];exact ho)
   have HB:=ah hB
   clear ho hB hM hne
   go_wp2_with fail
   refine (HD.out HALL.out wr A' c' HB.out HO.out).mono ?_
   rintro _ W5 ⟨s1,A5,n5,c5,s2,A6,n6,c6,x,kk,rfl,ho5,hy,hb5⟩
   have hR:=HX.out.1.next hb5
   have r0:=hR.c0
   have r1:=hR.c1
   have r2:=hR.c2
   have r3:=hR.c3
   have f0:=hR.fz 0
   have f1:=hR.fz 1
   have f2:=hR.fz 2
   have f3:=hR.fz 3
   have HS:=ah (hR.store s1 A5 n5 c5 s2 A6 n6 c6)
   have HK:=ah (ho5.keep (keep_putQ hR s1 A5 n5 c5 s2 A6 n6 c6))
   have HBF:=ah (below_putQ (HB.out.trans (hb5.mono HB.out.size)) nR s1 A5 n5 c5 s2 A6 n6 c6)
   have z0:=HS.out.c0
   have z1:=HS.out.c1
   have z2:=HS.out.c2
   have z3:=HS.out.c3
   unfold putQ at HS HK HBF z0 z1 z2 z3
   clear hR ho5 hb5
   go_wp2_with fail
   exact bodyPost_ret (by simp [results,Tryz.results112,go_sem,z0,z1,z2,z3]) rfl (.inl ⟨HALL.out,s1,A5,n5,c5,s2,A6,n6,c6,x,kk,rfl,HK.out,hy,HBF.out⟩)
  ·have hjl:j < n:=by omega
   clear hjn
   have hjli:(j:Int) < (n:Int):=by omega
   obtain ⟨ad,A1,n1,c1,L,rfl,hbk,hx,hr,hn1,hp⟩:=ps_at h hjl
   have hy:=(hB.cell (p:=ad.add j) (by rw [add_blk];exact hbk)).trans hx
   have HR:=ah (hr.next hB)
   have HO:=ah ho
   clear hx hr ho
   go_wp2_with fail
   clear hy
   refine (qpnorm_any HR.out (by omega) hN h1N).mono ?_
   rintro _ W3 (⟨hall',A4,n4,c4,M4,rfl,ho4,hM4,hb3⟩ | ⟨hex,rfl,hb3⟩)
   ·have HALL:=ah hall'
    have hB3:=hB.trans (hb3.mono hB.size)
    obtain ⟨E,hE,hEl,hEn⟩:=HO.out.next hb3
    have HX3:=ah (show ∀ o,(QC (W3.alloc o) w.heap.size false none 0 0 false none 0 0)/\QC (W3.alloc o) gz false none 0 0 false none 0 0 from fun o=>⟨(HX.out.1.next hb3).next (bA),(HX.out.2.next hb3).next (bA)⟩)
    have HO4:=ah (ho4.base hB.size)
    have HE:=ah hE
    have HEN:=ah (cJ hEl (hEn.next (bR.alloc nR (.cells #[.slice A4 n4 c4] 73))))
    have HM2:=ah (show M ++ [M4]=(LL.take (j+1)).map nq by rw [hM.out,hM4.out];exact mapn_snoc hp.out)
    have HNE2:=ah (show ∀ (i:Nat) (L:List (Int × Int)),i < j+1->LL[i]?=some L->∀ p ∈ L,p.2 ≠ 0 from fun i L' hi hq=>by
     rcases Nat.lt_or_ge i j with h1 | h1
     ·exact hne.out i L' h1 hq
     ·rw [show i=j by omega,hp.out] at hq
      injection hq with hq
      rw [<- hq]
      exact HALL.out)
    have HB3:=ah hB3
    clear hE hEl hEn hb3 ho4 hB3 hB hM4 HO hne hM hall'
    go_wp2_with (at_builtin;refine wpList_append_own _ rfl _ _ 30 rfl w.heap.size 73 i0 (.slice none 0 0) 1 24 Tryz.underlying30 hi hz0 hz1 hz2 rfl (by decide) _ _ _ rfl (HE.out.alloc _) ⟨W3.heap.size,0,none⟩ 1 1 [.slice A4 n4 c4] rfl rfl (pcell_new _ _ _) (by simp [Value.oneCell']) (by unfold maxLen;omega) (by omega) (by have:=HB3.out.size;simp;omega) ?_;intro v' w1 hown' hgrow _)
    have hmore:=ps_more (e:=(A4,n4,c4)) (L:=M4) HO4.out rfl (HE.out.alloc _) HEN.out.1 HEN.out.2 hown' hgrow
    have HB5:=ah ((HB3.out.alloc HB3.out.size (.cells #[.slice A4 n4 c4] 73)).grown hgrow (by have:=HB3.out.size;simp;omega) (own_block HE.out))
    have HX5:=ah (cJ (QC.grown (HX3.out _).1 (HE.out.alloc _) hgrow) (QC.grown (HX3.out _).2 (HE.out.alloc _) hgrow))
    obtain ⟨A5,c5,rfl,ho5⟩:=hmore
    clear hown' hgrow HE HEN HO4
    go_wp2
    go_roundw
    case rel=>exact ⟨j+1,c5,A5,M ++ [M4],rfl,by go_num,by omega,ho5,HM2,HNE2,HX5,HB5.out⟩
    case measure=>simp [intOf];omega
   ·have HEX:=ah (show ∃ L ∈ LL,∃ p ∈ L,p.2=0 from ⟨L,gM hp.out,hex⟩)
    have hR:=HX.out.1.next hb3
    have hZ:=HX.out.2.next hb3
    have hB3:=hB.trans (hb3.mono hB.size)
    have r0:=hR.c0
    have r1:=hR.c1
    have r2:=hR.c2
    have r3:=hR.c3
    have f0:=hR.fz 0
    have f1:=hR.fz 1
    have f2:=hR.fz 2
    have f3:=hR.fz 3
    have q0:=hZ.c0
    have q1:=hZ.c1
    have q2:=hZ.c2
    have q3:=hZ.c3
    have HS:=ah (hR.store false none 0 0 false none 0 0)
    have HBF:=ah (below_putQ hB3 nR false none 0 0 false none 0 0)
    have z0:=HS.out.c0
    have z1:=HS.out.c1
    have z2:=HS.out.c2
    have z3:=HS.out.c3
    unfold putQ at HS HBF z0 z1 z2 z3
    clear hR hZ hB3 hB hb3
    go_wp2_with fail
    exact bodyPost_ret (by simp [results,Tryz.results112,go_sem,z0,z1,z2,z3]) rfl (.inr ⟨HEX.out,rfl,HBF.out⟩)
def PC (w:World)(g:Nat)(A:Option Addr)(n c:Nat)(A':Option Addr)(n' c':Nat)(A'':Option Addr)(n'' c'':Nat):Prop:=w.heap[g]?=some (.cells #[.slice A n c,.slice A' n' c',.slice A'' n'' c''] 262 (0,0))
structure Ow3 (w:World)(b:Nat)(A:Option Addr)(n c:Nat)(A':Option Addr)(n' c':Nat)(A'':Option Addr)(n'' c'':Nat)(P Q R:List Rat):Prop where
 p:OwQp w b A n c P
 q:OwQp w b A' n' c' Q
 r:OwQp w b A'' n'' c'' R
section
variable {w w':World}{g b b' B:Nat}{A A' A'':Option Addr}{n c n' c' n'' c'':Nat}{P Q R:List Rat}
theorem PC.lt (h:PC w g A n c A' n' c' A'' n'' c''):g < w.heap.size:=(Array.getElem?_eq_some_iff.1 h).1
theorem PC.c0 (h:PC w g A n c A' n' c' A'' n'' c''):w.cell? ⟨g,0,none⟩=some (.slice A n c):=by rw [cell_of_row w g 0 _ _ _ h];rfl
theorem PC.c1 (h:PC w g A n c A' n' c' A'' n'' c''):w.cell? ⟨g,1,none⟩=some (.slice A' n' c'):=by rw [cell_of_row w g 1 _ _ _ h];rfl
theorem PC.c2 (h:PC w g A n c A' n' c' A'' n'' c''):w.cell? ⟨g,2,none⟩=some (.slice A'' n'' c''):=by rw [cell_of_row w g 2 _ _ _ h];rfl
theorem PC.fz (h:PC w g A n c A' n' c' A'' n'' c'')(j:Nat):w.frozen? ⟨g,j,none⟩=false:=frozen_of_row w g j _ _ h
theorem PC.next (h:PC w g A n c A' n' c' A'' n'' c'')(hb:Below w.heap.size w w'):PC w' g A n c A' n' c' A'' n'' c'':=(hb.block g h.lt).trans h
theorem PC.new (w:World)(A:Option Addr)(n c:Nat)(A':Option Addr)(n' c':Nat)(A'':Option Addr)(n'' c'':Nat):PC (w.alloc (.cells #[.slice A n c,.slice A' n' c',.slice A'' n'' c''] 262)) w.heap.size A n c A' n' c' A'' n'' c'':=heap_alloc_new w _
theorem PC.grown {w1:World}{m:Nat}{xs:List Value}{v:Value}{k:Nat}(h:PC w g A n c A' n' c' A'' n'' c'')(hE:w.ownsRow b 73 k v m xs)(hg:w.grownBy w1 v.ownBlock):PC w1 g A n c A' n' c' A'' n'' c'':=heap_grown hE hg h (by decide)
def putP (w:World)(g:Nat)(A:Option Addr)(n c:Nat)(A':Option Addr)(n' c':Nat)(A'':Option Addr)(n'' c'':Nat):World:=((w.setCell ⟨g,0,none⟩ (.slice A n c)).setCell ⟨g,1,none⟩ (.slice A' n' c')).setCell ⟨g,2,none⟩ (.slice A'' n'' c'')
theorem PC.store (h:PC w g A n c A' n' c' A'' n'' c'')(D:Option Addr)(k m:Nat)(D':Option Addr)(k' m':Nat)(D'':Option Addr)(k'' m'':Nat):PC (putP w g D k m D' k' m' D'' k'' m'') g D k m D' k' m' D'' k'' m'':=by
 unfold PC putP at *
 simp [World.setCell,Array.getElem?_modify,h]
theorem keep_putP (h:PC w g A n c A' n' c' A'' n'' c'')(D:Option Addr)(k m:Nat)(D':Option Addr)(k' m':Nat)(D'':Option Addr)(k'' m'':Nat):KeepQ w (putP w g D k m D' k' m' D'' k'' m''):=by
 have key:∀ (i:Nat) (cs:Array Value) (t:TypeId) (f:Nat × Nat),t ≠ 262->w.heap[i]?=some (.cells cs t f)->(putP w g D k m D' k' m' D'' k'' m'').heap[i]?=some (.cells cs t f):=fun i cs t f ht e=>by
  have hne:i ≠ g:=by
   rintro rfl
   unfold PC at h
   rw [h] at e
   injection e with e
   injection e with _ e
   exact ht e.symm
  unfold putP
  rw [Below.heap_setCell _ (⟨g,2,none⟩:Addr) _ i hne,Below.heap_setCell _ (⟨g,1,none⟩:Addr) _ i hne,Below.heap_setCell _ (⟨g,0,none⟩:Addr) _ i hne]
  exact e
 exact ⟨fun i cs f=>key i cs _ f (by decide),fun i cs f=>key i cs _ f (by decide)⟩
theorem below_putP (hb:Below B w w')(hg:B<=g)(D:Option Addr)(k m:Nat)(D':Option Addr)(k' m':Nat)(D'':Option Addr)(k'' m'':Nat):Below B w (putP w' g D k m D' k' m' D'' k'' m'') :=
 ((hb.setCell (p:=⟨g,0,none⟩) hg _).setCell (p:=⟨g,1,none⟩) hg _).setCell (p:=⟨g,2,none⟩) hg _
theorem Ow3.keep (h:Ow3 w b A n c A' n' c' A'' n'' c'' P Q R)(hk:KeepQ w w'):Ow3 w' b A n c A' n' c' A'' n'' c'' P Q R:=⟨h.p.keep hk,h.q.keep hk,h.r.keep hk⟩
end
def RetP3 (b:Nat)(Φ:List Rat->List Rat->List Rat->Int->Prop)(w:World)(e:Ending)(w':World):Prop :=
 ∃ (A:Option Addr) (n c:Nat) (P:List Rat) (A':Option Addr) (n' c':Nat) (Q:List Rat) (A'':Option Addr) (n'' c'':Nat) (R:List Rat) (kk:Int),e=.returned (.tuple #[.agg #[.slice A n c,.slice A' n' c',.slice A'' n'' c''],.int .i64 kk])/\Ow3 w' b A n c A' n' c' A'' n'' c'' P Q R/\Hid (Φ P Q R kk)/\Below w.heap.size w w'
theorem norms_pair {f N K:Nat}{A:Option Addr}{n c:Nat}{LL:List (List (Int × Int))}{w:World}{Φ:List Rat->List Rat->List Rat->Int->Prop}(h:RdPs w w.heap.size N K A n c LL)(hn:n<=1048576)(hK:K<=1048576)(hN:N<=1000000000000)(h1N:1<=N)(heg:∀ args w,(callFunc f args).run Tryz.prog w=.ok (.enter f args) w)
  (hdo:(∀ L ∈ LL,∀ p ∈ L,p.2 ≠ 0)->∀ (W:World) (A':Option Addr) (c':Nat),Below w.heap.size w W->OwPs W w.heap.size A' n c' (LL.map nq)->Calls Tryz.prog f #[.slice A' n c'] W (RetP3 w.heap.size Φ W)) :
  Calls Tryz.prog 255 #[.slice A n c,.func (.func f) #[] #[]] w (fun e w'=>((∀ L ∈ LL,∀ p ∈ L,p.2 ≠ 0)/\RetP3 w.heap.size Φ w e w') ∨ ((∃ L ∈ LL,∃ p ∈ L,p.2=0)/\e=.returned (.tuple #[.agg #[.slice none 0 0,.slice none 0 0,.slice none 0 0],.int .i64 6])/\Below w.heap.size w w')):=by
 have HD:=ah hdo
 have HLEN:=ah h.len
 obtain ⟨i0,hi,hz0,hz1,hz2⟩:=info_parts infoPoly
 have hb1:Below w.heap.size w ((w.alloc (.cells #[.slice none 0 0,.slice none 0 0,.slice none 0 0] 262)).alloc (.cells #[.slice none 0 0,.slice none 0 0,.slice none 0 0] 262)):=(bA).alloc (by simp) _
 have hR0:PC ((w.alloc (.cells #[.slice none 0 0,.slice none 0 0,.slice none 0 0] 262)).alloc (.cells #[.slice none 0 0,.slice none 0 0,.slice none 0 0] 262)) w.heap.size none 0 0 none 0 0 none 0 0:=(PC.new w none 0 0 none 0 0 none 0 0).next (bA)
 have hZ0:PC ((w.alloc (.cells #[.slice none 0 0,.slice none 0 0,.slice none 0 0] 262)).alloc (.cells #[.slice none 0 0,.slice none 0 0,.slice none 0 0] 262)) (w.heap.size+1) none 0 0 none 0 0 none 0 0:=by have:=PC.new (w.alloc (.cells #[.slice none 0 0,.slice none 0 0,.slice none 0 0] 262)) none 0 0 none 0 0 none 0 0;simpa using this
 have HR0:=ah (cJ hb1 (cJ hR0 hZ0))
 clear hdo hb1 hR0 hZ0
 go_enter Tryz.func255,Tryz.ntmps255
 go_wp2_with fail
 generalize (w.alloc (.cells #[.slice none 0 0,.slice none 0 0,.slice none 0 0] 262)).alloc (.cells #[.slice none 0 0,.slice none 0 0,.slice none 0 0] 262)=W1 at *
 obtain ⟨gz,hgz⟩:∃ g,g=w.heap.size+1:=⟨_,rfl⟩
 rw [<- hgz] at HR0 ⊢
 have HGZ:=ah hgz
 clear hgz
 go_loopw [7,14] (fun ov iv wr=>∃ (j c':Nat) (A':Option Addr) (M:List (List Rat)),ov=.slice A' j c'/\iv=.int .i64 j/\j<=n/\OwPs wr w.heap.size A' j c' M/\Hid (M=(LL.take j).map nq)/\Hid (∀ (i:Nat) (L:List (Int × Int)),i < j->LL[i]?=some L->∀ p ∈ L,p.2 ≠ 0)/\Hid (PC wr w.heap.size none 0 0 none 0 0 none 0 0/\PC wr gz none 0 0 none 0 0 none 0 0)/\Below w.heap.size w wr) (fun _ iv _=>n-(intOf iv).toNat)
 case atStart=>exact ⟨0,0,none,[],rfl,rfl,nZ,OwPs.nil _ _,ah rfl,ah fun i p hi=>absurd hi (Nat.not_lt_zero _),ah HR0.out.2,HR0.out.1⟩
 case round =>
  obtain ⟨j,c',A',M,rfl,rfl,hj,ho,hM,hne,HX,hB⟩:=hrel
  by_cases hjn:j=n
  ·subst hjn
   have HALL:=ah (show ∀ L ∈ LL,∀ p ∈ L,p.2 ≠ 0 from fun L hp=>by
    obtain ⟨i,hi,e⟩:=List.mem_iff_getElem.1 hp
    exact hne.out i L (by rw [<- HLEN.out];exact hi) (by rw [gE hi,e]))
   have HO:=ah (show OwPs wr w.heap.size A' j c' (LL.map nq) by rw [<- List.take_of_length_le (l:=LL) (by rw [HLEN.out];exact nR),<- hM.out];exact ho)
   have HB:=ah hB
   clear ho hB hM hne
   go_wp2_with fail
   refine (HD.out HALL.out wr A' c' HB.out HO.out).mono ?_
   rintro _ W5 ⟨A5,n5,c5,P5,A6,n6,c6,P6,A7,n7,c7,P7,kk,rfl,ho5,hy,hb5⟩
   have hR:=HX.out.1.next hb5
   have r0:=hR.c0
   have r1:=hR.c1
   have r2:=hR.c2
   have f0:=hR.fz 0
   have f1:=hR.fz 1
   have f2:=hR.fz 2
   have HS:=ah (hR.store A5 n5 c5 A6 n6 c6 A7 n7 c7)
   have HK:=ah (ho5.keep (keep_putP hR A5 n5 c5 A6 n6 c6 A7 n7 c7))
   have HBF:=ah (below_putP (HB.out.trans (hb5.mono HB.out.size)) nR A5 n5 c5 A6 n6 c6 A7 n7 c7)
   have z0:=HS.out.c0
   have z1:=HS.out.c1
   have z2:=HS.out.c2
   unfold putP at HS HK HBF z0 z1 z2
   clear hR ho5 hb5
   go_wp2_with fail
   exact bodyPost_ret (by simp [results,Tryz.results255,go_sem,z0,z1,z2]) rfl (.inl ⟨HALL.out,A5,n5,c5,P5,A6,n6,c6,P6,A7,n7,c7,P7,kk,rfl,HK.out,hy,HBF.out⟩)
  ·have hjl:j < n:=by omega
   clear hjn
   have hjli:(j:Int) < (n:Int):=by omega
   obtain ⟨ad,A1,n1,c1,L,rfl,hbk,hx,hr,hn1,hp⟩:=ps_at h hjl
   have hy:=(hB.cell (p:=ad.add j) (by rw [add_blk];exact hbk)).trans hx
   have HR:=ah (hr.next hB)
   have HO:=ah ho
   clear hx hr ho
   go_wp2_with fail
   clear hy
   refine (qpnorm_any HR.out (by omega) hN h1N).mono ?_
   rintro _ W3 (⟨hall',A4,n4,c4,M4,rfl,ho4,hM4,hb3⟩ | ⟨hex,rfl,hb3⟩)
   ·have HALL:=ah hall'
    have hB3:=hB.trans (hb3.mono hB.size)
    obtain ⟨E,hE,hEl,hEn⟩:=HO.out.next hb3
    have HX3:=ah (show ∀ o,(PC (W3.alloc o) w.heap.size none 0 0 none 0 0 none 0 0)/\PC (W3.alloc o) gz none 0 0 none 0 0 none 0 0 from fun o=>⟨(HX.out.1.next hb3).next (bA),(HX.out.2.next hb3).next (bA)⟩)
    have HO4:=ah (ho4.base hB.size)
    have HE:=ah hE
    have HEN:=ah (cJ hEl (hEn.next (bR.alloc nR (.cells #[.slice A4 n4 c4] 73))))
    have HM2:=ah (show M ++ [M4]=(LL.take (j+1)).map nq by rw [hM.out,hM4.out];exact mapn_snoc hp.out)
    have HNE2:=ah (show ∀ (i:Nat) (L:List (Int × Int)),i < j+1->LL[i]?=some L->∀ p ∈ L,p.2 ≠ 0 from fun i L' hi hq=>by
     rcases Nat.lt_or_ge i j with h1 | h1
     ·exact hne.out i L' h1 hq
     ·rw [show i=j by omega,hp.out] at hq
      injection hq with hq
      rw [<- hq]
      exact HALL.out)
    have HB3:=ah hB3
    clear hE hEl hEn hb3 ho4 hB3 hB hM4 HO hne hM hall'
    go_wp2_with (at_builtin;refine wpList_append_own _ rfl _ _ 30 rfl w.heap.size 73 i0 (.slice none 0 0) 1 24 Tryz.underlying30 hi hz0 hz1 hz2 rfl (by decide) _ _ _ rfl (HE.out.alloc _) ⟨W3.heap.size,0,none⟩ 1 1 [.slice A4 n4 c4] rfl rfl (pcell_new _ _ _) (by simp [Value.oneCell']) (by unfold maxLen;omega) (by omega) (by have:=HB3.out.size;simp;omega) ?_;intro v' w1 hown' hgrow _)
    have hmore:=ps_more (e:=(A4,n4,c4)) (L:=M4) HO4.out rfl (HE.out.alloc _) HEN.out.1 HEN.out.2 hown' hgrow
    have HB5:=ah ((HB3.out.alloc HB3.out.size (.cells #[.slice A4 n4 c4] 73)).grown hgrow (by have:=HB3.out.size;simp;omega) (own_block HE.out))
    have HX5:=ah (cJ (PC.grown (HX3.out _).1 (HE.out.alloc _) hgrow) (PC.grown (HX3.out _).2 (HE.out.alloc _) hgrow))
    obtain ⟨A5,c5,rfl,ho5⟩:=hmore
    clear hown' hgrow HE HEN HO4
    go_wp2
    go_roundw
    case rel=>exact ⟨j+1,c5,A5,M ++ [M4],rfl,by go_num,by omega,ho5,HM2,HNE2,HX5,HB5.out⟩
    case measure=>simp [intOf];omega
   ·have HEX:=ah (show ∃ L ∈ LL,∃ p ∈ L,p.2=0 from ⟨L,gM hp.out,hex⟩)
    have hR:=HX.out.1.next hb3
    have hZ:=HX.out.2.next hb3
    have hB3:=hB.trans (hb3.mono hB.size)
    have r0:=hR.c0
    have r1:=hR.c1
    have r2:=hR.c2
    have f0:=hR.fz 0
    have f1:=hR.fz 1
    have f2:=hR.fz 2
    have q0:=hZ.c0
    have q1:=hZ.c1
    have q2:=hZ.c2
    have HS:=ah (hR.store none 0 0 none 0 0 none 0 0)
    have HBF:=ah (below_putP hB3 nR none 0 0 none 0 0 none 0 0)
    have z0:=HS.out.c0
    have z1:=HS.out.c1
    have z2:=HS.out.c2
    unfold putP at HS HBF z0 z1 z2
    clear hR hZ hB3 hB hb3
    go_wp2_with fail
    exact bodyPost_ret (by simp [results,Tryz.results255,go_sem,z0,z1,z2]) rfl (.inr ⟨HEX.out,rfl,HBF.out⟩)
theorem wpList_append_sl {P:Program}{w:World}{ops:Array Oper}{rest:List Oper}{o:Oper}{a:Act}{Q:Exit->Act->World->Prop}(hgd:o.guard=none)(s x:Operand)(t:TypeId)
  (ho:o.op=.call { callee:=.builtin .append,args:=#[s,x],argTypes:=#[t,t] })
  (base:Nat) (e:TypeId) (i:TypeInfo) (z:Value) (size bytes:Nat) (ht:P.underlying t=some (.slice e)) (hi:P.info? e=some i) (hz:i.zero=some z)
  (hsize:i.size=size) (hby:i.bytes=bytes) (hzs:z.cells.size=size) (hsz:0 < size)
  (v:Value) (n:Nat) (xs:List Value) (hs:a.eval s=v) (hown:w.ownsRow base e size v n xs)
  (X:Option Addr) (m c:Nat) (news:List Value) (hx:a.eval x=.slice X m c) (hl:news.length=m*size) (hnil:X=none->m=0) (hnews:∀ ad,X=some ad->∀ j u,news[j]?=some u->w.cell? (ad.add j)=some u) (h1:∀ u ∈ news,u.oneCell'=true)
  (h63:n+m<=maxLen) (hbytes:(n+m)*bytes<=140737488355328) (hbase:base<=w.heap.size)
  (h:∀ A' c' w',w'.ownsRow base e size (.slice A' (n+m) c') (n+m) (xs ++ news)->w.grownBy w' v.ownBlock->wpList P ops Q rest (a.put o.dst (.slice A' (n+m) c')) w'):wpList P ops Q (o :: rest) a w :=
 wpList_plain hgd fun _ hK=>wp_append_sl s x t ho base e i z size bytes ht hi hz hsize hby hzs hsz v n xs hs hown X m c news hx hl hnil hnews h1 h63 hbytes hbase fun A' c' w' h2 h3=>hK _ _ (h A' c' w' h2 h3)
theorem OwQp.news {w:World}{b:Nat}{A:Option Addr}{n c:Nat}{L:List Rat}(h:OwQp w b A n c L):∃ E:List (Ent × Ent),E.length=n/\EntQ w b E L/\(qcs E).length=n*4/\(A=none->n=0)/\∀ ad,A=some ad->∀ j u,(qcs E)[j]?=some u->w.cell? (ad.add j)=some u:=by
 obtain ⟨E,h1,h2,h3,h4,h5⟩:=h
 refine ⟨E,h1,h2,by rw [qcs_len,h1],?_,?_⟩
 ·intro e
  rcases h5 with h5 | ⟨g,cs,e2,_⟩
  ·exact h5
  ·rw [e] at e2;cases e2
 ·intro ad e j u hu
  rcases h5 with h5 | ⟨g,cs,e2,k2,k3,k4⟩
  ·rw [List.eq_nil_of_length_eq_zero (h1.trans h5)] at hu
   simp [qcs] at hu
  ·rw [e] at e2
   injection e2 with e2
   subst e2
   rw [add_base,cell_of_row w g j _ _ _ k3]
   exact k4 j u hu
theorem qdiv_lt {b N:Nat}{A A':Option Addr}{n c n' c':Nat}{La Lb:List Rat}{w:World}(h:OwQp w b A n c La)(h':RdQs w w.heap.size N A' n' c' (Lb.map pr))(hza:Pq.Nz La)(hlt:La.length < Lb.length)(hb:b<=w.heap.size)(hS:∀ x ∈ La,Qs N x)(hn:n<=1048576)(hN:N<=60000000000) :
  Calls Tryz.prog 196 #[.slice A n c,.slice A' n' c'] w (RetDv b La Lb w):=by
 have hla:La.length=n:=h.len
 have hlb:Lb.length=n':=h'.lenp
 have hnn:(n:Int) < (n':Int):=by omega
 obtain ⟨E,hE,hEn,hEl,hnil,hcell⟩:=h.news
 have HEN:=ah (cJ hEn (cJ hEl (cJ hnil hcell)))
 have HE:=ah hE
 have HS:=ah hS
 have HLT:=ah (cJ hza (cJ hlt hb))
 obtain ⟨i0,hi0,hz0,hz1,hz2⟩:=info_parts infoQ
 clear h h' hEn hE hEl hnil hcell hS hza hlt hb
 go_enter Tryz.func196,Tryz.ntmps196
 go_wp2_with (at_builtin;refine wpList_append_sl rfl _ _ 73 rfl w.heap.size 47 i0 (.agg #[.bool false,.slice none 0 0,.bool false,.slice none 0 0]) 4 64 Tryz.underlying73 hi0 hz0 hz1 hz2 rfl (by decide) (.slice none 0 0) 0 [] rfl (World.ownsRow_nil _ _ _ _) A n c (qcs E) rfl HEN.out.2.1 HEN.out.2.2.1 HEN.out.2.2.2 (qcs_one' E) (by unfold maxLen;omega) (by omega) nR ?_;intro A1 c1 w1 hown1 hgrow)
 have hb1:Below w.heap.size w w1:=bR.grown hgrow nR (fun k hk=>by cases hk)
 have hO1:OwQs w1 b A1 n c1 La:=⟨E,by have h1:=row_base hown1 HLT.out.2.2;rw [Nat.zero_add,List.nil_append] at h1;exact h1,HE.out,HEN.out.1.next hb1⟩
 have HO:=ah hO1.p
 have HB1:=ah hb1
 clear hown1 hgrow hO1 hb1
 go_loopw [0] (fun av wr=>av=.slice A1 n c1/\wr=w1) (fun av _=>lenOf av)
 case atStart=>exact ⟨rfl,rfl⟩
 case round =>
  obtain ⟨rfl,rfl⟩:=hrel
  go_wp2_with fail
  refine (qtrim_any (b:=b) (N:=N) (OwQp.nil _ _ none) (fun x hx=>by cases hx) (by decide) (by omega)).mono ?_
  rintro _ W2 ⟨A2,n2,c2,M2,rfl,ho2,hM2,hb2⟩
  have HO2:=ah (HO.out.next hb2)
  go_wp2_with fail
  refine (qtrim_any (b:=b) (N:=N) HO2.out HS.out (by omega) (by omega)).mono ?_
  rintro _ W3 ⟨A3,n3,c3,M3,rfl,ho3,hM3,hb3⟩
  have ho2:=ho2.next hb3
  have HB3:=ah (HB1.out.trans ((hb2.trans (hb3.mono hb2.size)).mono HB1.out.size))
  have HM:=ah (show Pq.IsD La Lb M2 M3 from by
   have e2:M2=[]:=hM2.out.unique (Pq.IsP.self Pq.nz_nil)
   have e3:M3=La:=hM3.out.unique (Pq.IsP.self HLT.out.1)
   rw [e2,e3]
   exact ⟨Pq.nz_nil,HLT.out.1,HLT.out.2.1,fun i=>by rw [show Pq.co []=fun _=>0 from funext Pq.co_nil,Pq.cv_zero_left,Rat.zero_add]⟩)
  clear hb2 hb3
  go_wp2
  go_ret2
  exact ⟨_,_,_,M2,_,_,_,M3,rfl,ho2,ho3,HM,HB3.out⟩
theorem qdiv_all {b N:Nat}{A A':Option Addr}{n c n' c':Nat}{La Lb:List Rat}{w:World}(h:OwQp w b A n c La)(h':RdQs w w.heap.size N A' n' c' (Lb.map pr))(hza:Pq.Nz La)(hzb:Pq.Nz Lb)(h0:0 < Lb.length)(hb:b<=w.heap.size)(hS:∀ j,SzQ N (Pq.drest Lb j La))(hn:n<=1048576)(hN:N<=60000000000)(h1N:1<=N) :
  Calls Tryz.prog 196 #[.slice A n c,.slice A' n' c'] w (RetDv b La Lb w):=by
 rcases Nat.lt_or_ge La.length Lb.length with hlt | hge
 ·exact qdiv_lt h h' hza hlt hb (hS 0).mem hn hN
 ·exact qdiv_run h h' hza hzb h0 hge hb hS hn hN h1N
theorem qDivIn_any {b N c:Nat}{A:Option Addr}{P Q:List Rat}{w:World}(h:OwPs w b A 2 c [P,Q])(hQ:∀ x ∈ Q,Qs N x)(hzp:Pq.Nz P)(hzq:Pq.Nz Q)(hw:b<=w.heap.size)(hS:0 < Q.length->∀ j,SzQ N (Pq.drest Q j P))(hp:P.length<=1048576)(hN:N<=60000000000)(h1N:1<=N) :
  Calls Tryz.prog 256 #[.slice A 2 c] w (RetP3 b (fun X Y _ kk=>(Q=[]/\X=[]/\Y=[]/\kk=5) ∨ (Q ≠ []/\Pq.IsD P Q X Y/\kk=0)) w):=by
 obtain ⟨g,A1,n1,c1,L1,rfl,hbk,hx,ho1,hL1⟩:=opl_at h (show 0 < 2 by decide)
 obtain ⟨g',A2,n2,c2,L2,e,_,hy,ho2,hL2⟩:=opl_at h (show 1 < 2 by decide)
 injection e with e
 injection e with e
 subst e
 obtain rfl:P=L1:=by simpa using hL1.out
 obtain rfl:Q=L2:=by simpa using hL2.out
 have hn1:n1<=1048576:=by rw [<- ho1.len];exact hp
 have HLQ:=ah ho2.len
 obtain ⟨W1,HW1⟩:∃ W,W=w.alloc (.cells #[.slice none 0 0,.slice none 0 0,.slice none 0 0] 262):=⟨_,rfl⟩
 have hR:PC W1 w.heap.size none 0 0 none 0 0 none 0 0:=by rw [HW1];exact PC.new w none 0 0 none 0 0 none 0 0
 have hB:Below w.heap.size w W1:=by rw [HW1];exact bA
 have HX:=ah (show ∀ W,Below W1.heap.size W1 W->(W.cell? ⟨g,0,none⟩=some (.slice A1 n1 c1)/\W.cell? ⟨g,1,none⟩=some (.slice A2 n2 c2))/\OwQp W b A1 n1 c1 P/\RdQs W W.heap.size N A2 n2 c2 (Q.map pr)/\b<=W.heap.size from fun W hb=>by
  have hb':=hB.trans (hb.mono hB.size)
  exact ⟨⟨(hb'.cell (p:=⟨g,0,none⟩) hbk).trans hx,(hb'.cell (p:=⟨g,1,none⟩) hbk).trans hy⟩,ho1.next hb',(ho2.next hb').rd hQ,nT hw hb'.size⟩)
 have HCX:=ah (show ∀ W,Below W1.heap.size W1 W->_ from fun W hb=>(HX.out W hb).1)
 have HR:=ah (cJ hR hB)
 obtain ⟨la0,la1⟩:=HCX.out W1 bR
 rw [HW1] at la0 la1
 have HW1:=ah HW1
 clear h hL1 hL2 ho1 ho2 hQ hR hB hx hy
 go_enter Tryz.func256,Tryz.ntmps256
 by_cases h0:n2=0
 ·have HQ:=ah (show Q=[] from List.eq_nil_of_length_eq_zero (by rw [HLQ.out];exact h0))
  subst h0
  go_wp2_with fail
  rw [<- HW1.out]
  clear HW1 la0 la1
  clear HW1
  have z0:=HR.out.1.c0
  have z1:=HR.out.1.c1
  have z2:=HR.out.1.c2
  exact bodyPost_ret (by simp [results,Tryz.results256,go_sem,z0,z1,z2]) rfl ⟨none,0,0,[],none,0,0,[],none,0,0,[],5,rfl,⟨OwQp.nil _ _ _,OwQp.nil _ _ _,OwQp.nil _ _ _⟩,ah (.inl ⟨HQ.out,rfl,rfl,rfl⟩),HR.out.2⟩
 ·have hbb:((n2:Int) == 0)=false:=by simp;omega
  have HQ:=ah (show Q ≠ [] from fun e=>h0 (by rw [<- HLQ.out,e];rfl))
  have h0l:0 < Q.length:=by rw [HLQ.out];omega
  clear h0
  go_upto_region 3 with fail
  rw [<- HW1.out]
  clear HW1 la0 la1
  clear HW1
  obtain ⟨la0,la1⟩:=HCX.out W1 bR
  have HBD:=ah (Below.refl W1.heap.size W1).drew
  go_region_held3 (fun w'=>w'.cell? ⟨g,0,none⟩=some (.slice A1 n1 c1)/\w'.cell? ⟨g,1,none⟩=some (.slice A2 n2 c2))
   (first | exact HCX.out _ HB3.out | exact HCX.out _ HBD.out)
   (first
    | (go_at_call 196;refine (qdiv_all (HX.out _ HBD.out).2.1 (HX.out _ HBD.out).2.2.1 hzp hzq h0l (HX.out _ HBD.out).2.2.2 (hS h0l) hn1 hN h1N).mono ?_;rintro _ W3 ⟨A3,n3,c3,X,A4,n4,c4,Y,rfl,ho3,ho4,hD,hb3⟩;have HB3:=tM HBD hb3))
  all_goals
   have hR3:=HR.out.1.next HB3.out
   have HB9:=ah (below_putP (HR.out.2.trans (HB3.out.mono HR.out.2.size)) (Nat.le_refl w.heap.size) A3 n3 c3 A4 n4 c4 none 0 0)
   have HS:=ah (hR3.store A3 n3 c3 A4 n4 c4 none 0 0)
   have HK:=ah ((⟨ho3,ho4,OwQp.nil _ _ none⟩:Ow3 W3 b A3 n3 c3 A4 n4 c4 none 0 0 X Y []).keep (keep_putP hR3 A3 n3 c3 A4 n4 c4 none 0 0))
   have r0:=hR3.c0
   have r1:=hR3.c1
   have r2:=hR3.c2
   have f0:=hR3.fz 0
   have f1:=hR3.fz 1
   have f2:=hR3.fz 2
   unfold putP at HS HB9 HK
   clear hR3 ho3 ho4 hb3 la0 la1
   go_wp2_with fail
   generalize ((W3.setCell ⟨w.heap.size,0,none⟩ (.slice A3 n3 c3)).setCell ⟨w.heap.size,1,none⟩ (.slice A4 n4 c4)).setCell ⟨w.heap.size,2,none⟩ (.slice none 0 0)=W9 at *
   have z0:=HS.out.c0
   have z1:=HS.out.c1
   have z2:=HS.out.c2
   exact bodyPost_ret (by simp [results,Tryz.results256,go_sem,z0,z1,z2]) rfl ⟨_,_,_,X,_,_,_,Y,_,_,_,[],0,rfl,HK.out,ah (.inr ⟨HQ.out,hD.out,rfl⟩),HB9.out⟩
def RetD3 (ok:Prop)(La Lb:List Rat)(w:World)(e:Ending)(w':World):Prop :=
 ∃ (A:Option Addr) (n c:Nat) (X:List Rat) (A':Option Addr) (n' c':Nat) (Y:List Rat) (kk:Int),e=.returned (.tuple #[.slice A n c,.slice A' n' c',.int .i64 kk])/\OwQp w' w.heap.size A n c X/\OwQp w' w.heap.size A' n' c' Y/\Hid ((ok/\((Lb=[]/\X=[]/\Y=[]/\kk=5) ∨ (Lb ≠ []/\Pq.IsD La Lb X Y/\kk=0))) ∨ (¬ok/\X=[]/\Y=[]/\kk=6))/\Below w.heap.size w w'
theorem qDiv_any {N N':Nat}{A A':Option Addr}{n c n' c':Nat}{L L':List (Int × Int)}{w:World}(h:RdQs w w.heap.size N A n c L)(h':RdQs w w.heap.size N A' n' c' L')(hn:n<=1048576)(hn':n'<=1048576)(hN:N<=N')(hN':N'<=60000000000)(h1N:1<=N)(hS:okD L->okD L'->0 < (nq L').length->∀ j,SzQ N' (Pq.drest (nq L') j (nq L))) :
  Calls Tryz.prog 247 #[.slice A n c,.slice A' n' c'] w (RetD3 (okD L/\okD L') (nq L) (nq L') w):=by
 have HEG:=ah (enters_of Tryz.func256 (by kernel_rfl) rfl)
 have HH:=ah (cJ h h')
 have HSS:=ah hS
 obtain ⟨W2,HW2⟩:∃ W,W=w.alloc (.cells #[.slice A n c,.slice A' n' c'] 73):=⟨_,rfl⟩
 have hps:=ah (ps_two (K:=1048576) h h' hn hn' HW2)
 have HB2:=ah (show Below w.heap.size w W2 by rw [HW2];exact bA)
 have HW2:=ah HW2
 clear h h' hS
 go_enter Tryz.func247,Tryz.ntmps247
 go_wp2_with fail
 rw [<- HW2.out]
 clear HW2
 clear HW2
 refine (norms_pair (f:=256) (Φ:=fun X Y _ kk=>(nq L'=[]/\X=[]/\Y=[]/\kk=5) ∨ (nq L' ≠ []/\Pq.IsD (nq L) (nq L') X Y/\kk=0)) hps.out (by decide) (by decide) (by omega) h1N HEG.out (fun hall W A' c' hb ho=>qDivIn_any (N:=N') (P:=nq L) (Q:=nq L') ho (fun x hx=>(nq_qs HH.out.2 (hall L' (by simp)) h1N x hx).mono hN) (Pq.nz_nrm _) (Pq.nz_nrm _) hb.size (HSS.out (hall L (by simp)) (hall L' (by simp))) (nT (nq_len L) (by rw [HH.out.1.len];exact hn)) hN' (nT h1N hN))).mono ?_
 intro e W3 hpost
 have hq:∃ (A:Option Addr) (n c:Nat) (X:List Rat) (A':Option Addr) (n' c':Nat) (Y:List Rat) (A'':Option Addr) (n'' c'':Nat) (kk:Int),e=.returned (.tuple #[.agg #[.slice A n c,.slice A' n' c',.slice A'' n'' c''],.int .i64 kk])/\OwQp W3 w.heap.size A n c X/\OwQp W3 w.heap.size A' n' c' Y/\Hid (((okD L/\okD L')/\((nq L'=[]/\X=[]/\Y=[]/\kk=5) ∨ (nq L' ≠ []/\Pq.IsD (nq L) (nq L') X Y/\kk=0))) ∨ (¬(okD L/\okD L')/\X=[]/\Y=[]/\kk=6))/\Below w.heap.size w W3:=by
  rcases hpost with ⟨hall,A1,n1,c1,X,A2,n2,c2,Y,A3,n3,c3,Z,kk,h1,h2,h3,h4⟩ | ⟨⟨L0,hL0,p,hp,hp0⟩,h1,h2⟩
  ·exact ⟨A1,n1,c1,X,A2,n2,c2,Y,A3,n3,c3,kk,h1,h2.p.base HB2.out.size,h2.q.base HB2.out.size,ah (.inl ⟨⟨hall L (by simp),hall L' (by simp)⟩,h3.out⟩),HB2.out.trans (h4.mono HB2.out.size)⟩
  ·refine ⟨none,0,0,[],none,0,0,[],none,0,0,6,h1,OwQp.nil _ _ _,OwQp.nil _ _ _,ah (.inr ⟨fun ⟨e1,e2⟩=>?_,rfl,rfl,rfl⟩),HB2.out.trans (h2.mono HB2.out.size)⟩
   rcases List.mem_cons.1 hL0 with rfl | h3
   ·exact e1 p hp hp0
   ·obtain rfl:=List.mem_singleton.1 h3
    exact e2 p hp hp0
 obtain ⟨A1,n1,c1,X,A2,n2,c2,Y,A3,n3,c3,kk,rfl,ho1,ho2,hv,hb3⟩:=hq
 obtain ⟨W4,HW4⟩:∃ W,W=W3.alloc (.cells #[.slice A1 n1 c1,.slice A2 n2 c2,.slice A3 n3 c3] 262):=⟨_,rfl⟩
 have hP:PC W4 W3.heap.size A1 n1 c1 A2 n2 c2 A3 n3 c3:=by rw [HW4];exact PC.new W3 A1 n1 c1 A2 n2 c2 A3 n3 c3
 have hb4:Below W3.heap.size W3 W4:=by rw [HW4];exact bA
 have HB4:=ah (hb3.trans (hb4.mono hb3.size)).drew
 have HO:=ah (cJ ((ho1.next hb4).next bR.drew) ((ho2.next hb4).next bR.drew))
 have k0:=hP.c0
 have k1:=hP.c1
 have HW4:=ah HW4
 clear hP hb3 hb4 ho1 ho2 hpost
 go_upto_region 2 with fail
 rw [<- HW4.out]
 clear HW4
 clear HW4
 go_region_law (fail)
 all_goals
  go_wp2
  go_ret3
  exact ⟨_,_,_,X,_,_,_,Y,kk,rfl,HO.out.1,HO.out.2,hv,HB4.out⟩
def RetBE (Φ:Bool->Int->Prop)(w:World)(e:Ending)(w':World):Prop :=
 ∃ (v:Bool) (kk:Int),e=.returned (.tuple #[.bool v,.int .i64 kk])/\Hid (Φ v kk)/\Below w.heap.size w w'
theorem norms_bool {f N K:Nat}{A:Option Addr}{n c:Nat}{LL:List (List (Int × Int))}{w:World}{Φ:Bool->Int->Prop}(h:RdPs w w.heap.size N K A n c LL)(hn:n<=1048576)(hK:K<=1048576)(hN:N<=1000000000000)(h1N:1<=N)(heg:∀ args w,(callFunc f args).run Tryz.prog w=.ok (.enter f args) w)
  (hdo:(∀ L ∈ LL,∀ p ∈ L,p.2 ≠ 0)->∀ (W:World) (A':Option Addr) (c':Nat),Below w.heap.size w W->OwPs W w.heap.size A' n c' (LL.map nq)->Calls Tryz.prog f #[.slice A' n c'] W (RetBE Φ W)) :
  Calls Tryz.prog 147 #[.slice A n c,.func (.func f) #[] #[]] w fun e w'=>((∀ L ∈ LL,∀ p ∈ L,p.2 ≠ 0)/\RetBE Φ w e w') ∨ ((∃ L ∈ LL,∃ p ∈ L,p.2=0)/\e=.returned (.tuple #[.bool false,.int .i64 6])/\Below w.heap.size w w'):=by
 have HD:=ah hdo
 have HLEN:=ah h.len
 obtain ⟨i0,hi,hz0,hz1,hz2⟩:=info_parts infoPoly
 clear hdo
 go_enter Tryz.func147,Tryz.ntmps147
 go_wp2_with fail
 go_loopw [7,14] (fun ov iv wr=>∃ (j c':Nat) (A':Option Addr) (M:List (List Rat)),ov=.slice A' j c'/\iv=.int .i64 j/\j<=n/\OwPs wr w.heap.size A' j c' M/\Hid (M=(LL.take j).map nq)/\Hid (∀ (i:Nat) (L:List (Int × Int)),i < j->LL[i]?=some L->∀ p ∈ L,p.2 ≠ 0)/\Below w.heap.size w wr) (fun _ iv _=>n-(intOf iv).toNat)
 case atStart=>exact ⟨0,0,none,[],rfl,rfl,nZ,OwPs.nil _ _,ah rfl,ah fun i p hi=>absurd hi (Nat.not_lt_zero _),bR⟩
 case round =>
  obtain ⟨j,c',A',M,rfl,rfl,hj,ho,hM,hne,hB⟩:=hrel
  by_cases hjn:j=n
  ·subst hjn
   have HALL:=ah (show ∀ L ∈ LL,∀ p ∈ L,p.2 ≠ 0 from fun L hp=>by
    obtain ⟨i,hi,e⟩:=List.mem_iff_getElem.1 hp
    exact hne.out i L (by rw [<- HLEN.out];exact hi) (by rw [gE hi,e]))
   have HO:=ah (show OwPs wr w.heap.size A' j c' (LL.map nq) by rw [<- List.take_of_length_le (l:=LL) (by rw [HLEN.out];exact nR),<- hM.out];exact ho)
   have HB:=ah hB
   clear ho hB hM hne
   go_wp2_with fail
   refine (HD.out HALL.out wr A' c' HB.out HO.out).mono ?_
   rintro _ W5 ⟨v,kk,rfl,hy,hb5⟩
   go_wp2
   exact bodyPost_ret (by simp [results,Tryz.results147,go_sem]) rfl (.inl ⟨HALL.out,v,kk,rfl,hy,HB.out.trans (hb5.mono HB.out.size)⟩)
  ·have hjl:j < n:=by omega
   clear hjn
   have hjli:(j:Int) < (n:Int):=by omega
   obtain ⟨ad,A1,n1,c1,L,rfl,hbk,hx,hr,hn1,hp⟩:=ps_at h hjl
   have hy:=(hB.cell (p:=ad.add j) (by rw [add_blk];exact hbk)).trans hx
   have HR:=ah (hr.next hB)
   have HO:=ah ho
   clear hx hr ho
   go_wp2_with fail
   clear hy
   refine (qpnorm_any HR.out (by omega) hN h1N).mono ?_
   rintro _ W3 (⟨hall,A4,n4,c4,M4,rfl,ho4,hM4,hb3⟩ | ⟨hex,rfl,hb3⟩)
   ·have HALL:=ah hall
    have hB3:=hB.trans (hb3.mono hB.size)
    obtain ⟨E,hE,hEl,hEn⟩:=HO.out.next hb3
    have HO4:=ah (ho4.base hB.size)
    have HE:=ah hE
    have HEN:=ah (cJ hEl (hEn.next (bR.alloc nR (.cells #[.slice A4 n4 c4] 73))))
    have HM2:=ah (show M ++ [M4]=(LL.take (j+1)).map nq by rw [hM.out,hM4.out];exact mapn_snoc hp.out)
    have HNE2:=ah (show ∀ (i:Nat) (L:List (Int × Int)),i < j+1->LL[i]?=some L->∀ p ∈ L,p.2 ≠ 0 from fun i L' hi hq=>by
     rcases Nat.lt_or_ge i j with h1 | h1
     ·exact hne.out i L' h1 hq
     ·rw [show i=j by omega,hp.out] at hq
      injection hq with hq
      rw [<- hq]
      exact HALL.out)
    have HB3:=ah hB3
    clear hE hEl hEn hb3 ho4 hB3 hB hM4 HO hne hM hall
    go_wp2_with (at_builtin;refine wpList_append_own _ rfl _ _ 30 rfl w.heap.size 73 i0 (.slice none 0 0) 1 24 Tryz.underlying30 hi hz0 hz1 hz2 rfl (by decide) _ _ _ rfl (HE.out.alloc _) ⟨W3.heap.size,0,none⟩ 1 1 [.slice A4 n4 c4] rfl rfl (pcell_new _ _ _) (by simp [Value.oneCell']) (by unfold maxLen;omega) (by omega) (by have:=HB3.out.size;simp;omega) ?_;intro v' w1 hown' hgrow _)
    have hmore:=ps_more (e:=(A4,n4,c4)) (L:=M4) HO4.out rfl (HE.out.alloc _) HEN.out.1 HEN.out.2 hown' hgrow
    have HB5:=ah ((HB3.out.alloc HB3.out.size (.cells #[.slice A4 n4 c4] 73)).grown hgrow (by have:=HB3.out.size;simp;omega) (own_block HE.out))
    obtain ⟨A5,c5,rfl,ho5⟩:=hmore
    clear hown' hgrow HE HEN HO4
    go_wp2
    go_roundw
    case rel=>exact ⟨j+1,c5,A5,M ++ [M4],rfl,by go_num,by omega,ho5,HM2,HNE2,HB5.out⟩
    case measure=>simp [intOf];omega
   ·have HEX:=ah (show ∃ L ∈ LL,∃ p ∈ L,p.2=0 from ⟨L,gM hp.out,hex⟩)
    go_wp2
    exact bodyPost_ret (by simp [results,Tryz.results147,go_sem]) rfl (.inr ⟨HEX.out,rfl,hB.trans (hb3.mono hB.size)⟩)
def RetOb (ok:Prop)(P:Prop)(w:World)(e:Ending)(w':World):Prop :=
 ∃ (v:Bool) (kk:Int),e=.returned (.tuple #[.bool v,.int .i64 kk])/\Hid ((ok/\(v=true ↔ P)/\kk=0) ∨ (¬ok/\v=false/\kk=6))/\Below w.heap.size w w'
def Dvd (a b:List Rat):Prop:=(a=[]/\b=[]) ∨ (a ≠ []/\∀ Q R,Pq.IsD b a Q R->R=[])
theorem dvd_nil {b:List Rat}:Dvd [] b ↔ b=[]:=by
 constructor
 ·rintro (h | h)
  ·exact h.2
  ·exact absurd rfl h.1
 ·intro h;exact .inl ⟨rfl,h⟩
theorem dvd_of {a b Q R:List Rat}(ha:a ≠ [])(hz:Pq.Nz a)(h:Pq.IsD b a Q R):Dvd a b ↔ R=[]:=by
 constructor
 ·rintro (h1 | h1)
  ·exact absurd h1.1 ha
  ·exact h1.2 Q R h
 ·intro e
  refine .inr ⟨ha,fun Q' R' h'=>?_⟩
  rw [(Pq.IsD.unique hz h' h).2,e]
theorem qdivides_any {b N:Nat}{A A':Option Addr}{n c n' c':Nat}{La Lb:List Rat}{w:World}(ha:RdQs w w.heap.size N A n c (La.map pr))(hb:OwQp w b A' n' c' Lb)(hza:Pq.Nz La)(hzb:Pq.Nz Lb)(hw:b<=w.heap.size)(hS:0 < La.length->∀ j,SzQ N (Pq.drest La j Lb))(hn:n'<=1048576)(hN:N<=60000000000)(h1N:1<=N) :
  Calls Tryz.prog 149 #[.slice A n c,.slice A' n' c'] w (RetBo (Dvd La Lb) w):=by
 have hla:La.length=n:=ha.lenp
 have hlb:Lb.length=n':=hb.len
 go_enter Tryz.func149,Tryz.ntmps149
 by_cases h0:n=0
 ·have HL:=ah (show La=[] from List.eq_nil_of_length_eq_zero (by omega))
  have HLB:=ah hlb
  subst h0
  clear ha hb hza hzb hS hla hlb
  by_cases h1:n'=0
  ·have HB:=ah (show Lb=[] from List.eq_nil_of_length_eq_zero (by rw [HLB.out];exact h1))
   subst h1
   go_wp2
   go_ret
   exact ⟨true,rfl,ah ⟨fun _=>by rw [HL.out,dvd_nil];exact HB.out,fun _=>rfl⟩,bR⟩
  ·have hbb:((n':Int) == 0)=false:=by simp;omega
   have HB:=ah (show Lb ≠ [] from fun e=>h1 (by rw [<- HLB.out,e];rfl))
   clear h1
   go_wp2
   go_ret
   exact ⟨false,rfl,ah ⟨fun e=>by simp at e,fun e=>absurd (dvd_nil.1 (by rw [<- HL.out];exact e)) HB.out⟩,bR⟩
 ·have hbb:((n:Int) == 0)=false:=by simp;omega
  have HL:=ah (show La ≠ [] from fun e=>h0 (by rw [<- hla,e];rfl))
  have h0l:0 < La.length:=by omega
  have HZ:=ah hza
  clear h0
  go_wp2_with fail
  refine (qdiv_all hb ha hzb hza h0l hw (hS h0l) hn hN h1N).mono ?_
  rintro _ W2 ⟨A2,n2,c2,Q,A3,n3,c3,R,rfl,ho2,ho3,hD,hb2⟩
  have HD:=ah (dvd_of HL.out HZ.out hD.out)
  have HR:=ah ho3.len
  clear ho2 ho3 hS ha hb hza hzb hla hlb
  by_cases h3:n3=0
  ·have HN3:=ah (show R=[] from List.eq_nil_of_length_eq_zero (by rw [HR.out];exact h3))
   subst h3
   go_wp2
   go_ret
   exact ⟨true,rfl,ah ⟨fun _=>HD.out.2 HN3.out,fun _=>rfl⟩,hb2⟩
  ·have hb3:((n3:Int) == 0)=false:=by simp;omega
   have HN3:=ah (show R ≠ [] from fun e=>h3 (by rw [<- HR.out,e];rfl))
   clear h3
   go_wp2
   go_ret
   exact ⟨false,rfl,ah ⟨fun e=>by simp at e,fun e=>absurd (HD.out.1 e) HN3.out⟩,hb2⟩
theorem qDividesIn_any {b N c:Nat}{A:Option Addr}{P Q:List Rat}{w:World}(h:OwPs w b A 2 c [P,Q])(hP:∀ x ∈ P,Qs N x)(hzp:Pq.Nz P)(hzq:Pq.Nz Q)(hw:b<=w.heap.size)(hS:0 < P.length->∀ j,SzQ N (Pq.drest P j Q))(hq:Q.length<=1048576)(hN:N<=60000000000)(h1N:1<=N) :
  Calls Tryz.prog 148 #[.slice A 2 c] w (RetBE (fun v kk=>(v=true ↔ Dvd P Q)/\kk=0) w):=by
 obtain ⟨g,A1,n1,c1,L1,rfl,hbk,hx,ho1,hL1⟩:=opl_at h (show 0 < 2 by decide)
 obtain ⟨g',A2,n2,c2,L2,e,_,hy,ho2,hL2⟩:=opl_at h (show 1 < 2 by decide)
 injection e with e
 injection e with e
 subst e
 obtain rfl:P=L1:=by simpa using hL1.out
 obtain rfl:Q=L2:=by simpa using hL2.out
 have hn2:n2<=1048576:=by rw [<- ho2.len];exact hq
 have HX:=ah (show ∀ W,Below w.heap.size w W->(W.cell? ⟨g,0,none⟩=some (.slice A1 n1 c1)/\W.cell? ⟨g,1,none⟩=some (.slice A2 n2 c2))/\RdQs W W.heap.size N A1 n1 c1 (P.map pr)/\OwQp W b A2 n2 c2 Q/\b<=W.heap.size from fun W hb=>⟨⟨(hb.cell (p:=⟨g,0,none⟩) hbk).trans hx,(hb.cell (p:=⟨g,1,none⟩) hbk).trans hy⟩,(ho1.next hb).rd hP,ho2.next hb,nT hw hb.size⟩)
 have HBD:=ah (Below.refl w.heap.size w).drew
 have HCX:=ah (show ∀ W,Below w.heap.size w W->_ from fun W hb=>(HX.out W hb).1)
 clear h hL1 hL2 ho1 ho2 hP
 go_enter Tryz.func148,Tryz.ntmps148
 go_wp2_with fail
 go_region_held3 (fun w'=>w'.cell? ⟨g,0,none⟩=some (.slice A1 n1 c1)/\w'.cell? ⟨g,1,none⟩=some (.slice A2 n2 c2))
  (first | exact HCX.out _ HB3.out | exact HCX.out _ HBD.out)
  (first
   | (go_at_call 149;refine (qdivides_any (HX.out _ HBD.out).2.1 (HX.out _ HBD.out).2.2.1 hzp hzq (HX.out _ HBD.out).2.2.2 hS hn2 hN h1N).mono ?_;rintro _ W3 ⟨v,rfl,hv,hb3⟩;have HB3:=tM HBD hb3))
 all_goals
  go_wp2
  go_ret2
  exact ⟨v,0,rfl,ah ⟨hv.out,rfl⟩,HB3.out⟩
theorem qDivides_any {N N':Nat}{A A':Option Addr}{n c n' c':Nat}{L L':List (Int × Int)}{w:World}(h:RdQs w w.heap.size N A n c L)(h':RdQs w w.heap.size N A' n' c' L')(hn:n<=1048576)(hn':n'<=1048576)(hN:N<=N')(hN':N'<=60000000000)(h1N:1<=N)(hS:okD L->okD L'->0 < (nq L).length->∀ j,SzQ N' (Pq.drest (nq L) j (nq L'))) :
  Calls Tryz.prog 94 #[.slice A n c,.slice A' n' c'] w (RetOb (okD L/\okD L') (Dvd (nq L) (nq L')) w):=by
 have HEG:=ah (enters_of Tryz.func148 (by kernel_rfl) rfl)
 have HH:=ah (cJ h h')
 have HSS:=ah hS
 obtain ⟨W2,HW2⟩:∃ W,W=w.alloc (.cells #[.slice A n c,.slice A' n' c'] 73):=⟨_,rfl⟩
 have hps:=ah (ps_two (K:=1048576) h h' hn hn' HW2)
 have HB2:=ah (show Below w.heap.size w W2 by rw [HW2];exact bA)
 have HW2:=ah HW2
 clear h h' hS
 go_enter Tryz.func94,Tryz.ntmps94
 go_wp2_with fail
 rw [<- HW2.out]
 clear HW2
 clear HW2
 refine (norms_bool (f:=148) (Φ:=fun v kk=>(v=true ↔ Dvd (nq L) (nq L'))/\kk=0) hps.out (by decide) (by decide) (by omega) h1N HEG.out (fun hall W A' c' hb ho=>qDividesIn_any (N:=N') (P:=nq L) (Q:=nq L') ho (fun x hx=>(nq_qs HH.out.1 (hall L (by simp)) h1N x hx).mono hN) (Pq.nz_nrm _) (Pq.nz_nrm _) hb.size (HSS.out (hall L (by simp)) (hall L' (by simp))) (nT (nq_len L') (by rw [HH.out.2.len];exact hn')) hN' (nT h1N hN))).mono ?_
 intro e W3 hpost
 rcases hpost with ⟨hall,v,kk,rfl,hM2,hb2⟩ | ⟨hex,rfl,hb2⟩
 ·have HOK:=ah (show (((okD L/\okD L')/\(v=true ↔ Dvd (nq L) (nq L'))/\kk=0) ∨ (¬(okD L/\okD L')/\v=false/\kk=6)) from .inl ⟨⟨hall L (by simp),hall L' (by simp)⟩,hM2.out⟩)
  have HB4:=tM HB2 hb2
  clear hall hb2 hM2
  go_wp2
  go_ret2
  exact ⟨v,kk,rfl,HOK,HB4.out⟩
 ·have HOK:=ah (show ¬(okD L/\okD L') from fun ⟨h1,h2⟩=>by
   obtain ⟨L0,hL0,p,hp,hp0⟩:=hex
   rcases List.mem_cons.1 hL0 with rfl | h3
   ·exact h1 p hp hp0
   ·obtain rfl:=List.mem_singleton.1 h3
    exact h2 p hp hp0)
  have HB4:=tM HB2 hb2
  clear hex hb2
  go_wp2
  go_ret2
  exact ⟨false,6,rfl,ah (.inr ⟨HOK.out,rfl,rfl⟩),HB4.out⟩
abbrev Tiny (L:List Rat):Prop:=Pq.nrm L=L/\L.length<=16/\∀ x ∈ L,x.num.natAbs < 4294967296/\x.den < 4294967296
theorem Tiny.nz {L:List Rat}(h:Tiny L):Pq.Nz L:=by rw [<- h.1];exact Pq.nz_nrm L
theorem Tiny.qs {L:List Rat}(h:Tiny L):∀ x ∈ L,Qs 1 x:=fun x hx=>⟨Zz.zl_small (h.2.2 x hx).1,Zz.zl_small (by simpa using (h.2.2 x hx).2)⟩
theorem pr_map (L:List Rat):(L.map pr).map qval=L:=by
 rw [List.map_map]
 conv=>rhs;rw [<- List.map_id L]
 exact List.map_congr_left fun x _=>qval_pr x
theorem pr_okD (L:List Rat):okD (L.map pr):=fun p hp=>by
 obtain ⟨x,_,rfl⟩:=List.mem_map.1 hp
 exact pr_ne x
theorem pr_nq {L:List Rat}(h:Pq.Nz L):nq (L.map pr)=L:=by
 unfold nq
 rw [pr_map,Pq.nrm_id h]
theorem tiny_qsz {L:List Rat}(h:Tiny L):qsz (L.map pr)<=32:=by
 have key:∀ M:List Rat,(∀ x ∈ M,x.num.natAbs < 4294967296/\x.den < 4294967296)->qsz (M.map pr)<=2*M.length:=by
  intro M
  induction M with
  | nil=>intro _;exact nR
  | cons x M ih =>
    intro hM
    rw [List.map_cons,qsz_cons,List.length_cons]
    have h1:=ih fun y hy=>hM y (List.mem_cons_of_mem _ hy)
    have h2:=hM x (List.mem_cons_self ..)
    have h3:Zz.zl (pr x).1<=1:=Zz.zl_small h2.1
    have h4:Zz.zl (pr x).2<=1:=Zz.zl_small (by simpa [pr] using h2.2)
    omega
 have:=key L h.2.2
 have:=h.2.1
 omega
theorem Tiny.com {L:List Rat}(h:Tiny L):∃ Z D,Com 33 (Pq.co L) Z D:=by
 obtain ⟨Z,D,hC⟩:=com_list (L.map pr) (pr_okD L)
 rw [pr_map] at hC
 exact ⟨Z,D,hC.mono (by have:=tiny_qsz h;omega)⟩
theorem Tiny.div {a b:List Rat}(h:Tiny a)(h':Tiny b)(h0:0 < b.length):DivSz 60000000000 a b:=by
 obtain ⟨Z,D,hZ⟩:=h.com
 obtain ⟨Y,E,hY⟩:=h'.com
 have:=h.2.1
 have:=Nat.mul_le_mul_right (33+1) h.2.1
 exact div_sz hZ hY h'.nz h0 (by decide) (by omega)
def padd (P Q:List Rat):List Rat:=Pq.nrm ((List.range (max P.length Q.length)).map fun i=>Pq.co P i+Pq.co Q i)
def pmul (P Q:List Rat):List Rat:=Pq.nrm ((List.range (P.length+Q.length)).map (Pq.cv (Pq.co P) (Pq.co Q)))
def pscl (P:List Rat)(x:Rat):List Rat:=Pq.nrm (P.map (·*x))
theorem isP_padd (P Q:List Rat):Pq.IsP (fun i=>Pq.co P i+Pq.co Q i) (padd P Q):=⟨Pq.nz_nrm _,fun i=>by
 unfold padd
 rw [Pq.co_nrm,Pq.co_range]
 by_cases h:i < max P.length Q.length
 ·rw [if_pos h]
 ·rw [if_neg h]
  show 0=Pq.co P i+Pq.co Q i
  rw [Pq.co_ge (by omega),Pq.co_ge (by omega),Rat.add_zero]⟩
theorem isP_pmul (P Q:List Rat):Pq.IsP (Pq.cv (Pq.co P) (Pq.co Q)) (pmul P Q):=⟨Pq.nz_nrm _,fun i=>by
 unfold pmul
 rw [Pq.co_nrm,Pq.co_range]
 by_cases h:i < P.length+Q.length
 ·rw [if_pos h]
 ·rw [if_neg h]
  exact (Pq.cv_up (Pq.up_co P) (Pq.up_co Q) i (by omega)).symm⟩
theorem isP_pscl (P:List Rat)(x:Rat):Pq.IsP (fun i=>Pq.co P i*x) (pscl P x):=⟨Pq.nz_nrm _,fun i=>by
 unfold pscl
 rw [Pq.co_nrm,Pq.co_map (φ:=(·*x)) (by simp)]⟩
def RetPl (L:List Rat)(w:World)(e:Ending)(w':World):Prop:=∃ (A:Option Addr) (n c:Nat),e=.returned (.slice A n c)/\OwQp w' w.heap.size A n c L/\Below w.heap.size w w'
def RetPe (L:List Rat)(w:World)(e:Ending)(w':World):Prop:=∃ (A:Option Addr) (n c:Nat),e=.returned (.tuple #[.slice A n c,.int .i64 0])/\OwQp w' w.heap.size A n c L/\Below w.heap.size w w'
theorem RetPe.of {f:Nat->Rat}{L:List Rat}{w w':World}{e:Ending}(hL:Pq.IsP f L)(h:RetPqE w.heap.size (fun M kk=>Pq.IsP f M/\kk=0) w e w'):RetPe L w e w':=by
 obtain ⟨A,n,c,M,kk,rfl,ho,hM,hb⟩:=h
 obtain ⟨h1,rfl⟩:=hM.out
 obtain rfl:=h1.unique hL
 exact ⟨A,n,c,rfl,ho,hb⟩
section
variable {b b' n c n' c':Nat}{A A':Option Addr}{P Q:List Rat}{w:World}
theorem OwQp.small (h:OwQp w b A n c P)(hP:Tiny P):n<=1048576:=by rw [<- h.len];have:=hP.2.1;omega
theorem padd_any (h:OwQp w b A n c P)(h':OwQp w b' A' n' c' Q)(hP:Tiny P)(hQ:Tiny Q) :
  Calls Tryz.prog 128 #[.slice A n c,.slice A' n' c'] w (RetPe (padd P Q) w):=by
 refine (qAdd_any (h.rd hP.qs) (h'.rd hQ.qs) (h.small hP) (h'.small hQ) (by decide) (by decide)).mono ?_
 rintro e w' (⟨_,h⟩ | ⟨hn,_⟩)
 ·rw [pr_map,pr_map] at h
  exact .of (isP_padd P Q) h
 ·exact absurd ⟨pr_okD _,pr_okD _⟩ hn
theorem pscale_any {s s':Bool}{A'':Option Addr}{n'' c'':Nat}{x:Rat}(h:OwQp w b A n c P)(h':OwQ w b' s A' n' c' s' A'' n'' c'' x)(hP:Tiny P)(hx:Qs 1 x) :
  Calls Tryz.prog 248 #[.slice A n c,.agg #[.bool s,.slice A' n' c',.bool s',.slice A'' n'' c'']] w (RetPe (pscl P x) w):=by
 refine (qScale_any (N:=1) (h.rd hP.qs) h'.num.rd h'.den.rd (h.small hP) (by rw [h'.num.len];exact hx.1) (by rw [h'.den.len];exact hx.2) (by decide) (by decide)).mono ?_
 rintro e w' (⟨_,h⟩ | ⟨hn,_⟩)
 ·rw [pr_map,Rat.num_divInt_den] at h
  exact .of (isP_pscl P x) h
 ·exact absurd ⟨pr_okD _,qden_ne x⟩ hn
theorem pdiv_any {X R:List Rat}(h:OwQp w b A n c P)(h':OwQp w b' A' n' c' Q)(hP:Tiny P)(hQ:Tiny Q)(h0:Q ≠ [])(hD:Pq.IsD P Q X R) :
  Calls Tryz.prog 247 #[.slice A n c,.slice A' n' c'] w fun e w'=>∃ (A1:Option Addr) (n1 c1:Nat) (A2:Option Addr) (n2 c2:Nat),e=.returned (.tuple #[.slice A1 n1 c1,.slice A2 n2 c2,.int .i64 0])/\OwQp w' w.heap.size A1 n1 c1 X/\Below w.heap.size w w':=by
 refine (qDiv_any (N:=1) (N':=60000000000) (h.rd hP.qs) (h'.rd hQ.qs) (h.small hP) (h'.small hQ) (by decide) (by decide) (by decide) (fun _ _ hl=>by
  rw [pr_nq hP.nz,pr_nq hQ.nz]
  rw [pr_nq hQ.nz] at hl
  exact (hP.div hQ hl).rest)).mono ?_
 rintro e w' ⟨A1,n1,c1,X',A2,n2,c2,Y',kk,rfl,ho,_,hM,hb⟩
 rw [pr_nq hP.nz,pr_nq hQ.nz] at hM
 rcases hM.out with ⟨_,⟨e0,_⟩ | ⟨_,hd,rfl⟩⟩ | ⟨hn,_⟩
 ·exact absurd e0 h0
 ·obtain ⟨rfl,rfl⟩:=hd.unique hQ.nz hD
  exact ⟨A1,n1,c1,A2,n2,c2,rfl,ho,hb⟩
 ·exact absurd ⟨pr_okD _,pr_okD _⟩ hn
theorem pdivides_any {X R:List Rat}(h:OwQp w b A n c P)(h':OwQp w b' A' n' c' Q)(hP:Tiny P)(hQ:Tiny Q)(h0:P ≠ [])(hD:Pq.IsD Q P X R) :
  Calls Tryz.prog 94 #[.slice A n c,.slice A' n' c'] w fun e w'=>e=.returned (.tuple #[.bool (decide (R=[])),.int .i64 0])/\Below w.heap.size w w':=by
 refine (qDivides_any (N:=1) (N':=60000000000) (h.rd hP.qs) (h'.rd hQ.qs) (h.small hP) (h'.small hQ) (by decide) (by decide) (by decide) (fun _ _ hl=>by
  rw [pr_nq hP.nz,pr_nq hQ.nz]
  rw [pr_nq hP.nz] at hl
  exact (hQ.div hP hl).rest)).mono ?_
 rintro e w' ⟨v,kk,rfl,hM,hb⟩
 rw [pr_nq hP.nz,pr_nq hQ.nz] at hM
 rcases hM.out with ⟨_,hv,rfl⟩ | ⟨hn,_⟩
 ·rw [dvd_of h0 hP.nz hD] at hv
  refine ⟨?_,hb⟩
  rw [show v=decide (R=[]) by
   cases v with
   | true=>rw [decide_eq_true (hv.1 rfl)]
   | false=>rw [decide_eq_false fun e=>Bool.noConfusion (hv.2 e)]]
 ·exact absurd ⟨pr_okD _,pr_okD _⟩ hn
theorem OwQ.cell1 {s s':Bool}{x:Rat}(h:OwQ w b s A n c s' A' n' c' x)(hb:b<=w.heap.size):OwQp (w.alloc (.cells #[.bool s,.slice A n c,.bool s',.slice A' n' c'] 47)) b (some ⟨w.heap.size,0,none⟩) 1 1 [x]:=by
 have h2:=h.next ((Below.refl w.heap.size w).alloc nR (.cells #[.bool s,.slice A n c,.bool s',.slice A' n' c'] 47))
 refine ⟨[((s,A,n,c),(s',A',n',c'))],rfl,⟨rfl,fun j e y he hy=>?_⟩,nR,by unfold maxLen;omega,.inr ⟨w.heap.size,_,rfl,hb,heap_alloc_new w _,fun i v hv=>by simpa [qcs,qc] using hv⟩⟩
 match j,he,hy with
 | 0, he, hy =>
   simp at he hy
   subst he hy
   exact h2
 | j+1,he,hy=>simp at he
theorem qone_any (w:World):Calls Tryz.prog 182 #[] w (RetPl [1] w):=by
 go_enter Tryz.func182,Tryz.ntmps182
 go_wp2_with fail
 refine (qof_any 1 (by decide) (by decide) w).mono ?_
 rintro _ W1 ⟨s,A,n,c,s',A',n',c',y,rfl,ho,hy,hb⟩
 have HO:=ah (show OwQp (W1.alloc (.cells #[.bool s,.slice A n c,.bool s',.slice A' n' c'] 47)) w.heap.size (some ⟨W1.heap.size,0,none⟩) 1 1 [1] from by
  have h1:=ho.cell1 hb.size
  rw [hy.out] at h1
  exact h1)
 have HB:=ah (hb.alloc hb.size (.cells #[.bool s,.slice A n c,.bool s',.slice A' n' c'] 47))
 clear ho hy hb
 go_wp2
 go_ret
 exact ⟨_,_,_,rfl,HO.out,HB.out⟩
end
theorem one_com:Com 33 (Pq.co [1]) (fun i=>if i=0 then 1 else 0) 1:=⟨by decide,fun i=>by
 cases i with
 | zero=>rfl
 | succ i=>rw [Pq.co_ge (by simp)];simp,fun i=>nT (Zz.zl_small (by split <;> decide)) (by decide),nT (Zz.zl_small (by decide)) (by decide)⟩
theorem one_cv {P M:List Rat}(hP:Pq.Nz P)(h:Pq.IsP (Pq.cv (Pq.co [1]) (Pq.co P)) M):M=P:=by
 refine h.unique ⟨hP,fun i=>?_⟩
 rw [<- Pq.cv_one (Pq.co P) i]
 refine Pq.cv_congr (fun j _=>?_) fun j _=>rfl
 unfold Pq.mono
 cases j with
 | zero=>rfl
 | succ j=>rw [if_neg (by omega),Pq.co_ge (by simp)]
theorem one_qs:∀ x ∈ ([1]:List Rat),Qs 1 x:=fun x hx=>by
 simp at hx
 subst hx
 exact Qs.one nR
theorem qMulIn_any {b c:Nat}{A:Option Addr}{P Q:List Rat}{w:World}(h:OwPs w b A 2 c [P,Q])(hP:Tiny P)(hQ:Tiny Q) :
  Calls Tryz.prog 181 #[.slice A 2 c] w (RetPqE w.heap.size (fun M kk=>Pq.IsP (Pq.cv (Pq.co P) (Pq.co Q)) M/\kk=0) w):=by
 obtain ⟨g,A1,n1,c1,L1,rfl,hbk,hx,ho1,hL1⟩:=opl_at h (show 0 < 2 by decide)
 obtain ⟨g',A2,n2,c2,L2,e,_,hy,ho2,hL2⟩:=opl_at h (show 1 < 2 by decide)
 injection e with e
 injection e with e
 subst e
 obtain rfl:P=L1:=by simpa using hL1.out
 obtain rfl:Q=L2:=by simpa using hL2.out
 have HX:=ah (show ∀ W,Below w.heap.size w W->(W.cell? ⟨g,0,none⟩=some (.slice A1 n1 c1)/\W.cell? ⟨g,1,none⟩=some (.slice A2 n2 c2))/\RdQs W W.heap.size 1 A1 n1 c1 (P.map pr)/\RdQs W W.heap.size 1 A2 n2 c2 (Q.map pr) from fun W hb=>⟨⟨(hb.cell (p:=⟨g,0,none⟩) hbk).trans hx,(hb.cell (p:=⟨g,1,none⟩) hbk).trans hy⟩,(ho1.next hb).rd hP.qs,(ho2.next hb).rd hQ.qs⟩)
 have HLN:=ah (show n1<=16/\n2<=16 from ⟨by rw [<- ho1.len];exact hP.2.1,by rw [<- ho2.len];exact hQ.2.1⟩)
 have HPQ:=ah (cJ hP hQ)
 clear h hL1 hL2 ho1 ho2 hP hQ
 go_enter Tryz.func181,Tryz.ntmps181
 go_wp2_with fail
 refine (qone_any w).mono ?_
 rintro _ W1 ⟨A3,n3,c3,rfl,ho3,hb3⟩
 obtain rfl:n3=1:=ho3.len.symm
 have HB3:=ah hb3
 have HO3:=ah ho3
 have hc0:=(HX.out W1 hb3).1.1
 have hc1:=(HX.out W1 hb3).1.2
 clear hx hy hb3 ho3
 go_wp2_with fail
 refine wp_loop_rounds 3 ?_
 rw [rounds_succ]
 go_wp2_with fail
 obtain ⟨Z,D,hC⟩:=HPQ.out.1.com
 refine (qmul_poly (HO3.out.rd one_qs) (HX.out _ HB3.out).2.1 one_com hC (by have:=HLN.out.1;omega) (by decide) (by decide) (by decide)).mono ?_
 rintro _ W4 ⟨A4,n4,c4,M4,rfl,ho4,hM4,hb4⟩
 obtain rfl:=one_cv HPQ.out.1.nz hM4.out
 have HB4:=tM HB3 hb4
 have hd0:=(HX.out W4 HB4.out).1.1
 have hd1:=(HX.out W4 HB4.out).1.2
 have HO4:=ah ho4
 clear hb4 ho4 hM4 hC hc0 hc1
 go_wp2_with fail
 rw [rounds_succ]
 go_wp2_with fail
 obtain ⟨Z,D,hC⟩:=HPQ.out.1.com
 obtain ⟨Y,E,hC'⟩:=HPQ.out.2.com
 refine (qmul_poly (HO4.out.rd HPQ.out.1.qs) (HX.out _ HB4.out).2.2 hC hC' (by have:=HLN.out.2;have:=HO4.out.len;have:=HPQ.out.1.2.1;omega) (by decide) (by decide) (by decide)).mono ?_
 rintro _ W5 ⟨A5,n5,c5,M5,rfl,ho5,hM5,hb5⟩
 have HB5:=tM HB4 hb5
 have HO5:=ah (ho5.base (b':=w.heap.size) HB4.out.size)
 clear hb5 ho5 hC hC' hd0 hd1
 go_wp2_with fail
 rw [rounds_succ]
 go_wp2
 go_ret2
 exact ⟨_,_,_,M5,0,rfl,HO5.out,ah ⟨hM5.out,rfl⟩,HB5.out⟩
theorem pmul_any {A:Option Addr}{c:Nat}{P Q:List Rat}{w1:World}(hps:RdPs w1 w1.heap.size 1 1048576 A 2 c [P.map pr,Q.map pr])(hP:Tiny P)(hQ:Tiny Q) :
  Calls Tryz.prog 127 #[.slice A 2 c] w1 (RetPe (pmul P Q) w1):=by
 have HEG:=ah (enters_of Tryz.func181 (by kernel_rfl) rfl)
 have hps:=ah hps
 have HPQ:=ah (cJ hP hQ)
 clear hP hQ
 go_enter Tryz.func127,Tryz.ntmps127
 go_wp2_with fail
 refine (norms_poly (f:=181) (Φ:=fun M kk=>Pq.IsP (Pq.cv (Pq.co P) (Pq.co Q)) M/\kk=0) hps.out (by decide) (by decide) (by decide) (by decide) HEG.out (fun hall W A' c' hb ho=>by
  have ho':OwPs W w1.heap.size A' 2 c' [P,Q]:=by
   have h3:=ho
   rw [show [P.map pr,Q.map pr].map nq=[P,Q] by rw [List.map_cons,List.map_cons,List.map_nil,pr_nq HPQ.out.1.nz,pr_nq HPQ.out.2.nz]] at h3
   exact h3
  refine (qMulIn_any ho' HPQ.out.1 HPQ.out.2).mono ?_
  rintro e w' ⟨A2,n2,c2,M2,kk,h1,h2,h3,h4⟩
  exact ⟨A2,n2,c2,M2,kk,h1,h2.base hb.size,h3,h4⟩)).mono ?_
 intro e W3 hpost
 rcases hpost with ⟨hall,A2,n2,c2,M2,kk,rfl,ho2,hM2,hb2⟩ | ⟨hex,rfl,hb2⟩
 ·have HR:=ah (RetPe.of (isP_pmul P Q) ⟨A2,n2,c2,M2,kk,rfl,ho2,hM2,hb2⟩)
  clear hall ho2 hb2
  obtain ⟨_,rfl⟩:=hM2.out
  go_wp2
  go_ret2
  exact HR.out
 ·exfalso
  obtain ⟨L0,hL0,p,hp,hp0⟩:=hex
  rcases List.mem_cons.1 hL0 with rfl | h3
  ·exact pr_okD _ p hp hp0
  ·rcases List.mem_cons.1 h3 with rfl | h4
   ·exact pr_okD _ p hp hp0
   ·cases h4
theorem constant_any (w:World):Calls Tryz.prog 130 #[.int .i64 1] w (RetPl [1] w):=by
 go_enter Tryz.func130,Tryz.ntmps130
 go_wp2_with fail
 refine (qof_any 1 (by decide) (by decide) w).mono ?_
 rintro _ W1 ⟨s,A,n,c,s',A',n',c',y,rfl,ho,hy,hb⟩
 have HO:=ah (show OwQp (W1.alloc (.cells #[.bool s,.slice A n c,.bool s',.slice A' n' c'] 47)) w.heap.size (some ⟨W1.heap.size,0,none⟩) 1 1 [1] from by
  have h1:=ho.cell1 hb.size
  rw [hy.out] at h1
  exact h1)
 have HB:=ah (hb.alloc hb.size (.cells #[.bool s,.slice A n c,.bool s',.slice A' n' c'] 47))
 clear ho hy hb
 go_wp2
 go_ret
 exact ⟨_,_,_,rfl,HO.out,HB.out⟩
theorem minus_any {b b':Nat}{A A':Option Addr}{n c n' c':Nat}{P Q X R:List Rat}{w:World}(h:OwQp w b A n c P)(h':OwQp w b' A' n' c' Q)(hP:Tiny P)(hQ:Tiny Q)(h0:Q ≠ [])(hD:Pq.IsD P Q X R)(hX:Tiny X) :
  Calls Tryz.prog 231 #[.slice A n c,.slice A' n' c'] w (RetPl (pscl X (-1)) w):=by
 have HD:=ah (show _/\_/\_/\_/\_ from ⟨h,h',hP,hQ,hD⟩)
 have HX:=ah hX
 have H0:=ah h0
 clear h h' hP hQ hD hX h0
 go_enter Tryz.func231,Tryz.ntmps231
 go_wp2_with fail
 obtain ⟨h,h',hP,hQ,hD⟩:=HD.out
 refine (pdiv_any h h' hP hQ H0.out hD).mono ?_
 rintro _ W1 ⟨A1,n1,c1,A2,n2,c2,rfl,ho1,hb1⟩
 have HO1:=ah ho1
 have HB1:=ah hb1
 clear h h' hP hQ hD ho1 hb1
 go_wp2_with fail
 refine (qof_any (-1) (by decide) (by decide) W1).mono ?_
 rintro _ W2 ⟨s,A3,n3,c3,s',A4,n4,c4,y,rfl,ho,hy,hb⟩
 have HO2:=ah (cJ (HO1.out.next hb) ho)
 have HY:=ah (show y=-1 by rw [hy.out];rfl)
 have HB2:=tM HB1 hb
 clear ho hy hb
 go_wp2_with fail
 refine (pscale_any HO2.out.1 HO2.out.2 HX.out (by rw [HY.out];exact (Qs.one nR).neg)).mono ?_
 rintro _ W3 ⟨A5,n5,c5,rfl,ho5,hb5⟩
 have HB5:=tM HB2 hb5
 have HO5:=ah (show OwQp W3 w.heap.size A5 n5 c5 (pscl X (-1)) from by
  rw [HY.out] at ho5
  exact ho5.base HB2.out.size)
 clear ho5 hb5
 go_wp2
 go_ret
 exact ⟨_,_,_,rfl,HO5.out,HB5.out⟩
abbrev Fq (P:List Rat):Prop:=Pq.nrm P=P/\P.length<=101/\∀ x ∈ P,Qs 4097 x
theorem Fq.qs {L:List Rat}(h:Fq L):∀ x ∈ L,Qs 4097 x:=h.2.2
section
variable {a b:Nat->List Rat}(ha:∀ j,Fq (a j))(hb:∀ j,Fq (b j))
include ha hb
end
def AllFq (MM:List (List (List Rat))):Prop:=∀ LL ∈ MM,∀ L ∈ LL,Fq L
theorem fit_sm {PP:List (List (List RawQ))}(h:FitV PP 0):AllFq (nn PP):=fun LL hL L hl=>by
 obtain ⟨h1,h2,h3⟩:=h.zero
 obtain ⟨RR,h4,rfl⟩:=List.mem_map.1 hL
 obtain ⟨R,h5,rfl⟩:=List.mem_map.1 hl
 have h6:¬(101 < (nqp R).length ∨ 4096 < ht (nqp R)):=fun e=>h3 (.inr (.inr ⟨_,hL,_,hl,e⟩))
 refine ⟨Pq.nrm_id (Pq.nz_nrm _),by omega,fun x hx=>qbits_qs (k:=4096) ?_⟩
 have:=ht_mem hx
 omega
section
variable {b b' n c n' c':Nat}{A A':Option Addr}{P Q:List Rat}{w:World}
end
end Go.Proofs.YtjnklbfhelbjgaaGreat
