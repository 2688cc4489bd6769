/- Sr19. -/
import Derived.Test.YtjnklbfhelbjgaaGreatSr18
import Derived.Deep.QuietTactic
import Derived.BigQuiet
import Derived.Test.YtjnklbfhelbjgaaGreatSr13
import Derived.Test.YtjnklbfhelbjgaaGreatSr17
import Derived.Test.YtjnklbfhelbjgaaGreatSr16
import Derived.Test.YtjnklbfhelbjgaaGreatSr00
set_option maxRecDepth 100000
set_option maxHeartbeats 32000000
set_option linter.all false
namespace Go.Proofs.YtjnklbfhelbjgaaGreat
open Go.RowKit Go.IntWalk
attribute [local go_sem ↓] Go.wp_at_zero Go.wp_at_succ
theorem deg_any {A:Option Addr}{n c:Nat}{w:World}(hn:n<=1048576):Calls Tryz.prog 109 #[.slice A n c] w (fun e w'=>e=.returned (.int .i64 ((n:Int)-1))/\w'=w):=by
 go_enter Tryz.func109,Tryz.ntmps109
 go_wp2
 go_ret
 exact ⟨rfl,rfl⟩
theorem below_drawn (w:World)(d:Nat):Below w.heap.size w (w.drewN d):=by
 induction d with
 | zero=>exact bR
 | succ d ih=>exact ih.drew
def RetLs (r c:Int)(ok:Bool)(w:World)(e:Ending)(w':World):Prop:=e=.returned (.tuple #[.int .i64 r,.int .i64 c,.bool ok])/\Below w.heap.size w w'
theorem least_one {b gw:Nat}{M:M2}{w:World}(h:Wk w b gw M)(ha:M.a.length=2)(hb:M.b.length=0)(hc:M.c.length=0)(hd:M.d.length=2) :
  Calls Tryz.prog 202 #[.pointer (some ⟨gw,0,none⟩),.int .i64 0] w (RetLs 0 0 true w):=by
 obtain ⟨t,h1,_,gr,cr,g0,c0,g1,c1,⟨xa,xn,xc⟩,⟨ya,yn,yc⟩,⟨za,zn,zc⟩,⟨ua,un,uc⟩,h⟩:=h
 obtain rfl:xn=2:=by rw [<- ha];exact h.ea.len.symm
 obtain rfl:yn=0:=by rw [<- hb];exact h.eb.len.symm
 obtain rfl:zn=0:=by rw [<- hc];exact h.ec.len.symm
 obtain rfl:un=2:=by rw [<- hd];exact h.ed.len.symm
 have k0:=h1.cell (i:=0) rfl
 have k1:=h.hd.cell (i:=0) rfl
 have k2:=h.hd.cell (i:=1) rfl
 have k3:=h.rw.cell (i:=0) rfl
 have k4:=h.rw.cell (i:=1) rfl
 have k5:w.cell? ⟨g0,0,none⟩=some (.slice xa 2 xc):=h.r0.cell rfl
 have k6:w.cell? ⟨g0,1,none⟩=some (.slice ya 0 yc):=h.r0.cell rfl
 have k7:w.cell? ⟨g1,0,none⟩=some (.slice za 0 zc):=h.r1.cell rfl
 have k8:w.cell? ⟨g1,1,none⟩=some (.slice ua 2 uc):=h.r1.cell rfl
 clear h1 h ha hb hc hd
 go_enter Tryz.func202,Tryz.ntmps202
 go_wp2_with fail
 refine wp_loop_rounds 3 ?_
 rw [rounds_succ]
 go_wp2_with fail
 refine wp_loop_rounds 3 ?_
 rw [rounds_succ]
 go_upto_region 9 with fail
 go_quiet ((first | (go_at_call 109;exact (deg_any (by decide)).mono (fun _ _ h=>⟨h.1,_,h.2⟩))))
 go_wp2_with fail
 rw [rounds_succ]
 go_upto_region 9 with fail
 go_quiet ((first | (go_at_call 109;exact (deg_any (by decide)).mono (fun _ _ h=>⟨h.1,_,h.2⟩))))
 go_wp2_with fail
 rw [rounds_succ]
 go_wp2_with fail
 rw [rounds_succ]
 go_wp2_with fail
 refine wp_loop_rounds 3 ?_
 rw [rounds_succ]
 go_upto_region 9 with fail
 go_quiet ((first | (go_at_call 109;exact (deg_any (by decide)).mono (fun _ _ h=>⟨h.1,_,h.2⟩))))
 go_wp2_with fail
 rw [rounds_succ]
 go_upto_region 9 with fail
 go_quiet ((first | (go_at_call 109;exact (deg_any (by decide)).mono (fun _ _ h=>⟨h.1,_,h.2⟩))))
 go_wp2_with fail
 rw [rounds_succ]
 go_wp2_with fail
 rw [rounds_succ]
 go_wp2
 go_ret3
 exact ⟨rfl,below_drawn _ _⟩
theorem least_two {b gw:Nat}{M:M2}{w:World}(h:Wk w b gw M)(ha:M.a.length=2)(hb:M.b.length=1)(hc:M.c.length=0)(hd:M.d.length=2) :
  Calls Tryz.prog 202 #[.pointer (some ⟨gw,0,none⟩),.int .i64 0] w (RetLs 0 1 true w):=by
 obtain ⟨t,h1,_,gr,cr,g0,c0,g1,c1,⟨xa,xn,xc⟩,⟨ya,yn,yc⟩,⟨za,zn,zc⟩,⟨ua,un,uc⟩,h⟩:=h
 obtain rfl:xn=2:=by rw [<- ha];exact h.ea.len.symm
 obtain rfl:yn=1:=by rw [<- hb];exact h.eb.len.symm
 obtain rfl:zn=0:=by rw [<- hc];exact h.ec.len.symm
 obtain rfl:un=2:=by rw [<- hd];exact h.ed.len.symm
 have k0:=h1.cell (i:=0) rfl
 have k1:=h.hd.cell (i:=0) rfl
 have k2:=h.hd.cell (i:=1) rfl
 have k3:=h.rw.cell (i:=0) rfl
 have k4:=h.rw.cell (i:=1) rfl
 have k5:w.cell? ⟨g0,0,none⟩=some (.slice xa 2 xc):=h.r0.cell rfl
 have k6:w.cell? ⟨g0,1,none⟩=some (.slice ya 1 yc):=h.r0.cell rfl
 have k7:w.cell? ⟨g1,0,none⟩=some (.slice za 0 zc):=h.r1.cell rfl
 have k8:w.cell? ⟨g1,1,none⟩=some (.slice ua 2 uc):=h.r1.cell rfl
 clear h1 h ha hb hc hd
 go_enter Tryz.func202,Tryz.ntmps202
 go_wp2_with fail
 refine wp_loop_rounds 3 ?_
 rw [rounds_succ]
 go_wp2_with fail
 refine wp_loop_rounds 3 ?_
 rw [rounds_succ]
 go_upto_region 9 with fail
 go_quiet ((first | (go_at_call 109;exact (deg_any (by decide)).mono (fun _ _ h=>⟨h.1,_,h.2⟩))))
 go_wp2_with fail
 rw [rounds_succ]
 go_upto_region 9 with fail
 go_quiet ((first | (go_at_call 109;exact (deg_any (by decide)).mono (fun _ _ h=>⟨h.1,_,h.2⟩))))
 go_wp2_with fail
 rw [rounds_succ]
 go_wp2_with fail
 rw [rounds_succ]
 go_wp2_with fail
 refine wp_loop_rounds 3 ?_
 rw [rounds_succ]
 go_upto_region 9 with fail
 go_quiet ((first | (go_at_call 109;exact (deg_any (by decide)).mono (fun _ _ h=>⟨h.1,_,h.2⟩))))
 go_wp2_with fail
 rw [rounds_succ]
 go_upto_region 9 with fail
 go_quiet ((first | (go_at_call 109;exact (deg_any (by decide)).mono (fun _ _ h=>⟨h.1,_,h.2⟩))))
 go_wp2_with fail
 rw [rounds_succ]
 go_wp2_with fail
 rw [rounds_succ]
 go_wp2
 go_ret3
 exact ⟨rfl,below_drawn _ _⟩
theorem least_three {b gw:Nat}{M:M2}{w:World}(h:Wk w b gw M)(hp:0 < M.d.length/\M.d.length<=16) :
  Calls Tryz.prog 202 #[.pointer (some ⟨gw,0,none⟩),.int .i64 1] w (RetLs 1 1 true w):=by
 obtain ⟨t,h1,_,gr,cr,g0,c0,g1,c1,⟨xa,xn,xc⟩,⟨ya,yn,yc⟩,⟨za,zn,zc⟩,⟨ua,un,uc⟩,h⟩:=h
 have hu:(0:Int) < (un:Int):=by have:=h.ed.len;simp only at this;omega
 have hu2:0 < un:=by omega
 have hu3:un<=16:=by have:=h.ed.len;simp only at this;omega
 have k0:=h1.cell (i:=0) rfl
 have k1:=h.hd.cell (i:=0) rfl
 have k2:=h.hd.cell (i:=1) rfl
 have k3:=h.rw.cell (i:=0) rfl
 have k4:=h.rw.cell (i:=1) rfl
 have k5:w.cell? ⟨g0,0,none⟩=some (.slice xa xn xc):=h.r0.cell rfl
 have k6:w.cell? ⟨g0,1,none⟩=some (.slice ya yn yc):=h.r0.cell rfl
 have k7:w.cell? ⟨g1,0,none⟩=some (.slice za zn zc):=h.r1.cell rfl
 have k8:w.cell? ⟨g1,1,none⟩=some (.slice ua un uc):=h.r1.cell rfl
 clear h1 h  hp
 go_enter Tryz.func202,Tryz.ntmps202
 go_wp2_with fail
 refine wp_loop_rounds 3 ?_
 rw [rounds_succ]
 go_wp2_with fail
 refine wp_loop_rounds 3 ?_
 rw [rounds_succ]
 go_upto_region 9 with fail
 go_quiet ((first | (go_at_call 109;exact (deg_any (by decide)).mono (fun _ _ h=>⟨h.1,_,h.2⟩))))
 go_wp2_with fail
 rw [rounds_succ]
 go_wp2_with fail
 rw [rounds_succ]
 go_wp2
 go_ret3
 exact ⟨rfl,below_drawn _ _⟩
theorem least_none {b gw:Nat}{M:M2}{w:World}(h:Wk w b gw M)  :
  Calls Tryz.prog 202 #[.pointer (some ⟨gw,0,none⟩),.int .i64 2] w (RetLs 0 0 false w):=by
 obtain ⟨t,h1,_,gr,cr,g0,c0,g1,c1,⟨xa,xn,xc⟩,⟨ya,yn,yc⟩,⟨za,zn,zc⟩,⟨ua,un,uc⟩,h⟩:=h
 have k0:=h1.cell (i:=0) rfl
 have k1:=h.hd.cell (i:=0) rfl
 have k2:=h.hd.cell (i:=1) rfl
 have k3:=h.rw.cell (i:=0) rfl
 have k4:=h.rw.cell (i:=1) rfl
 have k5:w.cell? ⟨g0,0,none⟩=some (.slice xa xn xc):=h.r0.cell rfl
 have k6:w.cell? ⟨g0,1,none⟩=some (.slice ya yn yc):=h.r0.cell rfl
 have k7:w.cell? ⟨g1,0,none⟩=some (.slice za zn zc):=h.r1.cell rfl
 have k8:w.cell? ⟨g1,1,none⟩=some (.slice ua un uc):=h.r1.cell rfl
 clear h1 h
 go_enter Tryz.func202,Tryz.ntmps202
 go_wp2_with fail
 refine wp_loop_rounds 3 ?_
 rw [rounds_succ]
 go_wp2
 go_ret3
 exact ⟨rfl,bR⟩
def BothV (PA PB:List (List (List RawQ)))(kk:Int):Prop:=(FitV PA kk/\kk ≠ 0) ∨ (FitV PA 0/\FitV PB kk)
theorem BothV.uniq {PA PB:List (List (List RawQ))}{k k':Int}(h:BothV PA PB k)(h':BothV PA PB k'):k=k':=by
 rcases h with ⟨h1,h2⟩ | ⟨h1,h2⟩
 ·rcases h' with ⟨g1,g2⟩ | ⟨g1,g2⟩
  ·exact h1.uniq g1
  ·exact absurd (h1.uniq g1) h2
 ·rcases h' with ⟨g1,g2⟩ | ⟨g1,g2⟩
  ·exact absurd (g1.uniq h1) g2
  ·exact h2.uniq g2
theorem BothV.zero {PA PB:List (List (List RawQ))}(h:BothV PA PB 0):FitV PA 0/\FitV PB 0:=by
 rcases h with ⟨h1,h2⟩ | ⟨h1,h2⟩
 ·exact absurd rfl h2
 ·exact ⟨h1,h2⟩
def RetBh (PA PB:List (List (List RawQ)))(w:World)(e:Ending)(w':World):Prop :=
 (∃ kk:Int,e=.returned (.tuple #[.pointer none,.pointer none,.int .i64 kk])/\Hid (kk ≠ 0/\BothV PA PB kk)/\Below w.heap.size w w') ∨
 (∃ t u:Nat,e=.returned (.tuple #[.pointer (some ⟨t,0,none⟩),.pointer (some ⟨u,0,none⟩),.int .i64 0])/\Hid (BothV PA PB 0)/\Tg w' w.heap.size t (nn PA) (colq (nn PA))/\Tg w' w.heap.size u (nn PB) (colq (nn PB))/\Below w.heap.size w w')
theorem bothT_any {N K J N' K' J':Nat}{A A':Option Addr}{n c n' c':Nat}{PA PB:List (List (List RawQ))}{w:World}(h:RdRpp w w.heap.size N K J A n c PA)(h':RdRpp w w.heap.size N' K' J' A' n' c' PB)
  (hn:n<=1048576/\n'<=1048576) (hJ:J<=1048576/\J'<=1048576) (hK:K<=1048576/\K'<=1048576) (hN:N<=1000000000/\N'<=1000000000) (h1N:1<=N/\1<=N') :
  Calls Tryz.prog 73 #[.slice A n c,.slice A' n' c'] w (RetBh PA PB w):=by
 have HH:=ah (cJ h h')
 have HN:=ah (cJ hn (cJ hJ (cJ hK (cJ hN h1N))))
 clear h h' hn hJ hK hN h1N
 go_enter Tryz.func73,Tryz.ntmps73
 go_wp2_with fail
 refine (fit_any HH.out.1 HN.out.1.1 HN.out.2.1.1 HN.out.2.2.1.1 HN.out.2.2.2.1.1 HN.out.2.2.2.2.1).mono ?_
 intro _ W1 hpost
 rcases hpost with ⟨kk,rfl,hk,hb1⟩ | ⟨t,rfl,hf,hT,hb1⟩
 ·have hk0:¬kk=0:=hk.out.1
  have hk1:(kk == 0)=false:=by simp;exact hk0
  have HV:=ah (show kk ≠ 0/\BothV PA PB kk from ⟨hk0,.inl ⟨hk.out.2,hk0⟩⟩)
  have HB1:=ah hb1
  clear hk hb1
  go_wp2
  go_ret3
  exact .inl ⟨kk,rfl,HV,HB1.out⟩
 ·have HB1:=ah hb1
  have HT:=ah hT
  have HH2:=ah (HH.out.2.next hb1)
  clear hT hb1
  go_wp2_with fail
  refine (fit_any HH2.out HN.out.1.2 HN.out.2.1.2 HN.out.2.2.1.2 HN.out.2.2.2.1.2 HN.out.2.2.2.2.2).mono ?_
  intro _ W2 hpost
  rcases hpost with ⟨kk,rfl,hk,hb2⟩ | ⟨u,rfl,hg,hU,hb2⟩
  ·have hk0:¬kk=0:=hk.out.1
   have hk1:(kk == 0)=false:=by simp;exact hk0
   have HV:=ah (show kk ≠ 0/\BothV PA PB kk from ⟨hk0,.inr ⟨hf.out,hk.out.2⟩⟩)
   have HB2:=tM HB1 hb2
   clear hk hb2
   go_wp2
   go_ret3
   exact .inl ⟨kk,rfl,HV,HB2.out⟩
  ·have HV:=ah (show BothV PA PB 0 from .inr ⟨hf.out,hg.out⟩)
   have HB2:=tM HB1 hb2
   have HT2:=ah (HT.out.next hb2)
   have HU:=ah (hU.base HB1.out.size)
   clear hU hb2
   go_wp2
   go_ret3
   exact .inr ⟨t,u,rfl,HV,HT2.out,HU.out,HB2.out⟩
theorem tab_ext {MA MB:List (List (List Rat))}(hl:MA.length=MB.length)(hr:Rect MA)(hr':Rect MB)(hc:colq MA=colq MB)(h:∀ i,i < MA.length->∀ k,k < colq MA->entT MA i k=entT MB i k):MA=MB:=by
 refine List.ext_getElem hl fun i h1 h2=>?_
 have e1:=hr _ (List.getElem_mem h1)
 have e2:=hr' _ (List.getElem_mem h2)
 refine List.ext_getElem (by rw [e1,e2,hc]) fun k h3 h4=>?_
 have e3:=h i h1 k (by rw [<- e1];exact h3)
 rw [entT_mem (gE h1) (gE h3),entT_mem (gE h2) (gE h4)] at e3
 exact e3
theorem sameT_any {b b' t u:Nat}{MA MB:List (List (List Rat))}{w:World}(h:Tg w b t MA (colq MA))(h':Tg w b' u MB (colq MB))(ha:AllFq MA)(hb:AllFq MB)(hr:Rect MA)(hr':Rect MB)(hs:MA.length<=24/\MB.length<=24/\colq MA<=24/\colq MB<=24) :
  Calls Tryz.prog 76 #[.pointer (some ⟨t,0,none⟩),.pointer (some ⟨u,0,none⟩)] w (RetBo (MA=MB) w):=by
 obtain ⟨A,n,c,hT,_,ho⟩:=h
 obtain ⟨B,m,d,hU,_,hp⟩:=h'
 have HL:=ah (cJ ho.len hp.len)
 have HS:=ah (cJ hs (cJ ha (cJ hb (cJ hr hr'))))
 have hn:n<=24:=by rw [<- ho.len];exact hs.1
 have hm:m<=24:=by rw [<- hp.len];exact hs.2.1
 obtain ⟨kA,hkA⟩:∃ k,k=colq MA:=⟨_,rfl⟩
 obtain ⟨kB,hkB⟩:∃ k,k=colq MB:=⟨_,rfl⟩
 rw [<- hkA] at hT
 rw [<- hkB] at hU
 have HK:=ah (cJ hkA hkB)
 have hkn:kA<=24:=by rw [hkA];exact hs.2.2.1
 have HX:=ah (show ∀ W,Below w.heap.size w W->(PX W t 102 [.slice A n c,.int .i64 (kA:Int)]/\OwPp W b A n c MA)/\(PX W u 102 [.slice B m d,.int .i64 (kB:Int)]/\OwPp W b' B m d MB) from fun W hb=>⟨⟨hT.next hb,OwL.next stayPp ho hb⟩,⟨hU.next hb,OwL.next stayPp hp hb⟩⟩)
 have k0:=hT.cell (i:=0) rfl
 have k1:=hT.cell (i:=1) rfl
 have k2:=hU.cell (i:=0) rfl
 have k3:=hU.cell (i:=1) rfl
 clear ho hp hT hU hs ha hb hr hr' hkA hkB
 go_enter Tryz.func76,Tryz.ntmps76
 by_cases hnm:n=m
 case neg =>
  have hnmi:¬(n:Int)=(m:Int):=by omega
  have HV:=ah (show ¬MA=MB from fun e=>hnm (by rw [<- HL.out.1,<- HL.out.2,e]))
  clear hnm
  go_upto_region 1 with fail
  go_quiet (fail)
  go_wp2
  go_ret
  exact ⟨false,rfl,ah ⟨fun e=>by simp at e,fun e=>absurd e HV.out⟩,below_drawn _ _⟩
 by_cases hkk:kA=kB
 case neg =>
  have hnmi:(n:Int)=(m:Int):=by omega
  have hkki:¬(kA:Int)=(kB:Int):=by omega
  have HV:=ah (show ¬MA=MB from fun e=>hkk (by rw [HK.out.1,HK.out.2,e]))
  clear hnm hkk
  go_upto_region 1 with fail
  go_quiet (fail)
  go_wp2
  go_ret
  exact ⟨false,rfl,ah ⟨fun e=>by simp at e,fun e=>absurd e HV.out⟩,below_drawn _ _⟩
 subst hnm hkk
 go_upto_region 1 with fail
 go_quiet (fail)
 obtain ⟨V,hV⟩:∃ V,V=w.drewN nq:=⟨_,rfl⟩
 have hbV:Below w.heap.size w V:=by rw [hV];exact below_drawn _ _
 have q0:=(HX.out V hbV).1.1.cell (i:=0) rfl
 have HBV:=ah hbV
 rw [<- hV]
 clear hV k0 k1 k2 k3 hbV
 go_wp2_with fail
 clear q0
 go_loopw [38] (fun iv wr=>∃ (j:Nat),iv=.int .i64 (j:Int)/\j<=n/\Hid (∀ i,i < j->∀ k,k < kA->entT MA i k=entT MB i k)/\Below w.heap.size w wr) (fun iv _=>n-(intOf iv).toNat)
 case atStart=>exact ⟨0,rfl,nZ,ah (fun i hi=>absurd hi (Nat.not_lt_zero _)),HBV.out⟩
 case round =>
  obtain ⟨j,rfl,hj,hall,hB⟩:=hrel
  by_cases hjn:j=n
  ·have HV:=ah (show MA=MB from tab_ext (by rw [HL.out.1,HL.out.2]) HS.out.2.2.2.1 HS.out.2.2.2.2 (by rw [<- HK.out.1,<- HK.out.2]) fun i hi k hk=>hall.out i (by rw [HL.out.1] at hi;omega) k (by rw [HK.out.1];exact hk))
   have HBF:=ah hB
   subst hjn
   clear hall hB
   go_wp2
   go_ret
   exact ⟨true,rfl,ah ⟨fun _=>HV.out,fun _=>rfl⟩,HBF.out⟩
  ·have hjl:j < n:=by omega
   have hjli:(j:Int) < (n:Int):=by omega
   obtain ⟨wo,rfl⟩:∃ V,V=wr:=⟨_,rfl⟩
   clear hjn
   obtain ⟨ga,A1,n1,c1,LA,rfl,hgl,hx,oa,pa⟩:=(HX.out wo hB).1.2.at_ hjl
   obtain rfl:n1=kA:=by rw [<- oa.len,HK.out.1];exact HS.out.2.2.2.1 LA (gM pa.out)
   have HB3:=ah hB
   have HOA:=ah (show ∀ W,Below wo.heap.size wo W->OwP W b A1 n1 c1 LA from fun W hb=>OwL.next stayQP oa hb)
   clear hB oa
   go_wp2_with fail
   clear hx
   go_loopw [45] (fun iv wr=>∃ (i:Nat),iv=.int .i64 (i:Int)/\i<=n1/\Hid (∀ k,k < i->entT MA j k=entT MB j k)/\Below wo.heap.size wo wr) (fun iv _=>n1-(intOf iv).toNat)
   case atStart=>exact ⟨0,rfl,nZ,ah (fun i hi=>absurd hi (Nat.not_lt_zero _)),bR⟩
   case round =>
    obtain ⟨i,rfl,hi,hal2,hB5⟩:=hrel
    by_cases hin:i=n1
    ·have HA:=ah (show ∀ i,i < j+1->∀ k,k < n1->entT MA i k=entT MB i k from fun q hq k hk=>by
      rcases Nat.lt_or_ge q j with h1 | h1
      ·exact hall.out q h1 k hk
      ·rw [show q=j by omega]
       exact hal2.out k (by omega))
     have HB9:=tM HB3 hB5
     subst hin
     clear hall hal2 hB5
     go_wp2
     go_roundw
     case rel=>exact ⟨j+1,by go_num,by omega,HA,HB9.out⟩
     case measure=>simp [intOf];omega
    ·have hil:i < n1:=by omega
     have hili:(i:Int) < (n1:Int):=by omega
     clear hin
     obtain ⟨g1,xa,xn,xc,PA,rfl,hl2,x2,oa2,pa2⟩:=(HOA.out wr hB5).at_ hil
     have HB5:=ah hB5
     have HB8:=tM HB3 hB5
     obtain ⟨gb,A2,n2,c2,LB,rfl,hl3,x3,ob,pb⟩:=(HX.out wr HB8.out).2.2.at_ hjl
     obtain rfl:n2=n1:=by rw [<- ob.len,HK.out.2];exact HS.out.2.2.2.2 LB (gM pb.out)
     obtain ⟨g2,ya,yn,yc,PB,rfl,hl4,x4,ob2,pb2⟩:=ob.at_ hil
     have x1:=(HX.out wr HB8.out).2.1.cell (i:=0) rfl
     have HEA:=ah (show entT MA j i=PA from entT_mem pa.out pa2.out)
     have HEB:=ah (show entT MB j i=PB from entT_mem pb.out pb2.out)
     have HPA:=ah (show Fq PA by rw [<- HEA.out];exact entT_sm HS.out.2.1 j i)
     have HPB:=ah (show Fq PB by rw [<- HEB.out];exact entT_sm HS.out.2.2.1 j i)
     have HOO:=ah (cJ oa2 ob2)
     clear oa2 ob2 ob pa2 pb2 pb hB5
     go_wp2_with fail
     refine (qEqual_any (HOO.out.1.rd HPA.out.qs) (HOO.out.2.rd HPB.out.qs) (by rw [<- HOO.out.1.len];have:=HPA.out.2.1;omega) (by rw [<- HOO.out.2.len];have:=HPB.out.2.1;omega) (by decide) (by decide)).mono ?_
     rintro _ W9 ⟨v,kk,rfl,hv,hb9⟩
     have HB9:=tM HB5 hb9
     have HB10:=tM HB8 hb9
     have HV:=ah (show v=true ↔ PA=PB by
      rcases hv.out with ⟨_,h1,_⟩ | ⟨h1,_⟩
      ·rw [pr_nq HPA.out.nz,pr_nq HPB.out.nz] at h1
       exact h1
      ·exact absurd ⟨pr_okD _,pr_okD _⟩ h1)
     clear hv hb9 x1 x2 x3 x4
     cases v
     case true =>
      have HA:=ah (show ∀ k,k < i+1->entT MA j k=entT MB j k from fun k hk=>by
       rcases Nat.lt_or_ge k i with h1 | h1
       ·exact hal2.out k h1
       ·rw [show k=i by omega,HEA.out,HEB.out]
        exact HV.out.1 rfl)
      clear hal2 HV
      go_wp2
      go_roundw
      case rel=>exact ⟨i+1,by go_num,by omega,HA,HB9.out⟩
      case measure=>simp [intOf];omega
     case false =>
      have HF:=ah (show ¬MA=MB from fun e=>by
       have h1:PA=PB:=by rw [<- HEA.out,<- HEB.out,e]
       have:=HV.out.2 h1
       cases this)
      clear hal2 HV hall
      go_wp2
      go_ret
      exact ⟨false,rfl,ah ⟨fun e=>by simp at e,fun e=>absurd e HF.out⟩,HB10.out⟩
def RetBk (Φ:Bool->Int->Prop)(w:World)(e:Ending)(w':World):Prop:=∃ (v:Bool) (kk:Int),e=.returned (.tuple #[.bool v,.int .i64 kk])/\Hid (Φ v kk)/\Below w.heap.size w w'
def EqV (PA PB:List (List (List RawQ)))(v:Bool)(kk:Int):Prop:=BothV PA PB kk/\((kk ≠ 0/\v=false) ∨ (kk=0/\(v=true ↔ nn PA=nn PB)))
theorem smEqual_any {N K J N' K' J':Nat}{A A':Option Addr}{n c n' c':Nat}{PA PB:List (List (List RawQ))}{w:World}(h:RdRpp w w.heap.size N K J A n c PA)(h':RdRpp w w.heap.size N' K' J' A' n' c' PB)
  (hn:n<=1048576/\n'<=1048576) (hJ:J<=1048576/\J'<=1048576) (hK:K<=1048576/\K'<=1048576) (hN:N<=1000000000/\N'<=1000000000) (h1N:1<=N/\1<=N') :
  Calls Tryz.prog 24 #[.slice A n c,.slice A' n' c'] w (RetBk (EqV PA PB) w):=by
 have HB:=ah (bothT_any h h' hn hJ hK hN h1N)
 clear h h' hn hJ hK hN h1N
 go_enter Tryz.func24,Tryz.ntmps24
 go_wp2_with fail
 refine HB.out.mono ?_
 clear HB
 intro _ W1 hpost
 rcases hpost with ⟨kk,rfl,hk,hb1⟩ | ⟨t,u,rfl,hV,hT,hU,hb1⟩
 ·have hk0:¬kk=0:=hk.out.1
  have hk1:(kk == 0)=false:=by simp;exact hk0
  have HV:=ah (show EqV PA PB false kk from ⟨hk.out.2,.inl ⟨hk0,rfl⟩⟩)
  have HB1:=ah hb1
  clear hk hb1
  go_wp2
  go_ret2
  exact ⟨false,kk,rfl,HV,HB1.out⟩
 ·have HB1:=ah hb1
  have HT:=ah (cJ hT hU)
  have HV:=hV
  clear hT hU hb1 hV
  go_wp2_with fail
  refine (sameT_any HT.out.1 HT.out.2 (fit_sm HV.out.zero.1) (fit_sm HV.out.zero.2) HV.out.zero.1.zero.2.1 HV.out.zero.2.zero.2.1 (by
   have h1:=HV.out.zero.1.zero.2.2
   have h2:=HV.out.zero.2.zero.2.2
   unfold Bigg at h1 h2
   omega)).mono ?_
  rintro _ W2 ⟨v,rfl,hv,hb2⟩
  have HB2:=tM HB1 hb2
  have HE:=ah (show EqV PA PB v 0 from ⟨HV.out,.inr ⟨rfl,hv.out⟩⟩)
  clear hv hb2
  go_wp2
  go_ret2
  exact ⟨v,0,rfl,HE,HB2.out⟩
def NrmT (MM:List (List (List Rat))):Prop:=∀ LL ∈ MM,∀ L ∈ LL,Pq.nrm L=L
def RetPp (MM:List (List (List Rat)))(w:World)(e:Ending)(w':World):Prop:=∃ (A:Option Addr) (n c:Nat),e=.returned (.slice A n c)/\OwPp w' w.heap.size A n c MM/\Below w.heap.size w w'
def RetPk (Φ:List (List (List Rat))->Int->Prop)(w:World)(e:Ending)(w':World):Prop:=∃ (A:Option Addr) (n c:Nat) (MM:List (List (List Rat))) (kk:Int),e=.returned (.tuple #[.slice A n c,.int .i64 kk])/\OwPp w' w.heap.size A n c MM/\Hid (Φ MM kk)/\Below w.heap.size w w'
def RetTg (MM:List (List (List Rat)))(k:Nat)(w:World)(e:Ending)(w':World):Prop:=∃ t:Nat,e=.returned (.pointer (some ⟨t,0,none⟩))/\Tg w' w.heap.size t MM k/\Below w.heap.size w w'
def oneR (n i:Nat):List (List Rat):=rowF n fun q=>if q=i then [1] else []
def idT (n:Nat):List (List (List Rat)):=rowF n (oneR n)
theorem row_done {LL:List (List Rat)}{n:Nat}(h:LL.length=n):rowF n (fun q=>if q < n then LL.getD q [] else [])=LL:=by
 subst h
 refine Eq.trans (rowF_congr fun i hi=>?_) (rowF_list LL [])
 rw [if_pos hi]
theorem row_step {F:Nat->List Rat}{n i:Nat}{x:List Rat}(h:F i=x):(rowF n fun q=>if q < i then F q else []).set i x=rowF n fun q=>if q < i+1 then F q else []:=by
 rw [rowF_set]
 refine rowF_congr fun q _=>?_
 by_cases h1:q=i
 ·rw [if_pos h1,if_pos (by omega),h1,h]
 ·rw [if_neg h1]
  by_cases h2:q < i
  ·rw [if_pos h2,if_pos (by omega)]
  ·rw [if_neg h2,if_neg (by omega)]
theorem row_none (F:Nat->List Rat)(n:Nat):(rowF n fun _=>([]:List Rat))=rowF n fun q=>if q < 0 then F q else []:=rowF_congr fun q _=>by rw [if_neg (by omega)]
theorem getD_of {LL:List (List Rat)}{i:Nat}{L:List Rat}(h:LL[i]?=some L):LL.getD i []=L:=by rw [List.getD_eq_getElem?_getD,h];rfl
theorem told_any {N b t k:Nat}{MM:List (List (List Rat))}{w:World}(h:Tg w b t MM k)(hF:Fine N MM)(hz:NrmT MM)(hN:N<=200000000000)(h1N:1<=N) :
  Calls Tryz.prog 75 #[.pointer (some ⟨t,0,none⟩)] w (RetPp MM w):=by
 obtain ⟨A,n,c,hT,hbt,ho⟩:=h
 obtain ⟨i1,hjf,hy0,hy1,hy2⟩:=info_parts infoRow
 have HL:=ah ho.len
 have HF:=ah hF
 have HZ:=ah hz
 have HX:=ah (show ∀ W,Below w.heap.size w W->OwPp W b A n c MM from fun W hb=>OwL.next stayPp ho hb)
 have k0:=hT.cell (i:=0) rfl
 have hn:n<=1048576:=by rw [<- ho.len];exact hF.rows
 clear ho hT hF hz
 go_enter Tryz.func75,Tryz.ntmps75
 go_wp2_with fail
 clear k0
 go_loopw [3,14] (fun ov iv wr=>∃ (j c':Nat) (A':Option Addr),ov=.slice A' j c'/\iv=.int .i64 (j:Int)/\j<=n/\OwPp wr w.heap.size A' j c' (MM.take j)/\Below w.heap.size w wr) (fun _ iv _=>n-(intOf iv).toNat)
 case atStart=>exact ⟨0,0,none,rfl,rfl,nZ,OwL.nil _ _ _ _,bR⟩
 case round =>
  obtain ⟨j,c',A',rfl,rfl,hj,ho,hB⟩:=hrel
  by_cases hjn:j=n
  ·have HO:=ah (show OwPp wr w.heap.size A' j c' MM by rw [<- List.take_of_length_le (l:=MM) (i:=j) (by rw [HL.out,hjn];exact nR)];exact ho)
   have HBF:=ah hB
   subst hjn
   clear ho hB
   go_wp2
   go_ret
   exact ⟨A',j,c',rfl,HO.out,HBF.out⟩
  ·have hjl:j < n:=by omega
   have hjli:(j:Int) < (n:Int):=by omega
   obtain ⟨wo,rfl⟩:∃ V,V=wr:=⟨_,rfl⟩
   clear hjn
   obtain ⟨g,A1,n1,c1,LL,rfl,hgl,hx,ho1,hp⟩:=(HX.out wo hB).at_ hjl
   have HOT:=ah ho
   have HB3:=ah hB
   have HO1:=ah (show ∀ W,Below wo.heap.size wo W->OwP W b A1 n1 c1 LL from fun W hb=>OwL.next stayQP ho1 hb)
   have HL1:=ah ho1.len
   have HM:=ah (gM hp.out)
   have HJL:=ah (show j+1<=1048576 by omega)
   have hn1:n1<=1048576:=by rw [<- ho1.len];exact HF.out.cols LL HM.out
   have hmk:=make_ps n1 hn1
   obtain ⟨W2,HW2⟩:∃ W,W=wo.alloc (.cells (madeCells #[.slice none 0 0] n1) 73):=⟨_,rfl⟩
   have hb2:Below wo.heap.size wo W2:=by rw [HW2];exact bA
   obtain ⟨gr,hgr⟩:∃ g,g=wo.heap.size:=⟨_,rfl⟩
   have HP2:=ah (show OwP W2 w.heap.size (some ⟨gr,0,none⟩) n1 n1 (rowF n1 fun _=>[]) by rw [HW2,hgr];exact OwP.made wo HB3.out.size hn1)
   have HG2:=ah (show wo.heap.size<=gr by rw [hgr];exact nR)
   have HB2:=ah hb2
   have HW2:=ah HW2
   clear hB ho1 ho hb2
   go_wp2_with fail
   rw [<- HW2.out,<- hgr]
   clear HW2 hgr hx
   clear HW2
   go_loopw [23] (fun iv wr=>∃ (i:Nat),iv=.int .i64 (i:Int)/\i<=n1/\OwP wr w.heap.size (some ⟨gr,0,none⟩) n1 n1 (rowF n1 fun q=>if q < i then LL.getD q [] else [])/\Below wo.heap.size wo wr) (fun iv _=>n1-(intOf iv).toNat)
   case atStart=>exact ⟨0,rfl,nZ,by rw [<- row_none];exact HP2.out,HB2.out⟩
   case round =>
    obtain ⟨i,rfl,hi5,ho5,hB5⟩:=hrel
    by_cases hin:i=n1
    ·have HO5:=ah (show OwP wr w.heap.size (some ⟨gr,0,none⟩) n1 n1 LL by
      rw [hin,row_done HL1.out] at ho5
      exact ho5)
     have HB5:=ah hB5
     obtain ⟨E,hE,hEl,hEn⟩:=OwL.next stayPp HOT.out hB5
     have HE:=ah hE
     have HEN:=ah (cJ hEl hEn)
     subst hin
     clear ho5 hB5 hE hEl hEn
     go_wp2_with (at_builtin;refine wpList_append_own _ rfl _ _ 45 rfl w.heap.size 30 i1 (.slice none 0 0) 1 24 Tryz.underlying45 hjf hy0 hy1 hy2 rfl (by decide) _ _ _ rfl (HE.out.alloc _) ⟨wr.heap.size,0,none⟩ 1 1 [.slice (some ⟨gr,0,none⟩) i i] rfl rfl (scell1 wr (.slice (some ⟨gr,0,none⟩) i i) 30) (by simp [Value.oneCell']) (by have:=HJL.out;unfold maxLen;omega) (by have:=HJL.out;omega) (by have h1:=HB5.out.size;have h2:=HB3.out.size;simp;omega) ?_;intro v' w1 hown' hgrow _)
     obtain ⟨A9,c9,rfl,ho9⟩:=OwL.more stayPp (e:=(some ⟨gr,0,none⟩,i,i)) HO5.out (HE.out.alloc _) HEN.out.1 HEN.out.2 hown' hgrow
     have hbx:=HB3.out.trans (HB5.out.mono HB3.out.size)
     have HB9:=ah ((hbx.alloc hbx.size (.cells #[.slice (some ⟨gr,0,none⟩) i i] 30)).grown hgrow (by have:=hbx.size;simp;omega) (own_block HE.out))
     have HO9:=ah (show OwPp w1 w.heap.size A9 (j+1) c9 (MM.take (j+1)) by
      rw [List.take_add_one,hp.out]
      exact ho9)
     clear hown' hgrow HE HEN ho9 hbx
     go_wp2
     go_roundw
     case rel=>exact ⟨j+1,c9,A9,rfl,by go_num,by omega,HO9.out,HB9.out⟩
     case measure=>simp [intOf];omega
    ·have hil:i < n1:=by omega
     have hili:(i:Int) < (n1:Int):=by omega
     clear hin
     obtain ⟨g6,A6,n6,c6,L,rfl,hgl6,hx6,ho6,hp6⟩:=(HO1.out wr hB5).at_ hil
     have HB5:=ah hB5
     have HM6:=ah (gM hp6.out)
     have HO5:=ah ho5
     have HO6:=ah ho6
     clear ho5 ho6 hB5
     go_wp2_with fail
     clear hx6
     refine (pnrmB_any HO6.out (HZ.out LL HM.out L HM6.out) (HF.out.sz LL HM.out L HM6.out) (HF.out.len LL HM.out L HM6.out) hN h1N).mono ?_
     rintro _ W7 ⟨A7,n7,c7,rfl,ho7,hb7⟩
     have HB7:=tM HB5 hb7
     have hr7:=OwL.next stayQP HO5.out hb7
     obtain ⟨_,_,_,_,_,q0,_,_⟩:=hr7.cell hil
     obtain ⟨hbg,hgl,f0,hr8,hk8⟩:=OwL.put stayQP hr7 hil (ho7.base (b':=w.heap.size) (nT HB3.out.size HB5.out.size))
     have HR8:=ah (show OwP (W7.setCell ⟨gr,i,none⟩ (.slice A7 n7 c7)) w.heap.size (some ⟨gr,0,none⟩) n1 n1 (rowF n1 fun q=>if q < i+1 then LL.getD q [] else []) by
      rw [<- row_step (F:=fun q=>LL.getD q []) (getD_of hp6.out)]
      exact hr8)
     have HB8:=ah (show Below wo.heap.size wo (W7.setCell ⟨gr,i,none⟩ (.slice A7 n7 c7)) from HB7.out.setCell (p:=⟨gr,i,none⟩) HG2.out _)
     clear hr7 hr8 ho7 hb7 hk8 hbg
     go_wp2
     go_roundw
     case rel=>exact ⟨i+1,by go_num,by omega,HR8.out,HB8.out⟩
     case measure=>simp [intOf];omega
theorem identity_any (n:Nat)(hn:n<=1048576)(w:World):Calls Tryz.prog 77 #[.int .i64 (n:Int)] w (RetTg (idT n) n w):=by
 obtain ⟨i1,hjf,hy0,hy1,hy2⟩:=info_parts infoRow
 have hmk:=make_ps n hn
 obtain ⟨W1,HW1⟩:∃ W,W=w.alloc (.cells #[.slice none 0 0,.int .i64 (n:Int)] 102):=⟨_,rfl⟩
 have hb1:Below w.heap.size w W1:=by rw [HW1];exact bA
 obtain ⟨t,ht⟩:∃ g,g=w.heap.size:=⟨_,rfl⟩
 have HN0:=ah (show PX W1 t 102 [.slice none 0 0,.int .i64 (n:Int)] by rw [HW1,ht];exact PX.new w _ [.slice none 0 0,.int .i64 (n:Int)])
 have HGW:=ah (show w.heap.size<=t by rw [ht];exact nR)
 have HB0:=ah hb1
 have HW1:=ah HW1
 clear hb1
 go_enter Tryz.func77,Tryz.ntmps77
 go_wp2_with fail
 rw [<- HW1.out,<- ht]
 clear HW1 ht
 clear HW1
 go_loopw [10] (fun iv wr=>∃ (j c':Nat) (A':Option Addr),iv=.int .i64 (j:Int)/\j<=n/\Hid (PX wr t 102 [.slice A' j c',.int .i64 (n:Int)])/\OwPp wr w.heap.size A' j c' (rowF j (oneR n))/\Below w.heap.size w wr) (fun iv _=>n-(intOf iv).toNat)
 case atStart=>exact ⟨0,0,none,rfl,nZ,HN0,OwL.nil _ _ _ _,HB0.out⟩
 case round =>
  obtain ⟨j,c',A',rfl,hj,hT,ho,hB⟩:=hrel
  by_cases hjn:j=n
  ·have HTG:=ah (show Tg wr w.heap.size t (idT n) n from ⟨A',j,c',hT.out,HGW.out,by
    unfold idT
    rw [<- hjn] at ho ⊢
    exact ho⟩)
   have HBF:=ah hB
   subst hjn
   clear ho hB hT
   go_wp2
   go_ret
   exact ⟨t,rfl,HTG.out,HBF.out⟩
  ·have hjl:j < n:=by omega
   have hjli:(j:Int) < (n:Int):=by omega
   obtain ⟨wo,rfl⟩:∃ V,V=wr:=⟨_,rfl⟩
   clear hjn
   have HOT:=ah ho
   have HT:=hT
   have HB3:=ah hB
   have HJL:=ah (show j+1<=1048576 by omega)
   obtain ⟨R0,HR0⟩:∃ W,W=wo.alloc (.cells (madeCells #[.slice none 0 0] n) 73):=⟨_,rfl⟩
   have hb2:Below wo.heap.size wo R0:=by rw [HR0];exact bA
   obtain ⟨gr,hgr⟩:∃ g,g=wo.heap.size:=⟨_,rfl⟩
   have HP2:=ah (show OwP R0 w.heap.size (some ⟨gr,0,none⟩) n n (rowF n fun _=>[]) by rw [HR0,hgr];exact OwP.made wo HB3.out.size hn)
   have HG2:=ah (show wo.heap.size<=gr by rw [hgr];exact nR)
   have HB4:=ah hb2
   have HB2:=tM HB3 hb2
   have HR0:=ah HR0
   clear hb2 ho hB hT
   go_wp2_with fail
   rw [<- HR0.out,<- hgr]
   clear HR0 hgr
   clear HR0
   refine (constant_any R0).mono ?_
   rintro _ C0 ⟨B0,M0,l0,rfl,ho7,hb7⟩
   have hr7:=OwL.next stayQP HP2.out hb7
   obtain ⟨_,_,_,_,_,q0,_,_⟩:=hr7.cell hjl
   obtain ⟨hbg,hgl,f0,hr8,hk8⟩:=OwL.put stayQP hr7 hjl (ho7.base (b':=w.heap.size) HB2.out.size)
   have HR8:=ah (show OwP (C0.setCell ⟨gr,j,none⟩ (.slice B0 M0 l0)) w.heap.size (some ⟨gr,0,none⟩) n n (oneR n j) by
    unfold oneR
    rw [rowF_set] at hr8
    exact hr8)
   have hbo:Below wo.heap.size wo (C0.setCell ⟨gr,j,none⟩ (.slice B0 M0 l0)):=(HB4.out.trans (hb7.mono HB4.out.size)).setCell (p:=⟨gr,j,none⟩) HG2.out _
   have HB8:=ah (show Below w.heap.size w (C0.setCell ⟨gr,j,none⟩ (.slice B0 M0 l0)) from HB3.out.trans (hbo.mono HB3.out.size))
   have HT8:=ah (show PX (C0.setCell ⟨gr,j,none⟩ (.slice B0 M0 l0)) t 102 [.slice A' j c',.int .i64 (n:Int)] from HT.out.next hbo)
   obtain ⟨E,hE,hEl,hEn⟩:=OwL.next stayPp HOT.out hbo
   have HE:=ah hE
   have HEN:=ah (cJ hEl hEn)
   have m0:=HT8.out.cell (i:=0) rfl
   have hba:Below (C0.setCell ⟨gr,j,none⟩ (.slice B0 M0 l0)).heap.size (C0.setCell ⟨gr,j,none⟩ (.slice B0 M0 l0)) ((C0.setCell ⟨gr,j,none⟩ (.slice B0 M0 l0)).alloc (.cells #[.slice (some ⟨gr,0,none⟩) n n] 30)):=bA
   have m0':((C0.setCell ⟨gr,j,none⟩ (.slice B0 M0 l0)).alloc (.cells #[.slice (some ⟨gr,0,none⟩) n n] 30)).cell? ⟨t,0,none⟩=some (.slice A' j c'):=(HT8.out.next hba).cell (i:=0) rfl
   have HSN:=ah (show ∀ q u,[.slice (some ⟨gr,0,none⟩) n n][q]?=some u->((C0.setCell ⟨gr,j,none⟩ (.slice B0 M0 l0)).alloc (.cells #[.slice (some ⟨gr,0,none⟩) n n] 30)).cell? ((⟨C0.heap.size,0,none⟩:Addr).add q)=some u by
    have h1:=scell1 (C0.setCell ⟨gr,j,none⟩ (.slice B0 M0 l0)) (.slice (some ⟨gr,0,none⟩) n n) 30
    rw [World.size_setCell] at h1
    exact h1)
   clear ho7 hb7 hr7 hr8 hk8 hbg hgl hE hEl hEn hbo
   go_wp2_with (at_builtin;(refine wpList_append_own _ rfl _ _ 45 rfl w.heap.size 30 i1 (.slice none 0 0) 1 24 Tryz.underlying45 hjf hy0 hy1 hy2 rfl (by decide) _ _ _ rfl (HE.out.alloc _) ⟨C0.heap.size,0,none⟩ 1 1 [.slice (some ⟨gr,0,none⟩) n n] rfl rfl HSN.out (by simp [Value.oneCell']) (by have:=HJL.out;unfold maxLen;omega) (by have:=HJL.out;omega) (by have h1:=HB8.out.size;rw [World.size_alloc];omega) ?_);intro v' Y0 hown' hgrow _;(obtain ⟨A9,c9,rfl,e1,e2,hT9,ho9⟩:=tp_more (e:=(some ⟨gr,0,none⟩,n,n)) HT8.out HE.out HEN.out.1 HEN.out.2 HR8.out hown' hgrow))
   obtain ⟨X0,HX0⟩:∃ W,W=Y0.setCell ⟨t,0,none⟩ (.slice A9 (j+1) c9):=⟨_,rfl⟩
   have HB9:=ah (show Below w.heap.size w X0 by
    rw [HX0]
    exact (((HB8.out.alloc HB8.out.size (.cells #[.slice (some ⟨gr,0,none⟩) n n] 30)).grown hgrow (by have h1:=HB8.out.size;rw [World.size_alloc];omega) (own_block HE.out)).setCell (p:=⟨t,0,none⟩) HGW.out _))
   rw [<- HX0] at hT9 ho9
   have HT9:=ah hT9
   have HO9:=ah (show OwPp X0 w.heap.size A9 (j+1) c9 (rowF (j+1) (oneR n)) by
    rw [<- rowF_snoc]
    exact ho9)
   rw [<- HX0]
   clear hown' hgrow e1 e2 m0 m0' q0 f0 hba HX0 HE HEN hT9 ho9
   go_roundw
   case rel=>exact ⟨j+1,c9,A9,by go_num,by omega,HT9,HO9.out,HB9.out⟩
   case measure=>simp [intOf];omega
theorem idT_fine {n:Nat}(hn:n<=1048576):Fine 1 (idT n):=by
 have key:∀ LL ∈ idT n,LL.length=n/\∀ L ∈ LL,L=[1] ∨ L=[]:=fun LL h=>by
  obtain ⟨i,hi,rfl⟩:=rowF_mem h
  refine ⟨rowF_len _ _,fun L hL=>?_⟩
  obtain ⟨q,hq,rfl⟩:=rowF_mem hL
  by_cases e:q=i
  ·exact .inl (by simp only [if_pos e])
  ·exact .inr (by simp only [if_neg e])
 refine ⟨by rw [idT,rowF_len];exact hn,fun LL h=>by rw [(key LL h).1];exact hn,fun LL h L hL=>?_,fun LL h L hL x hx=>?_⟩
 ·rcases (key LL h).2 L hL with rfl | rfl
  ·decide
  ·decide
 ·rcases (key LL h).2 L hL with rfl | rfl
  ·exact one_qs x hx
  ·cases hx
theorem idT_nrm (n:Nat):NrmT (idT n):=fun LL h L hL=>by
 obtain ⟨i,hi,rfl⟩:=rowF_mem h
 obtain ⟨q,hq,rfl⟩:=rowF_mem hL
 by_cases e:q=i
 ·simp only [if_pos e];decide +kernel
 ·simp only [if_neg e];rfl
def IdV (z:Int)(MM:List (List (List Rat)))(kk:Int):Prop:=((z < 0 ∨ 24 < z)/\MM=[]/\kk=1) ∨ (¬(z < 0 ∨ 24 < z)/\MM=idT z.toNat/\kk=0)
theorem Identity_any (z:Int)(w:World):Calls Tryz.prog 25 #[.int .i64 z] w (RetPk (IdV z) w):=by
 have HB:=ah (Below.refl w.heap.size w)
 go_enter Tryz.func25,Tryz.ntmps25
 by_cases h0:z < 0
 ·have HV:=ah h0
  go_wp2
  go_ret2
  exact ⟨none,0,0,[],1,rfl,OwL.nil _ _ _ _,ah (.inl ⟨.inl HV.out,rfl,rfl⟩),HB.out⟩
 ·by_cases h1:24 < z
  ·have HV:=ah h1
   go_wp2
   go_ret2
   exact ⟨none,0,0,[],1,rfl,OwL.nil _ _ _ _,ah (.inl ⟨.inr HV.out,rfl,rfl⟩),HB.out⟩
  ·have HV:=ah (show ¬(z < 0 ∨ 24 < z) by omega)
   obtain ⟨n,hzn⟩:∃ n:Nat,z=(n:Int):=⟨z.toNat,by omega⟩
   have HNZ:=ah (show z.toNat=n/\n<=24 by omega)
   subst hzn
   go_wp2_with fail
   refine (identity_any n (by have:=HNZ.out.2;omega) w).mono ?_
   rintro _ W1 ⟨t,rfl,hT,hb1⟩
   have HT:=ah hT
   have HB1:=ah hb1
   clear hT hb1
   go_wp2_with fail
   refine (told_any HT.out (idT_fine (by have:=HNZ.out.2;omega)) (idT_nrm n) (by decide) (by decide)).mono ?_
   rintro _ W2 ⟨A2,n2,c2,rfl,ho2,hb2⟩
   have HO2:=ah (OwL.base stayPp ho2 HB1.out.size)
   have HB2:=tM HB1 hb2
   clear ho2 hb2
   go_wp2
   go_ret2
   exact ⟨A2,n2,c2,idT n,0,rfl,HO2.out,ah (.inr ⟨HV.out,by rw [HNZ.out.1],rfl⟩),HB2.out⟩
end Go.Proofs.YtjnklbfhelbjgaaGreat
