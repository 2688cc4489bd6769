/- Sr26. -/
import Derived.Test.YtjnklbfhelbjgaaGreatSr17
import Derived.Test.YtjnklbfhelbjgaaGreatSr25
import Derived.Test.YtjnklbfhelbjgaaGreatSr14
import Derived.Sort.CutIn
import Derived.Test.YtjnklbfhelbjgaaGreatSr00
set_option maxRecDepth 100000
set_option maxHeartbeats 32000000
set_option linter.all false
namespace Go.Proofs.YtjnklbfhelbjgaaGreat
open Go.RowKit Go.IntWalk
attribute [local go_sem ↓] Go.wp_at_zero Go.wp_at_succ
def RwV (d:Int)(RR:List RawRow)(LL:List (List Rat))(kk:Int):Prop:=(chk d RR=0/\LL=ent d RR/\kk=0) ∨ (chk d RR ≠ 0/\LL=[]/\kk=chk d RR)
def RetRw (d:Int)(RR:List RawRow)(w:World)(e:Ending)(w':World):Prop :=
 ∃ (A:Option Addr) (n c:Nat) (LL:List (List Rat)) (kk:Int),e=.returned (.tuple #[.slice A n c,.int .i64 kk])/\OwQss w' w.heap.size A n c LL/\Hid (RwV d RR LL kk)/\Below w.heap.size w w'
theorem ent_take {d:Int}{RR:List RawRow}{j:Nat}{R:RawRow}(h:RR[j]?=some R):ent d (RR.take j) ++ [R.map fun x=>Rat.divInt (toZ x) d]=ent d (RR.take (j+1)):=by
 unfold ent
 rw [List.take_add_one,h,List.map_append]
 rfl
theorem row_take {d:Int}{R:RawRow}{j:Nat}{x:Bool × List Nat}(h:R[j]?=some x):((R.take j).map fun x=>Rat.divInt (toZ x) d) ++ [Rat.divInt (toZ x) d]=(R.take (j+1)).map fun x=>Rat.divInt (toZ x) d:=by
 rw [List.take_add_one,h,List.map_append]
 rfl
theorem scell_new (w:World)(v:Value)(t:TypeId):∀ j a,[v][j]?=some a->(w.alloc (.cells #[v] t)).cell? ((⟨w.heap.size,0,none⟩:Addr).add j)=some a:=by
 intro j a hj
 match j,hj with
 | 0,hj=>simp at hj;subst hj;simp [Addr.add]
 | (j+1),hj=>simp at hj
theorem mRows_any {N K:Nat}{s:Bool}{A G:Option Addr}{n c r k:Nat}{d:Int}{RR:List RawRow}{w:World}(h:RdZ w w.heap.size s A n c d)(h':RdRss w w.heap.size N K G r k RR)(hn:n<=1000000000000)(hN:N<=1000000000000)(hr:r<=1048576)(hK:K<=1048576) :
  Calls Tryz.prog 35 #[.agg #[.bool s,.slice A n c,.slice G r k]] w (RetRw d RR w):=by
 obtain ⟨W1,HW1⟩:∃ W,W=w.alloc (.cells #[.bool s,.slice A n c,.slice G r k] 28):=⟨_,rfl⟩
 have hM:MC W1 w.heap.size s A n c G r k:=by rw [HW1];exact MC.new w s A n c G r k
 have hB:Below w.heap.size w W1:=by rw [HW1];exact bA
 obtain ⟨i0,hi,hz0,hz1,hz2⟩:=info_parts infoQ
 obtain ⟨i1,hjf,hy0,hy1,hy2⟩:=info_parts infoQr
 have HB:=ah hB
 have HX:=ah (show ∀ W,Below W1.heap.size W1 W->MC W w.heap.size s A n c G r k/\RdZ W W.heap.size s A n c d/\RdRss W W.heap.size N K G r k RR from fun W hb=>⟨hM.next hb,(h.next hB).next hb,(h'.next hB).next hb⟩)
 have HL:=ah h'.len
 have m0:=hM.c0
 have m1:=hM.c1
 have m2:=hM.c2
 rw [HW1] at m0 m1 m2
 have HW1:=ah HW1
 clear h h' hM hB
 go_enter Tryz.func35,Tryz.ntmps35
 go_wp2_with fail
 rw [<- HW1.out]
 clear HW1
 clear HW1
 refine (mcheck_any (HX.out _ bR).2.1 (HX.out _ bR).2.2 (by omega) hr).mono ?_
 rintro _ W2 ⟨v,rfl,hv,hb2⟩
 have HB2:=ah (show Below w.heap.size w W2 from HB.out.trans (hb2.mono HB.out.size))
 have HX2:=ah (show ∀ W,Below W2.heap.size W2 W->MC W w.heap.size s A n c G r k/\RdZ W W.heap.size s A n c d/\RdRss W W.heap.size N K G r k RR from fun W hb=>HX.out W (hb2.trans (hb.mono hb2.size)))
 have q2:=(HX2.out _ bR).1.c2
 clear m0 m1 m2 hb2
 by_cases h0:v=0
 case neg =>
  have hvb:(v == 0)=false:=by simp [h0]
  have HC:=ah (show chk d RR ≠ 0 from by rw [<- hv.out];exact h0)
  clear q2
  go_wp2
  go_ret2
  exact ⟨none,0,0,[],v,rfl,OwQss.nil _ _,ah (.inr ⟨HC.out,rfl,hv.out⟩),HB2.out⟩
 have HC:=ah (show chk d RR=0 from by rw [<- hv.out];exact h0)
 have HD0:=ah (chk_zero HC.out).1
 subst h0
 clear hv HX
 go_wp2_with fail
 clear q2
 go_loopw [5,21] (fun ov iv wr=>∃ (j c':Nat) (A':Option Addr),ov=.slice A' j c'/\iv=.int .i64 j/\j<=r/\OwQss wr W2.heap.size A' j c' (ent d (RR.take j))/\Below W2.heap.size W2 wr) (fun _ iv _=>r-(intOf iv).toNat)
 case atStart=>exact ⟨0,0,none,rfl,rfl,nZ,OwQss.nil _ _,bR⟩
 case round =>
  obtain ⟨j,c',A',rfl,rfl,hj,ho,hB⟩:=hrel
  by_cases hjr:j=r
  ·have HO:=ah (show OwQss wr w.heap.size A' j c' (ent d RR) by rw [<- List.take_of_length_le (l:=RR) (i:=j) (by rw [HL.out,hjr];exact nR)];exact ho.base HB2.out.size)
   have HBF:=tM HB2 hB
   subst hjr
   clear ho hB
   go_wp2
   go_ret2
   exact ⟨A',j,c',_,0,rfl,HO.out,ah (.inl ⟨HC.out,rfl,rfl⟩),HBF.out⟩
  ·have hjl:j < r:=by omega
   have hjli:(j:Int) < (r:Int):=by omega
   obtain ⟨wo,rfl⟩:∃ V,V=wr:=⟨_,rfl⟩
   clear hjr
   obtain ⟨ad,A1,n1,c1,R,rfl,hbk,hx,hr1,hn1,hp⟩:=rss_at (HX2.out wo hB).2.2 hjl
   have hmk:=fun W:World=>make_qroom n1 (by omega) W
   obtain ⟨W3,HW3⟩:∃ W,W=wo.alloc (.cells (madeCells #[.bool false,.slice none 0 0,.bool false,.slice none 0 0] (n1*4)) 47):=⟨_,rfl⟩
   have hb3:Below wo.heap.size wo W3:=by rw [HW3];exact bA
   have HO3:=ah (show OwQs W3 wo.heap.size (some ⟨wo.heap.size,0,none⟩) 0 n1 [] by rw [HW3];exact OwQs.room wo n1 (by unfold maxLen;omega))
   have HOT:=ah ho
   have HB3:=ah (cJ hB hb3)
   have HRR:=ah (cJ hr1 hr1.len)
   have HJL:=ah (show j+1<=1048576 by omega)
   have HW3:=ah HW3
   clear ho hB hb3 hr1
   go_wp2_with fail
   rw [<- HW3.out]
   clear HW3 hx
   clear HW3
   clear hmk
   go_loopw [8,30] (fun ov iv wr=>∃ (i c5:Nat) (A5:Option Addr),ov=.slice A5 i c5/\iv=.int .i64 i/\i<=n1/\OwQs wr wo.heap.size A5 i c5 ((R.take i).map fun x=>Rat.divInt (toZ x) d)/\Below wo.heap.size wo wr/\W3.heap.size<=wr.heap.size) (fun _ iv _=>n1-(intOf iv).toNat)
   case atStart=>exact ⟨0,n1,_,rfl,rfl,nZ,HO3.out,HB3.out.2,nR⟩
   case round =>
    obtain ⟨i,c5,A5,rfl,rfl,hi5,ho5,hB5,hS5⟩:=hrel
    by_cases hin:i=n1
    ·have HO5:=ah (show OwQp wr W2.heap.size A5 i c5 (R.map fun x=>Rat.divInt (toZ x) d) by rw [<- List.take_of_length_le (l:=R) (i:=i) (by rw [HRR.out.2,hin];exact nR)];exact ho5.p.base HB3.out.1.size)
     have HB5:=ah hB5
     obtain ⟨E,hE,hEl,hEn⟩:=HOT.out.next hB5
     have HE:=ah hE
     have HEN:=ah (cJ hEl hEn)
     subst hin
     clear ho5 hB5 hE hEl hEn hS5
     go_wp2_with (at_builtin;refine wpList_append_own _ rfl _ _ 68 rfl W2.heap.size 72 i1 (.slice none 0 0) 1 24 Tryz.underlying68 hjf hy0 hy1 hy2 rfl (by decide) _ _ _ rfl (HE.out.alloc _) ⟨wr.heap.size,0,none⟩ 1 1 [.slice A5 i c5] rfl rfl (scell_new wr (.slice A5 i c5) 72) (by simp [Value.oneCell']) (by have:=HJL.out;unfold maxLen;omega) (by have:=HJL.out;omega) (by have h1:=HB5.out.size;have h2:=HB3.out.1.size;simp;omega) ?_;intro v' w1 hown' hgrow _)
     obtain ⟨A9,c9,rfl,ho9⟩:=qss_more (e:=(A5,i,c5)) (L:=R.map fun x=>Rat.divInt (toZ x) d) HO5.out rfl (HE.out.alloc _) HEN.out.1 (HEN.out.2.next (bR.alloc nR (.cells #[.slice A5 i c5] 72))) hown' hgrow
     have hbx:=HB3.out.1.trans (HB5.out.mono HB3.out.1.size)
     have HB9:=ah ((hbx.alloc hbx.size (.cells #[.slice A5 i c5] 72)).grown hgrow (by have:=hbx.size;simp;omega) (own_block HE.out))
     have HO9:=ah (show OwQss w1 W2.heap.size A9 (j+1) c9 (ent d (RR.take (j+1))) by rw [<- ent_take hp.out];exact ho9)
     clear hown' hgrow HE HEN ho9 hbx
     go_wp2
     go_roundw
     case rel=>exact ⟨j+1,c9,A9,rfl,by go_num,by omega,HO9.out,HB9.out⟩
     case measure=>simp [intOf];omega
    ·have hil:i < n1:=by omega
     have hili:(i:Int) < (n1:Int):=by omega
     clear hin
     obtain ⟨ad2,s6,M6,A6,n6,c6,rfl,hbk6,hz60,hz61,hr6,hn6,hp6⟩:=rs_at (HRR.out.1.next hB5) hil
     obtain ⟨W6,HW6⟩:∃ W,W=wr.alloc (.cells #[.bool s6,.slice A6 n6 c6] 25):=⟨_,rfl⟩
     have hb6:Below wr.heap.size wr W6:=by rw [HW6];exact bA
     have hb26:=HB3.out.1.trans ((hB5.trans (hb6.mono hB5.size)).mono HB3.out.1.size)
     obtain ⟨hM6,hd6,_⟩:=HX2.out W6 hb26
     have HZ6:=ah (cJ (show RdZ W6 W6.heap.size s6 A6 n6 c6 (toZ (s6,M6)) from ⟨M6,hr6.next hb6,rfl⟩) hd6)
     have HO6:=ah (ho5.next hb6)
     have HB6:=ah (hB5.trans (hb6.mono hB5.size))
     have HS6:=ah (nT hS5 hb6.size)
     have a0:=hM6.c0
     have a1:=hM6.c1
     rw [HW6] at a0 a1
     have HW6:=ah HW6
     clear hb6 hb26 hM6 hd6 hr6 ho5 hB5 hS5
     go_wp2_with fail
     rw [<- HW6.out]
     clear HW6 a0 a1 hz60 hz61
     clear HW6
     refine (qmake_any HZ6.out.1 HZ6.out.2 (by omega) hn HD0.out).mono ?_
     rintro _ W7 ⟨s7,A7,n7,c7,s8,A8,n8,c8,y,rfl,ho7,hy,hb7⟩
     obtain ⟨W8,HW8⟩:∃ W,W=W7.alloc (.cells #[.bool s7,.slice A7 n7 c7,.bool s8,.slice A8 n8 c8] 47):=⟨_,rfl⟩
     have hb8:Below W7.heap.size W7 W8:=by rw [HW8];exact bA
     have hB8:=HB6.out.trans ((hb7.trans (hb8.mono hb7.size)).mono HB6.out.size)
     obtain ⟨E,hE,hEl,hEn⟩:=(HO6.out.next hb7).next hb8
     have HO8:=ah ((ho7.base (b':=wo.heap.size) HB6.out.size).next hb8)
     rw [HW8] at hE hB8 hEn
     rw [HW8] at HO8
     have HE:=ah hE
     have HEN:=ah (cJ hEl hEn)
     have HY:=ah (show ((R.take i).map fun x=>Rat.divInt (toZ x) d) ++ [y]=(R.take (i+1)).map fun x=>Rat.divInt (toZ x) d by rw [hy.out];exact row_take hp6.out)
     have HB8:=ah hB8
     have HS8:=ah (show W3.heap.size<=W7.heap.size from nT HS6.out hb7.size)
     clear hE hEl hEn hb7 ho7 hb8 hB8 hy
     clear HW8
     go_wp2_with (at_builtin;refine wpList_append_own _ rfl _ _ 72 rfl wo.heap.size 47 i0 (.agg #[.bool false,.slice none 0 0,.bool false,.slice none 0 0]) 4 64 Tryz.underlying72 hi hz0 hz1 hz2 rfl (by decide) _ _ _ rfl (HE.out.alloc _) ⟨W7.heap.size+1,0,none⟩ 1 1 [.bool s7,.slice A7 n7 c7,.bool s8,.slice A8 n8 c8] rfl rfl (by simpa using qcell_new (W7.alloc (.cells #[.bool s7,.slice A7 n7 c7,.bool s8,.slice A8 n8 c8] 47)) (.bool s7) (.slice A7 n7 c7) (.bool s8) (.slice A8 n8 c8) 47) (by simp [Value.oneCell']) (by unfold maxLen;omega) (by omega) (by have:=HB8.out.size;simp at this ⊢;omega) ?_;intro v' w1 hown' hgrow _)
     obtain ⟨A9,c9,rfl,ho9⟩:=qs_more (e:=((s7,A7,n7,c7),(s8,A8,n8,c8))) (x:=y) HO8.out rfl (HE.out.alloc _) HEN.out.1 HEN.out.2 hown' hgrow
     have HB9:=ah ((HB8.out.alloc HB8.out.size (.cells #[.bool s7,.slice A7 n7 c7,.bool s8,.slice A8 n8 c8] 47)).grown hgrow (by have:=HB8.out.size;simp at this ⊢;omega) (own_block HE.out))
     have HO9:=ah (show OwQs w1 wo.heap.size A9 (i+1) c9 ((R.take (i+1)).map fun x=>Rat.divInt (toZ x) d) by rw [<- HY.out];exact ho9)
     have HS9:=ah (show W3.heap.size<=w1.heap.size by have h1:=hgrow.size;have h2:=HS8.out;simp at h1;omega)
     clear hown' hgrow HE HEN HO8 ho9
     go_wp2
     go_roundw
     case rel=>exact ⟨i+1,c9,A9,rfl,by go_num,by omega,HO9.out,HB9.out,HS9.out⟩
     case measure=>simp [intOf];omega
end Go.Proofs.YtjnklbfhelbjgaaGreat
namespace Go.Proofs.YtjnklbfhelbjgaaGreat
open Go.RowKit Go.IntWalk Go.Shelf
attribute [local go_sem] Oper.semAt_some
theorem flatten_le {α:Type}{K:Nat}:∀ LL:List (List α),(∀ L ∈ LL,L.length<=K)->LL.flatten.length<=LL.length*K
 | [],_=>by simp
 | L :: LL, h => by
   have ih:=flatten_le LL fun M hM=>h M (List.mem_cons_of_mem _ hM)
   have h1:=h L (List.mem_cons_self ..)
   rw [List.flatten_cons,List.length_append,List.length_cons,Nat.succ_mul]
   omega
theorem map_of_get {α β:Type}{f:α->β}{l:List α}{m:List β}(hl:l.length=m.length)(h:∀ (j:Nat)(x:α),l[j]?=some x->m[j]?=some (f x)):l.map f=m:=by
 refine List.ext_getElem? fun j=>?_
 rw [List.getElem?_map]
 rcases Nat.lt_or_ge j l.length with hj | hj
 ·rw [gE hj]
  exact (h j _ (gE hj)).symm
 ·rw [gN hj,gN (by omega)]
  rfl
theorem OwQss.grid {w:World}{b:Nat}{A:Option Addr}{n c:Nat}{LL:List (List Rat)}(h:OwQss w b A n c LL):∃ XX:List (List (GQ w b)),GridQ w w.heap.size A n XX/\XX.map (fun r=>r.map (fun x=>x.1.2))=LL:=by
 obtain ⟨XX,h1,h2⟩:=exists_list (P:=fun (i:Nat) (row:List (GQ w b))=>(∃ (ad:Addr) (A1:Option Addr) (n1 c1:Nat),A=some ad/\ad.block < w.heap.size/\w.cell? (ad.add i)=some (.slice A1 n1 c1)/\row.length=n1/\n1<=maxLen /\
   ∀ (j:Nat) (x:GQ w b),row[j]?=some x->∃ ad1:Addr,A1=some ad1/\ad1.block < w.heap.size/\w.cell? (ad1.add (j*4))=some (.bool x.1.1.1.1)/\w.cell? ⟨(ad1.add (j*4)).block,(ad1.add (j*4)).off+1,none⟩=some (.slice x.1.1.1.2.1 x.1.1.1.2.2.1 x.1.1.1.2.2.2)/\w.cell? ⟨(ad1.add (j*4)).block,(ad1.add (j*4)).off+2,none⟩=some (.bool x.1.1.2.1)/\w.cell? ⟨(ad1.add (j*4)).block,(ad1.add (j*4)).off+3,none⟩=some (.slice x.1.1.2.2.1 x.1.1.2.2.2.1 x.1.1.2.2.2.2))/\LL[i]?=some (row.map (fun x=>x.1.2))) n (fun i hi=>by
  obtain ⟨g,A1,n1,c1,L,rfl,e2,e3,e4,e5⟩:=oql_at h hi
  obtain ⟨row,r1,r2⟩:=exists_list (P:=fun (j:Nat) (x:GQ w b)=>(∃ ad1:Addr,A1=some ad1/\ad1.block < w.heap.size/\w.cell? (ad1.add (j*4))=some (.bool x.1.1.1.1)/\w.cell? ⟨(ad1.add (j*4)).block,(ad1.add (j*4)).off+1,none⟩=some (.slice x.1.1.1.2.1 x.1.1.1.2.2.1 x.1.1.1.2.2.2)/\w.cell? ⟨(ad1.add (j*4)).block,(ad1.add (j*4)).off+2,none⟩=some (.bool x.1.1.2.1)/\w.cell? ⟨(ad1.add (j*4)).block,(ad1.add (j*4)).off+3,none⟩=some (.slice x.1.1.2.2.1 x.1.1.2.2.2.1 x.1.1.2.2.2.2))/\L[j]?=some x.1.2) n1 (fun j hj=>by
   obtain ⟨ad1,s,B1,m1,k1,s',B1',m1',k1',x,q1,q2,q3,q4,q5,q6,q7,q8⟩:=op_at e4 hj
   exact ⟨⟨(((s,B1,m1,k1),(s',B1',m1',k1')),x),q7⟩,⟨ad1,q1,q2,q3,q4,q5,q6⟩,q8.out⟩)
  refine ⟨row,⟨⟨g,0,none⟩,A1,n1,c1,rfl,e2,by rw [add_base];exact e3,r1,nT e4.le.1 e4.le.2,fun j x hx=>(r2 j x hx).1⟩,?_⟩
  rw [e5.out]
  congr 1
  exact (map_of_get (by rw [r1,e4.len]) fun j x hx=>(r2 j x hx).2).symm)
 exact ⟨XX,⟨h1,fun i row hi=>(h2 i row hi).1⟩,map_of_get (by rw [h1,h.len]) fun i row hi=>(h2 i row hi).2⟩
structure AllI {W0:World}{b:Nat}(m Ba Bs:Nat)(gv:Value)(pre:List (GQ W0 b))(W:World):Prop where
 box:∃ (A':Option Addr) (c':Nat) (E:List (Ent × Ent)),Boxed W Ba 72 (.slice A' pre.length c')/\W.ownsRow W0.heap.size 47 4 (.slice A' pre.length c') pre.length (qcs E)/\E.length=pre.length/\EntQ W b E (pre.map (fun x=>x.1.2))
 bs:Boxed W Bs 148 gv
 lo:Below W0.heap.size W0 W
 s:m<=W.heap.size
section
variable {W0:World}{b m Ba Bs:Nat}{gv:Value}{pre:List (GQ W0 b)}{W:World}
theorem AllI.own (hm:W0.heap.size<=m):OwnFrom m (AllI (W0:=W0) (b:=b) m Ba Bs gv):=fun pre W W' row hs hg hr=>by
 obtain ⟨⟨A',c',E,h1,h2,h3,h4⟩,h5,h6,h7⟩:=hs
 have hk:=keepC_own hg (fun r e=>(hr r e).2)
 exact ⟨⟨A',c',E,hk _ _ _ _ h1,hk.row h2,h3,h4.keep hk.q.1⟩,hk _ _ _ _ h5,h6.grown hg h6.size (fun r e=>nT hm (hr r e).1),nT h7 hg.size⟩
theorem AllI.step {x:GQ W0 b}{w1:World}{v':Value}{A':Option Addr}{c':Nat}{E:List (Ent × Ent)}{t:TypeId}(hBa:W0.heap.size<=Ba)(hBs:Bs ≠ Ba)(h1:Boxed W Ba 72 (.slice A' pre.length c'))(h2:W.ownsRow W0.heap.size 47 4 (.slice A' pre.length c') pre.length (qcs E))(h3:E.length=pre.length)(h4:EntQ W b E (pre.map (fun x=>x.1.2)))(h5:Boxed W Bs 148 gv)(h6:Below W0.heap.size W0 W)(h7:m<=W.heap.size)
  (hown':w1.ownsRow W0.heap.size 47 4 v' (pre.length+1) (qcs E ++ [.bool x.1.1.1.1,.slice x.1.1.1.2.1 x.1.1.1.2.2.1 x.1.1.1.2.2.2,.bool x.1.1.2.1,.slice x.1.1.2.2.1 x.1.1.2.2.2.1 x.1.1.2.2.2.2]))
  (hg:(W.alloc (.cells #[.bool x.1.1.1.1,.slice x.1.1.1.2.1 x.1.1.1.2.2.1 x.1.1.1.2.2.2,.bool x.1.1.2.1,.slice x.1.1.2.2.1 x.1.1.2.2.2.1 x.1.1.2.2.2.2] t)).grownBy w1 (Value.slice A' pre.length c').ownBlock) :
  ∃ (A9:Option Addr) (c9:Nat),v'=.slice A9 (pre.length+1) c9/\Boxed w1 Ba 72 (.slice A' pre.length c')/\AllI m Ba Bs gv (pre ++ [x]) (w1.setCell ⟨Ba,0,none⟩ v')/\KeepsOthers W (w1.setCell ⟨Ba,0,none⟩ v')/\KpO W0.heap.size Bs W (w1.setCell ⟨Ba,0,none⟩ v'):=by
 obtain ⟨k1,k2,k3,k4,k5⟩:=h1.appended (by decide) h2 h6.size hBa hown' hg
 obtain ⟨A9,c9,rfl⟩:=row_sl hown'
 have hba:Below W.heap.size W (W.alloc (.cells #[.bool x.1.1.1.1,.slice x.1.1.1.2.1 x.1.1.1.2.2.1 x.1.1.1.2.2.2,.bool x.1.1.2.1,.slice x.1.1.2.2.1 x.1.1.2.2.2.1 x.1.1.2.2.2.2] t)):=bA
 have hkt:KeepT W (w1.setCell ⟨Ba,0,none⟩ (.slice A9 (pre.length+1) c9)):=((KeepT.below hba).trans (KeepT.grown (h2.alloc _) (by decide) hg)).trans (KeepT.set (p:=⟨Ba,0,none⟩) k1 (by decide) _)
 have hs5:Boxed w1 Bs 148 gv:=(h5.alloc _).kept hg (h5.not_row (by decide) h2)
 have hs6:Boxed (w1.setCell ⟨Ba,0,none⟩ (.slice A9 (pre.length+1) c9)) Bs 148 gv:=(Below.heap_setCell w1 ⟨Ba,0,none⟩ _ Bs hBs).trans hs5
 refine ⟨A9,c9,rfl,k1,⟨⟨A9,c9,E ++ [x.1.1],?_,?_,?_,?_⟩,hs6,h6.trans k5,?_⟩,k4,⟨k5,hs6.trans h5.symm⟩⟩
 ·rw [List.length_append];exact k2
 ·rw [List.length_append,qcs_append,qcs_one];exact k3
 ·rw [List.length_append,List.length_append,h3];rfl
 ·rw [List.map_append]
  exact (h4.keep hkt).snoc (((x.2.next h6)).keep hkt)
 ·exact nT h7 k4.size
end
theorem mHeight_any {N K:Nat}{s:Bool}{A G:Option Addr}{n c r k:Nat}{d:Int}{RR:List RawRow}{w:World}(h:RdZ w w.heap.size s A n c d)(h':RdRss w w.heap.size N K G r k RR)(hn:n<=N)(hN:N<=1000000000000)(h1N:1<=N)(hr:r<=1048576)(hK:K<=1048576)(hrk:r*K<=1048576) :
  Calls Tryz.prog 81 #[.agg #[.bool s,.slice A n c,.slice G r k]] w (RetKE (fun v kk=>(chk d RR=0/\v=(ht (ent d RR).flatten:Int)/\kk=0) ∨ (chk d RR ≠ 0/\v=0/\kk=chk d RR)) w):=by
 obtain ⟨W1,HW1⟩:∃ W,W=w.alloc (.cells #[.bool s,.slice A n c,.slice G r k] 28):=⟨_,rfl⟩
 have hM:MC W1 w.heap.size s A n c G r k:=by rw [HW1];exact MC.new w s A n c G r k
 have hB:Below w.heap.size w W1:=by rw [HW1];exact bA
 obtain ⟨i0,hi,hz0,hz1,hz2⟩:=info_parts infoQ
 have HB:=ah hB
 have HX:=ah (cJ (h.next hB) (h'.next hB))
 have HE:=ah (fun hd:d ≠ 0=>ent_sz h' hd (nT h.len hn))
 have HL:=ah h'.len
 have HW1:=ah HW1
 clear h h' hM hB
 refine (callsIn_wide (n:=4)).1 ?_
 refine callsIn_of_wp_marks Tryz.func81 rfl trivial ?_ rfl
 simp only [Tryz.ntmps81,List.size_toArray,List.length_cons,List.length_nil,Nat.reduceAdd,Nat.reduceSub,Array.replicate_succ,Array.replicate_zero,List.push_toArray,List.append_toArray,List.nil_append,List.cons_append]
 gi_wp2_with fail
 refine ⟨trivial,?_⟩
 rw [<- HW1.out]
 clear HW1
 clear HW1
 refine (callsIn_wide.2 (mRows_any HX.out.1 HX.out.2 (by omega) hN hr hK)).mono ?_
 rintro _ W2 ⟨A2,n2,c2,LL,kk,rfl,ho,hv,hb2⟩
 have HB2:=tM HB hb2
 by_cases h0:kk=0
 case neg =>
  have hkb:(kk == 0)=false:=by simp [h0]
  have HV:=ah (show chk d RR ≠ 0/\kk=chk d RR from hv.out.elim (fun e=>absurd e.2.2 h0) (fun e=>⟨e.1,e.2.2⟩))
  clear ho hb2 hv
  gi_wp2
  refine ⟨.tuple #[.int .i64 0,.int .i64 kk],?_,⟨0,kk,rfl,ah (.inr ⟨HV.out.1,rfl,HV.out.2⟩),HB2.out⟩⟩
  simp [results,Tryz.f81,go_sem]
 have HC:=ah (show chk d RR=0/\LL=ent d RR from hv.out.elim (fun e=>⟨e.1,e.2.1⟩) (fun e=>absurd (e.2.2.symm.trans h0) e.1))
 subst h0
 obtain ⟨XX,hG,hXX⟩:=ho.grid
 have hnm:n2<=maxLen:=by
  rcases ho.form with ⟨_,rfl,_⟩ | ⟨_,_,_,_,h3,h4⟩
  ·exact nZ
  ·exact nT h3 h4
 clear hv ho
 gi_wp2_with (refine ⟨trivial,?_⟩;gi_at_call 117;refine (callsIn_wide.2 (eachQ_any _)).mono ?_;rintro e w' ⟨rfl,rfl⟩)
 obtain ⟨W3,HW3⟩:∃ W,W=(W2.alloc (.cells #[.slice none 0 0] 72)).alloc (.cells #[.slice A2 n2 c2] 148):=⟨_,rfl⟩
 have hb3:Below W2.heap.size W2 W3:=by rw [HW3];exact (bA).alloc (by simp) _
 have hsz:W3.heap.size=W2.heap.size+2:=by rw [HW3];simp
 have hbx:Boxed W3 W2.heap.size 72 (.slice none 0 0):=by rw [HW3];exact (Boxed.new W2 _ _).alloc _
 have hbs:Boxed W3 (W2.heap.size+1) 148 (.slice A2 n2 c2):=by
  rw [HW3]
  have:=Boxed.new (W2.alloc (.cells #[.slice none 0 0] 72)) 148 (.slice A2 n2 c2)
  simpa using this
 have HI0:=ah (show AllI (W0:=W2) (b:=W1.heap.size) W3.heap.size W2.heap.size (W2.heap.size+1) (.slice A2 n2 c2) [] W3 from
  ⟨⟨none,0,[],hbx,World.ownsRow_nil _ _ _ _,rfl,⟨rfl,fun j e z he _=>by simp at he⟩⟩,hbs,hb3,nR⟩)
 have HSQ:=ah (eachQ_stops 3 (by omega) (W2.heap.size+1) W2.heap.size hnm W3 (by omega) (by omega) (hG.below hb3) hbs.cell)
 have HXX:=ah hXX
 have HTOT:=ah (show XX.flatten.length<=1048576 by
  have e:XX.flatten.length=(XX.flatten.map (fun x=>x.1.2)).length:=(List.length_map ..).symm
  rw [e,List.map_flatten,hXX,HC.out.2]
  have h1:=flatten_le (K:=K) (ent d RR) (fun L hL=>(HE.out (chk_zero HC.out.1).1 L hL).1)
  rw [ent_len,HL.out] at h1
  omega)
 have HBW:=ah hb2.size
 rw [<- HW3]
 clear HW3 hbx hbs hb3 hG hXX hb2 HX
 apply rangeFunc_box (n:=4) (P:=Tryz.prog) (by omega) (gf:=168) (lb:=#[.pointer (some ⟨W2.heap.size+1,0,none⟩)]) rfl (enters_of Tryz.func168 (by kernel_rfl) rfl)
  HSQ.out (by omega) (by omega) rfl (AllI W3.heap.size W2.heap.size (W2.heap.size+1) (.slice A2 n2 c2)) (AllI.own (by omega)) (fun _ _ hh=>hh.s) HI0.out 47 (fun x=>#[.bool x.1.1.1.1,.slice x.1.1.1.2.1 x.1.1.1.2.2.1 x.1.1.1.2.2.2,.bool x.1.1.2.1,.slice x.1.1.2.2.1 x.1.1.2.2.2.1 x.1.1.2.2.2.2])
 case hassign =>
  intro l x W K B hB hK
  unfold gQ
  gi_wp2
  rw [<- hB]
  exact hK
 case hbody =>
  rintro l pre x B W ⟨⟨A',c',E,h1,h2,h3,h4⟩,h5,h6,h7⟩ hB hx hlen
  have hq:QC W B x.1.1.1.1 x.1.1.1.2.1 x.1.1.1.2.2.1 x.1.1.1.2.2.2 x.1.1.2.1 x.1.1.2.2.1 x.1.1.2.2.2.1 x.1.1.2.2.2.2:=hx
  have k0:=h1.cell
  have q0:=hq.c0
  have q1:=hq.c1
  have q2:=hq.c2
  have q3:=hq.c3
  have hlen2:pre.length < 1048576:=Nat.lt_of_lt_of_le hlen HTOT.out
  have HST:=ah (show ∀ (w1:World) (v':Value),w1.ownsRow W2.heap.size 47 4 v' (pre.length+1) (qcs E ++ [.bool x.1.1.1.1,.slice x.1.1.1.2.1 x.1.1.1.2.2.1 x.1.1.1.2.2.2,.bool x.1.1.2.1,.slice x.1.1.2.2.1 x.1.1.2.2.2.1 x.1.1.2.2.2.2])->(W.alloc (.cells #[.bool x.1.1.1.1,.slice x.1.1.1.2.1 x.1.1.1.2.2.1 x.1.1.1.2.2.2,.bool x.1.1.2.1,.slice x.1.1.2.2.1 x.1.1.2.2.2.1 x.1.1.2.2.2.2] 47)).grownBy w1 (Value.slice A' pre.length c').ownBlock->_ from fun w1 v'=>AllI.step (m:=W3.heap.size) (Ba:=W2.heap.size) (Bs:=W2.heap.size+1) (gv:=.slice A2 n2 c2) (x:=x) (w1:=w1) (v':=v') (t:=47) nR (by omega) h1 h2 h3 h4 h5 h6 h7)
  have H2:=ah (h2.alloc (.cells #[.bool x.1.1.1.1,.slice x.1.1.1.2.1 x.1.1.1.2.2.1 x.1.1.1.2.2.2,.bool x.1.1.2.1,.slice x.1.1.2.2.1 x.1.1.2.2.2.1 x.1.1.2.2.2.2] 47))
  have hsW:W2.heap.size<=W.heap.size:=h6.size
  clear h1 h2 h3 h4 h5 h6 h7 hq hx
  gi_wp2_with (gi_at_builtin;refine wpListIn_append_own _ rfl _ _ 72 rfl W2.heap.size 47 i0 (.agg #[.bool false,.slice none 0 0,.bool false,.slice none 0 0]) 4 64 Tryz.underlying72 hi hz0 hz1 hz2 rfl (by decide) _ _ _ rfl H2.out ⟨W.heap.size,0,none⟩ 1 1 [.bool x.1.1.1.1,.slice x.1.1.1.2.1 x.1.1.1.2.2.1 x.1.1.1.2.2.2,.bool x.1.1.2.1,.slice x.1.1.2.2.1 x.1.1.2.2.2.1 x.1.1.2.2.2.2] rfl rfl (qcell_new W _ _ _ _ _) (by simp [Value.oneCell']) (by unfold maxLen;omega) (by omega) (by simp;omega) ?_;intro v' w1 hown' hgrow _;obtain ⟨A9,c9,rfl,k1,k2,k3,k4⟩:=HST.out _ _ hown' hgrow;have kc:=k1.cell;have kf:=k1.frozen;have HK:=ah (cJ k2 (cJ k3 k4));clear hown' hgrow k0 q0 q1 q2 q3 k1 k2 k3 k4)
  exact ⟨HK.out.2.1.from _,HK.out.2.2,HK.out.1⟩
 case hdone =>
  rintro D ys W hD rfl ⟨⟨A',c',E,h1,h2,h3,h4⟩,h5,h6,h7⟩ hK
  obtain ⟨q,hqq⟩:∃ q,XX.flatten.length=q:=⟨_,rfl⟩
  rw [hqq] at h1 h2 h3
  have HQ:=ah (show q<=1048576 by rw [<- hqq];exact HTOT.out)
  clear hqq
  have k0:=h1.cell
  have hlD:D < W.heap.size:=(Array.getElem?_eq_some_iff.1 hK).1
  have hflat:XX.flatten.map (fun x=>x.1.2)=(ent d RR).flatten:=by rw [List.map_flatten,HXX.out,HC.out.2]
  have HO:=ah (show OwQs W W1.heap.size A' q c' (ent d RR).flatten from ⟨E,row_base h2 HBW.out,h3,by rw [<- hflat];exact h4⟩)
  have HR:=ah (HO.out.p.rd (N:=N) (fun x hx=>by
   obtain ⟨L,hL,hx⟩:=List.mem_flatten.1 hx
   exact (HE.out (chk_zero HC.out.1).1 L hL).2 x hx))
  have HKD:=ah hK
  have H6:=ah (cJ h6 h7)
  clear h1 h2 h3 h4 h5 h6 h7 hflat hK
  gi_wp2_with fail
  refine ⟨trivial,?_⟩
  refine (callsIn_wide.2 (qheight_any HR.out (fun p hp=>by
   obtain ⟨x,_,rfl⟩:=List.mem_map.1 hp
   exact pr_ne x) HQ.out hN h1N)).mono ?_
  rintro _ W9 ⟨v,kk,rfl,hv,hb9⟩
  have HV:=ah (show v=(ht (ent d RR).flatten:Int)/\kk=0 by rw [map_qval_pr] at hv;exact hv.out)
  have HK9:=ah ((hb9.block D hlD).trans HKD.out)
  have HB9:=ah (HB2.out.trans ((H6.out.1.trans (hb9.mono H6.out.1.size)).mono HB2.out.size))
  clear hv hb9 k0
  gi_wp2
  refine ⟨by simp,.inl ⟨_,_,rfl,run_takeDeferred HK9.out,?_⟩⟩
  refine ⟨.tuple #[.int .i64 v,.int .i64 kk],?_,⟨v,kk,rfl,ah (.inl ⟨HC.out.1,HV.out.1,HV.out.2⟩),?_⟩⟩
  ·simp [results,Tryz.f81,go_sem]
  ·exact HB9.out.trans (belowK_b (w:=w) nR _ D _ _ (by have h1:=HB2.out.size;omega) HK9.out rfl rfl)
def mg (LL:List (List Int)):Int:=LL.flatten.foldl (fun (g x:Int)=>(Int.gcd g x:Int)) 0
def mG (d:Int)(LL:List (List Int)):Int:=if d < 0 then -(if mg LL=0 then (d.natAbs:Int) else (Int.gcd (mg LL) d:Int)) else (if mg LL=0 then (d.natAbs:Int) else (Int.gcd (mg LL) d:Int))
theorem gfold_dvd (L:List Int):∀ g:Int,(L.foldl (fun (g x:Int)=>(Int.gcd g x:Int)) g ∣ g)/\∀ x ∈ L,L.foldl (fun (g x:Int)=>(Int.gcd g x:Int)) g ∣ x:=by
 induction L with
 | nil=>intro g;exact ⟨Int.dvd_refl _,fun x h=>by cases h⟩
 | cons y L ih =>
   intro g
   rw [List.foldl_cons]
   have h:=ih (Int.gcd g y:Int)
   refine ⟨Int.dvd_trans h.1 (Int.gcd_dvd_left ..),fun x hx=>?_⟩
   rcases List.mem_cons.1 hx with rfl | hx
   ·exact Int.dvd_trans h.1 (Int.gcd_dvd_right ..)
   ·exact h.2 x hx
theorem mg_dvd {LL:List (List Int)}{L:List Int}{x:Int}(h:L ∈ LL)(hx:x ∈ L):mg LL ∣ x:=(gfold_dvd LL.flatten 0).2 x (List.mem_flatten.2 ⟨L,h,hx⟩)
theorem mG_ne {d:Int}{LL:List (List Int)}(hd:d ≠ 0):mG d LL ≠ 0:=by
 have h1:(if mg LL=0 then (d.natAbs:Int) else (Int.gcd (mg LL) d:Int)) ≠ 0:=by
  split
  ·omega
  ·have:=Int.gcd_pos_of_ne_zero_right (mg LL) hd
   omega
 unfold mG
 split
 ·omega
 ·exact h1
theorem mG_of {d:Int}{LL:List (List Int)}{z:Int}(h:(if mg LL=0 then (d.natAbs:Int) else (Int.gcd (mg LL) d:Int)) ∣ z):mG d LL ∣ z:=by
 unfold mG
 split
 ·exact Int.neg_dvd.2 h
 ·exact h
theorem mG_den (d:Int)(LL:List (List Int)):mG d LL ∣ d:=mG_of (by
 split
 ·exact Int.natAbs_dvd.2 (Int.dvd_refl _)
 ·exact Int.gcd_dvd_right ..)
theorem mG_num {d:Int}{LL:List (List Int)}{L:List Int}{x:Int}(h:L ∈ LL)(hx:x ∈ L):mG d LL ∣ x:=mG_of (by
 have h1:=mg_dvd h hx
 split
 ·rename_i h0
  rw [h0] at h1
  rw [Int.zero_dvd.1 h1]
  exact Int.dvd_zero _
 ·exact Int.dvd_trans (Int.gcd_dvd_left ..) h1)
def mN (d:Int)(LL:List (List Int)):List (List Int):=LL.map fun L=>L.map fun x=>x.tdiv (mG d LL)
theorem below_others {W W':World}(hb:Below W.heap.size W W'):KeepsOthers W W':=⟨hb.size,fun k _ hk _=>(hb.block k (Array.getElem?_eq_some_iff.1 hk).1).trans hk⟩
theorem RdRss.grid {w:World}{B N K:Nat}{A:Option Addr}{n c:Nat}{RR:List RawRow}(h:RdRss w B N K A n c RR)(hN:N<=400000000000):∃ XX:List (List (GZ w B)),GridZ w B A n XX/\XX.map (fun r=>r.map (fun x=>x.1.2))=RR:=by
 obtain ⟨XX,h1,h2⟩:=exists_list (P:=fun (i:Nat) (row:List (GZ w B))=>(∃ (ad:Addr) (A1:Option Addr) (n1 c1:Nat),A=some ad/\ad.block < B/\w.cell? (ad.add i)=some (.slice A1 n1 c1)/\row.length=n1/\n1<=maxLen /\
   ∀ (j:Nat) (x:GZ w B),row[j]?=some x->∃ ad1:Addr,A1=some ad1/\ad1.block < B/\w.cell? (ad1.add (j*2))=some (.bool x.1.1.1)/\w.cell? ⟨(ad1.add (j*2)).block,(ad1.add (j*2)).off+1,none⟩=some (.slice x.1.1.2.1 x.1.1.2.2.1 x.1.1.2.2.2))/\RR[i]?=some (row.map (fun x=>x.1.2))) n (fun i hi=>by
  obtain ⟨ad,A1,n1,c1,R,rfl,e2,e3,e4,_,e5⟩:=rss_at h hi
  obtain ⟨row,r1,r2⟩:=exists_list (P:=fun (j:Nat) (x:GZ w B)=>(∃ ad1:Addr,A1=some ad1/\ad1.block < B/\w.cell? (ad1.add (j*2))=some (.bool x.1.1.1)/\w.cell? ⟨(ad1.add (j*2)).block,(ad1.add (j*2)).off+1,none⟩=some (.slice x.1.1.2.1 x.1.1.2.2.1 x.1.1.2.2.2))/\R[j]?=some x.1.2) n1 (fun j hj=>by
   obtain ⟨ad1,s,M,A',n',c',q1,q2,q3,q4,q5,q6,q7⟩:=rs_at e4 hj
   exact ⟨⟨((s,A',n',c'),(s,M)),rfl,q5,nT q6 hN⟩,⟨ad1,q1,q2,q3,q4⟩,q7.out⟩)
  refine ⟨row,⟨ad,A1,n1,c1,rfl,e2,e3,r1,nT e4.le e4.mx,fun j x hx=>(r2 j x hx).1⟩,?_⟩
  rw [e5.out]
  congr 1
  exact (map_of_get (by rw [r1,e4.len]) fun j x hx=>(r2 j x hx).2).symm)
 exact ⟨XX,⟨h1,fun i row hi=>(h2 i row hi).1⟩,map_of_get (by rw [h1,h.len]) fun i row hi=>(h2 i row hi).2⟩
def gz {W0:World}{b:Nat}(pre:List (GZ W0 b)):Int:=(pre.map fun x=>toZ x.1.2).foldl (fun (g x:Int)=>(Int.gcd g x:Int)) 0
theorem gz_snoc {W0:World}{b:Nat}(pre:List (GZ W0 b))(x:GZ W0 b):gz (pre ++ [x])=(Int.gcd (gz pre) (toZ x.1.2):Int):=by
 unfold gz
 rw [List.map_append,List.foldl_append]
 rfl
def zss (RR:List RawRow):List (List Int):=RR.map fun R=>R.map toZ
theorem gz_all {W0:World}{b:Nat}{XX:List (List (GZ W0 b))}{RR:List RawRow}(h:XX.map (fun r=>r.map (fun x=>x.1.2))=RR):gz XX.flatten=mg (zss RR):=by
 unfold gz mg zss
 rw [<- h]
 congr 1
 rw [List.map_flatten,List.map_map]
 congr 1
 refine List.map_congr_left fun r _=>?_
 show r.map _=(r.map _).map toZ
 rw [List.map_map]
 rfl
structure MgW (w:World)(sd:Bool)(Ad:Option Addr)(nd cd:Nat)(gv:Value)(y:Int)(W:World):Prop where
 g:∃ (s:Bool) (A:Option Addr) (n c:Nat),ZC W (w.heap.size+1+1) s A n c/\OwZ W w.heap.size s A n c y
 d:ZC W w.heap.size sd Ad nd cd
 r:MC W (w.heap.size+1) false none 0 0 none 0 0
 bs:Boxed W (w.heap.size+1+1+1) 165 gv
 lo:Below w.heap.size w W
 s:w.heap.size+4<=W.heap.size
section
variable {w:World}{sd:Bool}{Ad:Option Addr}{nd cd:Nat}{gv:Value}{y:Int}{W W':World}
theorem MgW.own:OwnFrom (w.heap.size+4) (fun (y:Int) W=>MgW w sd Ad nd cd gv y W):=fun y W W' row hs hg hr=>by
 obtain ⟨⟨s,A,n,c,h1,h2⟩,h3,h4,h5,h6,h7⟩:=hs
 have hk:=keepC_own hg (fun r e=>(hr r e).2)
 exact ⟨⟨s,A,n,c,hk _ _ _ _ h1,h2.keep hk.q.1⟩,hk _ _ _ _ h3,hk _ _ _ _ h4,hk _ _ _ _ h5,h6.grown hg h6.size (fun r e=>nT (by omega) (hr r e).1),nT h7 hg.size⟩
theorem MgW.next (h:MgW w sd Ad nd cd gv y W)(hb:Below W.heap.size W W'):MgW w sd Ad nd cd gv y W':=by
 obtain ⟨⟨s,A,n,c,h1,h2⟩,h3,h4,h5,h6,h7⟩:=h
 exact ⟨⟨s,A,n,c,h1.next hb,h2.next hb⟩,h3.next hb,h4.next hb,(hb.block _ h5.lt).trans h5,h6.trans (hb.mono h6.size),nT h7 hb.size⟩
theorem MgW.put (h:MgW w sd Ad nd cd gv y W){s':Bool}{A':Option Addr}{n' c':Nat}{y':Int}(ho:OwZ W w.heap.size s' A' n' c' y'):MgW w sd Ad nd cd gv y' ((W.setCell ⟨w.heap.size+1+1,0,none⟩ (.bool s')).setCell ⟨w.heap.size+1+1,1,none⟩ (.slice A' n' c')):=by
 obtain ⟨⟨s,A,n,c,h1,h2⟩,h3,h4,h5,h6,h7⟩:=h
 refine ⟨⟨s',A',n',c',h1.store s' A' n' c',ho.keep (keep_set2 h1 _ _)⟩,(h3.far (p:=⟨w.heap.size+1+1,0,none⟩) (by simp;omega) _).far (p:=⟨w.heap.size+1+1,1,none⟩) (by simp;omega) _,(h4.far (p:=⟨w.heap.size+1+1,0,none⟩) (by simp) _).far (p:=⟨w.heap.size+1+1,1,none⟩) (by simp) _,?_,below_put2 h6 (by omega) _ _,by simpa [World.setCell] using h7⟩
 unfold Boxed
 rw [Below.heap_setCell _ (⟨w.heap.size+1+1,1,none⟩:Addr) _ _ (by simp),Below.heap_setCell _ (⟨w.heap.size+1+1,0,none⟩:Addr) _ _ (by simp)]
 exact h5
theorem MgW.kept (h:MgW w sd Ad nd cd gv y W)(hb:Below W.heap.size W W')(x z:Value):KeepsOthers W ((W'.setCell ⟨w.heap.size+1+1,0,none⟩ x).setCell ⟨w.heap.size+1+1,1,none⟩ z)/\KpO w.heap.size (w.heap.size+1+1+1) W ((W'.setCell ⟨w.heap.size+1+1,0,none⟩ x).setCell ⟨w.heap.size+1+1,1,none⟩ z):=by
 refine ⟨((below_others hb).trans (KeepsOthers.setCell _ _ _)).trans (KeepsOthers.setCell _ _ _),below_put2 (hb.mono h.lo.size) (by omega) _ _,?_⟩
 rw [Below.heap_setCell _ (⟨w.heap.size+1+1,1,none⟩:Addr) _ _ (by simp),Below.heap_setCell _ (⟨w.heap.size+1+1,0,none⟩:Addr) _ _ (by simp)]
 exact hb.block _ h.bs.lt
end
theorem make_iroom (k:Nat)(hk:k<=1099511627776)(w:World) :
  (Instr.makeSlice 65 (.int .i64 0) (.int .i64 (k:Int))).run Tryz.prog w=.ok (.slice (some ⟨w.heap.size,0,none⟩) 0 k) (w.alloc (.cells (madeCells #[.bool false,.slice none 0 0] (k*2)) 25)):=by
 obtain ⟨i,hi,hz,hs,hb⟩:=info_parts infoZ
 have hr:=run_make (P:=Tryz.prog) w 65 25 i _ Tryz.underlying65 hi hz .i64 .i64 0 k (by omega) (by omega) (by rw [hb];omega) (by omega)
 rw [hs] at hr
 exact hr
theorem OwZs.room (w:World)(k:Nat)(hk:k<=maxLen):OwZs (w.alloc (.cells (madeCells #[.bool false,.slice none 0 0] (k*2)) 25)) w.heap.size (some ⟨w.heap.size,0,none⟩) 0 k [] :=
 ⟨[],⟨rfl,.inr ⟨w.heap.size,k,_,rfl,nR,heap_alloc_new w _,nZ,hk,by simp [madeCells],rfl⟩⟩,rfl,rfl,fun j e z he _=>by simp at he⟩
def RetMt (d:Int)(LL:List (List Int))(w:World)(e:Ending)(w':World):Prop :=
 ∃ (s:Bool) (A:Option Addr) (n c:Nat) (G:Option Addr) (r k:Nat) (y:Int) (MM:List (List Int)),e=.returned (.agg #[.bool s,.slice A n c,.slice G r k])/\OwZ w' w.heap.size s A n c y/\OwMs w' w.heap.size G r k MM/\Hid (y=d/\MM=LL)/\Below w.heap.size w w'
theorem OwMs.keepC {W W':World}{b r k:Nat}{G:Option Addr}{LL:List (List Int)}(h:OwMs W b G r k LL)(hk:KeepC W W'):OwMs W' b G r k LL:=by
 obtain ⟨E,h1,h2,h3⟩:=h
 exact ⟨E,hk.row h1,h2,h3.keep hk.i⟩
attribute [local go_sem] Oper.semAt_some
section
variable {w:World}{sd:Bool}{Ad:Option Addr}{nd cd:Nat}{gv:Value}{y:Int}{W W':World}
theorem MgW.far (h:MgW w sd Ad nd cd gv y W){g':Nat}(hp:w.heap.size+4<=g'){s:Bool}{A:Option Addr}{n c:Nat}{G:Option Addr}{r k:Nat}(hm:MC W g' s A n c G r k)(j:Nat)(u:Value):MgW w sd Ad nd cd gv y (W.setCell ⟨g',j,none⟩ u):=by
 obtain ⟨⟨s1,A1,n1,c1,h1,h2⟩,h3,h4,h5,h6,h7⟩:=h
 refine ⟨⟨s1,A1,n1,c1,h1.far (p:=⟨g',j,none⟩) (by show w.heap.size+1+1 ≠ g';omega) u,h2.keep (keepI_mc hm j u).1⟩,h3.far (p:=⟨g',j,none⟩) (by show w.heap.size ≠ g';omega) u,h4.far (p:=⟨g',j,none⟩) (by show w.heap.size+1 ≠ g';omega) u,(Below.heap_setCell W ⟨g',j,none⟩ u _ (by show w.heap.size+1+1+1 ≠ g';omega)).trans h5,h6.setCell (p:=⟨g',j,none⟩) (by show w.heap.size<=g';omega) u,by simpa [World.setCell] using h7⟩
theorem MgW.grown (h:MgW w sd Ad nd cd gv y W){B:Nat}{A:Option Addr}{n c m:Nat}{xs:List Value}(hE:W.ownsRow B 65 1 (.slice A n c) m xs)(hB:w.heap.size<=B)(hg:W.grownBy W' (Value.slice A n c).ownBlock)(hn:m=n):MgW w sd Ad nd cd gv y W':=by
 subst hn
 obtain ⟨⟨s1,A1,n1,c1,h1,h2⟩,h3,h4,h5,h6,h7⟩:=h
 exact ⟨⟨s1,A1,n1,c1,grown_heap hE hg h1 (by decide),h2.keep (keepI_grown hE hg).1⟩,grown_heap hE hg h3 (by decide),grown_heap hE hg h4 (by decide),grown_heap hE hg h5 (by decide),h6.grown hg h6.size (fun k e=>nT hB (own_block hE k e)),nT h7 hg.size⟩
theorem others_append {B:Nat}{e:TypeId}{q m:Nat}{v:Value}{xs:List Value}(hE:W.ownsRow B e q v m xs)(hg:W.grownBy W' v.ownBlock):KeepsOthers W W':=KeepsOthers.of_grownBy hg fun j o ej hj=>by
 rcases hE.2 with ⟨rfl,_⟩ | ⟨g,cap,cur,rfl,_,hgb,_⟩
 ·simp [Value.ownBlock] at ej
 ·obtain rfl:g=j:=by simpa [Value.ownBlock] using ej
  rw [hgb] at hj;cases hj;rfl
theorem MC.den {g:Nat}{s:Bool}{A:Option Addr}{n c:Nat}{G:Option Addr}{r k:Nat}(h:MC W g s A n c G r k)(s':Bool)(A':Option Addr)(n' c':Nat):MC ((W.setCell ⟨g,0,none⟩ (.bool s')).setCell ⟨g,1,none⟩ (.slice A' n' c')) g s' A' n' c' G r k:=by
 unfold MC at *
 simp [World.setCell,Array.getElem?_modify,h]
end
theorem mN_take {RR:List RawRow}{j:Nat}{R:RawRow}(h:RR[j]?=some R)(g:Int):((zss RR).take j).map (fun L=>L.map fun x=>x.tdiv g) ++ [(R.map toZ).map fun x=>x.tdiv g]=((zss RR).take (j+1)).map (fun L=>L.map fun x=>x.tdiv g):=by
 have e:(zss RR)[j]?=some (R.map toZ):=by unfold zss;rw [List.getElem?_map,h];rfl
 rw [List.take_add_one,e,List.map_append]
 rfl
theorem tdiv_take {R:RawRow}{j:Nat}{x:Bool × List Nat}(h:R[j]?=some x)(g:Int):((R.take j).map toZ).map (fun x=>x.tdiv g) ++ [(toZ x).tdiv g]=((R.take (j+1)).map toZ).map (fun x=>x.tdiv g):=by
 rw [List.take_add_one,h,List.map_append,List.map_append]
 rfl
theorem mmade_any {N K:Nat}{s:Bool}{A G:Option Addr}{n c r k:Nat}{d:Int}{RR:List RawRow}{w:World}(h:RdZ w w.heap.size s A n c d)(h':RdRss w w.heap.size N K G r k RR)(hd:d ≠ 0)(hn:n<=400000000000)(hN:N<=400000000000)(hr:r<=1048576)(hK:K<=1048576)(hc:colsOf RR ≠ 0) :
  Calls Tryz.prog 120 #[.agg #[.bool s,.slice A n c],.slice G r k] w (RetMt (d.tdiv (mG d (zss RR))) (mN d (zss RR)) w):=by
 obtain ⟨XX,hG,hXX⟩:=h'.grid hN
 obtain ⟨i1,hjf,hy0,hy1,hy2⟩:=info_parts infoIs
 obtain ⟨i0,hi,hz0,hz1,hz2⟩:=info_parts infoZ
 have HX:=ah (show ∀ W,Below w.heap.size w W->RdZ W W.heap.size s A n c d/\RdRss W W.heap.size N K G r k RR from fun W hb=>⟨h.next hb,h'.next hb⟩)
 have HL:=ah h'.len
 have HD0:=ah hd
 have HC:=ah hc
 have HXX:=ah hXX
 have HLZ:=ah (show Zz.zl d<=400000000000 from nT h.len hn)
 have hrm:r<=maxLen:=by unfold maxLen;omega
 refine (callsIn_wide (n:=4)).1 ?_
 refine callsIn_of_wp_marks Tryz.func120 rfl trivial ?_ rfl
 simp only [Tryz.ntmps120,List.size_toArray,List.length_cons,List.length_nil,Nat.reduceAdd,Nat.reduceSub,Array.replicate_succ,Array.replicate_zero,List.push_toArray,List.append_toArray,List.nil_append,List.cons_append]
 gi_wp2_with (refine ⟨trivial,?_⟩;gi_at_call 172;refine (callsIn_wide.2 (eachZ_any _)).mono ?_;rintro e w' ⟨rfl,rfl⟩)
 obtain ⟨W3,HW3⟩:∃ W,W=(((w.alloc (.cells #[.bool s,.slice A n c] 25)).alloc (.cells #[.bool false,.slice none 0 0,.slice none 0 0] 28)).alloc (.cells #[.bool false,.slice none 0 0] 25)).alloc (.cells #[.slice G r k] 165):=⟨_,rfl⟩
 have hb3:Below w.heap.size w W3:=by rw [HW3];exact (((bA).alloc (by simp) _).alloc (by simp;omega) _).alloc (by simp;omega) _
 have hsz:W3.heap.size=w.heap.size+4:=by rw [HW3];simp
 have hM3:MgW w s A n c (.slice G r k) 0 W3:=by
  refine ⟨⟨false,none,0,0,?_,OwZ.zero _ _⟩,?_,?_,?_,hb3,Nat.le_of_eq hsz.symm⟩
  ·rw [HW3]
   have:=ZC.new ((w.alloc (.cells #[.bool s,.slice A n c] 25)).alloc (.cells #[.bool false,.slice none 0 0,.slice none 0 0] 28)) false none 0 0
   exact (by simpa using this:ZC _ (w.heap.size+1+1) _ _ _ _).alloc _
  ·rw [HW3]
   exact (((ZC.new w s A n c).alloc _).alloc _).alloc _
  ·rw [HW3]
   have:=MC.new (w.alloc (.cells #[.bool s,.slice A n c] 25)) false none 0 0 none 0 0
   exact ((by simpa using this:MC _ (w.heap.size+1) _ _ _ _ _ _ _).alloc _).alloc _
  ·rw [HW3]
   have:=Boxed.new (((w.alloc (.cells #[.bool s,.slice A n c] 25)).alloc (.cells #[.bool false,.slice none 0 0,.slice none 0 0] 28)).alloc (.cells #[.bool false,.slice none 0 0] 25)) 165 (.slice G r k)
   simpa using this
 have HSQ:=ah (eachZ_stops 3 (by omega) (w.heap.size+1+1+1) w.heap.size hrm W3 (by omega) (by omega) (hG.below hb3) hM3.bs.cell)
 have HI0:=ah (show (fun (pre:List (GZ w w.heap.size)) W=>MgW w s A n c (.slice G r k) (gz pre) W/\Zz.zl (gz pre)<=400000000000) [] W3 from ⟨hM3,by show Zz.zl 0<=_;rw [Zz.zl_zero];omega⟩)
 rw [<- HW3]
 clear HW3 hb3 hM3 hG hXX h h' hd hc
 apply rangeFunc_box (n:=4) (P:=Tryz.prog) (by omega) (gf:=211) (lb:=#[.pointer (some ⟨w.heap.size+1+1+1,0,none⟩)]) rfl (enters_of Tryz.func211 (by kernel_rfl) rfl)
  HSQ.out (by omega) (by omega) rfl (fun (pre:List (GZ w w.heap.size)) W=>MgW w s A n c (.slice G r k) (gz pre) W/\Zz.zl (gz pre)<=400000000000) (by rw [hsz];exact fun pre W W' row hs hg hr=>⟨MgW.own _ W W' row hs.1 hg hr,hs.2⟩) (fun _ _ hh=>by rw [hsz];exact hh.1.s) HI0.out 25 (fun x=>#[.bool x.1.1.1,.slice x.1.1.2.1 x.1.1.2.2.1 x.1.1.2.2.2])
 case hassign =>
  intro l x W K B hB hK
  unfold gZ
  gi_wp2
  rw [<- hB]
  exact hK
 case hbody =>
  rintro l pre x B W ⟨hI,hzl⟩ hB hx hlen
  obtain ⟨s1,A1,n1,c1,hz1',ho1⟩:=hI.g
  have hq:ZC W B x.1.1.1 x.1.1.2.1 x.1.1.2.2.1 x.1.1.2.2.2:=hx
  have hxr:RdZ W W.heap.size x.1.1.1 x.1.1.2.1 x.1.1.2.2.1 x.1.1.2.2.2 (toZ x.1.2):=⟨x.1.2.2,x.2.2.1.next hI.lo,by unfold toZ;rw [x.2.1]⟩
  obtain ⟨W4,HW4⟩:∃ W',W'=W.alloc (.cells #[.bool s1,.slice A1 n1 c1,.bool x.1.1.1,.slice x.1.1.2.1 x.1.1.2.2.1 x.1.1.2.2.2] 25):=⟨_,rfl⟩
  have HZS:=ah (zs_two (N:=400000000000) ho1.rd hxr (by rw [ho1.len];exact hzl) x.2.2.2 HW4)
  have hb4:Below W.heap.size W W4:=by rw [HW4];exact bA
  have HXL:=ah (show Zz.zl (gz (pre ++ [x]))<=400000000000 by
   rw [gz_snoc]
   have e1:=Zz.zl_gcd (gz pre) (toZ x.1.2)
   have e2:=hxr.len
   have e3:=x.2.2.2
   omega)
  have HI:=ah hI
  have HB4:=ah hb4
  have a0:=hz1'.c0
  have a1:=hz1'.c1
  have q0:=hq.c0
  have q1:=hq.c1
  have HW4:=ah HW4
  clear hI hq hx hxr hb4 hz1' ho1 hzl
  gi_wp2_with fail
  refine ⟨trivial,?_⟩
  rw [<- HW4.out]
  clear HW4 a0 a1 q0 q1
  clear HW4
  refine (CallsIn.inRound l (callsIn_wide.2 (gcdl_any HZS.out (by decide)))).mono ?_
  rintro _ W7 ⟨s7,A7,n7,c7,y7,rfl,ho7,hy7,hb7⟩
  have HY7:=ah (show y7=gz (pre ++ [x]) by rw [hy7.out,Qz.gcd_list,gz_snoc])
  have hb47:=HB4.out.trans (hb7.mono HB4.out.size)
  have hI7:=HI.out.next hb47
  obtain ⟨_,_,_,_,hz7,_⟩:=hI7.g
  have f0:=hz7.fz 0
  have f1:=hz7.fz 1
  have b0:=hz7.c0
  have b1:=hz7.c1
  have HP:=ah (hI7.put (ho7.base (b':=w.heap.size) (nT HI.out.lo.size HB4.out.size)))
  have HK:=ah (HI.out.kept hb47 (.bool s7) (.slice A7 n7 c7))
  clear hI7 hz7 hb47 hb7 ho7 hy7
  gi_wp2
  exact ⟨HK.out.1.from _,HK.out.2,by rw [<- HY7.out];exact HP.out,HXL.out⟩
 case hdone =>
  rintro D ys W hD rfl ⟨hI,hzl⟩ hK
  have hgm:gz XX.flatten=mg (zss RR):=gz_all HXX.out
  rw [hgm] at hI hzl
  have HD:=ah (show ∀ W',KeepsOthers W W'->W'.heap[D]?=some (.deferred (some [])) from fun W' hk=>hk.same D _ hK rfl)
  have HDD:=ah hD
  obtain ⟨m0,hm0⟩:∃ m0,m0=mg (zss RR):=⟨_,rfl⟩
  rw [<- hm0] at hI hzl
  have HM0:=ah hm0
  have HZL:=ah hzl
  obtain ⟨G1,hG1⟩:∃ G1:Int,G1=if m0=0 then (d.natAbs:Int) else (Int.gcd m0 d:Int):=⟨_,rfl⟩
  have HG1:=ah hG1
  have HGL:=ah (show Zz.zl G1<=400000000000 by
   rw [hG1]
   split
   ·rw [Zz.zl_abs];exact HLZ.out
   ·have e1:=Zz.zl_gcd m0 d
    have e2:=HLZ.out
    omega)
  have HI:=ah hI
  obtain ⟨s1,A1,n1,c1,hz1',ho1⟩:=hI.g
  have HO1:=ah ho1
  have HN1:=ah (show n1<=400000000000 by rw [ho1.len];exact hzl)
  have a0:=hz1'.c0
  have a1:=hz1'.c1
  clear hm0 hG1 hI hzl hgm hz1' ho1 hK hD
  gi_wp2_with fail
  refine ⟨trivial,?_⟩
  refine (callsIn_wide.2 (sign_any HO1.out.rd (by have:=HN1.out;omega))).mono ?_
  rintro _ W5 ⟨k5,rfl,hk5,hb5⟩
  have HI5:=ah (HI.out.next hb5)
  have HO5:=ah (HO1.out.next hb5)
  have HK5:=ah (below_others hb5)
  obtain ⟨_,_,_,_,hz5,_⟩:=HI5.out.g
  have HK0:=ah (show k5=0 ↔ m0=0 by rw [hk5.out];exact Int.sign_eq_zero_iff_zero)
  clear hb5 hk5 a0 a1 hz5
  gi_upto_if 24 with fail
  gi_cut [] from 24 (fun wr=>MgW w s A n c (.slice G r k) G1 wr/\KeepsOthers W wr)
  case first =>
   obtain ⟨s5,A5,n5,c5,hz5,ho5⟩:=HI5.out.g
   have HO5':=ah ho5
   have d0:=HI5.out.d.c0
   have d1:=HI5.out.d.c1
   by_cases hk0:k5=0
   ·have HV:=ah (show G1=(d.natAbs:Int) by rw [HG1.out,if_pos (HK0.out.1 hk0)])
    subst hk0
    clear hz5 ho5
    gi_wp2_with fail
    refine ⟨trivial,?_⟩
    refine (callsIn_wide.2 (abs_any (HX.out _ HI5.out.lo).1 (by omega))).mono ?_
    rintro _ W7 ⟨s7,A7,n7,c7,y7,rfl,ho7,hy7,hb7⟩
    have hI7:=HI5.out.next hb7
    obtain ⟨_,_,_,_,hz7,_⟩:=hI7.g
    have f0:=hz7.fz 0
    have f1:=hz7.fz 1
    have b0:=hz7.c0
    have b1:=hz7.c1
    have HP:=ah (hI7.put (ho7.base (b':=w.heap.size) HI5.out.lo.size))
    have HKK:=ah (HK5.out.trans (HI5.out.kept hb7 (.bool s7) (.slice A7 n7 c7)).1)
    have HY:=ah (show y7=G1 by rw [hy7.out,HV.out])
    clear hI7 hz7 hb7 ho7 hy7 d0 d1
    gi_wp2
    gi_meet
    exact ⟨by rw [<- HY.out];exact HP.out,HKK.out⟩
   ·have hkb:(k5 == 0)=false:=by simpa using hk0
    have HV:=ah (show G1=(Int.gcd m0 d:Int) by rw [HG1.out,if_neg (fun e=>hk0 (HK0.out.2 e))])
    obtain ⟨W6,HW6⟩:∃ W',W'=W5.alloc (.cells #[.bool s5,.slice A5 n5 c5,.bool s,.slice A n c] 25):=⟨_,rfl⟩
    have HZS:=ah (zs_two (N:=400000000000) ho5.rd (HX.out _ HI5.out.lo).1 (by rw [ho5.len];exact HZL.out) hn HW6)
    have hb6:Below W5.heap.size W5 W6:=by rw [HW6];exact bA
    have HB6:=ah hb6
    have a0:=hz5.c0
    have a1:=hz5.c1
    have HW6:=ah HW6
    clear hz5 ho5 hb6 hk0
    gi_wp2_with fail
    refine ⟨trivial,?_⟩
    rw [<- HW6.out]
    clear HW6 a0 a1 d0 d1
    clear HW6
    refine (callsIn_wide.2 (gcdl_any HZS.out (by decide))).mono ?_
    rintro _ W7 ⟨s7,A7,n7,c7,y7,rfl,ho7,hy7,hb7⟩
    have hb57:=HB6.out.trans (hb7.mono HB6.out.size)
    have hI7:=HI5.out.next hb57
    obtain ⟨_,_,_,_,hz7,_⟩:=hI7.g
    have f0:=hz7.fz 0
    have f1:=hz7.fz 1
    have b0:=hz7.c0
    have b1:=hz7.c1
    have HP:=ah (hI7.put (ho7.base (b':=w.heap.size) (nT HI5.out.lo.size HB6.out.size)))
    have HKK:=ah (HK5.out.trans (HI5.out.kept hb57 (.bool s7) (.slice A7 n7 c7)).1)
    have HY:=ah (show y7=G1 by rw [hy7.out,Qz.gcd_list,HV.out])
    clear hI7 hz7 hb7 hb57 ho7 hy7
    gi_wp2
    gi_meet
    exact ⟨by rw [<- HY.out];exact HP.out,HKK.out⟩
  case rest =>
   have HI6:=ah hcut.1
   have HK6:=ah hcut.2
   have HWC:=ah (show w.heap.size+4<=wc.heap.size from hcut.1.s)
   clear hcut HI5 HO5 HK5 HI HO1
   have d0:=HI6.out.d.c0
   have d1:=HI6.out.d.c1
   gi_wp2_with fail
   refine ⟨trivial,?_⟩
   refine (callsIn_wide.2 (sign_any (HX.out _ HI6.out.lo).1 (by omega))).mono ?_
   rintro _ W7 ⟨k7,rfl,hk7,hb7⟩
   have HI7:=ah (HI6.out.next hb7)
   have HK7:=ah (HK6.out.trans (below_others hb7))
   have HSG:=ah (show k7 < 0 ↔ d < 0 by rw [hk7.out];exact Int.sign_neg_iff)
   obtain ⟨GG,hGG⟩:∃ GG,GG=mG d (zss RR):=⟨_,rfl⟩
   have HGG:=ah (show GG=if d < 0 then -G1 else G1 by rw [hGG];unfold mG;rw [<- HM0.out,<- HG1.out])
   have HGGD:=ah hGG
   clear d0 d1 hb7 hk7 hGG
   gi_upto_if 33 with fail
   gi_cut [] from 33 (fun wr=>MgW w s A n c (.slice G r k) GG wr/\KeepsOthers W wr)
   case first =>
    obtain ⟨s8,A8,n8,c8,hz8,ho8⟩:=HI7.out.g
    have HO8:=ah ho8
    by_cases hneg:k7 < 0
    ·have HV:=ah (show GG=-G1 by rw [HGG.out,if_pos (HSG.out.1 hneg)])
     have a0:=hz8.c0
     have a1:=hz8.c1
     clear hz8 ho8
     gi_wp2_with fail
     refine ⟨trivial,?_⟩
     refine (callsIn_wide.2 (neg_any HO8.out.rd (by rw [HO8.out.len];have:=HGL.out;omega))).mono ?_
     rintro _ W9 ⟨s9,A9,n9,c9,y9,rfl,ho9,hy9,hb9⟩
     have hI9:=HI7.out.next hb9
     obtain ⟨_,_,_,_,hz9,_⟩:=hI9.g
     have f0:=hz9.fz 0
     have f1:=hz9.fz 1
     have b0:=hz9.c0
     have b1:=hz9.c1
     have HP:=ah (hI9.put (ho9.base (b':=w.heap.size) HI7.out.lo.size))
     have HKK:=ah (HK7.out.trans (HI7.out.kept hb9 (.bool s9) (.slice A9 n9 c9)).1)
     have HY:=ah (show y9=GG by rw [hy9.out,HV.out])
     clear hI9 hz9 hb9 ho9 hy9 a0 a1
     gi_wp2
     gi_meet
     exact ⟨by rw [<- HY.out];exact HP.out,HKK.out⟩
    ·have HV:=ah (show GG=G1 by rw [HGG.out,if_neg (fun e=>hneg (HSG.out.2 e))])
     have hnb:0<=k7:=by omega
     clear hneg hz8 ho8
     gi_wp2
     gi_meet
     exact ⟨by rw [HV.out];exact HI7.out,HK7.out⟩
   case rest =>
    have HI8:=ah hcut.1
    have HK8:=ah hcut.2
    have HGL2:=ah (show Zz.zl GG<=400000000000 by
     rw [HGG.out]
     split
     ·rw [Zz.zl_neg];exact HGL.out
     ·exact HGL.out)
    have HGNE:=ah (show GG ≠ 0 by rw [HGGD.out];exact mG_ne HD0.out)
    have HGDV:=ah (show GG ∣ d by rw [HGGD.out];exact mG_den _ _)
    have HSW:=ah hcut.1.s
    clear hcut HI7 HK7 HI6 HK6 HWC
    obtain ⟨W8,HW8⟩:∃ W',W'=wc.alloc (.cells #[.bool false,.slice none 0 0,.slice none 0 0] 28):=⟨_,rfl⟩
    have hb8:Below wc.heap.size wc W8:=by rw [HW8];exact bA
    have hM8:MC W8 wc.heap.size false none 0 0 none 0 0:=by rw [HW8];exact MC.new wc false none 0 0 none 0 0
    have HI9:=ah (HI8.out.next hb8)
    have HK9:=ah (HK8.out.trans (below_others hb8))
    have HM9:=ah hM8
    obtain ⟨s2,A2,n2,c2,hz2',ho2⟩:=HI9.out.g
    have HO2:=ah ho2
    have d0:=HI9.out.d.c0
    have d1:=HI9.out.d.c1
    have a0:=hz2'.c0
    have a1:=hz2'.c1
    rw [HW8] at d0 d1 a0 a1
    have HW8:=ah HW8
    obtain ⟨go,hgo⟩:∃ go,go=wc.heap.size:=⟨_,rfl⟩
    have HGO:=ah (show w.heap.size+4<=go/\go < W8.heap.size from ⟨by rw [hgo];exact HSW.out,by rw [hgo];exact hM8.lt⟩)
    have HGQ:=ah hgo
    clear hb8 hM8 hz2' ho2 hgo HI8 HK8
    gi_wp2_with fail
    refine ⟨trivial,?_⟩
    rw [<- HW8.out]
    rw [<- HGQ.out] at HM9 ⊢
    clear HW8 d0 d1 a0 a1
    clear HW8
    refine (callsIn_wide.2 (exact_any (HX.out _ HI9.out.lo).1 HO2.out.rd (by omega) (by rw [HO2.out.len];have:=HGL2.out;omega) HGNE.out)).mono ?_
    rintro _ V1 ⟨s3,A3,n3,c3,q3,e3,rfl,ho3,hq3,hv1⟩
    have HQ3:=ah (show q3=d.tdiv GG by
     rcases hq3.out with ⟨_,f2,_⟩ | ⟨f1,_,_⟩
     ·exact f2
     ·exact absurd (Int.tmod_eq_zero_of_dvd HGDV.out) f1)
    have hM1:=HM9.out.next hv1
    have b0:=hM1.c0
    have b1:=hM1.c1
    have b2:=hM1.c2
    have f0:=hM1.fz 0
    have f1:=hM1.fz 1
    have hI1:=HI9.out.next hv1
    have hI1a:=hI1.far HGO.out.1 hM1 0 (.bool s3)
    have HMD:=ah (hM1.den s3 A3 n3 c3)
    have hM1a:MC (V1.setCell ⟨go,0,none⟩ (.bool s3)) go s3 none 0 0 none 0 0:=by
     unfold MC at hM1 ⊢
     simp [World.setCell,Array.getElem?_modify,hM1]
    have HIV:=ah (hI1a.far HGO.out.1 hM1a 1 (.slice A3 n3 c3))
    have HO3:=ah (show OwZ ((V1.setCell ⟨go,0,none⟩ (.bool s3)).setCell ⟨go,1,none⟩ (.slice A3 n3 c3)) w.heap.size s3 A3 n3 c3 (d.tdiv GG) by
     rw [<- HQ3.out]
     exact ((ho3.base HI9.out.lo.size).keep (keepI_mc hM1 0 (.bool s3)).1).keep (keepI_mc hM1a 1 (.slice A3 n3 c3)).1)
    have HKV:=ah (((HK9.out.trans (below_others hv1)).trans (KeepsOthers.setCell _ ⟨go,0,none⟩ (.bool s3))).trans (KeepsOthers.setCell _ ⟨go,1,none⟩ (.slice A3 n3 c3)))
    have HSV:=ah (show go < ((V1.setCell ⟨go,0,none⟩ (.bool s3)).setCell ⟨go,1,none⟩ (.slice A3 n3 c3)).heap.size by
     have h1:=HGO.out.2
     have h2:=hv1.size
     simp [World.setCell]
     omega)
    clear hM1 hI1 hI1a hM1a ho3 hq3 hv1 HM9 HI9 HK9
    gi_wp2_with fail
    refine ⟨trivial,?_⟩
    generalize (V1.setCell ⟨go,0,none⟩ (.bool s3)).setCell ⟨go,1,none⟩ (.slice A3 n3 c3)=V2 at *
    clear b0 b1 b2 f0 f1
    refine (callsIn_wide.2 (cols_any (HX.out _ HIV.out.lo).2 hr)).mono ?_
    rintro _ V3 ⟨v3,rfl,hv3,hb3⟩
    have hvb:(v3 == 0)=false:=by rw [hv3.out];have:=HC.out;simp;omega
    have HM3:=ah (HMD.out.next hb3)
    have HI3:=ah (HIV.out.next hb3)
    have HO3':=ah (HO3.out.next hb3)
    have HK3:=ah (HKV.out.trans (below_others hb3))
    have HS3:=ah (Nat.lt_of_lt_of_le HSV.out hb3.size)
    clear hv3 hb3 HMD HIV HO3 HKV HSV
    gi_wp2_with fail
    gi_loopw [51] (fun iv wr=>∃ (j:Nat) (A':Option Addr) (c':Nat),iv=.int .i64 (j:Int)/\j<=r/\MC wr go s3 A3 n3 c3 A' j c'/\OwZ wr w.heap.size s3 A3 n3 c3 (d.tdiv GG)/\OwMs wr V3.heap.size A' j c' (((zss RR).take j).map (fun L=>L.map fun x=>x.tdiv GG))/\MgW w s A n c (.slice G r k) GG wr/\KeepsOthers W wr/\V3.heap.size<=wr.heap.size) (fun iv _=>r-(intOf iv).toNat)
    case atStart=>exact ⟨0,none,0,rfl,nZ,HM3.out,HO3'.out,OwMs.nil _ _,HI3.out,HK3.out,nR⟩
    case round =>
     obtain ⟨j,A',c',rfl,hj,hMg,hoz,hom,hI,hK,hsz3⟩:=hrel
     by_cases hjr:j=r
     ·have HOM:=ah (show OwMs wr V3.heap.size A' j c' (mN d (zss RR)) by
       have e:(zss RR).take j=zss RR:=List.take_of_length_le (by unfold zss;rw [List.length_map,HL.out,hjr];exact nR)
       rw [e] at hom
       unfold mN
       rw [<- HGGD.out]
       exact hom)
      subst hjr
      have hMz:=hI.r
      have a0:=hMg.c0
      have a1:=hMg.c1
      have a2:=hMg.c2
      have r0:=hMz.c0
      have r1:=hMz.c1
      have r2:=hMz.c2
      have f0:=hMz.fz 0
      have f1:=hMz.fz 1
      have f2:=hMz.fz 2
      have HS:=ah (hMz.store s3 A3 n3 c3 A' j c')
      have HU:=ah (hoz.keep (keepI_put hMz s3 A3 n3 c3 A' j c').1)
      have HQ:=ah ((HOM.out.put hMz (show w.heap.size+1 < V3.heap.size by have:=HGO.out;have:=HS3.out;omega) s3 A3 n3 c3 A' j c').base (b':=w.heap.size) (by have:=HGO.out;have:=HS3.out;omega))
      have HF:=ah (below_putM hI.lo (show w.heap.size<=w.heap.size+1 by omega) s3 A3 n3 c3 A' j c')
      have HKD:=ah (HD.out _ (((hK.trans (KeepsOthers.setCell _ ⟨w.heap.size+1,0,none⟩ (.bool s3))).trans (KeepsOthers.setCell _ ⟨w.heap.size+1,1,none⟩ (.slice A3 n3 c3))).trans (KeepsOthers.setCell _ ⟨w.heap.size+1,2,none⟩ (.slice A' j c'))))
      unfold putM at HS HU HQ HF
      clear hMg hMz hoz hom hI hK
      gi_wp2_with fail
      generalize ((wr.setCell ⟨w.heap.size+1,0,none⟩ (.bool s3)).setCell ⟨w.heap.size+1,1,none⟩ (.slice A3 n3 c3)).setCell ⟨w.heap.size+1,2,none⟩ (.slice A' j c')=W9 at *
      have hdr:∀ q,some D=some q->∃ o:Obj,W9.heap[q]?=some o/\o.isCells=false:=fun q e=>by cases e;exact ⟨_,HKD.out,rfl⟩
      have z0:=cell_kept HS.out.c0 (grownBy_putObj' _ D (.deferred none)) hdr
      have z1:=cell_kept HS.out.c1 (grownBy_putObj' _ D (.deferred none)) hdr
      have z2:=cell_kept HS.out.c2 (grownBy_putObj' _ D (.deferred none)) hdr
      have hkc:=keepC_own (grownBy_putObj' W9 D (.deferred none)) hdr
      refine ⟨by simp,.inl ⟨_,_,rfl,run_takeDeferred HKD.out,?_⟩⟩
      refine ⟨.agg #[.bool s3,.slice A3 n3 c3,.slice A' j c'],by simp [results,Tryz.f120,go_sem,z0,z1,z2],s3,A3,n3,c3,A',j,c',_,_,rfl,HU.out.keep hkc.q.1,HQ.out.keepC hkc,ah ⟨by rw [HGGD.out],rfl⟩,?_⟩
      exact HF.out.trans (belowK_b (w:=w) nR _ D _ _ (by have:=HDD.out;omega) HKD.out rfl rfl)
     ·have hjl:j < r:=by omega
      have hjli:(j:Int) < (r:Int):=by omega
      clear hjr
      obtain ⟨wo,rfl⟩:∃ V,V=wr:=⟨_,rfl⟩
      obtain ⟨ad,A1,n1,c1,R,rfl,hbk,hx,hr1,hn1,hp⟩:=rss_at (HX.out wo hI.lo).2 hjl
      have hmk:=fun W:World=>make_iroom n1 (by omega) W
      obtain ⟨W6,HW6⟩:∃ W',W'=wo.alloc (.cells (madeCells #[.bool false,.slice none 0 0] (n1*2)) 25):=⟨_,rfl⟩
      have hb6:Below wo.heap.size wo W6:=by rw [HW6];exact bA
      have HO6:=ah (show OwZs W6 wo.heap.size (some ⟨wo.heap.size,0,none⟩) 0 n1 [] by rw [HW6];exact OwZs.room wo n1 (by unfold maxLen;omega))
      have HMG:=ah hMg
      have HOZ:=ah hoz
      have HOM:=ah hom
      have HIO:=ah hI
      have HKO:=ah hK
      have HB6:=ah hb6
      have HSZ3:=ah hsz3
      have HRR:=ah (cJ hr1 hr1.len)
      have HJL:=ah (show j+1<=1048576 by omega)
      have HW6:=ah HW6
      clear hMg hoz hom hI hK hb6 hr1 hsz3
      gi_wp2_with fail
      rw [<- HW6.out]
      clear HW6 hx
      clear HW6
      clear hmk
      gi_loopw [10,60] (fun ov iv wx=>∃ (i c5:Nat) (A5:Option Addr),ov=.slice A5 i c5/\iv=.int .i64 (i:Int)/\i<=n1/\OwZs wx wo.heap.size A5 i c5 (((R.take i).map toZ).map fun x=>x.tdiv GG)/\Below wo.heap.size wo wx) (fun _ iv _=>n1-(intOf iv).toNat)
      case atStart=>exact ⟨0,n1,_,rfl,rfl,nZ,HO6.out,HB6.out⟩
      case round =>
       obtain ⟨i,c5,A5,rfl,rfl,hi5,ho5,hB5⟩:=hrel
       by_cases hin:i=n1
       ·have HO5:=ah (show OwIp wr V3.heap.size A5 i c5 ((R.map toZ).map fun x=>x.tdiv GG) by
         rw [List.take_of_length_le (l:=R) (i:=i) (by rw [HRR.out.2,hin];exact nR)] at ho5
         exact ho5.ip.base HSZ3.out)
        have HB5:=ah hB5
        have HMW:=ah (HMG.out.next hB5)
        have HZW:=ah (HOZ.out.next hB5)
        have HIW:=ah (HIO.out.next hB5)
        obtain ⟨E,hE,hEl,hEn⟩:=HOM.out.next hB5
        have HE:=ah hE
        have HEN:=ah (cJ hEl hEn)
        have m2:=HMW.out.c2
        subst hin
        clear ho5 hB5 hE hEl hEn
        gi_wp2_with (gi_at_builtin;refine wpListIn_append_own _ rfl _ _ 26 rfl V3.heap.size 65 i1 (.slice none 0 0) 1 24 Tryz.underlying26 hjf hy0 hy1 hy2 rfl (by decide) _ _ _ rfl (HE.out.alloc _) ⟨wr.heap.size,0,none⟩ 1 1 [.slice A5 i c5] rfl rfl (scell_new wr (.slice A5 i c5) 65) (by simp [Value.oneCell']) (by have:=HJL.out;unfold maxLen;omega) (by have:=HJL.out;omega) (by have h1:=HB5.out.size;have h2:=HSZ3.out;simp;omega) ?_;intro v' w1 hown' hgrow _;obtain ⟨A9,c9,rfl,ho9⟩:=ms_more (e:=(A5,i,c5)) (L:=(R.map toZ).map fun x=>x.tdiv GG) HO5.out rfl (HE.out.alloc _) HEN.out.1 (HEN.out.2.next (bR.alloc nR (.cells #[.slice A5 i c5] 65))) hown' hgrow;have hM9:=MC.grown (HMW.out.alloc (.cells #[.slice A5 i c5] 65)) (HE.out.alloc _) hgrow;have m9:=hM9.c2;have fz9:=hM9.fz 2;have HO9:=ah ho9;have HM9:=ah hM9;have HGW:=ah hgrow;clear hown' ho9 hM9 hgrow)
        have hba:Below wr.heap.size wr (wr.alloc (.cells #[.slice A5 i c5] 65)):=bA
        have hlt:go < V3.heap.size:=HS3.out
        have HNM:=ah (HM9.out.num A9 (j+1) c9)
        have HZ9:=ah (((HZW.out.next hba).keep (keepI_grown (HE.out.alloc _) HGW.out).1).keep (keepI_mc HM9.out 2 (.slice A9 (j+1) c9)).1)
        have HN9:=ah (HO9.out.num HM9.out hlt (.slice A9 (j+1) c9))
        have HTK:=ah (mN_take hp.out GG)
        have HI9':=ah (((HIW.out.next hba).grown (HE.out.alloc _) (by have:=HGO.out;omega) HGW.out rfl).far HGO.out.1 HM9.out 2 (.slice A9 (j+1) c9))
        have HK9':=ah ((((HKO.out.trans (below_others HB5.out)).trans (below_others hba)).trans (others_append (HE.out.alloc _) HGW.out)).trans (KeepsOthers.setCell _ ⟨go,2,none⟩ (.slice A9 (j+1) c9)))
        have HS9:=ah (show V3.heap.size<=(w1.setCell ⟨go,2,none⟩ (.slice A9 (j+1) c9)).heap.size by
         have h1:=HGW.out.size
         have h2:=HB5.out.size
         have h3:=HSZ3.out
         simp [World.setCell] at h1 ⊢
         omega)
        clear m2 m9 fz9 hba hlt
        gi_wp2
        go_roundw
        case rel=>exact ⟨j+1,A9,c9,by go_num,by omega,HNM.out,HZ9.out,by rw [<- HTK.out];exact HN9.out,HI9'.out,HK9'.out,HS9.out⟩
        case measure=>simp [intOf];omega
       ·have hil:i < n1:=by omega
        have hili:(i:Int) < (n1:Int):=by omega
        clear hin
        obtain ⟨ad2,s6,M6,A6,n6,c6,rfl,hbk6,hz60,hz61,hr6,hn6,hp6⟩:=rs_at (HRR.out.1.next hB5) hil
        obtain ⟨W7,HW7⟩:∃ W',W'=wr.alloc (.cells #[.bool s6,.slice A6 n6 c6] 25):=⟨_,rfl⟩
        have hb7:Below wr.heap.size wr W7:=by rw [HW7];exact bA
        have hb57:=hB5.trans (hb7.mono hB5.size)
        obtain ⟨s2',A2',n2',c2',hz7,ho7⟩:=(HIO.out.next hb57).g
        have HZ7:=ah (cJ (show RdZ W7 W7.heap.size s6 A6 n6 c6 (toZ (s6,M6)) from ⟨M6,hr6.next hb7,rfl⟩) ho7)
        have HO7:=ah (ho5.next hb7)
        have HB7:=ah hb57
        have HDV:=ah (show GG ∣ toZ (s6,M6) by
         rw [HGGD.out]
         exact mG_num (L:=R.map toZ) (List.mem_map.2 ⟨R,gM hp.out,rfl⟩) (List.mem_map.2 ⟨_,gM hp6.out,rfl⟩))
        have a0:=hz7.c0
        have a1:=hz7.c1
        rw [HW7] at a0 a1
        have HW7:=ah HW7
        clear hb7 hb57 hz7 ho7 hr6 ho5 hB5
        gi_wp2_with fail
        refine ⟨trivial,?_⟩
        rw [<- HW7.out]
        clear HW7 a0 a1 hz60 hz61
        clear HW7
        refine (callsIn_wide.2 (exact_any HZ7.out.1 HZ7.out.2.rd (by omega) (by rw [HZ7.out.2.len];have:=HGL2.out;omega) HGNE.out)).mono ?_
        rintro _ W8 ⟨s8,A8,n8,c8,y8,e8,rfl,ho8,hy8,hb8⟩
        obtain ⟨W9,HW9⟩:∃ W',W'=W8.alloc (.cells #[.bool s8,.slice A8 n8 c8] 25):=⟨_,rfl⟩
        have hb9:Below W8.heap.size W8 W9:=by rw [HW9];exact bA
        have hB9:=HB7.out.trans ((hb8.trans (hb9.mono hb8.size)).mono HB7.out.size)
        obtain ⟨E,hE,hEl,hEn⟩:=(HO7.out.next hb8).next hb9
        have HO9:=ah ((ho8.base (b':=wo.heap.size) HB7.out.size).next hb9)
        rw [HW9] at hE hB9 hEn
        rw [HW9] at HO9
        have HE:=ah hE
        have HEN:=ah (cJ hEl hEn)
        have HY:=ah (show (((R.take i).map toZ).map fun x=>x.tdiv GG) ++ [y8]=((R.take (i+1)).map toZ).map fun x=>x.tdiv GG by
         rcases hy8.out with ⟨_,f2,_⟩ | ⟨f1,_,_⟩
         ·rw [f2];exact tdiv_take hp6.out GG
         ·exact absurd (Int.tmod_eq_zero_of_dvd HDV.out) f1)
        have HB9:=ah hB9
        clear hE hEl hEn hb8 ho8 hb9 hB9 hy8
        clear HW9
        gi_wp2_with (gi_at_builtin;refine wpListIn_append_own _ rfl _ _ 65 rfl wo.heap.size 25 i0 (.agg #[.bool false,.slice none 0 0]) 2 32 Tryz.underlying65 hi hz0 hz1 hz2 rfl (by decide) _ _ _ rfl (HE.out.alloc _) ⟨W8.heap.size+1,0,none⟩ 1 1 [.bool s8,.slice A8 n8 c8] rfl rfl (by simpa using zcell_new (W8.alloc (.cells #[.bool s8,.slice A8 n8 c8] 25)) (.bool s8) (.slice A8 n8 c8) 25) (by simp [Value.oneCell']) (by unfold maxLen;omega) (by omega) (by have:=HB9.out.size;simp at this ⊢;omega) ?_;intro v' w1 hown' hgrow _;obtain ⟨A9,c9,rfl,ho9⟩:=zs_more (e:=(s8,A8,n8,c8)) (z:=y8) HO9.out rfl (HE.out.alloc _) HEN.out.1 HEN.out.2 hown' hgrow;have HN9:=ah ho9;have HBF:=ah ((HB9.out.alloc HB9.out.size (.cells #[.bool s8,.slice A8 n8 c8] 25)).grown hgrow (by have:=HB9.out.size;simp at this ⊢;omega) (own_block HE.out));clear hown' hgrow ho9)
        gi_wp2
        go_roundw
        case rel=>exact ⟨i+1,c9,A9,rfl,by go_num,by omega,by rw [<- HY.out];exact HN9.out,HBF.out⟩
        case measure=>simp [intOf];omega
end Go.Proofs.YtjnklbfhelbjgaaGreat
namespace Go.Proofs.YtjnklbfhelbjgaaGreat
open Go.RowKit Go.IntWalk
attribute [local go_sem ↓] Go.wp_at_zero Go.wp_at_succ
def RetMe (d:Int)(LL:List (List Int))(w:World)(e:Ending)(w':World):Prop :=
 ∃ (s:Bool) (A:Option Addr) (n c:Nat) (G:Option Addr) (r k:Nat),e=.returned (.tuple #[.agg #[.bool s,.slice A n c,.slice G r k],.int .i64 0])/\OwZ w' w.heap.size s A n c d/\OwMs w' w.heap.size G r k LL/\Below w.heap.size w w'
theorem mNorm_any {N K:Nat}{s:Bool}{A G:Option Addr}{n c r k:Nat}{d:Int}{RR:List RawRow}{w:World}(h:RdZ w w.heap.size s A n c d)(h':RdRss w w.heap.size N K G r k RR)(hd:d ≠ 0)(hev:Evn RR)(hn:n<=400000000000)(hN:N<=400000000000)(hr:r<=1048576)(hK:K<=1048576)(hc:colsOf RR ≠ 0) :
  Calls Tryz.prog 160 #[.agg #[.bool s,.slice A n c,.slice G r k]] w (RetMe (d.tdiv (mG d (zss RR))) (mN d (zss RR)) w):=by
 obtain ⟨W1,HW1⟩:∃ W,W=w.alloc (.cells #[.bool s,.slice A n c,.slice G r k] 28):=⟨_,rfl⟩
 have hP:MC W1 w.heap.size s A n c G r k:=by rw [HW1];exact MC.new w s A n c G r k
 have hb1:Below w.heap.size w W1:=by rw [HW1];exact bA
 obtain ⟨W2,HW2⟩:∃ W,W=W1.alloc (.cells #[.bool false,.slice none 0 0,.slice none 0 0] 28):=⟨_,rfl⟩
 have hM:MC W2 W1.heap.size false none 0 0 none 0 0:=by rw [HW2];exact MC.new W1 false none 0 0 none 0 0
 have hb2:Below W1.heap.size W1 W2:=by rw [HW2];exact bA
 have hb02:=hb1.trans (hb2.mono hb1.size)
 have hs1:W1.heap.size=w.heap.size+1:=by rw [HW1];simp
 obtain ⟨gp,hgp⟩:∃ g,g=w.heap.size:=⟨_,rfl⟩
 obtain ⟨gr,hgr⟩:∃ g,g=w.heap.size+1:=⟨_,rfl⟩
 rw [hs1,<- hgr] at hM
 rw [<- hgp] at hP
 have HX:=ah (show ∀ W,Below W2.heap.size W2 W->MC W gp s A n c G r k/\MC W gr false none 0 0 none 0 0/\RdZ W W.heap.size s A n c d/\RdRss W W.heap.size N K G r k RR from fun W hb=>⟨(hP.next hb2).next hb,hM.next hb,(h.next hb02).next hb,(h'.next hb02).next hb⟩)
 have HB:=ah (cJ hb02 (show w.heap.size<=gr by omega))
 have HG:=ah (cJ hgp hgr)
 have HD:=ah hd
 have hch:chk d RR=0:=by unfold chk;rw [if_neg hd,if_pos hev]
 have HCH:=ah hch
 rw [HW1] at HW2
 have HW2:=ah HW2
 clear h h' hP hM hb1 hb2 hb02 hs1 hgp hgr hd hev hch HW1
 go_enter Tryz.func160,Tryz.ntmps160
 go_wp2_with fail
 rw [<- HW2.out,<- HG.out.2,<- HG.out.1]
 clear HW2
 clear HW2
 refine (mcheck_any (HX.out _ bR).2.2.1 (HX.out _ bR).2.2.2 (by omega) hr).mono ?_
 rintro _ W3 ⟨v,rfl,hv,hb3⟩
 obtain rfl:v=0:=hv.out.trans HCH.out
 have q0:=(HX.out _ hb3).1.c0
 have q1:=(HX.out _ hb3).1.c1
 have q2:=(HX.out _ hb3).1.c2
 have HB3:=ah hb3
 clear hv hb3
 go_wp2_with fail
 refine (mmade_any (HX.out _ HB3.out).2.2.1 (HX.out _ HB3.out).2.2.2 HD.out hn hN hr hK hc).mono ?_
 rintro _ W8 ⟨s8,A8,n8,c8,G8,r8,k8,y8,MM,rfl,ho8,hm8,hy8,hb8⟩
 obtain ⟨rfl,rfl⟩:=hy8.out
 have hMz:=(HX.out _ (HB3.out.trans (hb8.mono HB3.out.size))).2.1
 have r0:=hMz.c0
 have r1:=hMz.c1
 have r2:=hMz.c2
 have f0:=hMz.fz 0
 have f1:=hMz.fz 1
 have f2:=hMz.fz 2
 have hlt:gr < W3.heap.size:=(HX.out _ HB3.out).2.1.lt
 have hw3:w.heap.size<=W3.heap.size:=nT HB.out.1.size HB3.out.size
 have HSS:=ah (hMz.store s8 A8 n8 c8 G8 r8 k8)
 have HU:=ah ((ho8.base (b':=w.heap.size) hw3).keep (keepI_put hMz s8 A8 n8 c8 G8 r8 k8).1)
 have HQQ:=ah ((hm8.put hMz hlt s8 A8 n8 c8 G8 r8 k8).base (b':=w.heap.size) hw3)
 have HF:=ah (below_putM ((HB.out.1.trans (HB3.out.mono HB.out.1.size)).trans (hb8.mono hw3)) HB.out.2 s8 A8 n8 c8 G8 r8 k8)
 unfold putM at HSS HU HQQ HF
 clear hMz ho8 hm8 hb8 hy8 q0 q1 q2 hlt hw3
 go_wp2_with fail
 generalize ((W8.setCell ⟨gr,0,none⟩ (.bool s8)).setCell ⟨gr,1,none⟩ (.slice A8 n8 c8)).setCell ⟨gr,2,none⟩ (.slice G8 r8 k8)=W9 at *
 have z0:=HSS.out.c0
 have z1:=HSS.out.c1
 have z2:=HSS.out.c2
 go_wp2
 exact bodyPost_ret (by simp [results,Tryz.results160,go_sem,z0,z1,z2]) rfl ⟨_,_,_,_,_,_,_,rfl,HU.out,HQQ.out,HF.out⟩
end Go.Proofs.YtjnklbfhelbjgaaGreat
