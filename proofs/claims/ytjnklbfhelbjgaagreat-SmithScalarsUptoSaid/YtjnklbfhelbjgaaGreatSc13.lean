/- Sc13. -/
import Derived.Test.YtjnklbfhelbjgaaGreatSc12
import Derived.Test.YtjnklbfhelbjgaaGreatSc07
import Derived.Test.YtjnklbfhelbjgaaGreatSc06
import Derived.Test.YtjnklbfhelbjgaaGreatSc10
import Derived.Deep.AppendLies
import Derived.Deep.RegionLaw
import Derived.Test.YtjnklbfhelbjgaaGreatSc00
set_option maxRecDepth 100000
set_option maxHeartbeats 32000000
set_option linter.all false
namespace Go.Proofs.YtjnklbfhelbjgaaGreat
open Go.RowKit Go.IntWalk Go.Shelf
attribute [local go_sem] Oper.semAt_some
theorem flatten_le {α:Type}{K:Nat}:∀ LL:List (List α),(∀ L ∈ LL,L.length<=K)->LL.flatten.length<=LL.length*K
 | [],_=>by simp
 | L :: LL, h => by
   have ih:=flatten_le LL fun M hM=>h M (List.mem_cons_of_mem _ hM)
   have h1:=h L (List.mem_cons_self ..)
   rw [List.flatten_cons,List.length_append,List.length_cons,Nat.succ_mul]
   omega
theorem map_of_get {α β:Type}{f:α->β}{l:List α}{m:List β}(hl:l.length=m.length)(h:∀ (j:Nat)(x:α),l[j]?=some x->m[j]?=some (f x)):l.map f=m:=by
 refine List.ext_getElem? fun j=>?_
 rw [List.getElem?_map]
 rcases Nat.lt_or_ge j l.length with hj | hj
 ·rw [gE hj]
  exact (h j _ (gE hj)).symm
 ·rw [gN hj,gN (by omega)]
  rfl
theorem OwQss.grid {w:World}{b:Nat}{A:Option Addr}{n c:Nat}{LL:List (List Rat)}(h:OwQss w b A n c LL):∃ XX:List (List (GQ w b)),GridQ w w.heap.size A n XX/\XX.map (fun r=>r.map (fun x=>x.1.2))=LL:=by
 obtain ⟨XX,h1,h2⟩:=exists_list (P:=fun (i:Nat) (row:List (GQ w b))=>(∃ (ad:Addr) (A1:Option Addr) (n1 c1:Nat),A=some ad/\ad.block < w.heap.size/\w.cell? (ad.add i)=some (.slice A1 n1 c1)/\row.length=n1/\n1<=maxLen /\
   ∀ (j:Nat) (x:GQ w b),row[j]?=some x->∃ ad1:Addr,A1=some ad1/\ad1.block < w.heap.size/\w.cell? (ad1.add (j*4))=some (.bool x.1.1.1.1)/\w.cell? ⟨(ad1.add (j*4)).block,(ad1.add (j*4)).off+1,none⟩=some (.slice x.1.1.1.2.1 x.1.1.1.2.2.1 x.1.1.1.2.2.2)/\w.cell? ⟨(ad1.add (j*4)).block,(ad1.add (j*4)).off+2,none⟩=some (.bool x.1.1.2.1)/\w.cell? ⟨(ad1.add (j*4)).block,(ad1.add (j*4)).off+3,none⟩=some (.slice x.1.1.2.2.1 x.1.1.2.2.2.1 x.1.1.2.2.2.2))/\LL[i]?=some (row.map (fun x=>x.1.2))) n (fun i hi=>by
  obtain ⟨g,A1,n1,c1,L,rfl,e2,e3,e4,e5⟩:=oql_at h hi
  obtain ⟨row,r1,r2⟩:=exists_list (P:=fun (j:Nat) (x:GQ w b)=>(∃ ad1:Addr,A1=some ad1/\ad1.block < w.heap.size/\w.cell? (ad1.add (j*4))=some (.bool x.1.1.1.1)/\w.cell? ⟨(ad1.add (j*4)).block,(ad1.add (j*4)).off+1,none⟩=some (.slice x.1.1.1.2.1 x.1.1.1.2.2.1 x.1.1.1.2.2.2)/\w.cell? ⟨(ad1.add (j*4)).block,(ad1.add (j*4)).off+2,none⟩=some (.bool x.1.1.2.1)/\w.cell? ⟨(ad1.add (j*4)).block,(ad1.add (j*4)).off+3,none⟩=some (.slice x.1.1.2.2.1 x.1.1.2.2.2.1 x.1.1.2.2.2.2))/\L[j]?=some x.1.2) n1 (fun j hj=>by
   obtain ⟨ad1,s,B1,m1,k1,s',B1',m1',k1',x,q1,q2,q3,q4,q5,q6,q7,q8⟩:=op_at e4 hj
   exact ⟨⟨(((s,B1,m1,k1),(s',B1',m1',k1')),x),q7⟩,⟨ad1,q1,q2,q3,q4,q5,q6⟩,q8.out⟩)
  refine ⟨row,⟨⟨g,0,none⟩,A1,n1,c1,rfl,e2,by rw [add_base];exact e3,r1,nT e4.le.1 e4.le.2,fun j x hx=>(r2 j x hx).1⟩,?_⟩
  rw [e5.out]
  congr 1
  exact (map_of_get (by rw [r1,e4.len]) fun j x hx=>(r2 j x hx).2).symm)
 exact ⟨XX,⟨h1,fun i row hi=>(h2 i row hi).1⟩,map_of_get (by rw [h1,h.len]) fun i row hi=>(h2 i row hi).2⟩
structure AllI {W0:World}{b:Nat}(m Ba Bs:Nat)(gv:Value)(pre:List (GQ W0 b))(W:World):Prop where
 box:∃ (A':Option Addr) (c':Nat) (E:List (Ent × Ent)),Boxed W Ba 72 (.slice A' pre.length c')/\W.ownsRow W0.heap.size 47 4 (.slice A' pre.length c') pre.length (qcs E)/\E.length=pre.length/\EntQ W b E (pre.map (fun x=>x.1.2))
 bs:Boxed W Bs 148 gv
 lo:Below W0.heap.size W0 W
 s:m<=W.heap.size
section
variable {W0:World}{b m Ba Bs:Nat}{gv:Value}{pre:List (GQ W0 b)}{W:World}
theorem AllI.own (hm:W0.heap.size<=m):OwnFrom m (AllI (W0:=W0) (b:=b) m Ba Bs gv):=fun pre W W' row hs hg hr=>by
 obtain ⟨⟨A',c',E,h1,h2,h3,h4⟩,h5,h6,h7⟩:=hs
 have hk:=keepC_own hg (fun r e=>(hr r e).2)
 exact ⟨⟨A',c',E,hk _ _ _ _ h1,hk.row h2,h3,h4.keep hk.q.1⟩,hk _ _ _ _ h5,h6.grown hg h6.size (fun r e=>nT hm (hr r e).1),nT h7 hg.size⟩
theorem AllI.step {x:GQ W0 b}{w1:World}{v':Value}{A':Option Addr}{c':Nat}{E:List (Ent × Ent)}{t:TypeId}(hBa:W0.heap.size<=Ba)(hBs:Bs ≠ Ba)(h1:Boxed W Ba 72 (.slice A' pre.length c'))(h2:W.ownsRow W0.heap.size 47 4 (.slice A' pre.length c') pre.length (qcs E))(h3:E.length=pre.length)(h4:EntQ W b E (pre.map (fun x=>x.1.2)))(h5:Boxed W Bs 148 gv)(h6:Below W0.heap.size W0 W)(h7:m<=W.heap.size)
  (hown':w1.ownsRow W0.heap.size 47 4 v' (pre.length+1) (qcs E ++ [.bool x.1.1.1.1,.slice x.1.1.1.2.1 x.1.1.1.2.2.1 x.1.1.1.2.2.2,.bool x.1.1.2.1,.slice x.1.1.2.2.1 x.1.1.2.2.2.1 x.1.1.2.2.2.2]))
  (hg:(W.alloc (.cells #[.bool x.1.1.1.1,.slice x.1.1.1.2.1 x.1.1.1.2.2.1 x.1.1.1.2.2.2,.bool x.1.1.2.1,.slice x.1.1.2.2.1 x.1.1.2.2.2.1 x.1.1.2.2.2.2] t)).grownBy w1 (Value.slice A' pre.length c').ownBlock) :
  ∃ (A9:Option Addr) (c9:Nat),v'=.slice A9 (pre.length+1) c9/\Boxed w1 Ba 72 (.slice A' pre.length c')/\AllI m Ba Bs gv (pre ++ [x]) (w1.setCell ⟨Ba,0,none⟩ v')/\KeepsOthers W (w1.setCell ⟨Ba,0,none⟩ v')/\KpO W0.heap.size Bs W (w1.setCell ⟨Ba,0,none⟩ v'):=by
 obtain ⟨k1,k2,k3,k4,k5⟩:=h1.appended (by decide) h2 h6.size hBa hown' hg
 obtain ⟨A9,c9,rfl⟩:=row_sl hown'
 have hba:Below W.heap.size W (W.alloc (.cells #[.bool x.1.1.1.1,.slice x.1.1.1.2.1 x.1.1.1.2.2.1 x.1.1.1.2.2.2,.bool x.1.1.2.1,.slice x.1.1.2.2.1 x.1.1.2.2.2.1 x.1.1.2.2.2.2] t)):=bA
 have hkt:KeepT W (w1.setCell ⟨Ba,0,none⟩ (.slice A9 (pre.length+1) c9)):=((KeepT.below hba).trans (KeepT.grown (h2.alloc _) (by decide) hg)).trans (KeepT.set (p:=⟨Ba,0,none⟩) k1 (by decide) _)
 have hs5:Boxed w1 Bs 148 gv:=(h5.alloc _).kept hg (h5.not_row (by decide) h2)
 have hs6:Boxed (w1.setCell ⟨Ba,0,none⟩ (.slice A9 (pre.length+1) c9)) Bs 148 gv:=(Below.heap_setCell w1 ⟨Ba,0,none⟩ _ Bs hBs).trans hs5
 refine ⟨A9,c9,rfl,k1,⟨⟨A9,c9,E ++ [x.1.1],?_,?_,?_,?_⟩,hs6,h6.trans k5,?_⟩,k4,⟨k5,hs6.trans h5.symm⟩⟩
 ·rw [List.length_append];exact k2
 ·rw [List.length_append,qcs_append,qcs_one];exact k3
 ·rw [List.length_append,List.length_append,h3];rfl
 ·rw [List.map_append]
  exact (h4.keep hkt).snoc (((x.2.next h6)).keep hkt)
 ·exact nT h7 k4.size
end
theorem mHeight_any {N K:Nat}{s:Bool}{A G:Option Addr}{n c r k:Nat}{d:Int}{RR:List RawRow}{w:World}(h:RdZ w w.heap.size s A n c d)(h':RdRss w w.heap.size N K G r k RR)(hn:n<=N)(hN:N<=1000000000000)(h1N:1<=N)(hr:r<=1048576)(hK:K<=1048576)(hrk:r*K<=1048576) :
  Calls Tryz.prog 81 #[.agg #[.bool s,.slice A n c,.slice G r k]] w (RetKE (fun v kk=>(chk d RR=0/\v=(ht (ent d RR).flatten:Int)/\kk=0) ∨ (chk d RR ≠ 0/\v=0/\kk=chk d RR)) w):=by
 obtain ⟨W1,HW1⟩:∃ W,W=w.alloc (.cells #[.bool s,.slice A n c,.slice G r k] 28):=⟨_,rfl⟩
 have hM:MC W1 w.heap.size s A n c G r k:=by rw [HW1];exact MC.new w s A n c G r k
 have hB:Below w.heap.size w W1:=by rw [HW1];exact bA
 obtain ⟨i0,hi,hz0,hz1,hz2⟩:=info_parts infoQ
 have HB:=ah hB
 have HX:=ah (cJ (h.next hB) (h'.next hB))
 have HE:=ah (fun hd:d ≠ 0=>ent_sz h' hd (nT h.len hn))
 have HL:=ah h'.len
 have HW1:=ah HW1
 clear h h' hM hB
 refine (callsIn_wide (n:=4)).1 ?_
 refine callsIn_of_wp_marks Tryz.func81 rfl trivial ?_ rfl
 simp only [Tryz.ntmps81,List.size_toArray,List.length_cons,List.length_nil,Nat.reduceAdd,Nat.reduceSub,Array.replicate_succ,Array.replicate_zero,List.push_toArray,List.append_toArray,List.nil_append,List.cons_append]
 gi_wp2_with fail
 refine ⟨trivial,?_⟩
 rw [<- HW1.out]
 clear HW1
 clear HW1
 refine (callsIn_wide.2 (mRows_any HX.out.1 HX.out.2 (by omega) hN hr hK)).mono ?_
 rintro _ W2 ⟨A2,n2,c2,LL,kk,rfl,ho,hv,hb2⟩
 have HB2:=tM HB hb2
 by_cases h0:kk=0
 case neg =>
  have hkb:(kk == 0)=false:=by simp [h0]
  have HV:=ah (show chk d RR ≠ 0/\kk=chk d RR from hv.out.elim (fun e=>absurd e.2.2 h0) (fun e=>⟨e.1,e.2.2⟩))
  clear ho hb2 hv
  gi_wp2
  refine ⟨.tuple #[.int .i64 0,.int .i64 kk],?_,⟨0,kk,rfl,ah (.inr ⟨HV.out.1,rfl,HV.out.2⟩),HB2.out⟩⟩
  simp [results,Tryz.f81,go_sem]
 have HC:=ah (show chk d RR=0/\LL=ent d RR from hv.out.elim (fun e=>⟨e.1,e.2.1⟩) (fun e=>absurd (e.2.2.symm.trans h0) e.1))
 subst h0
 obtain ⟨XX,hG,hXX⟩:=ho.grid
 have hnm:n2<=maxLen:=by
  rcases ho.form with ⟨_,rfl,_⟩ | ⟨_,_,_,_,h3,h4⟩
  ·exact nZ
  ·exact nT h3 h4
 clear hv ho
 gi_wp2_with (refine ⟨trivial,?_⟩;gi_at_call 117;refine (callsIn_wide.2 (eachQ_any _)).mono ?_;rintro e w' ⟨rfl,rfl⟩)
 obtain ⟨W3,HW3⟩:∃ W,W=(W2.alloc (.cells #[.slice none 0 0] 72)).alloc (.cells #[.slice A2 n2 c2] 148):=⟨_,rfl⟩
 have hb3:Below W2.heap.size W2 W3:=by rw [HW3];exact (bA).alloc (by simp) _
 have hsz:W3.heap.size=W2.heap.size+2:=by rw [HW3];simp
 have hbx:Boxed W3 W2.heap.size 72 (.slice none 0 0):=by rw [HW3];exact (Boxed.new W2 _ _).alloc _
 have hbs:Boxed W3 (W2.heap.size+1) 148 (.slice A2 n2 c2):=by
  rw [HW3]
  have:=Boxed.new (W2.alloc (.cells #[.slice none 0 0] 72)) 148 (.slice A2 n2 c2)
  simpa using this
 have HI0:=ah (show AllI (W0:=W2) (b:=W1.heap.size) W3.heap.size W2.heap.size (W2.heap.size+1) (.slice A2 n2 c2) [] W3 from
  ⟨⟨none,0,[],hbx,World.ownsRow_nil _ _ _ _,rfl,⟨rfl,fun j e z he _=>by simp at he⟩⟩,hbs,hb3,nR⟩)
 have HSQ:=ah (eachQ_stops 3 (by omega) (W2.heap.size+1) W2.heap.size hnm W3 (by omega) (by omega) (hG.below hb3) hbs.cell)
 have HXX:=ah hXX
 have HTOT:=ah (show XX.flatten.length<=1048576 by
  have e:XX.flatten.length=(XX.flatten.map (fun x=>x.1.2)).length:=(List.length_map ..).symm
  rw [e,List.map_flatten,hXX,HC.out.2]
  have h1:=flatten_le (K:=K) (ent d RR) (fun L hL=>(HE.out (chk_zero HC.out.1).1 L hL).1)
  rw [ent_len,HL.out] at h1
  omega)
 have HBW:=ah hb2.size
 rw [<- HW3]
 clear HW3 hbx hbs hb3 hG hXX hb2 HX
 apply rangeFunc_box (n:=4) (P:=Tryz.prog) (by omega) (gf:=168) (lb:=#[.pointer (some ⟨W2.heap.size+1,0,none⟩)]) rfl (enters_of Tryz.func168 (by kernel_rfl) rfl)
  HSQ.out (by omega) (by omega) rfl (AllI W3.heap.size W2.heap.size (W2.heap.size+1) (.slice A2 n2 c2)) (AllI.own (by omega)) (fun _ _ hh=>hh.s) HI0.out 47 (fun x=>#[.bool x.1.1.1.1,.slice x.1.1.1.2.1 x.1.1.1.2.2.1 x.1.1.1.2.2.2,.bool x.1.1.2.1,.slice x.1.1.2.2.1 x.1.1.2.2.2.1 x.1.1.2.2.2.2])
 case hassign =>
  intro l x W K B hB hK
  unfold gQ
  gi_wp2
  rw [<- hB]
  exact hK
 case hbody =>
  rintro l pre x B W ⟨⟨A',c',E,h1,h2,h3,h4⟩,h5,h6,h7⟩ hB hx hlen
  have hq:QC W B x.1.1.1.1 x.1.1.1.2.1 x.1.1.1.2.2.1 x.1.1.1.2.2.2 x.1.1.2.1 x.1.1.2.2.1 x.1.1.2.2.2.1 x.1.1.2.2.2.2:=hx
  have k0:=h1.cell
  have q0:=hq.c0
  have q1:=hq.c1
  have q2:=hq.c2
  have q3:=hq.c3
  have hlen2:pre.length < 1048576:=Nat.lt_of_lt_of_le hlen HTOT.out
  have HST:=ah (show ∀ (w1:World) (v':Value),w1.ownsRow W2.heap.size 47 4 v' (pre.length+1) (qcs E ++ [.bool x.1.1.1.1,.slice x.1.1.1.2.1 x.1.1.1.2.2.1 x.1.1.1.2.2.2,.bool x.1.1.2.1,.slice x.1.1.2.2.1 x.1.1.2.2.2.1 x.1.1.2.2.2.2])->(W.alloc (.cells #[.bool x.1.1.1.1,.slice x.1.1.1.2.1 x.1.1.1.2.2.1 x.1.1.1.2.2.2,.bool x.1.1.2.1,.slice x.1.1.2.2.1 x.1.1.2.2.2.1 x.1.1.2.2.2.2] 47)).grownBy w1 (Value.slice A' pre.length c').ownBlock->_ from fun w1 v'=>AllI.step (m:=W3.heap.size) (Ba:=W2.heap.size) (Bs:=W2.heap.size+1) (gv:=.slice A2 n2 c2) (x:=x) (w1:=w1) (v':=v') (t:=47) nR (by omega) h1 h2 h3 h4 h5 h6 h7)
  have H2:=ah (h2.alloc (.cells #[.bool x.1.1.1.1,.slice x.1.1.1.2.1 x.1.1.1.2.2.1 x.1.1.1.2.2.2,.bool x.1.1.2.1,.slice x.1.1.2.2.1 x.1.1.2.2.2.1 x.1.1.2.2.2.2] 47))
  have hsW:W2.heap.size<=W.heap.size:=h6.size
  clear h1 h2 h3 h4 h5 h6 h7 hq hx
  gi_wp2_with (gi_at_builtin;refine wpListIn_append_own _ rfl _ _ 72 rfl W2.heap.size 47 i0 (.agg #[.bool false,.slice none 0 0,.bool false,.slice none 0 0]) 4 64 Tryz.underlying72 hi hz0 hz1 hz2 rfl (by decide) _ _ _ rfl H2.out ⟨W.heap.size,0,none⟩ 1 1 [.bool x.1.1.1.1,.slice x.1.1.1.2.1 x.1.1.1.2.2.1 x.1.1.1.2.2.2,.bool x.1.1.2.1,.slice x.1.1.2.2.1 x.1.1.2.2.2.1 x.1.1.2.2.2.2] rfl rfl (qcell_new W _ _ _ _ _) (by simp [Value.oneCell']) (by unfold maxLen;omega) (by omega) (by simp;omega) ?_;intro v' w1 hown' hgrow _;obtain ⟨A9,c9,rfl,k1,k2,k3,k4⟩:=HST.out _ _ hown' hgrow;have kc:=k1.cell;have kf:=k1.frozen;have HK:=ah (cJ k2 (cJ k3 k4));clear hown' hgrow k0 q0 q1 q2 q3 k1 k2 k3 k4)
  exact ⟨HK.out.2.1.from _,HK.out.2.2,HK.out.1⟩
 case hdone =>
  rintro D ys W hD rfl ⟨⟨A',c',E,h1,h2,h3,h4⟩,h5,h6,h7⟩ hK
  obtain ⟨q,hqq⟩:∃ q,XX.flatten.length=q:=⟨_,rfl⟩
  rw [hqq] at h1 h2 h3
  have HQ:=ah (show q<=1048576 by rw [<- hqq];exact HTOT.out)
  clear hqq
  have k0:=h1.cell
  have hlD:D < W.heap.size:=(Array.getElem?_eq_some_iff.1 hK).1
  have hflat:XX.flatten.map (fun x=>x.1.2)=(ent d RR).flatten:=by rw [List.map_flatten,HXX.out,HC.out.2]
  have HO:=ah (show OwQs W W1.heap.size A' q c' (ent d RR).flatten from ⟨E,row_base h2 HBW.out,h3,by rw [<- hflat];exact h4⟩)
  have HR:=ah (HO.out.p.rd (N:=N) (fun x hx=>by
   obtain ⟨L,hL,hx⟩:=List.mem_flatten.1 hx
   exact (HE.out (chk_zero HC.out.1).1 L hL).2 x hx))
  have HKD:=ah hK
  have H6:=ah (cJ h6 h7)
  clear h1 h2 h3 h4 h5 h6 h7 hflat hK
  gi_wp2_with fail
  refine ⟨trivial,?_⟩
  refine (callsIn_wide.2 (qheight_any HR.out (fun p hp=>by
   obtain ⟨x,_,rfl⟩:=List.mem_map.1 hp
   exact pr_ne x) HQ.out hN h1N)).mono ?_
  rintro _ W9 ⟨v,kk,rfl,hv,hb9⟩
  have HV:=ah (show v=(ht (ent d RR).flatten:Int)/\kk=0 by rw [map_qval_pr] at hv;exact hv.out)
  have HK9:=ah ((hb9.block D hlD).trans HKD.out)
  have HB9:=ah (HB2.out.trans ((H6.out.1.trans (hb9.mono H6.out.1.size)).mono HB2.out.size))
  clear hv hb9 k0
  gi_wp2
  refine ⟨by simp,.inl ⟨_,_,rfl,run_takeDeferred HK9.out,?_⟩⟩
  refine ⟨.tuple #[.int .i64 v,.int .i64 kk],?_,⟨v,kk,rfl,ah (.inl ⟨HC.out.1,HV.out.1,HV.out.2⟩),?_⟩⟩
  ·simp [results,Tryz.f81,go_sem]
  ·exact HB9.out.trans (belowK_b (w:=w) nR _ D _ _ (by have h1:=HB2.out.size;omega) HK9.out rfl rfl)
end Go.Proofs.YtjnklbfhelbjgaaGreat
namespace Go.Proofs.YtjnklbfhelbjgaaGreat
open Go.RowKit Go.IntWalk
attribute [local go_sem ↓] Go.wp_at_zero Go.wp_at_succ
def CC (w:World)(g:Nat)(s:Bool)(A:Option Addr)(n c:Nat)(A':Option Addr)(n' c':Nat):Prop:=w.heap[g]?=some (.cells #[.bool s,.slice A n c,.slice A' n' c'] 194 (0,0))
section
variable {w w':World}{g B:Nat}{s:Bool}{A A':Option Addr}{n c n' c':Nat}
theorem CC.lt (h:CC w g s A n c A' n' c'):g < w.heap.size:=(Array.getElem?_eq_some_iff.1 h).1
theorem CC.c0 (h:CC w g s A n c A' n' c'):w.cell? ⟨g,0,none⟩=some (.bool s):=by rw [cell_of_row w g 0 _ _ _ h];rfl
theorem CC.c1 (h:CC w g s A n c A' n' c'):w.cell? ⟨g,1,none⟩=some (.slice A n c):=by rw [cell_of_row w g 1 _ _ _ h];rfl
theorem CC.c2 (h:CC w g s A n c A' n' c'):w.cell? ⟨g,2,none⟩=some (.slice A' n' c'):=by rw [cell_of_row w g 2 _ _ _ h];rfl
theorem CC.fz (h:CC w g s A n c A' n' c')(j:Nat):w.frozen? ⟨g,j,none⟩=false:=frozen_of_row w g j _ _ h
theorem CC.next (h:CC w g s A n c A' n' c')(hb:Below w.heap.size w w'):CC w' g s A n c A' n' c':=(hb.block g h.lt).trans h
theorem CC.new (w:World)(s:Bool)(A:Option Addr)(n c:Nat)(A':Option Addr)(n' c':Nat):CC (w.alloc (.cells #[.bool s,.slice A n c,.slice A' n' c'] 194)) w.heap.size s A n c A' n' c':=heap_alloc_new w _
theorem CC.store (h:CC w g s A n c A' n' c')(t:Bool)(D:Option Addr)(k m:Nat)(D':Option Addr)(k' m':Nat):CC (((w.setCell ⟨g,0,none⟩ (.bool t)).setCell ⟨g,1,none⟩ (.slice D k m)).setCell ⟨g,2,none⟩ (.slice D' k' m')) g t D k m D' k' m':=by
 unfold CC at *
 simp [World.setCell,Array.getElem?_modify,h]
theorem CC.far (h:CC w g s A n c A' n' c'){p:Addr}(hp:g ≠ p.block)(u:Value):CC (w.setCell p u) g s A n c A' n' c':=(Below.heap_setCell w p u g hp).trans h
theorem below_putC (hb:Below B w w')(hg:B<=g)(x y z:Value):Below B w (((w'.setCell ⟨g,0,none⟩ x).setCell ⟨g,1,none⟩ y).setCell ⟨g,2,none⟩ z) :=
 ((hb.setCell (p:=⟨g,0,none⟩) hg _).setCell (p:=⟨g,1,none⟩) hg _).setCell (p:=⟨g,2,none⟩) hg _
end
def RetCm (d:Int)(P:List Int)(w:World)(e:Ending)(w':World):Prop :=
 ∃ (s:Bool) (A:Option Addr) (n c:Nat) (y:Int) (A':Option Addr) (n' c':Nat) (M:List Int) (kk:Int),e=.returned (.tuple #[.agg #[.bool s,.slice A n c,.slice A' n' c'],.int .i64 kk])/\OwZ w' w.heap.size s A n c y/\OwZs w' w.heap.size A' n' c' M/\Hid (y=d/\M=P/\kk=0)/\Below w.heap.size w w'
theorem made_common {f N:Nat}{A:Option Addr}{n c:Nat}{L:List (Int × Int)}{w:World}{d:Int}{P:List Int}(h:RdQs w w.heap.size N A n c L)(hn:n<=1048576)(hN:N<=1000000000000)(hall:∀ p ∈ L,p.2 ≠ 0)(heg:∀ args w,(callFunc f args).run Tryz.prog w=.ok (.enter f args) w)
  (hdo:∀ (W:World) (A':Option Addr) (c':Nat) (b:Nat),Below w.heap.size w W->w.heap.size<=b->OwQs W b A' n c' (L.map qval)->Calls Tryz.prog f #[.slice A' n c'] W (RetCm d P W)) :
  Calls Tryz.prog 169 #[.func (.func f) #[] #[],.slice A n c] w (RetCm d P w):=by
 have HD:=ah hdo
 have HLEN:=ah h.len
 have hmk:=fun W:World=>make_qroom n (by omega) W
 obtain ⟨i0,hi,hz0,hz1,hz2⟩:=info_parts infoQ
 have HAL:=ah hall
 obtain ⟨W0,HW0⟩:∃ W,W=(w.alloc (.cells #[.bool false,.slice none 0 0,.slice none 0 0] 194)).alloc (.cells #[.bool false,.slice none 0 0,.slice none 0 0] 194):=⟨_,rfl⟩
 have hR0:CC W0 w.heap.size false none 0 0 none 0 0:=by rw [HW0];exact (CC.new w false none 0 0 none 0 0).next (bA)
 have hB0:Below w.heap.size w W0:=by rw [HW0];exact ((Below.refl w.heap.size w).alloc nR _).alloc (by simp) _
 have hs0:W0.heap.size=w.heap.size+1+1:=by rw [HW0];simp
 obtain ⟨W1,HW1⟩:∃ W,W=W0.alloc (.cells (madeCells #[.bool false,.slice none 0 0,.bool false,.slice none 0 0] (n*4)) 47):=⟨_,rfl⟩
 have hb1:Below W0.heap.size W0 W1:=by rw [HW1];exact bA
 have hO1:OwQs W1 W0.heap.size (some ⟨W0.heap.size,0,none⟩) 0 n []:=by rw [HW1];exact OwQs.room W0 n (by unfold maxLen;omega)
 have HRZ:=ah (show ∀ W:World,Below W0.heap.size W0 W->CC W w.heap.size false none 0 0 none 0 0 from fun W hb=>hR0.next hb)
 have HB0:=ah hB0
 have HS0:=ah hs0
 rw [hs0] at hO1
 rw [HW0] at HW1
 have HW1:=ah HW1
 clear hdo hall hR0 hB0 hs0 HW0
 go_enter Tryz.func169,Tryz.ntmps169
 go_wp2_with fail
 rw [<- HW1.out]
 clear HW1
 clear HW1
 have HLT:=ah (show w.heap.size+1 < W0.heap.size by rw [HS0.out];exact Nat.lt_succ_self _)
 rw [<- HS0.out] at hO1
 go_loopw [7,17] (fun ov iv wr=>∃ (j c':Nat) (A':Option Addr) (M:List Rat),ov=.slice A' j c'/\iv=.int .i64 j/\j<=n/\OwQs wr W0.heap.size A' j c' M/\Hid (M=(L.take j).map qval)/\Hid (∀ (i:Nat) (p:Int × Int),i < j->L[i]?=some p->p.2 ≠ 0)/\Below W0.heap.size W0 wr) (fun _ iv _=>n-(intOf iv).toNat)
 case atStart=>exact ⟨0,n,_,[],by rw [HS0.out],rfl,nZ,hO1,ah rfl,ah fun i p hi=>absurd hi (Nat.not_lt_zero _),hb1⟩
 case round =>
  clear hO1 hb1
  obtain ⟨j,c',A',M,rfl,rfl,hj,ho,hM,hne,hB⟩:=hrel
  by_cases hjn:j=n
  ·subst hjn
   have HBW:=tM HB0 hB
   have HO:=ah (show OwQs wr W0.heap.size A' j c' (L.map qval) by rw [<- List.take_of_length_le (l:=L) (by rw [HLEN.out];exact nR),<- hM.out];exact ho)
   have HR:=ah (HRZ.out _ hB)
   have HLW:=ah (show w.heap.size < wr.heap.size from Nat.lt_of_lt_of_le (Nat.lt_trans (Nat.lt_succ_self _) HLT.out) hB.size)
   clear ho hB hM hne
   go_wp2_with fail
   refine (HD.out wr A' c' _ HBW.out HB0.out.size HO.out).mono ?_
   rintro _ W5 ⟨s5,A5,n5,c5,y5,A6,n6,c6,M6,kk,rfl,ho5,ho6,hy,hb5⟩
   have hR5:=HR.out.next hb5
   have r0:=hR5.c0
   have r1:=hR5.c1
   have r2:=hR5.c2
   have f0:=hR5.fz 0
   have f1:=hR5.fz 1
   have f2:=hR5.fz 2
   have HR9:=ah (hR5.store s5 A5 n5 c5 A6 n6 c6)
   have HO9:=ah (cJ ((((ho5.far (p:=⟨w.heap.size,0,none⟩) HLW.out (.bool s5)).far (p:=⟨w.heap.size,1,none⟩) HLW.out (.slice A5 n5 c5)).far (p:=⟨w.heap.size,2,none⟩) HLW.out (.slice A6 n6 c6)).base (b':=w.heap.size) (Nat.le_of_lt HLW.out)) ((((ho6.far (p:=⟨w.heap.size,0,none⟩) HLW.out (.bool s5)).far (p:=⟨w.heap.size,1,none⟩) HLW.out (.slice A5 n5 c5)).far (p:=⟨w.heap.size,2,none⟩) HLW.out (.slice A6 n6 c6)).base (b':=w.heap.size) (Nat.le_of_lt HLW.out)))
   have HB9:=ah (below_putC (HBW.out.trans (hb5.mono HBW.out.size)) (Nat.le_refl w.heap.size) (.bool s5) (.slice A5 n5 c5) (.slice A6 n6 c6))
   clear ho5 ho6 hb5 hR5
   go_wp2_with fail
   generalize ((W5.setCell ⟨w.heap.size,0,none⟩ (.bool s5)).setCell ⟨w.heap.size,1,none⟩ (.slice A5 n5 c5)).setCell ⟨w.heap.size,2,none⟩ (.slice A6 n6 c6)=W9 at *
   have z0:=HR9.out.c0
   have z1:=HR9.out.c1
   have z2:=HR9.out.c2
   exact bodyPost_ret (by simp [results,Tryz.results169,go_sem,z0,z1,z2]) rfl ⟨s5,A5,n5,c5,y5,A6,n6,c6,M6,kk,rfl,HO9.out.1,HO9.out.2,hy,HB9.out⟩
  ·have hjl:j < n:=by omega
   clear hjn
   have hjli:(j:Int) < (n:Int):=by omega
   have hBW:=HB0.out.trans (hB.mono HB0.out.size)
   obtain ⟨ad,s1,A1,n1,c1,s2,A2,n2,c2,z1,d1,rfl,hbk,hx0,hx1,hx2,hx3,hr1,hr2,hn1,hn2,hp⟩:=qs_at h hjl
   obtain ⟨hy0,hy1,hy2,hy3⟩:=qs_cells hBW hbk hx0 hx1 hx2 hx3
   obtain ⟨W2,HW2⟩:∃ W,W=wr.alloc (.cells #[.bool s1,.slice A1 n1 c1,.bool s2,.slice A2 n2 c2] 47):=⟨_,rfl⟩
   have hb2:Below wr.heap.size wr W2:=by rw [HW2];exact bA
   have hB2:=hB.trans (hb2.mono hB.size)
   have hBW2:=hBW.trans (hb2.mono hBW.size)
   have HO:=ah (ho.next hb2)
   have HRD:=ah (cJ (hr1.next hBW2) (hr2.next hBW2))
   have HB2:=ah hB2
   have HBW2:=ah hBW2
   have HNN:=ah (cJ (nT hn1 hN) (nT hn2 hN))
   have HW2:=ah HW2
   clear ho hB hb2 hB2 hBW hBW2 hr1 hr2 hx0 hx1 hx2 hx3
   go_wp2_with fail
   rw [<- HW2.out]
   clear HW2 hy0 hy1 hy2 hy3
   clear HW2
   have HD1:=ah (show d1 ≠ 0 from HAL.out _ (gM hp.out))
   refine (qnorm_any HRD.out.1 HRD.out.2 HNN.out.1 HNN.out.2 HD1.out).mono ?_
   rintro _ W3 ⟨s3,A3,n3,c3,s4,A4,n4,c4,y,rfl,ho3,hy,hb3⟩
   have hB3:=HB2.out.trans (hb3.mono HB2.out.size)
   obtain ⟨W4,HW4⟩:∃ W,W=W3.alloc (.cells #[.bool s3,.slice A3 n3 c3,.bool s4,.slice A4 n4 c4] 47):=⟨_,rfl⟩
   have hb4:Below W3.heap.size W3 W4:=by rw [HW4];exact bA
   have hB4:=hB3.trans (hb4.mono hB3.size)
   obtain ⟨E,hE,hEl,hEn⟩:=(HO.out.next hb3).next hb4
   have HO4:=ah ((ho3.base HB2.out.size).next hb4)
   rw [HW4] at hE hB4 hEn
   rw [HW4] at HO4
   have HE:=ah hE
   have HEN:=ah (cJ hEl hEn)
   have HM2:=ah (show M ++ [y]=(L.take (j+1)).map qval by rw [hM.out,hy.out];exact mapq_snoc hp.out)
   have HNE2:=ah (show ∀ (i:Nat) (p:Int × Int),i < j+1->L[i]?=some p->p.2 ≠ 0 from fun i p hi hq=>by
    rcases Nat.lt_or_ge i j with h1 | h1
    ·exact hne.out i p h1 hq
    ·rw [show i=j by omega,hp.out] at hq
     injection hq with hq
     rw [<- hq]
     exact HD1.out)
   have HB4:=ah hB4
   clear hE hEl hEn hb3 ho3 hb4 hB3 hB4 hy HO hne hM
   clear HW4
   go_wp2_with (at_builtin;refine wpList_append_own _ rfl _ _ 72 rfl W0.heap.size 47 i0 (.agg #[.bool false,.slice none 0 0,.bool false,.slice none 0 0]) 4 64 Tryz.underlying72 hi hz0 hz1 hz2 rfl (by decide) _ _ _ rfl (HE.out.alloc _) ⟨W3.heap.size+1,0,none⟩ 1 1 [.bool s3,.slice A3 n3 c3,.bool s4,.slice A4 n4 c4] rfl rfl (by simpa using qcell_new (W3.alloc (.cells #[.bool s3,.slice A3 n3 c3,.bool s4,.slice A4 n4 c4] 47)) (.bool s3) (.slice A3 n3 c3) (.bool s4) (.slice A4 n4 c4) 47) (by simp [Value.oneCell']) (by unfold maxLen;omega) (by omega) (by have:=HB4.out.size;simp at this ⊢;omega) ?_;intro v' w1 hown' hgrow _)
   have hmore:=qs_more (e:=((s3,A3,n3,c3),(s4,A4,n4,c4))) (x:=y) HO4.out rfl (HE.out.alloc _) HEN.out.1 HEN.out.2 hown' hgrow
   have HB5:=ah ((HB4.out.alloc HB4.out.size (.cells #[.bool s3,.slice A3 n3 c3,.bool s4,.slice A4 n4 c4] 47)).grown hgrow (by have:=HB4.out.size;simp at this ⊢;omega) (own_block HE.out))
   obtain ⟨A5,c5,rfl,ho5⟩:=hmore
   clear hown' hgrow HE HEN HO4
   go_wp2
   go_roundw
   case rel=>exact ⟨j+1,c5,A5,M ++ [y],rfl,by go_num,by omega,ho5,HM2,HNE2,HB5.out⟩
   case measure=>simp [intOf];omega
theorem zcG1 {V W:World}(hb:Below (V.drew.alloc (.cells #[.bool false,.slice none 0 0] 25)).heap.size (V.drew.alloc (.cells #[.bool false,.slice none 0 0] 25)) W):ZC W V.heap.size false none 0 0:=(ZC.new V.drew false none 0 0).next hb
theorem zcG2 {V W:World}(hb:Below (V.alloc (.cells #[.bool false,.slice none 0 0] 25)).heap.size (V.alloc (.cells #[.bool false,.slice none 0 0] 25)) W):ZC W V.heap.size false none 0 0:=(ZC.new V false none 0 0).next hb
theorem below_put2 {B g:Nat}{w w':World}(hb:Below B w w')(hg:B<=g)(x y:Value):Below B w ((w'.setCell ⟨g,0,none⟩ x).setCell ⟨g,1,none⟩ y) :=
 (hb.setCell (p:=⟨g,0,none⟩) hg _).setCell (p:=⟨g,1,none⟩) hg _
theorem lcm_val (z z':Int):((z.natAbs:Int).tdiv (Int.gcd z z':Int))*(z'.natAbs:Int)=((Nat.lcm z.natAbs z'.natAbs:Nat):Int):=by
 have h:=Nat.gcd_dvd_left z.natAbs z'.natAbs
 rw [show (Int.gcd z z':Int)=((Nat.gcd z.natAbs z'.natAbs:Nat):Int) from rfl,show ((z.natAbs:Int).tdiv ((Nat.gcd z.natAbs z'.natAbs:Nat):Int))=((z.natAbs / Nat.gcd z.natAbs z'.natAbs:Nat):Int) from rfl,<- Int.natCast_mul]
 congr 1
 rw [Nat.lcm,Nat.div_mul_right_comm h]
theorem ilcm_any {s s':Bool}{A A':Option Addr}{n c n' c':Nat}{z z':Int}{w:World}(h:RdZ w w.heap.size s A n c z)(h':RdZ w w.heap.size s' A' n' c' z')(hn:n<=400000000000)(hn':n'<=400000000000)(hz:0 < z) :
  Calls Tryz.prog 210 #[.agg #[.bool s,.slice A n c],.agg #[.bool s',.slice A' n' c']] w (RetI ((Nat.lcm z.natAbs z'.natAbs:Nat):Int) w):=by
 obtain ⟨hX,hY,hR,hB⟩:=boxed2 w s A n c s' A' n' c'
 obtain ⟨W1,HW1⟩:∃ W,W=((w.alloc (.cells #[.bool s,.slice A n c] 25)).alloc (.cells #[.bool s',.slice A' n' c'] 25)).alloc (.cells #[.bool false,.slice none 0 0] 25):=⟨_,rfl⟩
 rw [<- HW1] at hX hY hR hB
 have HL:=ah (show Zz.zl z<=400000000000/\Zz.zl z'<=400000000000 from ⟨nT h.len hn,nT h'.len hn'⟩)
 have HZ:=ah hz
 have HCE:=ah (show ∀ W:World,Below W1.heap.size W1 W->(ZC W w.heap.size s A n c/\ZC W (w.heap.size+1) s' A' n' c'/\ZC W (w.heap.size+1+1) false none 0 0)/\RdZ W W.heap.size s A n c z/\RdZ W W.heap.size s' A' n' c' z' from fun W hb=>⟨⟨hX.next hb,hY.next hb,hR.next hb⟩,(h.next hB).next hb,(h'.next hB).next hb⟩)
 have HB:=ah hB
 have HS:=ah hR.lt
 have a0:=hX.c0
 have a1:=hX.c1
 have b0:=hY.c0
 have b1:=hY.c1
 rw [HW1] at a0 a1 b0 b1
 have HW1:=ah HW1
 clear hX hY hR hB h h' hz
 go_enter Tryz.func210,Tryz.ntmps210
 go_wp2_with fail
 rw [<- HW1.out]
 clear HW1 a0 a1 b0 b1
 clear HW1
 refine (igcd_any (HCE.out _ bR).2.1 (HCE.out _ bR).2.2 (by omega) (by omega)).mono ?_
 rintro _ W2 ⟨s2,A2,n2,c2,g2,rfl,ho2,hg2,hb2⟩
 obtain ⟨W3,HW3⟩:∃ W,W=W2.alloc (.cells #[.bool s2,.slice A2 n2 c2] 25):=⟨_,rfl⟩
 have hG:ZC W3 W2.heap.size s2 A2 n2 c2:=by rw [HW3];exact ZC.new W2 s2 A2 n2 c2
 have hb3:Below W2.heap.size W2 W3:=by rw [HW3];exact bA
 have HB3:=ah (hb2.trans (hb3.mono hb2.size))
 have HG3:=ah (cJ hG ((ho2.base (b':=W1.heap.size) nR).next hb3))
 have HGV:=ah (show g2=(Int.gcd z z':Int)/\g2 ≠ 0 from ⟨hg2.out,by
  rw [hg2.out]
  have:Int.gcd z z' ≠ 0:=fun e=>by have:=(Int.gcd_eq_zero_iff.1 e).1;have:=HZ.out;omega
  omega⟩)
 have HN2:=ah (show n2<=400000000000 by
  rw [ho2.len,HGV.out.1]
  have e1:=Zz.zl_gcd z z'
  have e2:=HL.out
  omega)
 have a0:=hG.c0
 have a1:=hG.c1
 rw [HW3] at a0 a1
 have HGN:=ah (show W1.heap.size<=W2.heap.size from hb2.size)
 have HW3:=ah HW3
 clear hG hb2 hb3 ho2 hg2
 go_wp2_with fail
 rw [<- HW3.out]
 clear HW3 a0 a1
 clear HW3
 generalize W2.heap.size=gg at *
 refine (sign_any HG3.out.2.rd (by have:=HN2.out;omega)).mono ?_
 rintro _ W4 ⟨k,rfl,hk,hb4⟩
 have hkb:(k == 0)=false:=by
  have e:=hk.out
  have e2:=mt Int.sign_eq_zero_iff_zero.1 HGV.out.2
  rw [<- e] at e2
  simpa using e2
 have HB4:=tM HB3 hb4
 have HG4:=ah (cJ (HG3.out.1.next hb4) (HG3.out.2.next hb4))
 clear hb4 hk HG3
 go_upto_region 4 with fail
 go_cut [6,7] from 15 to 21 (fun pv _ V=>∃ (gq:Nat) (s5:Bool) (A5:Option Addr) (n5 c5:Nat) (q:Int),pv=.pointer (some ⟨gq,0,none⟩)/\ZC V gq s5 A5 n5 c5/\OwZ V W1.heap.size s5 A5 n5 c5 q/\Hid (q=((z.natAbs:Int).tdiv (Int.gcd z z':Int))/\W4.heap.size<=gq)/\Below W4.heap.size W4 V)
 case first =>
  have HBD:=ah (Below.refl W4.heap.size W4).drew
  have HXX:=ah (show ∀ W:World,Below W4.heap.size W4 W->(W.cell? ⟨w.heap.size,0,none⟩=some (.bool s)/\W.cell? ⟨w.heap.size,1,none⟩=some (.slice A n c)/\W.cell? ⟨gg,0,none⟩=some (.bool s2)/\W.cell? ⟨gg,1,none⟩=some (.slice A2 n2 c2)) from fun W hb=>⟨((HCE.out _ HB4.out).1.1.next hb).c0,((HCE.out _ HB4.out).1.1.next hb).c1,(HG4.out.1.next hb).c0,(HG4.out.1.next hb).c1⟩)
  have HRZ:=ah (show ∀ W:World,Below W4.heap.size W4 W->RdZ W W.heap.size s A n c z/\OwZ W W1.heap.size s2 A2 n2 c2 g2 from fun W hb=>⟨(HCE.out _ HB4.out).2.1.next hb,HG4.out.2.next hb⟩)
  obtain ⟨x0,x1,x2,x3⟩:=HXX.out _ bR
  go_region_held3 (fun w'=>w'.cell? ⟨w.heap.size,0,none⟩=some (.bool s)/\w'.cell? ⟨w.heap.size,1,none⟩=some (.slice A n c)/\w'.cell? ⟨gg,0,none⟩=some (.bool s2)/\w'.cell? ⟨gg,1,none⟩=some (.slice A2 n2 c2))
   (first | exact HXX.out _ HB6.out | exact HXX.out _ HB5.out | exact HXX.out _ HBD.out | exact HXX.out _ (HBD.out.alloc HBD.out.size _) | exact HXX.out _ (HB5.out.alloc HB5.out.size _) | exact HXX.out _ (HB6.out.alloc HB6.out.size _) | exact HXX.out _ (below_put2 HB6.out (by first | exact nR | exact HB5.out.size | exact HB6.out.size) _ _))
   (first
    | (go_at_call 173;refine (abs_any (HRZ.out _ (by first | exact HBD.out | exact HBD.out.alloc HBD.out.size _)).1 (by omega)).mono ?_;rintro _ W5 ⟨t5,D5,m5,l5,y5,rfl,ho5,hy5,hb5⟩;have HB5:Hid (Below W4.heap.size W4 W5):=ah (by first | exact HBD.out.trans hb5 | exact (HBD.out.alloc HBD.out.size _).trans (hb5.mono (by simp)));(first | have HA5:Hid (ZC W5 W4.heap.size false none 0 0):=ah (zcG1 hb5) | skip);have HN5:=ah (show m5<=1000000000000 by { rw [ho5.len,hy5.out,Zz.zl_abs];have:=HL.out;omega }))
    | (go_at_call 138;refine (exact_any (by first | exact ho5.rd | exact (ho5.next (bA)).rd) (HRZ.out _ (by first | exact HB5.out | exact HB5.out.alloc HB5.out.size _)).2.rd HN5.out (by have:=HN2.out;omega) HGV.out.2).mono ?_;rintro _ W6 ⟨s5,A5,n5,c5,q,e6,rfl,ho6,hq,hb6⟩;have HB56:Hid (Below W5.heap.size W5 W6):=ah (by first | exact hb6 | exact ((Below.refl W5.heap.size W5).alloc nR _).trans (hb6.mono (by simp)));have HB6:=tM HB5 HB56.out;have HO6:Hid (OwZ W6 W1.heap.size s5 A5 n5 c5 q):=ah (by first | exact ho6.base (nT HB4.out.size HB5.out.size) | exact ho6.base (by have:=HB5.out.size;have:=HB4.out.size;simp;omega));(try have hA6:=HA5.out.next HB56.out);(first | have hA6:ZC W6 W5.heap.size false none 0 0:=zcG2 hb6 | skip);(try have r0:=hA6.c0);(try have r1:=hA6.c1);(try have f0:=hA6.fz 0);(try have f1:=hA6.fz 1)))
  all_goals
   have HV:=ah (show q=((z.natAbs:Int).tdiv (Int.gcd z z':Int)) by
    rw [<- HGV.out.1,<- hy5.out]
    rcases hq.out with ⟨_,f2,_⟩ | ⟨f1,_,_⟩
    ·exact f2
    ·exact absurd (Int.tmod_eq_zero_of_dvd (by rw [hy5.out,HGV.out.1];exact Int.dvd_natAbs.2 (Int.gcd_dvd_left z z'))) f1)
   go_wp2
   go_meet
   first
    | exact ⟨W5.heap.size,s5,A5,n5,c5,q,rfl,hA6.store s5 A5 n5 c5,HO6.out.keep (keep_set2 hA6 (.bool s5) (.slice A5 n5 c5)),ah ⟨HV.out,HB5.out.size⟩,below_put2 HB6.out HB5.out.size _ _⟩
    | exact ⟨W4.heap.size,s5,A5,n5,c5,q,rfl,hA6.store s5 A5 n5 c5,HO6.out.keep (keep_set2 hA6 (.bool s5) (.slice A5 n5 c5)),ah ⟨HV.out,nR⟩,below_put2 HB6.out nR _ _⟩
    | exact ⟨W6.heap.size,s5,A5,n5,c5,q,rfl,ZC.new W6 s5 A5 n5 c5,HO6.out.next (bA),ah ⟨HV.out,HB6.out.size⟩,HB6.out.alloc HB6.out.size _⟩
 case rest =>
  obtain ⟨gq,s5,A5,n5,c5,q,rfl,hQ,hoq,hq,hbq⟩:=hcut
  have HBQ:=tM HB4 hbq
  have HBD:=ah (Below.refl wc.heap.size wc).drew
  have HXX:=ah (show ∀ W:World,Below wc.heap.size wc W->(W.cell? ⟨w.heap.size+1,0,none⟩=some (.bool s')/\W.cell? ⟨w.heap.size+1,1,none⟩=some (.slice A' n' c')/\W.cell? ⟨gq,0,none⟩=some (.bool s5)/\W.cell? ⟨gq,1,none⟩=some (.slice A5 n5 c5)) from fun W hb=>⟨((HCE.out _ HBQ.out).1.2.1.next hb).c0,((HCE.out _ HBQ.out).1.2.1.next hb).c1,(hQ.next hb).c0,(hQ.next hb).c1⟩)
  have HRZ:=ah (show ∀ W:World,Below wc.heap.size wc W->RdZ W W.heap.size s' A' n' c' z'/\OwZ W W1.heap.size s5 A5 n5 c5 q/\ZC W (w.heap.size+1+1) false none 0 0 from fun W hb=>⟨(HCE.out _ HBQ.out).2.2.next hb,hoq.next hb,(HCE.out _ HBQ.out).1.2.2.next hb⟩)
  have HQN:=ah (show n5<=1000000000000 by
   rw [hoq.len,hq.out.1]
   have:=Zz.zl_tdiv (z.natAbs:Int) (Int.gcd z z':Int)
   rw [Zz.zl_abs] at this
   have:=HL.out
   omega)
  have HSZ:=ah (show w.heap.size+1+1 < gq from Nat.lt_of_lt_of_le HS.out (nT HB4.out.size hq.out.2))
  have HCP:=ah (show ∀ (W:World) (x y:Value),Below wc.heap.size wc W->(((W.setCell ⟨w.heap.size+1+1,0,none⟩ x).setCell ⟨w.heap.size+1+1,1,none⟩ y).cell? ⟨w.heap.size+1,0,none⟩=some (.bool s')/\((W.setCell ⟨w.heap.size+1+1,0,none⟩ x).setCell ⟨w.heap.size+1+1,1,none⟩ y).cell? ⟨w.heap.size+1,1,none⟩=some (.slice A' n' c')/\((W.setCell ⟨w.heap.size+1+1,0,none⟩ x).setCell ⟨w.heap.size+1+1,1,none⟩ y).cell? ⟨gq,0,none⟩=some (.bool s5)/\((W.setCell ⟨w.heap.size+1+1,0,none⟩ x).setCell ⟨w.heap.size+1+1,1,none⟩ y).cell? ⟨gq,1,none⟩=some (.slice A5 n5 c5)) from fun W x y hb=>by
   have h1:=(((HCE.out _ HBQ.out).1.2.1.next hb).far (p:=⟨w.heap.size+1+1,0,none⟩) (by simp) x).far (p:=⟨w.heap.size+1+1,1,none⟩) (by simp) y
   have h2:=((hQ.next hb).far (p:=⟨w.heap.size+1+1,0,none⟩) (by have:=HSZ.out;simp;omega) x).far (p:=⟨w.heap.size+1+1,1,none⟩) (by have:=HSZ.out;simp;omega) y
   exact ⟨h1.c0,h1.c1,h2.c0,h2.c1⟩)
  obtain ⟨x0,x1,x2,x3⟩:=HXX.out _ bR
  clear hQ hoq hbq
  go_wp2_with fail
  go_region_held3 (fun w'=>w'.cell? ⟨w.heap.size+1,0,none⟩=some (.bool s')/\w'.cell? ⟨w.heap.size+1,1,none⟩=some (.slice A' n' c')/\w'.cell? ⟨gq,0,none⟩=some (.bool s5)/\w'.cell? ⟨gq,1,none⟩=some (.slice A5 n5 c5))
   (first | exact HXX.out _ HB6.out | exact HXX.out _ HB5.out | exact HXX.out _ HBD.out | exact HCP.out _ _ _ HB6.out)
   (first
    | (go_at_call 173;refine (abs_any (HRZ.out _ HBD.out).1 (by omega)).mono ?_;rintro _ W5 ⟨t5,D5,m5,l5,y5,rfl,ho5,hy5,hb5⟩;have HB5:=ah (HBD.out.trans hb5);have HN5:=ah (show m5<=1000000000000 by { rw [ho5.len,hy5.out,Zz.zl_abs];have:=HL.out;omega }))
    | (go_at_call 146;refine (imul_any (HRZ.out _ HB5.out).2.1.rd ho5.rd (by have:=HQN.out;omega) (by have:=HN5.out;omega)).mono ?_;rintro _ W6 ⟨s6,A6,n6,c6,y6,rfl,ho6,hy6,hb6⟩;have HB6:=tM HB5 hb6;have hR6:=(HRZ.out _ HB6.out).2.2;have r0:=hR6.c0;have r1:=hR6.c1;have f0:=hR6.fz 0;have f1:=hR6.fz 1))
  have hR6':=(HRZ.out _ HB6.out).2.2
  have hp:=put_int hR6' (HB.out.trans ((HBQ.out.trans (HB6.out.mono HBQ.out.size)).mono HB.out.size)) (show w.heap.size<=w.heap.size+1+1 by omega) (ho6.base (b':=W1.heap.size) (nT HBQ.out.size HB5.out.size)) HS.out
  have HV:=ah (show y6=((Nat.lcm z.natAbs z'.natAbs:Nat):Int) by rw [hy6.out,hq.out.1,hy5.out];exact lcm_val z z')
  clear x0 x1 x2 x3 r0 r1 f0 f1 hR6 hR6' ho5 ho6 hb5 hb6
  generalize (W6.setCell ⟨w.heap.size+1+1,0,none⟩ (.bool s6)).setCell ⟨w.heap.size+1+1,1,none⟩ (.slice A6 n6 c6)=W9 at *
  obtain ⟨hZ9,ho9,hB9⟩:=hp
  have z0:=hZ9.c0
  have z1:=hZ9.c1
  go_wp2
  exact bodyPost_ret (by simp [results,Tryz.results210,go_sem,z0,z1]) rfl ⟨s6,A6,n6,c6,y6,rfl,ho9.base (by have:=HS.out;omega),HV,hB9⟩
theorem folded_lcm {N M b:Nat}{s0:Bool}{A0:Option Addr}{n0 c0:Nat}{A:Option Addr}{n c:Nat}{L:List Int}{w:World}(h:RdZs w w.heap.size N A n c L)(h0:OwZ w b s0 A0 n0 c0 1)(hb:b<=w.heap.size)(hp:∀ x ∈ L,0 < x)(hN:N<=400000000000)(hM:M<=400000000000)(hS:∀ j,Zz.zl ((L.take j).foldl (fun (g x:Int)=>((Nat.lcm g.natAbs x.natAbs:Nat):Int)) 1)<=M) :
  Calls Tryz.prog 190 #[.agg #[.bool s0,.slice A0 n0 c0],.slice A n c,.func (.func 210) #[] #[]] w fun e w'=>∃ (s:Bool) (A:Option Addr) (n c:Nat) (y:Int),e=.returned (.agg #[.bool s,.slice A n c])/\OwZ w' b s A n c y/\Hid (y=L.foldl (fun (g x:Int)=>((Nat.lcm g.natAbs x.natAbs:Nat):Int)) 1/\0 < y)/\Below w.heap.size w w':=by
 have hEN:=enters_of Tryz.func210 (by kernel_rfl) rfl
 have HLEN:=ah h.len
 have HP:=ah hp
 have HSZ:=ah hS
 clear hp hS
 have hn48:n<=9223372036854775807:=by
  have h1:=h.mx
  have h2:=h.le
  unfold maxLen at h1
  omega
 obtain ⟨hZ,hR,hB⟩:=boxed1 w s0 A0 n0 c0
 have h01:=h0.next hB
 go_enter Tryz.func190,Tryz.ntmps190
 go_wp2_with fail
 generalize (w.alloc (.cells #[.bool s0,.slice A0 n0 c0] 25)).alloc (.cells #[.bool false,.slice none 0 0] 25)=W1 at *
 have HS1:=ah hR.lt
 have HBb:=ah hb
 go_loopw [11] (fun iv wr=>∃ (j:Nat) (s:Bool) (A':Option Addr) (n' c':Nat) (y:Int),iv=.int .i64 j/\j<=n/\ZC wr w.heap.size s A' n' c'/\ZC wr (w.heap.size+1) false none 0 0/\Hid (W1.heap.size<=wr.heap.size)/\OwZ wr b s A' n' c' y/\Hid (y=(L.take j).foldl (fun (g x:Int)=>((Nat.lcm g.natAbs x.natAbs:Nat):Int)) 1/\0 < y)/\Below w.heap.size w wr) (fun iv _=>n-(intOf iv).toNat)
 case atStart=>exact ⟨0,s0,A0,n0,c0,1,rfl,nZ,hZ,hR,ah nR,h01,ah ⟨rfl,by decide⟩,hB⟩
 case round =>
  clear hZ hR hB h01 h0 hb
  obtain ⟨j,s,A',n',c',y,rfl,hj,hZ,hR,HB1,ho,hy,hB⟩:=hrel
  by_cases hjn:j=n
  ·subst hjn
   have hc0:=hZ.c0
   have hc1:=hZ.c1
   have hr0:=hR.c0
   have hr1:=hR.c1
   have hf0:=hR.fz 0
   have hf1:=hR.fz 1
   have HZ5:=ah (hR.store s A' n' c')
   have HO5:=ah (ho.keep (keep_set2 hR (.bool s) (.slice A' n' c')))
   have HB5:=ah (below_put2 hB (Nat.le_succ w.heap.size) (.bool s) (.slice A' n' c'))
   go_wp2
   generalize (wr.setCell ⟨w.heap.size+1,0,none⟩ (.bool s)).setCell ⟨w.heap.size+1,1,none⟩ (.slice A' n' c')=W5 at *
   exact bodyPost_ret (by simp [results,Tryz.results190,go_sem,HZ5.out.c0,HZ5.out.c1]) rfl ⟨s,A',n',c',y,rfl,HO5.out,ah (by rw [hy.out.1,List.take_of_length_le (by rw [HLEN.out];exact nR)];rw [hy.out.1,List.take_of_length_le (by rw [HLEN.out];exact nR)] at hy;exact ⟨rfl,by have:=hy.out.2;exact this⟩),HB5.out⟩
  ·have hjl:j < n:=by omega
   clear hjn
   obtain ⟨x,hx⟩:=zs_get (L:=L) (j:=j) (by rw [HLEN.out];exact hjl)
   obtain ⟨ad,s2,A2,n2,c2,rfl,hbk,hx0,hx1,hr,hn2⟩:=h.at_ j x hx
   have hx0':=(hB.cell (p:=ad.add (j*2)) (by rw [add_blk];exact hbk)).trans hx0
   have hx1':=(hB.cell (p:=⟨(ad.add (j*2)).block,(ad.add (j*2)).off+1,none⟩) (by show (ad.add (j*2)).block < _;rw [add_blk];exact hbk)).trans hx1
   have hjl':(j:Int) < (n:Int):=by omega
   obtain ⟨W2,HW2⟩:∃ W,W=wr.alloc (.cells #[.bool s2,.slice A2 n2 c2] 25):=⟨_,rfl⟩
   have hX:ZC W2 wr.heap.size s2 A2 n2 c2:=by rw [HW2];exact ZC.new wr s2 A2 n2 c2
   have hb2:Below wr.heap.size wr W2:=by rw [HW2];exact (Below.refl wr.heap.size wr).alloc nR _
   have hZ2:=hZ.next hb2
   have hc0:=hZ2.c0
   have hc1:=hZ2.c1
   have hd0:=hX.c0
   have hd1:=hX.c1
   rw [HW2] at hc0 hc1 hd0 hd1
   have HW2:=ah HW2
   have HLY:=ah (show n'<=400000000000 by rw [ho.len,hy.out.1];exact nT (HSZ.out j) hM)
   go_wp2_with fail
   clear hc0 hc1 hd0 hd1
   rw [<- HW2.out]
   clear HW2
   have hR2:=hR.next hb2
   have hB2:=hB.trans (hb2.mono hB.size)
   have hr2:=(hr.next hB2)
   have ho2:=ho.next hb2
   refine (ilcm_any ho2.rd hr2 HLY.out (by omega) hy.out.2).mono ?_
   rintro _ W3 ⟨s3,A3,m3,c3,z3,rfl,ho3,hz3,hb3⟩
   have hZ3:=hZ2.next hb3
   have hR3:=hR2.next hb3
   have hB3:=hB2.trans (hb3.mono hB2.size)
   have hc0:=hZ3.c0
   have hc1:=hZ3.c1
   have hf0:=hZ3.fz 0
   have hf1:=hZ3.fz 1
   have HS2:=ah (show w.heap.size < W2.heap.size from hZ2.lt)
   have HFO:=ah (show z3=(L.take (j+1)).foldl (fun (g x:Int)=>((Nat.lcm g.natAbs x.natAbs:Nat):Int)) 1/\0 < z3 from ⟨by rw [foldl_take hx,hz3.out,hy.out.1],by
    rw [hz3.out]
    have h1:=hy.out.2
    have h2:=HP.out x (gM hx)
    have:=Nat.lcm_pos (m:=y.natAbs) (n:=x.natAbs) (by omega) (by omega)
    omega⟩)
   have HB12:=ah (show W1.heap.size<=W2.heap.size from nT HB1.out hb2.size)
   have HB23:=ah hb3.size
   have HBW:=ah (show b<=W2.heap.size from nT HBb.out hB2.size)
   clear hx hx0 hx1 hx0' hx1' hr hr2 hZ hZ2 hX hR hR2 hb2 hb3 ho ho2 hy hz3
   go_wp2
   have HZ5:=ah (hZ3.store s3 A3 m3 c3)
   have HO5:=ah ((ho3.base (b':=b) HBW.out).keep (keep_set2 hZ3 (.bool s3) (.slice A3 m3 c3)))
   have HBF:=ah (below_put2 hB3 (Nat.le_refl w.heap.size) (.bool s3) (.slice A3 m3 c3))
   have HS5:=ah (show W2.heap.size<=((W3.setCell ⟨w.heap.size,0,none⟩ (.bool s3)).setCell ⟨w.heap.size,1,none⟩ (.slice A3 m3 c3)).heap.size by simpa using HB23.out)
   have hR5:=(hR3.far (p:=⟨w.heap.size,0,none⟩) (by simp) (.bool s3)).far (p:=⟨w.heap.size,1,none⟩) (by simp) (.slice A3 m3 c3)
   generalize (W3.setCell ⟨w.heap.size,0,none⟩ (.bool s3)).setCell ⟨w.heap.size,1,none⟩ (.slice A3 m3 c3)=W5 at *
   have HB15:W1.heap.size<=W5.heap.size:=nT HB12.out HS5.out
   go_roundw
   case rel=>exact ⟨j+1,s3,A3,m3,c3,z3,by go_num,by omega,HZ5.out,hR5,ah HB15,HO5.out,HFO,HBF.out⟩
   case measure=>simp [intOf];omega
theorem lcml_any {N M:Nat}{A:Option Addr}{n c:Nat}{L:List Int}{w:World}(h:RdZs w w.heap.size N A n c L)(hp:∀ x ∈ L,0 < x)(hN:N<=400000000000)(hM:M<=400000000000)(hS:∀ j,Zz.zl ((L.take j).foldl (fun (g x:Int)=>((Nat.lcm g.natAbs x.natAbs:Nat):Int)) 1)<=M) :
  Calls Tryz.prog 171 #[.slice A n c] w (RetI (L.foldl (fun (g x:Int)=>((Nat.lcm g.natAbs x.natAbs:Nat):Int)) 1) w):=by
 obtain ⟨W1,HW1⟩:∃ W,W=w.alloc (.cells #[.bool false,.slice none 0 0] 25):=⟨_,rfl⟩
 have hR:ZC W1 w.heap.size false none 0 0:=by rw [HW1];exact ZC.new w false none 0 0
 have hB:Below w.heap.size w W1:=by rw [HW1];exact (Below.refl w.heap.size w).alloc nR _
 have HW1:=ah HW1
 have h1:=h.next hB
 have HS1:=ah hR.lt
 go_enter Tryz.func171,Tryz.ntmps171
 go_wp2_with fail
 rw [<- HW1.out]
 clear HW1
 clear HW1
 refine (of_any 1 (by decide) (by decide) W1).mono ?_
 rintro _ W2 ⟨s2,A2,n2,c2,y2,rfl,ho2,hy2,hb2⟩
 obtain rfl:y2=1:=hy2.out
 go_wp2_with fail
 refine (folded_lcm (b:=W1.heap.size) (M:=M) (h1.next hb2) ho2 hb2.size hp hN hM hS).mono ?_
 rintro _ W3 ⟨s3,A3,m3,c3,z3,rfl,ho3,hz3,hb3⟩
 have hb13:=hb2.trans (hb3.mono hb2.size)
 have hR3:=hR.next hb13
 have hB3:=hB.trans (hb13.mono hB.size)
 have hc0:=hR3.c0
 have hc1:=hR3.c1
 have hf0:=hR3.fz 0
 have hf1:=hR3.fz 1
 clear hb3 hb2 hb13 hR h1 h
 go_wp2
 have hp:=put_int hR3 hB3 nR ho3 HS1.out
 generalize (W3.setCell ⟨w.heap.size,0,none⟩ (.bool s3)).setCell ⟨w.heap.size,1,none⟩ (.slice A3 m3 c3)=W5 at hp ⊢
 obtain ⟨hZ5,ho5,hB5⟩:=hp
 exact bodyPost_ret (by simp [results,Tryz.results171,go_sem,hZ5.c0,hZ5.c1]) rfl ⟨_,_,_,_,_,rfl,ho5.base (Nat.le_of_lt HS1.out),ah hz3.out.1,hB5⟩
def denF (g:Int)(L:List Rat):Int:=L.foldl (fun (g:Int) x=>((Nat.lcm g.natAbs x.den:Nat):Int)) g
abbrev denL (L:List Rat):Int:=denF 1 L
theorem denF_take {L:List Rat}{j:Nat}{x:Rat}(h:L[j]?=some x)(g:Int):denF g (L.take (j+1))=((Nat.lcm (denF g (L.take j)).natAbs x.den:Nat):Int):=by
 unfold denF
 rw [List.take_add_one,h,Option.toList_some,List.foldl_append]
 rfl
theorem denF_pos:∀ (L:List Rat) (g:Int),0 < g->0 < denF g L
 | [],_,h=>h
 | x :: L, g, h => by
   refine denF_pos L _ ?_
   have:=Nat.lcm_pos (m:=g.natAbs) (n:=x.den) (by omega) x.den_pos
   show 0 < ((Nat.lcm g.natAbs x.den:Nat):Int)
   omega
theorem denF_dvd:∀ (L:List Rat) (g:Int),g ∣ denF g L
 | [],_=>Int.dvd_refl _
 | x :: L, g => by
   refine Int.dvd_trans ?_ (denF_dvd L _)
   exact Int.natAbs_dvd.1 (Int.natCast_dvd_natCast.2 (Nat.dvd_lcm_left _ _))
theorem den_dvd:∀ (L:List Rat) (g:Int) (x:Rat),x ∈ L->(x.den:Int) ∣ denF g L
 | y :: L, g, x, h => by
   rcases List.mem_cons.1 h with rfl | h
   ·exact Int.dvd_trans (Int.natCast_dvd_natCast.2 (Nat.dvd_lcm_right _ _)) (denF_dvd L _)
   ·exact den_dvd L _ x h
def numL (L:List Rat):List Int:=L.map fun x=>x.num*(denL L).tdiv x.den
theorem two_lcm {y:Int}(_:0 < y)(d:Nat):[y,(d:Int)].foldl (fun (g x:Int)=>((Nat.lcm g.natAbs x.natAbs:Nat):Int)) 1=((Nat.lcm y.natAbs d:Nat):Int):=by
 simp [Nat.lcm_one_left]
theorem cc_grown {w w1:World}{b:Nat}{A:Option Addr}{n c:Nat}{xs:List Value}{g:Nat}{s:Bool}{A1 A2:Option Addr}{n1 c1 n2 c2:Nat}(hE:w.ownsRow b 25 2 (.slice A n c) n xs)(hg:w.grownBy w1 (Value.slice A n c).ownBlock)(h:CC w g s A1 n1 c1 A2 n2 c2):CC w1 g s A1 n1 c1 A2 n2 c2:=by
 unfold CC at *
 rw [<- h]
 refine hg.block g (Array.getElem?_eq_some_iff.1 h).1 ?_
 rcases hE.2 with ⟨h1,_⟩ | ⟨g2,cap,cur,h1,h2,h3,_⟩
 ·rw [h1]
  intro e0
  cases e0
 ·rw [h1]
  intro e0
  cases e0
  rw [h] at h3
  injection h3 with h3
  injection h3 with _ h3
  exact absurd h3 (by decide)
theorem keepT_grownZ {w w1:World}{b:Nat}{A:Option Addr}{n c:Nat}{xs:List Value}(hE:w.ownsRow b 25 2 (.slice A n c) n xs)(hg:w.grownBy w1 (Value.slice A n c).ownBlock):KeepT w w1:=fun i cs f hi=>by
 rw [<- hi]
 refine hg.block i (Array.getElem?_eq_some_iff.1 hi).1 ?_
 rcases hE.2 with ⟨h1,_⟩ | ⟨g,cap,cur,h1,h2,h3,_⟩
 ·rw [h1]
  intro e0
  cases e0
 ·rw [h1]
  intro e0
  cases e0
  rw [hi] at h3
  injection h3 with h3
  injection h3 with _ h3
  exact absurd h3 (by decide)
theorem keep_setC {w:World}{g j:Nat}{s:Bool}{A A':Option Addr}{n c n' c':Nat}(h:CC w g s A n c A' n' c')(x:Value):KeepT w (w.setCell ⟨g,j,none⟩ x):=fun i cs f e=>by
 have hne:i ≠ g:=by
  rintro rfl
  unfold CC at h
  rw [h] at e
  simp at e
 rw [Below.heap_setCell _ (⟨g,j,none⟩:Addr) _ i hne]
 exact e
theorem keep_setC2 {w:World}{g:Nat}{s:Bool}{A A':Option Addr}{n c n' c':Nat}(h:CC w g s A n c A' n' c')(x y:Value):KeepT w ((w.setCell ⟨g,0,none⟩ x).setCell ⟨g,1,none⟩ y):=fun i cs f e=>by
 have hne:i ≠ g:=by
  rintro rfl
  unfold CC at h
  rw [h] at e
  simp at e
 rw [Below.heap_setCell _ (⟨g,1,none⟩:Addr) _ i hne,Below.heap_setCell _ (⟨g,0,none⟩:Addr) _ i hne]
 exact e
theorem ents_keep {w w':World}{b:Nat}{E:List Ent}{L:List Int}(h:Ents w b E L)(hk:KeepT w w'):Ents w' b E L:=⟨h.1,fun j e z he hz=>(h.2 j e z he hz).keep hk⟩
theorem zs_setC {w:World}{g j b:Nat}{s:Bool}{A A' A1:Option Addr}{n c n' c' n1 c1:Nat}{L:List Int}(hz:OwZs w b A1 n1 c1 L)(h:CC w g s A n c A' n' c')(x:Value):OwZs (w.setCell ⟨g,j,none⟩ x) b A1 n1 c1 L:=by
 obtain ⟨E,hr,hE,hel⟩:=hz
 refine ⟨E,⟨hr.1,?_⟩,hE,ents_keep hel (keep_setC h x)⟩
 rcases hr.2 with h0 | ⟨g2,cap,cur,h1,h2,h3,h4⟩
 ·exact .inl h0
 ·have hne:g2 ≠ g:=by
   rintro rfl
   unfold CC at h
   rw [h] at h3
   simp at h3
  exact .inr ⟨g2,cap,cur,h1,h2,(Below.heap_setCell _ (⟨g,j,none⟩:Addr) _ g2 hne).trans h3,h4⟩
theorem CC.store2 {w:World}{g:Nat}{s:Bool}{A A':Option Addr}{n c n' c':Nat}(h:CC w g s A n c A' n' c')(t:Bool)(D:Option Addr)(k m:Nat):CC ((w.setCell ⟨g,0,none⟩ (.bool t)).setCell ⟨g,1,none⟩ (.slice D k m)) g t D k m A' n' c':=by
 unfold CC at *
 simp [World.setCell,Array.getElem?_modify,h]
theorem CC.store1 {w:World}{g:Nat}{s:Bool}{A A':Option Addr}{n c n' c':Nat}(h:CC w g s A n c A' n' c')(D:Option Addr)(k m:Nat):CC (w.setCell ⟨g,2,none⟩ (.slice D k m)) g s A n c D k m:=by
 unfold CC at *
 simp [World.setCell,Array.getElem?_modify,h]
theorem common_in {N M b:Nat}{A:Option Addr}{n c:Nat}{L:List Rat}{w:World}(h:OwQs w b A n c L)(hz:∀ x ∈ L,Qs N x)(hS:∀ j,Zz.zl (denF 1 (L.take j))<=M)(hn:n<=1048576)(hN:N<=200000000000)(hM:M<=200000000000)(h1N:1<=N) :
  Calls Tryz.prog 170 #[.slice A n c] w (RetCm (denL L) (numL L) w):=by
 have HLEN:=ah h.len
 have HRD:=ah (h.p.rd hz)
 have HSZ:=ah hS
 have HQ:=ah hz
 obtain ⟨i0,hi,hz0,hz1,hz2⟩:=info_parts infoZ
 obtain ⟨W1,HW1⟩:∃ W,W=w.alloc (.cells #[.bool false,.slice none 0 0,.slice none 0 0] 194):=⟨_,rfl⟩
 have hR:CC W1 w.heap.size false none 0 0 none 0 0:=by rw [HW1];exact CC.new w false none 0 0 none 0 0
 have hB:Below w.heap.size w W1:=by rw [HW1];exact bA
 have HW1:=ah HW1
 clear h hz hS
 go_enter Tryz.func170,Tryz.ntmps170
 go_wp2_with fail
 rw [<- HW1.out]
 clear HW1
 clear HW1
 refine (of_any 1 (by decide) (by decide) W1).mono ?_
 rintro _ W2 ⟨s2,A2,n2,c2,y2,rfl,ho2,hy2,hb2⟩
 obtain rfl:y2=1:=hy2.out
 obtain ⟨W3,HW3⟩:∃ W,W=W2.alloc (.cells #[.bool s2,.slice A2 n2 c2,.slice none 0 0] 194):=⟨_,rfl⟩
 have hb3:Below W2.heap.size W2 W3:=by rw [HW3];exact bA
 have hb13:=hb2.trans (hb3.mono hb2.size)
 have hC:CC W3 W2.heap.size s2 A2 n2 c2 none 0 0:=by rw [HW3];exact CC.new W2 s2 A2 n2 c2 none 0 0
 have hR3:=hR.next hb13
 have hB3:=hB.trans (hb13.mono hB.size)
 have ho3:=ho2.next hb3
 have HGR:=ah (show w.heap.size < W1.heap.size/\W1.heap.size<=W2.heap.size from ⟨hR.lt,hb2.size⟩)
 have HG3:=ah (show W2.heap.size < W3.heap.size from hC.lt)
 have HW3:=ah HW3
 clear hR hB hb2 hb3 hb13 ho2 hy2
 obtain ⟨gc,hgc⟩:∃ g,g=W2.heap.size:=⟨_,rfl⟩
 go_wp2_with fail
 rw [<- HW3.out]
 clear HW3
 clear HW3
 rw [<- hgc] at hC HG3 HGR ⊢
 clear hgc
 go_loopw [15] (fun iv wr=>∃ (j:Nat) (s:Bool) (A':Option Addr) (n' c':Nat) (y:Int),iv=.int .i64 j/\j<=n/\CC wr gc s A' n' c' none 0 0/\CC wr w.heap.size false none 0 0 none 0 0/\OwZ wr W1.heap.size s A' n' c' y/\Hid (y=denF 1 (L.take j)/\W3.heap.size<=wr.heap.size)/\Below w.heap.size w wr) (fun iv _=>n-(intOf iv).toNat)
 case atStart=>exact ⟨0,s2,A2,n2,c2,1,rfl,nZ,hC,hR3,ho3,ah ⟨rfl,nR⟩,hB3⟩
 case round =>
  clear hC hR3 ho3 hB3
  obtain ⟨j,s,A',n',c',y,rfl,hj,hC,hR,ho,hy,hB⟩:=hrel
  by_cases hjn:j=n
  ·have HDV:=ah (show y=denL L by rw [hy.out.1,List.take_of_length_le (by rw [HLEN.out];omega)])
   have HDN:=ah (show n'<=M by rw [ho.len,hy.out.1];exact HSZ.out j)
   have HSY:=ah (show W3.heap.size<=wr.heap.size from hy.out.2)
   have HDP:=ah (show 0 < y by rw [HDV.out];exact denF_pos L 1 (by decide))
   subst hjn
   clear hy
   go_wp2_with fail
   go_loopw [29] (fun iv we=>∃ (i:Nat) (A5:Option Addr) (c5:Nat) (M5:List Int),iv=.int .i64 i/\i<=j/\CC we gc s A' n' c' A5 i c5/\CC we w.heap.size false none 0 0 none 0 0/\OwZ we W1.heap.size s A' n' c' y/\OwZs we W1.heap.size A5 i c5 M5/\Hid (M5=(L.take i).map fun x=>x.num*y.tdiv x.den)/\Hid (W3.heap.size<=we.heap.size)/\Below w.heap.size w we) (fun iv _=>j-(intOf iv).toNat)
   case atStart=>exact ⟨0,none,0,[],rfl,nZ,hC,hR,ho,OwZs.nil _ _,ah rfl,ah HSY.out,hB⟩
   case round =>
    clear hC hR ho hB
    obtain ⟨i,A5,c5,M5,rfl,hi5,hC,hR,ho,hoz,hM5,HSW,hB⟩:=hrel
    by_cases hij:i=j
    ·subst hij
     have HV:=ah (show M5=numL L by rw [hM5.out,List.take_of_length_le (by rw [HLEN.out];exact nR),HDV.out];rfl)
     have r0:=hR.c0
     have r1:=hR.c1
     have r2:=hR.c2
     have f0:=hR.fz 0
     have f1:=hR.fz 1
     have f2:=hR.fz 2
     have a0:=hC.c0
     have a1:=hC.c1
     have a2:=hC.c2
     have HR9:=ah (hR.store s A' n' c' A5 i c5)
     have HO9:=ah (cJ ((((ho.far (p:=⟨w.heap.size,0,none⟩) HGR.out.1 (.bool s)).far (p:=⟨w.heap.size,1,none⟩) HGR.out.1 (.slice A' n' c')).far (p:=⟨w.heap.size,2,none⟩) HGR.out.1 (.slice A5 i c5)).base (b':=w.heap.size) (Nat.le_of_lt HGR.out.1)) ((((hoz.far (p:=⟨w.heap.size,0,none⟩) HGR.out.1 (.bool s)).far (p:=⟨w.heap.size,1,none⟩) HGR.out.1 (.slice A' n' c')).far (p:=⟨w.heap.size,2,none⟩) HGR.out.1 (.slice A5 i c5)).base (b':=w.heap.size) (Nat.le_of_lt HGR.out.1)))
     have HB9:=ah (below_putC hB (Nat.le_refl w.heap.size) (.bool s) (.slice A' n' c') (.slice A5 i c5))
     clear hC hR ho hoz hB
     go_wp2_with fail
     generalize ((wr.setCell ⟨w.heap.size,0,none⟩ (.bool s)).setCell ⟨w.heap.size,1,none⟩ (.slice A' n' c')).setCell ⟨w.heap.size,2,none⟩ (.slice A5 i c5)=W9 at *
     have z0:=HR9.out.c0
     have z1:=HR9.out.c1
     have z2:=HR9.out.c2
     exact bodyPost_ret (by simp [results,Tryz.results170,go_sem,z0,z1,z2]) rfl ⟨s,A',n',c',y,A5,i,c5,M5,0,rfl,HO9.out.1,HO9.out.2,ah ⟨HDV.out,HV.out,rfl⟩,HB9.out⟩
    ·have hil:i < j:=by omega
     clear hij
     have hili:(i:Int) < (j:Int):=by omega
     obtain ⟨ad,s1,A1,n1,c1,s4,A4,n4,c4,x,hA,hbk,hx0,hx1,hx2,hx3,hr1,hr2,hn1,hn2,hp⟩:=qp_at (HRD.out.next hB) hil
     subst hA
     obtain ⟨W4,HW4⟩:∃ W,W=wr.alloc (.cells #[.bool s1,.slice A1 n1 c1,.bool s4,.slice A4 n4 c4] 47):=⟨_,rfl⟩
     have hb4:Below wr.heap.size wr W4:=by rw [HW4];exact bA
     have hX4:QC W4 wr.heap.size s1 A1 n1 c1 s4 A4 n4 c4:=by rw [HW4];exact QC.new wr s1 A1 n1 c1 s4 A4 n4 c4
     have HC4:=ah (hC.next hb4)
     have b0:=HC4.out.c0
     have b1:=HC4.out.c1
     have a2:=hX4.c2
     have a3:=hX4.c3
     rw [HW4] at b0 b1 a2 a3
     have HX4:=ah hX4
     have HB4:=ah (hB.trans (hb4.mono hB.size))
     have HO4:=ah (cJ (ho.next hb4) (cJ (hoz.next hb4) (cJ (hr1.next hb4) (hr2.next hb4))))
     have HR4:=ah (hR.next hb4)
     have HXS:=ah (show wr.heap.size < W4.heap.size/\W3.heap.size<=wr.heap.size from ⟨hX4.lt,HSW.out⟩)
     have HW4:=ah HW4
     clear hC hR ho hoz hb4 hX4 hr1 hr2
     go_wp2_with fail
     rw [<- HW4.out]
     clear HW4 hx0 hx1 hx2 hx3 b0 b1 a2 a3
     clear HW4
     generalize wr.heap.size=gx at *
     refine (exact_any HO4.out.1.rd HO4.out.2.2.2 (by have:=HDN.out;omega) (by omega) (qden_ne x)).mono ?_
     rintro _ W5 ⟨s5,D5,n5,l5,q,e5,rfl,ho5,hq,hb5⟩
     have HQV:=ah (show q=y.tdiv x.den by
      rcases hq.out with ⟨_,f2,_⟩ | ⟨f1,_,_⟩
      ·exact f2
      ·exact absurd (Int.tmod_eq_zero_of_dvd (by rw [HDV.out];exact den_dvd L 1 x (gM hp.out))) f1)
     obtain ⟨W6,HW6⟩:∃ W,W=W5.alloc (.cells #[.bool s5,.slice D5 n5 l5] 25):=⟨_,rfl⟩
     have hb6:Below W5.heap.size W5 W6:=by rw [HW6];exact bA
     have hQ6:ZC W6 W5.heap.size s5 D5 n5 l5:=by rw [HW6];exact ZC.new W5 s5 D5 n5 l5
     have hb46:=hb5.trans (hb6.mono hb5.size)
     have HB6:=tM HB4 hb46
     have HB46:=ah hb46
     have HQN:=ah (show n5<=M by
      rw [ho5.len,HQV.out]
      refine nT (Zz.zl_tdiv _ _) ?_
      have:=HO4.out.1.len
      have:=HDN.out
      omega)
     have HQ6:=ah (cJ hQ6 ((ho5.base (b':=W1.heap.size) (by have:=HXS.out;have:=HG3.out;have:=HGR.out;have:=hb5.size;omega)).next hb6))
     have HGQ:=ah (show gc < W5.heap.size/\gx < W5.heap.size from ⟨by have:=HXS.out;have:=HG3.out;have:=hb5.size;omega,by have:=HXS.out;have:=hb5.size;omega⟩)
     have HW6:=ah HW6
     clear ho5 hq hb5 hb6 hb46 hQ6
     go_upto_region 11 with fail
     rw [<- HW6.out]
     clear HW6
     clear HW6
     generalize W5.heap.size=gq at *
     have HBD:=ah (Below.refl W6.heap.size W6).drew
     have HC6:=ah (HC4.out.next HB46.out)
     have HXX:=ah (show ∀ W:World,Below W6.heap.size W6 W->(CC W gc s A' n' c' A5 i c5/\QC W gx s1 A1 n1 c1 s4 A4 n4 c4/\ZC W gq s5 D5 n5 l5/\CC W w.heap.size false none 0 0 none 0 0)/\RdZ W W.heap.size s1 A1 n1 c1 x.num/\OwZ W W1.heap.size s5 D5 n5 l5 q/\OwZs W W1.heap.size A5 i c5 M5/\OwZ W W1.heap.size s A' n' c' y from fun W hb=>⟨⟨HC6.out.next hb,(HX4.out.next HB46.out).next hb,HQ6.out.1.next hb,(HR4.out.next HB46.out).next hb⟩,(HO4.out.2.2.1.next HB46.out).next hb,HQ6.out.2.next hb,(HO4.out.2.1.next HB46.out).next hb,(HO4.out.1.next HB46.out).next hb⟩)
     obtain ⟨⟨hC7,hX7,hQ7,_⟩,_⟩:=HXX.out W6 bR
     have x2:=hC7.c2
     have x3:=hX7.c0
     have x4:=hX7.c1
     have x5:=hQ7.c0
     have x6:=hQ7.c1
     obtain ⟨E,hE,hEl,hEn⟩:=HO4.out.2.1.next HB46.out
     have HE:=ah hE
     have HEN:=ah (cJ hEl hEn)
     have HIL:=ah hil
     clear hE hEl hEn hC7 hX7 hQ7 hil
     go_region_law (first
      | (refine step_append_lies _ rfl _ _ 65 rfl W1.heap.size 25 i0 (.agg #[.bool false,.slice none 0 0]) 2 32 Tryz.underlying65 hi hz0 hz1 hz2 rfl (by decide) _ _ _ rfl ((row_next HE.out HB7.out).alloc _) ⟨W7.heap.size,0,none⟩ 1 1 [.bool s7,.slice A7 n7 c7] rfl rfl (zcell_new _ _ _ _) (by simp [Value.oneCell']) (by omega) (by have:=HIL.out;unfold maxLen;omega) (by have:=HIL.out;omega) HSZ7.out _ rfl ?_;intro g9 c9 W9 hown9 hgrow9 _ _;have hC9:=cc_grown ((row_next HE.out HB7.out).alloc _) hgrow9 (((HXX.out _ HB7.out).1.1).next (bR.alloc nR (.cells #[.bool s7,.slice A7 n7 c7] 25)));have k2:=hC9.c2;have k3:=hC9.fz 2)
      | (go_simp;go_at_call 146;refine (imul_any (HXX.out _ HBD.out).2.1 (HXX.out _ HBD.out).2.2.1.rd (by omega) (by have:=HQN.out;omega)).mono ?_;rintro _ W7 ⟨s7,A7,n7,c7,z7,rfl,ho7,hz7,hb7⟩;have HB7:=ah (HBD.out.trans hb7);have l2:=(HXX.out _ HB7.out).1.1.c2;have l3:=(((HXX.out _ HB7.out).1.1).next (bR.alloc nR (.cells #[.bool s7,.slice A7 n7 c7] 25))).c2;have HSZ7:=ah (show W1.heap.size<=(W7.alloc (.cells #[.bool s7,.slice A7 n7 c7] 25)).heap.size by { have h1:=HGR.out;have h2:=HGQ.out;have h3:=HQ6.out.1.lt;have h4:=HB7.out.size;simp;omega })))
     all_goals
      have hB7:=HB6.out.trans (HB7.out.mono HB6.out.size)
      have hk9:=keepT_grownZ ((row_next HE.out HB7.out).alloc (.cells #[.bool s7,.slice A7 n7 c7] 25)) hgrow9
      have hr9:=cc_grown ((row_next HE.out HB7.out).alloc (.cells #[.bool s7,.slice A7 n7 c7] 25)) hgrow9 ((HXX.out _ HB7.out).1.2.2.2.next (bR.alloc nR (.cells #[.bool s7,.slice A7 n7 c7] 25)))
      have hy9:=((HXX.out _ HB7.out).2.2.2.2.next (bR.alloc nR (.cells #[.bool s7,.slice A7 n7 c7] 25))).keep hk9
      have hmore:=zs_more (A:=A5) (n:=i) (c:=c5) (b:=W1.heap.size) (e:=(s7,A7,n7,c7)) (z:=z7) (t:=25) (w:=W7) (w1:=W9) (E:=E) (L:=M5) (v':=.slice (some ⟨g9,0,none⟩) (i+1) c9) (ho7.base (by have h1:=HGR.out;have h2:=HGQ.out;have h3:=HQ6.out.1.lt;have h4:=HBD.out.size;omega)) rfl ((row_next HE.out HB7.out).alloc _) HEN.out.1 (HEN.out.2.next HB7.out) hown9 hgrow9
      have hBB:=(hB7.alloc hB7.size (.cells #[.bool s7,.slice A7 n7 c7] 25)).grown hgrow9 (by have:=hB7.size;simp;omega) (fun k hk=>nT (Nat.le_of_lt HGR.out.1) (own_block HE.out k hk))
      obtain ⟨A9,c9',e9,ho9⟩:=hmore
      injection e9 with e9 _ e9'
      subst e9 e9'
      have HM9:=ah (show M5 ++ [z7]=(L.take (i+1)).map (fun x=>x.num*y.tdiv x.den) by rw [List.take_add_one,hp.out,List.map_append,hM5.out,hz7.out,HQV.out];rfl)
      have HC9:=ah (hC9.store1 (some ⟨g9,0,none⟩) (i+1) c9)
      have HR9:=ah (hr9.far (p:=⟨gc,2,none⟩) (by have:=HGR.out;simp;omega) (.slice (some ⟨g9,0,none⟩) (i+1) c9))
      have HO9:=ah (cJ (hy9.keep (keep_setC (j:=2) hC9 (.slice (some ⟨g9,0,none⟩) (i+1) c9))) (zs_setC (j:=2) ho9 hC9 (.slice (some ⟨g9,0,none⟩) (i+1) c9)))
      have HB9:=ah (hBB.setCell (p:=⟨gc,2,none⟩) (by have:=HGR.out;show w.heap.size<=gc;omega) (.slice (some ⟨g9,0,none⟩) (i+1) c9))
      have HS9:=ah (show W3.heap.size<=(W9.setCell ⟨gc,2,none⟩ (.slice (some ⟨g9,0,none⟩) (i+1) c9)).heap.size by
       have h1:=HB6.out.size
       have h2:=HB7.out.size
       have h3:=HXS.out
       have h4:=HB46.out.size
       have h5:=hgrow9.size
       simp at h5 ⊢
       omega)
      clear hC9 hr9 hy9 hk9 hBB ho9 hown9 hgrow9 hB7 k2 k3 x2 x3 x4 x5 x6 hb7 ho7 hz7 l2 l3
      go_wp2
      generalize W9.setCell ⟨gc,2,none⟩ (.slice (some ⟨g9,0,none⟩) (i+1) c9)=V9 at *
      go_roundw
      case rel=>exact ⟨i+1,some ⟨g9,0,none⟩,c9,M5 ++ [z7],by go_num,by have:=HIL.out;omega,HC9.out,HR9.out,HO9.out.1,HO9.out.2,HM9,HS9,HB9.out⟩
      case measure=>simp [intOf];have:=HIL.out;omega
  ·have hjl:j < n:=by omega
   clear hjn
   have hjli:(j:Int) < (n:Int):=by omega
   obtain ⟨ad,s1,A1,n1,c1,s4,A4,n4,c4,x,hA,hbk,hx0,hx1,hx2,hx3,hr1,hr2,hn1,hn2,hp⟩:=qp_at (HRD.out.next hB) hjl
   subst hA
   have HYP:=ah (show 0 < y by rw [hy.out.1];exact denF_pos _ 1 (by decide))
   have HYN:=ah (show Zz.zl y<=M/\Zz.zl ((Nat.lcm y.natAbs x.den:Nat):Int)<=M from ⟨by rw [hy.out.1];exact HSZ.out j,by rw [hy.out.1,<- denF_take hp.out];exact HSZ.out (j+1)⟩)
   obtain ⟨W4,HW4⟩:∃ W,W=wr.alloc (.cells #[.bool s1,.slice A1 n1 c1,.bool s4,.slice A4 n4 c4] 47):=⟨_,rfl⟩
   have hb4:Below wr.heap.size wr W4:=by rw [HW4];exact bA
   have hX4:QC W4 wr.heap.size s1 A1 n1 c1 s4 A4 n4 c4:=by rw [HW4];exact QC.new wr s1 A1 n1 c1 s4 A4 n4 c4
   have hC4:=hC.next hb4
   obtain ⟨W5,HW5⟩:∃ W,W=W4.alloc (.cells #[.bool s,.slice A' n' c',.bool s4,.slice A4 n4 c4] 25):=⟨_,rfl⟩
   have hb5:Below W4.heap.size W4 W5:=by rw [HW5];exact bA
   have hq:=zs_two (N:=max N M) (ho.next hb4).rd (hr2.next hb4) (by rw [ho.len];have:=HYN.out;omega) (by omega) HW5
   have hs4:W4.heap.size=wr.heap.size+1:=by rw [HW4];simp
   have hb45:=hb4.trans (hb5.mono hb4.size)
   have b0:=hC4.c0
   have b1:=hC4.c1
   have a2:=hX4.c2
   have a3:=hX4.c3
   rw [hs4] at hq
   rw [HW4] at b0 b1 a2 a3 HW5
   have HQ:=ah hq
   have HC5:=ah (hC.next hb45)
   have HR5:=ah (hR.next hb45)
   have HB5:=ah (hB.trans (hb45.mono hB.size))
   have HW35:=ah (show W3.heap.size<=W5.heap.size from nT hy.out.2 hb45.size)
   have HYV:=ah hy.out.1
   have HW5:=ah HW5
   clear hC hR ho hb4 hb5 hb45 hX4 hC4 hr1 hr2 hq hs4 hB hy HW4
   go_wp2_with fail
   rw [<- HW5.out]
   clear HW5 hx0 hx1 hx2 hx3 b0 b1 a2 a3
   clear HW5
   refine (lcml_any (N:=max N M) (M:=M+1) HQ.out (fun u hu=>by
    simp at hu
    rcases hu with rfl | rfl
    ·exact HYP.out
    ·have:=x.den_pos;omega) (by omega) (by omega) (fun t=>by
    match t with
    | 0 =>
      show Zz.zl 1<=M+1
      exact nT (Zz.zl_small (by decide)) (by omega)
    | 1 =>
      have e:([y,(x.den:Int)].take 1).foldl (fun (g x:Int)=>((Nat.lcm g.natAbs x.natAbs:Nat):Int)) 1=(y.natAbs:Int):=by simp [Nat.lcm_one_left]
      rw [e,Zz.zl_abs]
      have:=HYN.out.1
      omega
    | t + 2 =>
      rw [List.take_of_length_le (by simp),two_lcm HYP.out]
      have:=HYN.out.2
      omega)).mono ?_
   rintro _ W6 ⟨s6,A6,n6,c6,y6,rfl,ho6,hy6,hb6⟩
   have hC6:=HC5.out.next hb6
   have g0:=hC6.c0
   have g1:=hC6.c1
   have f0:=hC6.fz 0
   have f1:=hC6.fz 1
   have HC9:=ah (hC6.store2 s6 A6 n6 c6)
   have HR9:=ah (((HR5.out.next hb6).far (p:=⟨gc,0,none⟩) (by have:=HGR.out;simp;omega) (.bool s6)).far (p:=⟨gc,1,none⟩) (by have:=HGR.out;simp;omega) (.slice A6 n6 c6))
   have HO9:=ah ((ho6.base (b':=W1.heap.size) (by have:=HW35.out;have:=HG3.out;have:=HGR.out;omega)).keep (keep_setC2 hC6 (.bool s6) (.slice A6 n6 c6)))
   have HB9:=ah (below_put2 (HB5.out.trans (hb6.mono HB5.out.size)) (show w.heap.size<=gc by have:=HGR.out;omega) (.bool s6) (.slice A6 n6 c6))
   have HV9:=ah (show y6=denF 1 (L.take (j+1)) by rw [hy6.out,two_lcm HYP.out,denF_take hp.out,HYV.out])
   have HS9:=ah (show W3.heap.size<=((W6.setCell ⟨gc,0,none⟩ (.bool s6)).setCell ⟨gc,1,none⟩ (.slice A6 n6 c6)).heap.size by have:=HW35.out;have:=hb6.size;simp;omega)
   clear hC6 ho6 hb6 hy6
   go_wp2_with fail
   generalize (W6.setCell ⟨gc,0,none⟩ (.bool s6)).setCell ⟨gc,1,none⟩ (.slice A6 n6 c6)=W9 at *
   go_roundw
   case rel=>exact ⟨j+1,s6,A6,n6,c6,y6,by go_num,by omega,HC9.out,HR9.out,HO9.out,ah ⟨HV9.out,HS9.out⟩,HB9.out⟩
   case measure=>simp [intOf];omega
def mg (LL:List (List Int)):Int:=LL.flatten.foldl (fun (g x:Int)=>(Int.gcd g x:Int)) 0
def mG (d:Int)(LL:List (List Int)):Int:=if d < 0 then -(if mg LL=0 then (d.natAbs:Int) else (Int.gcd (mg LL) d:Int)) else (if mg LL=0 then (d.natAbs:Int) else (Int.gcd (mg LL) d:Int))
theorem gfold_dvd (L:List Int):∀ g:Int,(L.foldl (fun (g x:Int)=>(Int.gcd g x:Int)) g ∣ g)/\∀ x ∈ L,L.foldl (fun (g x:Int)=>(Int.gcd g x:Int)) g ∣ x:=by
 induction L with
 | nil=>intro g;exact ⟨Int.dvd_refl _,fun x h=>by cases h⟩
 | cons y L ih =>
   intro g
   rw [List.foldl_cons]
   have h:=ih (Int.gcd g y:Int)
   refine ⟨Int.dvd_trans h.1 (Int.gcd_dvd_left ..),fun x hx=>?_⟩
   rcases List.mem_cons.1 hx with rfl | hx
   ·exact Int.dvd_trans h.1 (Int.gcd_dvd_right ..)
   ·exact h.2 x hx
theorem mg_dvd {LL:List (List Int)}{L:List Int}{x:Int}(h:L ∈ LL)(hx:x ∈ L):mg LL ∣ x:=(gfold_dvd LL.flatten 0).2 x (List.mem_flatten.2 ⟨L,h,hx⟩)
theorem mG_ne {d:Int}{LL:List (List Int)}(hd:d ≠ 0):mG d LL ≠ 0:=by
 have h1:(if mg LL=0 then (d.natAbs:Int) else (Int.gcd (mg LL) d:Int)) ≠ 0:=by
  split
  ·omega
  ·have:=Int.gcd_pos_of_ne_zero_right (mg LL) hd
   omega
 unfold mG
 split
 ·omega
 ·exact h1
theorem mG_of {d:Int}{LL:List (List Int)}{z:Int}(h:(if mg LL=0 then (d.natAbs:Int) else (Int.gcd (mg LL) d:Int)) ∣ z):mG d LL ∣ z:=by
 unfold mG
 split
 ·exact Int.neg_dvd.2 h
 ·exact h
theorem mG_den (d:Int)(LL:List (List Int)):mG d LL ∣ d:=mG_of (by
 split
 ·exact Int.natAbs_dvd.2 (Int.dvd_refl _)
 ·exact Int.gcd_dvd_right ..)
theorem mG_num {d:Int}{LL:List (List Int)}{L:List Int}{x:Int}(h:L ∈ LL)(hx:x ∈ L):mG d LL ∣ x:=mG_of (by
 have h1:=mg_dvd h hx
 split
 ·rename_i h0
  rw [h0] at h1
  rw [Int.zero_dvd.1 h1]
  exact Int.dvd_zero _
 ·exact Int.dvd_trans (Int.gcd_dvd_left ..) h1)
def mN (d:Int)(LL:List (List Int)):List (List Int):=LL.map fun L=>L.map fun x=>x.tdiv (mG d LL)
def fromN (LL:List (List Rat)):List (List Int):=LL.map fun L=>L.map fun x=>x.num*(denL LL.flatten).tdiv x.den
theorem fromN_flat (LL:List (List Rat)):(fromN LL).flatten=numL LL.flatten:=by
 unfold fromN numL
 generalize denL LL.flatten=D
 rw [List.map_flatten]
theorem denL_pos (L:List Rat):0 < denL L:=denF_pos L 1 (by decide)
theorem num_over {x:Rat}{D:Int}(h:(x.den:Int) ∣ D)(hD:D ≠ 0):Rat.divInt (x.num*D.tdiv x.den) D=x:=by
 obtain ⟨b,rfl⟩:=h
 have hx:(x.den:Int) ≠ 0:=by have:=x.den_pos;omega
 have hb:b ≠ 0:=fun e=>hD (by rw [e];exact Int.mul_zero _)
 rw [Int.mul_tdiv_cancel_left _ hx,Rat.divInt_mul_right hb,Rat.num_divInt_den]
theorem zl_lcm (x:Int)(y:Nat):Zz.zl ((Nat.lcm x.natAbs y:Nat):Int)<=Zz.zl x+Zz.zl (y:Int):=by
 refine nT (Zz.zl_of_le ?_) (Zz.zl_mul x y)
 rw [Int.natAbs_natCast,Int.natAbs_mul,Int.natAbs_natCast]
 rcases Nat.eq_zero_or_pos (x.natAbs*y) with h | h
 ·rcases Nat.mul_eq_zero.1 h with h | h <;> rw [h] <;> simp
 ·exact Nat.le_of_dvd h (Nat.lcm_dvd_mul _ _)
theorem denF_sz {N:Nat}:∀ (L:List Rat) (g:Int),(∀ x ∈ L,Qs N x)->Zz.zl (denF g L)<=Zz.zl g+L.length*N
 | [],g,_=>by simp [denF]
 | x :: L, g, h => by
   have ih:=denF_sz L ((Nat.lcm g.natAbs x.den:Nat):Int) (fun y hy=>h y (List.mem_cons_of_mem _ hy))
   have h1:=zl_lcm g x.den
   have h2:=(h x (List.mem_cons_self ..)).2
   show Zz.zl (denF ((Nat.lcm g.natAbs x.den:Nat):Int) L)<=_
   rw [List.length_cons,Nat.succ_mul]
   omega
theorem fromN_sz {N:Nat}{LL:List (List Rat)}(h:∀ L ∈ LL,∀ x ∈ L,Qs N x):∀ L ∈ fromN LL,∀ z ∈ L,Zz.zl z<=N+(1+LL.flatten.length*N):=by
 intro L hL z hz
 obtain ⟨M,hM,rfl⟩:=List.mem_map.1 hL
 obtain ⟨x,hx,rfl⟩:=List.mem_map.1 hz
 have h1:Zz.zl (denL LL.flatten)<=Zz.zl 1+LL.flatten.length*N:=denF_sz LL.flatten 1 (fun x hx=>by
  obtain ⟨M,hM,hx⟩:=List.mem_flatten.1 hx
  exact h M hM x hx)
 have h2:=Zz.zl_mul x.num ((denL LL.flatten).tdiv x.den)
 have h3:=Zz.zl_tdiv (denL LL.flatten) x.den
 have h4:=(h M hM x hx).1
 have h5:Zz.zl 1<=1:=Zz.zl_small (by decide)
 omega
end Go.Proofs.YtjnklbfhelbjgaaGreat
