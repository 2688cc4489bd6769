/- Sc14. -/
import Derived.Test.YtjnklbfhelbjgaaGreatSc13
import Derived.Sort.CutIn
import Derived.Test.YtjnklbfhelbjgaaGreatSc11
import Derived.Test.YtjnklbfhelbjgaaGreatSc00
set_option maxRecDepth 100000
set_option maxHeartbeats 32000000
set_option linter.all false
namespace Go.Proofs.YtjnklbfhelbjgaaGreat
open Go.RowKit Go.IntWalk Go.Shelf
theorem below_others {W W':World}(hb:Below W.heap.size W W'):KeepsOthers W W':=⟨hb.size,fun k _ hk _=>(hb.block k (Array.getElem?_eq_some_iff.1 hk).1).trans hk⟩
theorem RdRss.grid {w:World}{B N K:Nat}{A:Option Addr}{n c:Nat}{RR:List RawRow}(h:RdRss w B N K A n c RR)(hN:N<=400000000000):∃ XX:List (List (GZ w B)),GridZ w B A n XX/\XX.map (fun r=>r.map (fun x=>x.1.2))=RR:=by
 obtain ⟨XX,h1,h2⟩:=exists_list (P:=fun (i:Nat) (row:List (GZ w B))=>(∃ (ad:Addr) (A1:Option Addr) (n1 c1:Nat),A=some ad/\ad.block < B/\w.cell? (ad.add i)=some (.slice A1 n1 c1)/\row.length=n1/\n1<=maxLen /\
   ∀ (j:Nat) (x:GZ w B),row[j]?=some x->∃ ad1:Addr,A1=some ad1/\ad1.block < B/\w.cell? (ad1.add (j*2))=some (.bool x.1.1.1)/\w.cell? ⟨(ad1.add (j*2)).block,(ad1.add (j*2)).off+1,none⟩=some (.slice x.1.1.2.1 x.1.1.2.2.1 x.1.1.2.2.2))/\RR[i]?=some (row.map (fun x=>x.1.2))) n (fun i hi=>by
  obtain ⟨ad,A1,n1,c1,R,rfl,e2,e3,e4,_,e5⟩:=rss_at h hi
  obtain ⟨row,r1,r2⟩:=exists_list (P:=fun (j:Nat) (x:GZ w B)=>(∃ ad1:Addr,A1=some ad1/\ad1.block < B/\w.cell? (ad1.add (j*2))=some (.bool x.1.1.1)/\w.cell? ⟨(ad1.add (j*2)).block,(ad1.add (j*2)).off+1,none⟩=some (.slice x.1.1.2.1 x.1.1.2.2.1 x.1.1.2.2.2))/\R[j]?=some x.1.2) n1 (fun j hj=>by
   obtain ⟨ad1,s,M,A',n',c',q1,q2,q3,q4,q5,q6,q7⟩:=rs_at e4 hj
   exact ⟨⟨((s,A',n',c'),(s,M)),rfl,q5,nT q6 hN⟩,⟨ad1,q1,q2,q3,q4⟩,q7.out⟩)
  refine ⟨row,⟨ad,A1,n1,c1,rfl,e2,e3,r1,nT e4.le e4.mx,fun j x hx=>(r2 j x hx).1⟩,?_⟩
  rw [e5.out]
  congr 1
  exact (map_of_get (by rw [r1,e4.len]) fun j x hx=>(r2 j x hx).2).symm)
 exact ⟨XX,⟨h1,fun i row hi=>(h2 i row hi).1⟩,map_of_get (by rw [h1,h.len]) fun i row hi=>(h2 i row hi).2⟩
def gz {W0:World}{b:Nat}(pre:List (GZ W0 b)):Int:=(pre.map fun x=>toZ x.1.2).foldl (fun (g x:Int)=>(Int.gcd g x:Int)) 0
theorem gz_snoc {W0:World}{b:Nat}(pre:List (GZ W0 b))(x:GZ W0 b):gz (pre ++ [x])=(Int.gcd (gz pre) (toZ x.1.2):Int):=by
 unfold gz
 rw [List.map_append,List.foldl_append]
 rfl
def zss (RR:List RawRow):List (List Int):=RR.map fun R=>R.map toZ
theorem gz_all {W0:World}{b:Nat}{XX:List (List (GZ W0 b))}{RR:List RawRow}(h:XX.map (fun r=>r.map (fun x=>x.1.2))=RR):gz XX.flatten=mg (zss RR):=by
 unfold gz mg zss
 rw [<- h]
 congr 1
 rw [List.map_flatten,List.map_map]
 congr 1
 refine List.map_congr_left fun r _=>?_
 show r.map _=(r.map _).map toZ
 rw [List.map_map]
 rfl
structure MgW (w:World)(sd:Bool)(Ad:Option Addr)(nd cd:Nat)(gv:Value)(y:Int)(W:World):Prop where
 g:∃ (s:Bool) (A:Option Addr) (n c:Nat),ZC W (w.heap.size+1+1) s A n c/\OwZ W w.heap.size s A n c y
 d:ZC W w.heap.size sd Ad nd cd
 r:MC W (w.heap.size+1) false none 0 0 none 0 0
 bs:Boxed W (w.heap.size+1+1+1) 165 gv
 lo:Below w.heap.size w W
 s:w.heap.size+4<=W.heap.size
section
variable {w:World}{sd:Bool}{Ad:Option Addr}{nd cd:Nat}{gv:Value}{y:Int}{W W':World}
theorem MgW.own:OwnFrom (w.heap.size+4) (fun (y:Int) W=>MgW w sd Ad nd cd gv y W):=fun y W W' row hs hg hr=>by
 obtain ⟨⟨s,A,n,c,h1,h2⟩,h3,h4,h5,h6,h7⟩:=hs
 have hk:=keepC_own hg (fun r e=>(hr r e).2)
 exact ⟨⟨s,A,n,c,hk _ _ _ _ h1,h2.keep hk.q.1⟩,hk _ _ _ _ h3,hk _ _ _ _ h4,hk _ _ _ _ h5,h6.grown hg h6.size (fun r e=>nT (by omega) (hr r e).1),nT h7 hg.size⟩
theorem MgW.next (h:MgW w sd Ad nd cd gv y W)(hb:Below W.heap.size W W'):MgW w sd Ad nd cd gv y W':=by
 obtain ⟨⟨s,A,n,c,h1,h2⟩,h3,h4,h5,h6,h7⟩:=h
 exact ⟨⟨s,A,n,c,h1.next hb,h2.next hb⟩,h3.next hb,h4.next hb,(hb.block _ h5.lt).trans h5,h6.trans (hb.mono h6.size),nT h7 hb.size⟩
theorem MgW.put (h:MgW w sd Ad nd cd gv y W){s':Bool}{A':Option Addr}{n' c':Nat}{y':Int}(ho:OwZ W w.heap.size s' A' n' c' y'):MgW w sd Ad nd cd gv y' ((W.setCell ⟨w.heap.size+1+1,0,none⟩ (.bool s')).setCell ⟨w.heap.size+1+1,1,none⟩ (.slice A' n' c')):=by
 obtain ⟨⟨s,A,n,c,h1,h2⟩,h3,h4,h5,h6,h7⟩:=h
 refine ⟨⟨s',A',n',c',h1.store s' A' n' c',ho.keep (keep_set2 h1 _ _)⟩,(h3.far (p:=⟨w.heap.size+1+1,0,none⟩) (by simp;omega) _).far (p:=⟨w.heap.size+1+1,1,none⟩) (by simp;omega) _,(h4.far (p:=⟨w.heap.size+1+1,0,none⟩) (by simp) _).far (p:=⟨w.heap.size+1+1,1,none⟩) (by simp) _,?_,below_put2 h6 (by omega) _ _,by simpa [World.setCell] using h7⟩
 unfold Boxed
 rw [Below.heap_setCell _ (⟨w.heap.size+1+1,1,none⟩:Addr) _ _ (by simp),Below.heap_setCell _ (⟨w.heap.size+1+1,0,none⟩:Addr) _ _ (by simp)]
 exact h5
theorem MgW.kept (h:MgW w sd Ad nd cd gv y W)(hb:Below W.heap.size W W')(x z:Value):KeepsOthers W ((W'.setCell ⟨w.heap.size+1+1,0,none⟩ x).setCell ⟨w.heap.size+1+1,1,none⟩ z)/\KpO w.heap.size (w.heap.size+1+1+1) W ((W'.setCell ⟨w.heap.size+1+1,0,none⟩ x).setCell ⟨w.heap.size+1+1,1,none⟩ z):=by
 refine ⟨((below_others hb).trans (KeepsOthers.setCell _ _ _)).trans (KeepsOthers.setCell _ _ _),below_put2 (hb.mono h.lo.size) (by omega) _ _,?_⟩
 rw [Below.heap_setCell _ (⟨w.heap.size+1+1,1,none⟩:Addr) _ _ (by simp),Below.heap_setCell _ (⟨w.heap.size+1+1,0,none⟩:Addr) _ _ (by simp)]
 exact hb.block _ h.bs.lt
end
theorem make_iroom (k:Nat)(hk:k<=1099511627776)(w:World) :
  (Instr.makeSlice 65 (.int .i64 0) (.int .i64 (k:Int))).run Tryz.prog w=.ok (.slice (some ⟨w.heap.size,0,none⟩) 0 k) (w.alloc (.cells (madeCells #[.bool false,.slice none 0 0] (k*2)) 25)):=by
 obtain ⟨i,hi,hz,hs,hb⟩:=info_parts infoZ
 have hr:=run_make (P:=Tryz.prog) w 65 25 i _ Tryz.underlying65 hi hz .i64 .i64 0 k (by omega) (by omega) (by rw [hb];omega) (by omega)
 rw [hs] at hr
 exact hr
theorem OwZs.room (w:World)(k:Nat)(hk:k<=maxLen):OwZs (w.alloc (.cells (madeCells #[.bool false,.slice none 0 0] (k*2)) 25)) w.heap.size (some ⟨w.heap.size,0,none⟩) 0 k [] :=
 ⟨[],⟨rfl,.inr ⟨w.heap.size,k,_,rfl,nR,heap_alloc_new w _,nZ,hk,by simp [madeCells],rfl⟩⟩,rfl,rfl,fun j e z he _=>by simp at he⟩
def RetMt (d:Int)(LL:List (List Int))(w:World)(e:Ending)(w':World):Prop :=
 ∃ (s:Bool) (A:Option Addr) (n c:Nat) (G:Option Addr) (r k:Nat) (y:Int) (MM:List (List Int)),e=.returned (.agg #[.bool s,.slice A n c,.slice G r k])/\OwZ w' w.heap.size s A n c y/\OwMs w' w.heap.size G r k MM/\Hid (y=d/\MM=LL)/\Below w.heap.size w w'
theorem OwMs.keepC {W W':World}{b r k:Nat}{G:Option Addr}{LL:List (List Int)}(h:OwMs W b G r k LL)(hk:KeepC W W'):OwMs W' b G r k LL:=by
 obtain ⟨E,h1,h2,h3⟩:=h
 exact ⟨E,hk.row h1,h2,h3.keep hk.i⟩
attribute [local go_sem] Oper.semAt_some
section
variable {w:World}{sd:Bool}{Ad:Option Addr}{nd cd:Nat}{gv:Value}{y:Int}{W W':World}
theorem MgW.far (h:MgW w sd Ad nd cd gv y W){g':Nat}(hp:w.heap.size+4<=g'){s:Bool}{A:Option Addr}{n c:Nat}{G:Option Addr}{r k:Nat}(hm:MC W g' s A n c G r k)(j:Nat)(u:Value):MgW w sd Ad nd cd gv y (W.setCell ⟨g',j,none⟩ u):=by
 obtain ⟨⟨s1,A1,n1,c1,h1,h2⟩,h3,h4,h5,h6,h7⟩:=h
 refine ⟨⟨s1,A1,n1,c1,h1.far (p:=⟨g',j,none⟩) (by show w.heap.size+1+1 ≠ g';omega) u,h2.keep (keepI_mc hm j u).1⟩,h3.far (p:=⟨g',j,none⟩) (by show w.heap.size ≠ g';omega) u,h4.far (p:=⟨g',j,none⟩) (by show w.heap.size+1 ≠ g';omega) u,(Below.heap_setCell W ⟨g',j,none⟩ u _ (by show w.heap.size+1+1+1 ≠ g';omega)).trans h5,h6.setCell (p:=⟨g',j,none⟩) (by show w.heap.size<=g';omega) u,by simpa [World.setCell] using h7⟩
theorem MgW.grown (h:MgW w sd Ad nd cd gv y W){B:Nat}{A:Option Addr}{n c m:Nat}{xs:List Value}(hE:W.ownsRow B 65 1 (.slice A n c) m xs)(hB:w.heap.size<=B)(hg:W.grownBy W' (Value.slice A n c).ownBlock)(hn:m=n):MgW w sd Ad nd cd gv y W':=by
 subst hn
 obtain ⟨⟨s1,A1,n1,c1,h1,h2⟩,h3,h4,h5,h6,h7⟩:=h
 exact ⟨⟨s1,A1,n1,c1,grown_heap hE hg h1 (by decide),h2.keep (keepI_grown hE hg).1⟩,grown_heap hE hg h3 (by decide),grown_heap hE hg h4 (by decide),grown_heap hE hg h5 (by decide),h6.grown hg h6.size (fun k e=>nT hB (own_block hE k e)),nT h7 hg.size⟩
theorem others_append {B:Nat}{e:TypeId}{q m:Nat}{v:Value}{xs:List Value}(hE:W.ownsRow B e q v m xs)(hg:W.grownBy W' v.ownBlock):KeepsOthers W W':=KeepsOthers.of_grownBy hg fun j o ej hj=>by
 rcases hE.2 with ⟨rfl,_⟩ | ⟨g,cap,cur,rfl,_,hgb,_⟩
 ·simp [Value.ownBlock] at ej
 ·obtain rfl:g=j:=by simpa [Value.ownBlock] using ej
  rw [hgb] at hj;cases hj;rfl
theorem MC.den {g:Nat}{s:Bool}{A:Option Addr}{n c:Nat}{G:Option Addr}{r k:Nat}(h:MC W g s A n c G r k)(s':Bool)(A':Option Addr)(n' c':Nat):MC ((W.setCell ⟨g,0,none⟩ (.bool s')).setCell ⟨g,1,none⟩ (.slice A' n' c')) g s' A' n' c' G r k:=by
 unfold MC at *
 simp [World.setCell,Array.getElem?_modify,h]
end
theorem mN_take {RR:List RawRow}{j:Nat}{R:RawRow}(h:RR[j]?=some R)(g:Int):((zss RR).take j).map (fun L=>L.map fun x=>x.tdiv g) ++ [(R.map toZ).map fun x=>x.tdiv g]=((zss RR).take (j+1)).map (fun L=>L.map fun x=>x.tdiv g):=by
 have e:(zss RR)[j]?=some (R.map toZ):=by unfold zss;rw [List.getElem?_map,h];rfl
 rw [List.take_add_one,e,List.map_append]
 rfl
theorem tdiv_take {R:RawRow}{j:Nat}{x:Bool × List Nat}(h:R[j]?=some x)(g:Int):((R.take j).map toZ).map (fun x=>x.tdiv g) ++ [(toZ x).tdiv g]=((R.take (j+1)).map toZ).map (fun x=>x.tdiv g):=by
 rw [List.take_add_one,h,List.map_append,List.map_append]
 rfl
theorem mG_one' (LL:List (List Int)):mG 1 LL=1:=by
 unfold mG
 rw [if_neg (by decide)]
 by_cases h:mg LL=0
 ·rw [if_pos h];rfl
 ·rw [if_neg h];simp
theorem mmadeG_any {N K:Nat}{s:Bool}{A G:Option Addr}{n c r k:Nat}{d:Int}{RR:List RawRow}{w:World}(h:RdZ w w.heap.size s A n c d)(h':RdRss w w.heap.size N K G r k RR)(hd:d ≠ 0)(hn:n<=400000000000)(hN:N<=400000000000)(hr:r<=1048576)(hK:K<=1048576)(hc:colsOf RR ≠ 0 ∨ d=1) :
  Calls Tryz.prog 120 #[.agg #[.bool s,.slice A n c],.slice G r k] w (RetMt (d.tdiv (mG d (zss RR))) (mN d (zss RR)) w):=by
 obtain ⟨XX,hG,hXX⟩:=h'.grid hN
 obtain ⟨i1,hjf,hy0,hy1,hy2⟩:=info_parts infoIs
 obtain ⟨i0,hi,hz0,hz1,hz2⟩:=info_parts infoZ
 have HX:=ah (show ∀ W,Below w.heap.size w W->RdZ W W.heap.size s A n c d/\RdRss W W.heap.size N K G r k RR from fun W hb=>⟨h.next hb,h'.next hb⟩)
 have HL:=ah h'.len
 have HD0:=ah hd
 have HC:=ah hc
 have HXX:=ah hXX
 have HLZ:=ah (show Zz.zl d<=400000000000 from nT h.len hn)
 have hrm:r<=maxLen:=by unfold maxLen;omega
 refine (callsIn_wide (n:=4)).1 ?_
 refine callsIn_of_wp_marks Tryz.func120 rfl trivial ?_ rfl
 simp only [Tryz.ntmps120,List.size_toArray,List.length_cons,List.length_nil,Nat.reduceAdd,Nat.reduceSub,Array.replicate_succ,Array.replicate_zero,List.push_toArray,List.append_toArray,List.nil_append,List.cons_append]
 gi_wp2_with (refine ⟨trivial,?_⟩;gi_at_call 172;refine (callsIn_wide.2 (eachZ_any _)).mono ?_;rintro e w' ⟨rfl,rfl⟩)
 obtain ⟨W3,HW3⟩:∃ W,W=(((w.alloc (.cells #[.bool s,.slice A n c] 25)).alloc (.cells #[.bool false,.slice none 0 0,.slice none 0 0] 28)).alloc (.cells #[.bool false,.slice none 0 0] 25)).alloc (.cells #[.slice G r k] 165):=⟨_,rfl⟩
 have hb3:Below w.heap.size w W3:=by rw [HW3];exact (((bA).alloc (by simp) _).alloc (by simp;omega) _).alloc (by simp;omega) _
 have hsz:W3.heap.size=w.heap.size+4:=by rw [HW3];simp
 have hM3:MgW w s A n c (.slice G r k) 0 W3:=by
  refine ⟨⟨false,none,0,0,?_,OwZ.zero _ _⟩,?_,?_,?_,hb3,Nat.le_of_eq hsz.symm⟩
  ·rw [HW3]
   have:=ZC.new ((w.alloc (.cells #[.bool s,.slice A n c] 25)).alloc (.cells #[.bool false,.slice none 0 0,.slice none 0 0] 28)) false none 0 0
   exact (by simpa using this:ZC _ (w.heap.size+1+1) _ _ _ _).alloc _
  ·rw [HW3]
   exact (((ZC.new w s A n c).alloc _).alloc _).alloc _
  ·rw [HW3]
   have:=MC.new (w.alloc (.cells #[.bool s,.slice A n c] 25)) false none 0 0 none 0 0
   exact ((by simpa using this:MC _ (w.heap.size+1) _ _ _ _ _ _ _).alloc _).alloc _
  ·rw [HW3]
   have:=Boxed.new (((w.alloc (.cells #[.bool s,.slice A n c] 25)).alloc (.cells #[.bool false,.slice none 0 0,.slice none 0 0] 28)).alloc (.cells #[.bool false,.slice none 0 0] 25)) 165 (.slice G r k)
   simpa using this
 have HSQ:=ah (eachZ_stops 3 (by omega) (w.heap.size+1+1+1) w.heap.size hrm W3 (by omega) (by omega) (hG.below hb3) hM3.bs.cell)
 have HI0:=ah (show (fun (pre:List (GZ w w.heap.size)) W=>MgW w s A n c (.slice G r k) (gz pre) W/\Zz.zl (gz pre)<=400000000000) [] W3 from ⟨hM3,by show Zz.zl 0<=_;rw [Zz.zl_zero];omega⟩)
 rw [<- HW3]
 clear HW3 hb3 hM3 hG hXX h h' hd hc
 apply rangeFunc_box (n:=4) (P:=Tryz.prog) (by omega) (gf:=211) (lb:=#[.pointer (some ⟨w.heap.size+1+1+1,0,none⟩)]) rfl (enters_of Tryz.func211 (by kernel_rfl) rfl)
  HSQ.out (by omega) (by omega) rfl (fun (pre:List (GZ w w.heap.size)) W=>MgW w s A n c (.slice G r k) (gz pre) W/\Zz.zl (gz pre)<=400000000000) (by rw [hsz];exact fun pre W W' row hs hg hr=>⟨MgW.own _ W W' row hs.1 hg hr,hs.2⟩) (fun _ _ hh=>by rw [hsz];exact hh.1.s) HI0.out 25 (fun x=>#[.bool x.1.1.1,.slice x.1.1.2.1 x.1.1.2.2.1 x.1.1.2.2.2])
 case hassign =>
  intro l x W K B hB hK
  unfold gZ
  gi_wp2
  rw [<- hB]
  exact hK
 case hbody =>
  rintro l pre x B W ⟨hI,hzl⟩ hB hx hlen
  obtain ⟨s1,A1,n1,c1,hz1',ho1⟩:=hI.g
  have hq:ZC W B x.1.1.1 x.1.1.2.1 x.1.1.2.2.1 x.1.1.2.2.2:=hx
  have hxr:RdZ W W.heap.size x.1.1.1 x.1.1.2.1 x.1.1.2.2.1 x.1.1.2.2.2 (toZ x.1.2):=⟨x.1.2.2,x.2.2.1.next hI.lo,by unfold toZ;rw [x.2.1]⟩
  obtain ⟨W4,HW4⟩:∃ W',W'=W.alloc (.cells #[.bool s1,.slice A1 n1 c1,.bool x.1.1.1,.slice x.1.1.2.1 x.1.1.2.2.1 x.1.1.2.2.2] 25):=⟨_,rfl⟩
  have HZS:=ah (zs_two (N:=400000000000) ho1.rd hxr (by rw [ho1.len];exact hzl) x.2.2.2 HW4)
  have hb4:Below W.heap.size W W4:=by rw [HW4];exact bA
  have HXL:=ah (show Zz.zl (gz (pre ++ [x]))<=400000000000 by
   rw [gz_snoc]
   have e1:=Zz.zl_gcd (gz pre) (toZ x.1.2)
   have e2:=hxr.len
   have e3:=x.2.2.2
   omega)
  have HI:=ah hI
  have HB4:=ah hb4
  have a0:=hz1'.c0
  have a1:=hz1'.c1
  have q0:=hq.c0
  have q1:=hq.c1
  have HW4:=ah HW4
  clear hI hq hx hxr hb4 hz1' ho1 hzl
  gi_wp2_with fail
  refine ⟨trivial,?_⟩
  rw [<- HW4.out]
  clear HW4 a0 a1 q0 q1
  clear HW4
  refine (CallsIn.inRound l (callsIn_wide.2 (gcdl_any HZS.out (by decide)))).mono ?_
  rintro _ W7 ⟨s7,A7,n7,c7,y7,rfl,ho7,hy7,hb7⟩
  have HY7:=ah (show y7=gz (pre ++ [x]) by rw [hy7.out,Qz.gcd_list,gz_snoc])
  have hb47:=HB4.out.trans (hb7.mono HB4.out.size)
  have hI7:=HI.out.next hb47
  obtain ⟨_,_,_,_,hz7,_⟩:=hI7.g
  have f0:=hz7.fz 0
  have f1:=hz7.fz 1
  have b0:=hz7.c0
  have b1:=hz7.c1
  have HP:=ah (hI7.put (ho7.base (b':=w.heap.size) (nT HI.out.lo.size HB4.out.size)))
  have HK:=ah (HI.out.kept hb47 (.bool s7) (.slice A7 n7 c7))
  clear hI7 hz7 hb47 hb7 ho7 hy7
  gi_wp2
  exact ⟨HK.out.1.from _,HK.out.2,by rw [<- HY7.out];exact HP.out,HXL.out⟩
 case hdone =>
  rintro D ys W hD rfl ⟨hI,hzl⟩ hK
  have hgm:gz XX.flatten=mg (zss RR):=gz_all HXX.out
  rw [hgm] at hI hzl
  have HD:=ah (show ∀ W',KeepsOthers W W'->W'.heap[D]?=some (.deferred (some [])) from fun W' hk=>hk.same D _ hK rfl)
  have HDD:=ah hD
  obtain ⟨m0,hm0⟩:∃ m0,m0=mg (zss RR):=⟨_,rfl⟩
  rw [<- hm0] at hI hzl
  have HM0:=ah hm0
  have HZL:=ah hzl
  obtain ⟨G1,hG1⟩:∃ G1:Int,G1=if m0=0 then (d.natAbs:Int) else (Int.gcd m0 d:Int):=⟨_,rfl⟩
  have HG1:=ah hG1
  have HGL:=ah (show Zz.zl G1<=400000000000 by
   rw [hG1]
   split
   ·rw [Zz.zl_abs];exact HLZ.out
   ·have e1:=Zz.zl_gcd m0 d
    have e2:=HLZ.out
    omega)
  have HI:=ah hI
  obtain ⟨s1,A1,n1,c1,hz1',ho1⟩:=hI.g
  have HO1:=ah ho1
  have HN1:=ah (show n1<=400000000000 by rw [ho1.len];exact hzl)
  have a0:=hz1'.c0
  have a1:=hz1'.c1
  clear hm0 hG1 hI hzl hgm hz1' ho1 hK hD
  gi_wp2_with fail
  refine ⟨trivial,?_⟩
  refine (callsIn_wide.2 (sign_any HO1.out.rd (by have:=HN1.out;omega))).mono ?_
  rintro _ W5 ⟨k5,rfl,hk5,hb5⟩
  have HI5:=ah (HI.out.next hb5)
  have HO5:=ah (HO1.out.next hb5)
  have HK5:=ah (below_others hb5)
  obtain ⟨_,_,_,_,hz5,_⟩:=HI5.out.g
  have HK0:=ah (show k5=0 ↔ m0=0 by rw [hk5.out];exact Int.sign_eq_zero_iff_zero)
  clear hb5 hk5 a0 a1 hz5
  gi_upto_if 24 with fail
  gi_cut [] from 24 (fun wr=>MgW w s A n c (.slice G r k) G1 wr/\KeepsOthers W wr)
  case first =>
   obtain ⟨s5,A5,n5,c5,hz5,ho5⟩:=HI5.out.g
   have HO5':=ah ho5
   have d0:=HI5.out.d.c0
   have d1:=HI5.out.d.c1
   by_cases hk0:k5=0
   ·have HV:=ah (show G1=(d.natAbs:Int) by rw [HG1.out,if_pos (HK0.out.1 hk0)])
    subst hk0
    clear hz5 ho5
    gi_wp2_with fail
    refine ⟨trivial,?_⟩
    refine (callsIn_wide.2 (abs_any (HX.out _ HI5.out.lo).1 (by omega))).mono ?_
    rintro _ W7 ⟨s7,A7,n7,c7,y7,rfl,ho7,hy7,hb7⟩
    have hI7:=HI5.out.next hb7
    obtain ⟨_,_,_,_,hz7,_⟩:=hI7.g
    have f0:=hz7.fz 0
    have f1:=hz7.fz 1
    have b0:=hz7.c0
    have b1:=hz7.c1
    have HP:=ah (hI7.put (ho7.base (b':=w.heap.size) HI5.out.lo.size))
    have HKK:=ah (HK5.out.trans (HI5.out.kept hb7 (.bool s7) (.slice A7 n7 c7)).1)
    have HY:=ah (show y7=G1 by rw [hy7.out,HV.out])
    clear hI7 hz7 hb7 ho7 hy7 d0 d1
    gi_wp2
    gi_meet
    exact ⟨by rw [<- HY.out];exact HP.out,HKK.out⟩
   ·have hkb:(k5 == 0)=false:=by simpa using hk0
    have HV:=ah (show G1=(Int.gcd m0 d:Int) by rw [HG1.out,if_neg (fun e=>hk0 (HK0.out.2 e))])
    obtain ⟨W6,HW6⟩:∃ W',W'=W5.alloc (.cells #[.bool s5,.slice A5 n5 c5,.bool s,.slice A n c] 25):=⟨_,rfl⟩
    have HZS:=ah (zs_two (N:=400000000000) ho5.rd (HX.out _ HI5.out.lo).1 (by rw [ho5.len];exact HZL.out) hn HW6)
    have hb6:Below W5.heap.size W5 W6:=by rw [HW6];exact bA
    have HB6:=ah hb6
    have a0:=hz5.c0
    have a1:=hz5.c1
    have HW6:=ah HW6
    clear hz5 ho5 hb6 hk0
    gi_wp2_with fail
    refine ⟨trivial,?_⟩
    rw [<- HW6.out]
    clear HW6 a0 a1 d0 d1
    clear HW6
    refine (callsIn_wide.2 (gcdl_any HZS.out (by decide))).mono ?_
    rintro _ W7 ⟨s7,A7,n7,c7,y7,rfl,ho7,hy7,hb7⟩
    have hb57:=HB6.out.trans (hb7.mono HB6.out.size)
    have hI7:=HI5.out.next hb57
    obtain ⟨_,_,_,_,hz7,_⟩:=hI7.g
    have f0:=hz7.fz 0
    have f1:=hz7.fz 1
    have b0:=hz7.c0
    have b1:=hz7.c1
    have HP:=ah (hI7.put (ho7.base (b':=w.heap.size) (nT HI5.out.lo.size HB6.out.size)))
    have HKK:=ah (HK5.out.trans (HI5.out.kept hb57 (.bool s7) (.slice A7 n7 c7)).1)
    have HY:=ah (show y7=G1 by rw [hy7.out,Qz.gcd_list,HV.out])
    clear hI7 hz7 hb7 hb57 ho7 hy7
    gi_wp2
    gi_meet
    exact ⟨by rw [<- HY.out];exact HP.out,HKK.out⟩
  case rest =>
   have HI6:=ah hcut.1
   have HK6:=ah hcut.2
   have HWC:=ah (show w.heap.size+4<=wc.heap.size from hcut.1.s)
   clear hcut HI5 HO5 HK5 HI HO1
   have d0:=HI6.out.d.c0
   have d1:=HI6.out.d.c1
   gi_wp2_with fail
   refine ⟨trivial,?_⟩
   refine (callsIn_wide.2 (sign_any (HX.out _ HI6.out.lo).1 (by omega))).mono ?_
   rintro _ W7 ⟨k7,rfl,hk7,hb7⟩
   have HI7:=ah (HI6.out.next hb7)
   have HK7:=ah (HK6.out.trans (below_others hb7))
   have HSG:=ah (show k7 < 0 ↔ d < 0 by rw [hk7.out];exact Int.sign_neg_iff)
   obtain ⟨GG,hGG⟩:∃ GG,GG=mG d (zss RR):=⟨_,rfl⟩
   have HGG:=ah (show GG=if d < 0 then -G1 else G1 by rw [hGG];unfold mG;rw [<- HM0.out,<- HG1.out])
   have HGGD:=ah hGG
   clear d0 d1 hb7 hk7 hGG
   gi_upto_if 33 with fail
   gi_cut [] from 33 (fun wr=>MgW w s A n c (.slice G r k) GG wr/\KeepsOthers W wr)
   case first =>
    obtain ⟨s8,A8,n8,c8,hz8,ho8⟩:=HI7.out.g
    have HO8:=ah ho8
    by_cases hneg:k7 < 0
    ·have HV:=ah (show GG=-G1 by rw [HGG.out,if_pos (HSG.out.1 hneg)])
     have a0:=hz8.c0
     have a1:=hz8.c1
     clear hz8 ho8
     gi_wp2_with fail
     refine ⟨trivial,?_⟩
     refine (callsIn_wide.2 (neg_any HO8.out.rd (by rw [HO8.out.len];have:=HGL.out;omega))).mono ?_
     rintro _ W9 ⟨s9,A9,n9,c9,y9,rfl,ho9,hy9,hb9⟩
     have hI9:=HI7.out.next hb9
     obtain ⟨_,_,_,_,hz9,_⟩:=hI9.g
     have f0:=hz9.fz 0
     have f1:=hz9.fz 1
     have b0:=hz9.c0
     have b1:=hz9.c1
     have HP:=ah (hI9.put (ho9.base (b':=w.heap.size) HI7.out.lo.size))
     have HKK:=ah (HK7.out.trans (HI7.out.kept hb9 (.bool s9) (.slice A9 n9 c9)).1)
     have HY:=ah (show y9=GG by rw [hy9.out,HV.out])
     clear hI9 hz9 hb9 ho9 hy9 a0 a1
     gi_wp2
     gi_meet
     exact ⟨by rw [<- HY.out];exact HP.out,HKK.out⟩
    ·have HV:=ah (show GG=G1 by rw [HGG.out,if_neg (fun e=>hneg (HSG.out.2 e))])
     have hnb:0<=k7:=by omega
     clear hneg hz8 ho8
     gi_wp2
     gi_meet
     exact ⟨by rw [HV.out];exact HI7.out,HK7.out⟩
   case rest =>
    have HI8:=ah hcut.1
    have HK8:=ah hcut.2
    have HGL2:=ah (show Zz.zl GG<=400000000000 by
     rw [HGG.out]
     split
     ·rw [Zz.zl_neg];exact HGL.out
     ·exact HGL.out)
    have HGNE:=ah (show GG ≠ 0 by rw [HGGD.out];exact mG_ne HD0.out)
    have HGDV:=ah (show GG ∣ d by rw [HGGD.out];exact mG_den _ _)
    have HSW:=ah hcut.1.s
    clear hcut HI7 HK7 HI6 HK6 HWC
    obtain ⟨W8,HW8⟩:∃ W',W'=wc.alloc (.cells #[.bool false,.slice none 0 0,.slice none 0 0] 28):=⟨_,rfl⟩
    have hb8:Below wc.heap.size wc W8:=by rw [HW8];exact bA
    have hM8:MC W8 wc.heap.size false none 0 0 none 0 0:=by rw [HW8];exact MC.new wc false none 0 0 none 0 0
    have HI9:=ah (HI8.out.next hb8)
    have HK9:=ah (HK8.out.trans (below_others hb8))
    have HM9:=ah hM8
    obtain ⟨s2,A2,n2,c2,hz2',ho2⟩:=HI9.out.g
    have HO2:=ah ho2
    have d0:=HI9.out.d.c0
    have d1:=HI9.out.d.c1
    have a0:=hz2'.c0
    have a1:=hz2'.c1
    rw [HW8] at d0 d1 a0 a1
    have HW8:=ah HW8
    obtain ⟨go,hgo⟩:∃ go,go=wc.heap.size:=⟨_,rfl⟩
    have HGO:=ah (show w.heap.size+4<=go/\go < W8.heap.size from ⟨by rw [hgo];exact HSW.out,by rw [hgo];exact hM8.lt⟩)
    have HGQ:=ah hgo
    clear hb8 hM8 hz2' ho2 hgo HI8 HK8
    gi_wp2_with fail
    refine ⟨trivial,?_⟩
    rw [<- HW8.out]
    rw [<- HGQ.out] at HM9 ⊢
    clear HW8 d0 d1 a0 a1
    clear HW8
    refine (callsIn_wide.2 (exact_any (HX.out _ HI9.out.lo).1 HO2.out.rd (by omega) (by rw [HO2.out.len];have:=HGL2.out;omega) HGNE.out)).mono ?_
    rintro _ V1 ⟨s3,A3,n3,c3,q3,e3,rfl,ho3,hq3,hv1⟩
    have HQ3:=ah (show q3=d.tdiv GG by
     rcases hq3.out with ⟨_,f2,_⟩ | ⟨f1,_,_⟩
     ·exact f2
     ·exact absurd (Int.tmod_eq_zero_of_dvd HGDV.out) f1)
    have hM1:=HM9.out.next hv1
    have b0:=hM1.c0
    have b1:=hM1.c1
    have b2:=hM1.c2
    have f0:=hM1.fz 0
    have f1:=hM1.fz 1
    have hI1:=HI9.out.next hv1
    have hI1a:=hI1.far HGO.out.1 hM1 0 (.bool s3)
    have HMD:=ah (hM1.den s3 A3 n3 c3)
    have hM1a:MC (V1.setCell ⟨go,0,none⟩ (.bool s3)) go s3 none 0 0 none 0 0:=by
     unfold MC at hM1 ⊢
     simp [World.setCell,Array.getElem?_modify,hM1]
    have HIV:=ah (hI1a.far HGO.out.1 hM1a 1 (.slice A3 n3 c3))
    have HO3:=ah (show OwZ ((V1.setCell ⟨go,0,none⟩ (.bool s3)).setCell ⟨go,1,none⟩ (.slice A3 n3 c3)) w.heap.size s3 A3 n3 c3 (d.tdiv GG) by
     rw [<- HQ3.out]
     exact ((ho3.base HI9.out.lo.size).keep (keepI_mc hM1 0 (.bool s3)).1).keep (keepI_mc hM1a 1 (.slice A3 n3 c3)).1)
    have HKV:=ah (((HK9.out.trans (below_others hv1)).trans (KeepsOthers.setCell _ ⟨go,0,none⟩ (.bool s3))).trans (KeepsOthers.setCell _ ⟨go,1,none⟩ (.slice A3 n3 c3)))
    have HSV:=ah (show go < ((V1.setCell ⟨go,0,none⟩ (.bool s3)).setCell ⟨go,1,none⟩ (.slice A3 n3 c3)).heap.size by
     have h1:=HGO.out.2
     have h2:=hv1.size
     simp [World.setCell]
     omega)
    clear hM1 hI1 hI1a hM1a ho3 hq3 hv1 HM9 HI9 HK9
    gi_wp2_with fail
    refine ⟨trivial,?_⟩
    generalize (V1.setCell ⟨go,0,none⟩ (.bool s3)).setCell ⟨go,1,none⟩ (.slice A3 n3 c3)=V2 at *
    clear b0 b1 b2 f0 f1
    refine (callsIn_wide.2 (cols_any (HX.out _ HIV.out.lo).2 hr)).mono ?_
    rintro _ V3 ⟨v3,rfl,hv3,hb3⟩
    have HV3:=hv3
    have HM3:=ah (HMD.out.next hb3)
    have HI3:=ah (HIV.out.next hb3)
    have HO3':=ah (HO3.out.next hb3)
    have HK3:=ah (HKV.out.trans (below_others hb3))
    have HS3:=ah (Nat.lt_of_lt_of_le HSV.out hb3.size)
    clear hv3 hb3 HMD HIV HO3 HKV HSV
    gi_upto_if 46 with fail
    gi_cut [] from 46 (fun wr=>∃ (s4:Bool) (A4:Option Addr) (n4 c4:Nat),MC wr go s4 A4 n4 c4 none 0 0/\OwZ wr w.heap.size s4 A4 n4 c4 (d.tdiv GG)/\MgW w s A n c (.slice G r k) GG wr/\KeepsOthers W wr/\go < wr.heap.size)
    case first =>
     by_cases hc0:v3=0
     ·have HD1:=ah (show d.tdiv GG=1 by
       have e1:d=1:=HC.out.resolve_left (fun e=>e (by have:=HV3.out;omega))
       rw [HGGD.out,e1,mG_one',Int.tdiv_one])
      subst hc0
      gi_wp2_with fail
      refine ⟨trivial,?_⟩
      refine (callsIn_wide.2 (of_any 1 (by decide) (by decide) _)).mono ?_
      rintro _ V5 ⟨s5,A5,n5,c5,y5,rfl,ho5,hy5,hb5⟩
      have hM5:=HM3.out.next hb5
      have b0:=hM5.c0
      have b1:=hM5.c1
      have f0:=hM5.fz 0
      have f1:=hM5.fz 1
      have hI5:=HI3.out.next hb5
      have hI5a:=hI5.far HGO.out.1 hM5 0 (.bool s5)
      have HMD5:=ah (hM5.den s5 A5 n5 c5)
      have hM5a:MC (V5.setCell ⟨go,0,none⟩ (.bool s5)) go s5 A3 n3 c3 none 0 0:=by
       unfold MC at hM5 ⊢
       simp [World.setCell,Array.getElem?_modify,hM5]
      have HIV5:=ah (hI5a.far HGO.out.1 hM5a 1 (.slice A5 n5 c5))
      have HO5:=ah (show OwZ ((V5.setCell ⟨go,0,none⟩ (.bool s5)).setCell ⟨go,1,none⟩ (.slice A5 n5 c5)) w.heap.size s5 A5 n5 c5 (d.tdiv GG) by
       rw [HD1.out,<- hy5.out]
       exact ((ho5.base HI3.out.lo.size).keep (keepI_mc hM5 0 (.bool s5)).1).keep (keepI_mc hM5a 1 (.slice A5 n5 c5)).1)
      have HK5:=ah (((HK3.out.trans (below_others hb5)).trans (KeepsOthers.setCell _ ⟨go,0,none⟩ (.bool s5))).trans (KeepsOthers.setCell _ ⟨go,1,none⟩ (.slice A5 n5 c5)))
      have HS5:=ah (show go < ((V5.setCell ⟨go,0,none⟩ (.bool s5)).setCell ⟨go,1,none⟩ (.slice A5 n5 c5)).heap.size by
       have h1:=HS3.out
       have h2:=hb5.size
       simp [World.setCell]
       omega)
      clear hM5 hI5 hI5a hM5a ho5 hy5 hb5
      gi_wp2
      gi_meet
      exact ⟨_,_,_,_,HMD5.out,HO5.out,HIV5.out,HK5.out,HS5.out⟩
     ·have hvb:(v3 == 0)=false:=by simpa using hc0
      gi_wp2
      gi_meet
      exact ⟨_,_,_,_,HM3.out,HO3'.out,HI3.out,HK3.out,HS3.out⟩
    clear HM3 HI3 HO3' HK3 HS3
    obtain ⟨s3,A3,n3,c3,hM4,ho4,hI4,hK4,hs4⟩:=hcut
    obtain ⟨V3,rfl⟩:∃ V,V=wc:=⟨_,rfl⟩
    have HM3:=ah hM4
    have HO3':=ah ho4
    have HI3:=ah hI4
    have HK3:=ah hK4
    have HS3:=ah hs4
    clear hM4 ho4 hI4 hK4 hs4
    gi_wp2_with fail
    gi_loopw [51] (fun iv wr=>∃ (j:Nat) (A':Option Addr) (c':Nat),iv=.int .i64 (j:Int)/\j<=r/\MC wr go s3 A3 n3 c3 A' j c'/\OwZ wr w.heap.size s3 A3 n3 c3 (d.tdiv GG)/\OwMs wr V3.heap.size A' j c' (((zss RR).take j).map (fun L=>L.map fun x=>x.tdiv GG))/\MgW w s A n c (.slice G r k) GG wr/\KeepsOthers W wr/\V3.heap.size<=wr.heap.size) (fun iv _=>r-(intOf iv).toNat)
    case atStart=>exact ⟨0,none,0,rfl,nZ,HM3.out,HO3'.out,OwMs.nil _ _,HI3.out,HK3.out,nR⟩
    case round =>
     obtain ⟨j,A',c',rfl,hj,hMg,hoz,hom,hI,hK,hsz3⟩:=hrel
     by_cases hjr:j=r
     ·have HOM:=ah (show OwMs wr V3.heap.size A' j c' (mN d (zss RR)) by
       have e:(zss RR).take j=zss RR:=List.take_of_length_le (by unfold zss;rw [List.length_map,HL.out,hjr];exact nR)
       rw [e] at hom
       unfold mN
       rw [<- HGGD.out]
       exact hom)
      subst hjr
      have hMz:=hI.r
      have a0:=hMg.c0
      have a1:=hMg.c1
      have a2:=hMg.c2
      have r0:=hMz.c0
      have r1:=hMz.c1
      have r2:=hMz.c2
      have f0:=hMz.fz 0
      have f1:=hMz.fz 1
      have f2:=hMz.fz 2
      have HS:=ah (hMz.store s3 A3 n3 c3 A' j c')
      have HU:=ah (hoz.keep (keepI_put hMz s3 A3 n3 c3 A' j c').1)
      have HQ:=ah ((HOM.out.put hMz (show w.heap.size+1 < V3.heap.size by have:=HGO.out;have:=HS3.out;omega) s3 A3 n3 c3 A' j c').base (b':=w.heap.size) (by have:=HGO.out;have:=HS3.out;omega))
      have HF:=ah (below_putM hI.lo (show w.heap.size<=w.heap.size+1 by omega) s3 A3 n3 c3 A' j c')
      have HKD:=ah (HD.out _ (((hK.trans (KeepsOthers.setCell _ ⟨w.heap.size+1,0,none⟩ (.bool s3))).trans (KeepsOthers.setCell _ ⟨w.heap.size+1,1,none⟩ (.slice A3 n3 c3))).trans (KeepsOthers.setCell _ ⟨w.heap.size+1,2,none⟩ (.slice A' j c'))))
      unfold putM at HS HU HQ HF
      clear hMg hMz hoz hom hI hK
      gi_wp2_with fail
      generalize ((wr.setCell ⟨w.heap.size+1,0,none⟩ (.bool s3)).setCell ⟨w.heap.size+1,1,none⟩ (.slice A3 n3 c3)).setCell ⟨w.heap.size+1,2,none⟩ (.slice A' j c')=W9 at *
      have hdr:∀ q,some D=some q->∃ o:Obj,W9.heap[q]?=some o/\o.isCells=false:=fun q e=>by cases e;exact ⟨_,HKD.out,rfl⟩
      have z0:=cell_kept HS.out.c0 (grownBy_putObj' _ D (.deferred none)) hdr
      have z1:=cell_kept HS.out.c1 (grownBy_putObj' _ D (.deferred none)) hdr
      have z2:=cell_kept HS.out.c2 (grownBy_putObj' _ D (.deferred none)) hdr
      have hkc:=keepC_own (grownBy_putObj' W9 D (.deferred none)) hdr
      refine ⟨by simp,.inl ⟨_,_,rfl,run_takeDeferred HKD.out,?_⟩⟩
      refine ⟨.agg #[.bool s3,.slice A3 n3 c3,.slice A' j c'],by simp [results,Tryz.f120,go_sem,z0,z1,z2],s3,A3,n3,c3,A',j,c',_,_,rfl,HU.out.keep hkc.q.1,HQ.out.keepC hkc,ah ⟨by rw [HGGD.out],rfl⟩,?_⟩
      exact HF.out.trans (belowK_b (w:=w) nR _ D _ _ (by have:=HDD.out;omega) HKD.out rfl rfl)
     ·have hjl:j < r:=by omega
      have hjli:(j:Int) < (r:Int):=by omega
      clear hjr
      obtain ⟨wo,rfl⟩:∃ V,V=wr:=⟨_,rfl⟩
      obtain ⟨ad,A1,n1,c1,R,rfl,hbk,hx,hr1,hn1,hp⟩:=rss_at (HX.out wo hI.lo).2 hjl
      have hmk:=fun W:World=>make_iroom n1 (by omega) W
      obtain ⟨W6,HW6⟩:∃ W',W'=wo.alloc (.cells (madeCells #[.bool false,.slice none 0 0] (n1*2)) 25):=⟨_,rfl⟩
      have hb6:Below wo.heap.size wo W6:=by rw [HW6];exact bA
      have HO6:=ah (show OwZs W6 wo.heap.size (some ⟨wo.heap.size,0,none⟩) 0 n1 [] by rw [HW6];exact OwZs.room wo n1 (by unfold maxLen;omega))
      have HMG:=ah hMg
      have HOZ:=ah hoz
      have HOM:=ah hom
      have HIO:=ah hI
      have HKO:=ah hK
      have HB6:=ah hb6
      have HSZ3:=ah hsz3
      have HRR:=ah (cJ hr1 hr1.len)
      have HJL:=ah (show j+1<=1048576 by omega)
      have HW6:=ah HW6
      clear hMg hoz hom hI hK hb6 hr1 hsz3
      gi_wp2_with fail
      rw [<- HW6.out]
      clear HW6 hx
      clear HW6
      clear hmk
      gi_loopw [10,60] (fun ov iv wx=>∃ (i c5:Nat) (A5:Option Addr),ov=.slice A5 i c5/\iv=.int .i64 (i:Int)/\i<=n1/\OwZs wx wo.heap.size A5 i c5 (((R.take i).map toZ).map fun x=>x.tdiv GG)/\Below wo.heap.size wo wx) (fun _ iv _=>n1-(intOf iv).toNat)
      case atStart=>exact ⟨0,n1,_,rfl,rfl,nZ,HO6.out,HB6.out⟩
      case round =>
       obtain ⟨i,c5,A5,rfl,rfl,hi5,ho5,hB5⟩:=hrel
       by_cases hin:i=n1
       ·have HO5:=ah (show OwIp wr V3.heap.size A5 i c5 ((R.map toZ).map fun x=>x.tdiv GG) by
         rw [List.take_of_length_le (l:=R) (i:=i) (by rw [HRR.out.2,hin];exact nR)] at ho5
         exact ho5.ip.base HSZ3.out)
        have HB5:=ah hB5
        have HMW:=ah (HMG.out.next hB5)
        have HZW:=ah (HOZ.out.next hB5)
        have HIW:=ah (HIO.out.next hB5)
        obtain ⟨E,hE,hEl,hEn⟩:=HOM.out.next hB5
        have HE:=ah hE
        have HEN:=ah (cJ hEl hEn)
        have m2:=HMW.out.c2
        subst hin
        clear ho5 hB5 hE hEl hEn
        gi_wp2_with (gi_at_builtin;refine wpListIn_append_own _ rfl _ _ 26 rfl V3.heap.size 65 i1 (.slice none 0 0) 1 24 Tryz.underlying26 hjf hy0 hy1 hy2 rfl (by decide) _ _ _ rfl (HE.out.alloc _) ⟨wr.heap.size,0,none⟩ 1 1 [.slice A5 i c5] rfl rfl (scell_new wr (.slice A5 i c5) 65) (by simp [Value.oneCell']) (by have:=HJL.out;unfold maxLen;omega) (by have:=HJL.out;omega) (by have h1:=HB5.out.size;have h2:=HSZ3.out;simp;omega) ?_;intro v' w1 hown' hgrow _;obtain ⟨A9,c9,rfl,ho9⟩:=ms_more (e:=(A5,i,c5)) (L:=(R.map toZ).map fun x=>x.tdiv GG) HO5.out rfl (HE.out.alloc _) HEN.out.1 (HEN.out.2.next (bR.alloc nR (.cells #[.slice A5 i c5] 65))) hown' hgrow;have hM9:=MC.grown (HMW.out.alloc (.cells #[.slice A5 i c5] 65)) (HE.out.alloc _) hgrow;have m9:=hM9.c2;have fz9:=hM9.fz 2;have HO9:=ah ho9;have HM9:=ah hM9;have HGW:=ah hgrow;clear hown' ho9 hM9 hgrow)
        have hba:Below wr.heap.size wr (wr.alloc (.cells #[.slice A5 i c5] 65)):=bA
        have hlt:go < V3.heap.size:=HS3.out
        have HNM:=ah (HM9.out.num A9 (j+1) c9)
        have HZ9:=ah (((HZW.out.next hba).keep (keepI_grown (HE.out.alloc _) HGW.out).1).keep (keepI_mc HM9.out 2 (.slice A9 (j+1) c9)).1)
        have HN9:=ah (HO9.out.num HM9.out hlt (.slice A9 (j+1) c9))
        have HTK:=ah (mN_take hp.out GG)
        have HI9':=ah (((HIW.out.next hba).grown (HE.out.alloc _) (by have:=HGO.out;omega) HGW.out rfl).far HGO.out.1 HM9.out 2 (.slice A9 (j+1) c9))
        have HK9':=ah ((((HKO.out.trans (below_others HB5.out)).trans (below_others hba)).trans (others_append (HE.out.alloc _) HGW.out)).trans (KeepsOthers.setCell _ ⟨go,2,none⟩ (.slice A9 (j+1) c9)))
        have HS9:=ah (show V3.heap.size<=(w1.setCell ⟨go,2,none⟩ (.slice A9 (j+1) c9)).heap.size by
         have h1:=HGW.out.size
         have h2:=HB5.out.size
         have h3:=HSZ3.out
         simp [World.setCell] at h1 ⊢
         omega)
        clear m2 m9 fz9 hba hlt
        gi_wp2
        go_roundw
        case rel=>exact ⟨j+1,A9,c9,by go_num,by omega,HNM.out,HZ9.out,by rw [<- HTK.out];exact HN9.out,HI9'.out,HK9'.out,HS9.out⟩
        case measure=>simp [intOf];omega
       ·have hil:i < n1:=by omega
        have hili:(i:Int) < (n1:Int):=by omega
        clear hin
        obtain ⟨ad2,s6,M6,A6,n6,c6,rfl,hbk6,hz60,hz61,hr6,hn6,hp6⟩:=rs_at (HRR.out.1.next hB5) hil
        obtain ⟨W7,HW7⟩:∃ W',W'=wr.alloc (.cells #[.bool s6,.slice A6 n6 c6] 25):=⟨_,rfl⟩
        have hb7:Below wr.heap.size wr W7:=by rw [HW7];exact bA
        have hb57:=hB5.trans (hb7.mono hB5.size)
        obtain ⟨s2',A2',n2',c2',hz7,ho7⟩:=(HIO.out.next hb57).g
        have HZ7:=ah (cJ (show RdZ W7 W7.heap.size s6 A6 n6 c6 (toZ (s6,M6)) from ⟨M6,hr6.next hb7,rfl⟩) ho7)
        have HO7:=ah (ho5.next hb7)
        have HB7:=ah hb57
        have HDV:=ah (show GG ∣ toZ (s6,M6) by
         rw [HGGD.out]
         exact mG_num (L:=R.map toZ) (List.mem_map.2 ⟨R,gM hp.out,rfl⟩) (List.mem_map.2 ⟨_,gM hp6.out,rfl⟩))
        have a0:=hz7.c0
        have a1:=hz7.c1
        rw [HW7] at a0 a1
        have HW7:=ah HW7
        clear hb7 hb57 hz7 ho7 hr6 ho5 hB5
        gi_wp2_with fail
        refine ⟨trivial,?_⟩
        rw [<- HW7.out]
        clear HW7 a0 a1 hz60 hz61
        clear HW7
        refine (callsIn_wide.2 (exact_any HZ7.out.1 HZ7.out.2.rd (by omega) (by rw [HZ7.out.2.len];have:=HGL2.out;omega) HGNE.out)).mono ?_
        rintro _ W8 ⟨s8,A8,n8,c8,y8,e8,rfl,ho8,hy8,hb8⟩
        obtain ⟨W9,HW9⟩:∃ W',W'=W8.alloc (.cells #[.bool s8,.slice A8 n8 c8] 25):=⟨_,rfl⟩
        have hb9:Below W8.heap.size W8 W9:=by rw [HW9];exact bA
        have hB9:=HB7.out.trans ((hb8.trans (hb9.mono hb8.size)).mono HB7.out.size)
        obtain ⟨E,hE,hEl,hEn⟩:=(HO7.out.next hb8).next hb9
        have HO9:=ah ((ho8.base (b':=wo.heap.size) HB7.out.size).next hb9)
        rw [HW9] at hE hB9 hEn
        rw [HW9] at HO9
        have HE:=ah hE
        have HEN:=ah (cJ hEl hEn)
        have HY:=ah (show (((R.take i).map toZ).map fun x=>x.tdiv GG) ++ [y8]=((R.take (i+1)).map toZ).map fun x=>x.tdiv GG by
         rcases hy8.out with ⟨_,f2,_⟩ | ⟨f1,_,_⟩
         ·rw [f2];exact tdiv_take hp6.out GG
         ·exact absurd (Int.tmod_eq_zero_of_dvd HDV.out) f1)
        have HB9:=ah hB9
        clear hE hEl hEn hb8 ho8 hb9 hB9 hy8
        clear HW9
        gi_wp2_with (gi_at_builtin;refine wpListIn_append_own _ rfl _ _ 65 rfl wo.heap.size 25 i0 (.agg #[.bool false,.slice none 0 0]) 2 32 Tryz.underlying65 hi hz0 hz1 hz2 rfl (by decide) _ _ _ rfl (HE.out.alloc _) ⟨W8.heap.size+1,0,none⟩ 1 1 [.bool s8,.slice A8 n8 c8] rfl rfl (by simpa using zcell_new (W8.alloc (.cells #[.bool s8,.slice A8 n8 c8] 25)) (.bool s8) (.slice A8 n8 c8) 25) (by simp [Value.oneCell']) (by unfold maxLen;omega) (by omega) (by have:=HB9.out.size;simp at this ⊢;omega) ?_;intro v' w1 hown' hgrow _;obtain ⟨A9,c9,rfl,ho9⟩:=zs_more (e:=(s8,A8,n8,c8)) (z:=y8) HO9.out rfl (HE.out.alloc _) HEN.out.1 HEN.out.2 hown' hgrow;have HN9:=ah ho9;have HBF:=ah ((HB9.out.alloc HB9.out.size (.cells #[.bool s8,.slice A8 n8 c8] 25)).grown hgrow (by have:=HB9.out.size;simp at this ⊢;omega) (own_block HE.out));clear hown' hgrow ho9)
        gi_wp2
        go_roundw
        case rel=>exact ⟨i+1,c9,A9,rfl,by go_num,by omega,by rw [<- HY.out];exact HN9.out,HBF.out⟩
        case measure=>simp [intOf];omega
theorem mmade_any {N K:Nat}{s:Bool}{A G:Option Addr}{n c r k:Nat}{d:Int}{RR:List RawRow}{w:World}(h:RdZ w w.heap.size s A n c d)(h':RdRss w w.heap.size N K G r k RR)(hd:d ≠ 0)(hn:n<=400000000000)(hN:N<=400000000000)(hr:r<=1048576)(hK:K<=1048576)(hc:colsOf RR ≠ 0) :
  Calls Tryz.prog 120 #[.agg #[.bool s,.slice A n c],.slice G r k] w (RetMt (d.tdiv (mG d (zss RR))) (mN d (zss RR)) w):=mmadeG_any h h' hd hn hN hr hK (.inl hc)
end Go.Proofs.YtjnklbfhelbjgaaGreat
namespace Go.Proofs.YtjnklbfhelbjgaaGreat
open Go.RowKit Go.IntWalk
attribute [local go_sem ↓] Go.wp_at_zero Go.wp_at_succ
theorem common_any {N M:Nat}{A:Option Addr}{n c:Nat}{L:List Rat}{w:World}(h:RdQs w w.heap.size N A n c (L.map pr))(hS:∀ j,Zz.zl (denF 1 (L.take j))<=M)(hn:n<=1048576)(hN:N<=200000000000)(hM:M<=200000000000)(h1N:1<=N) :
  Calls Tryz.prog 118 #[.slice A n c] w fun e w'=>∃ (s:Bool) (A:Option Addr) (n c:Nat) (y:Int) (A':Option Addr) (n' c':Nat) (P:List Int) (kk:Int),e=.returned (.tuple #[.agg #[.bool s,.slice A n c],.slice A' n' c',.int .i64 kk])/\OwZ w' w.heap.size s A n c y/\OwZs w' w.heap.size A' n' c' P/\Hid (y=denL L/\P=numL L/\kk=0)/\Below w.heap.size w w':=by
 have heg:=enters_of Tryz.func170 (by kernel_rfl) rfl
 have HSL:=ah (h.szp h1N)
 have HS:=ah hS
 obtain ⟨W1,HW1⟩:∃ W,W=w.alloc (.cells #[.bool false,.slice none 0 0] 25):=⟨_,rfl⟩
 have hR:ZC W1 w.heap.size false none 0 0:=by rw [HW1];exact ZC.new w false none 0 0
 have hB:Below w.heap.size w W1:=by rw [HW1];exact (Below.refl w.heap.size w).alloc nR _
 have HW1:=ah HW1
 have h1:=h.next hB
 clear hS
 go_enter Tryz.func118,Tryz.ntmps118
 go_wp2_with fail
 rw [<- HW1.out]
 clear HW1
 clear HW1
 refine (made_common (d:=denL L) (P:=numL L) h1 hn (by omega) (fun p hp=>by
  obtain ⟨x,_,rfl⟩:=List.mem_map.1 hp
  exact pr_ne x) heg (fun W A' c' b hb _ ho=>by
  rw [map_qval_pr] at ho
  exact common_in ho HSL.out.mem HS.out hn hN hM h1N)).mono ?_
 rintro _ W2 ⟨s2,A2,n2,c2,y,A3,n3,c3,P,kk,rfl,ho,hoz,hy,hb2⟩
 obtain ⟨W3,HW3⟩:∃ W,W=W2.alloc (.cells #[.bool s2,.slice A2 n2 c2,.slice A3 n3 c3] 194):=⟨_,rfl⟩
 have hb3:Below W2.heap.size W2 W3:=by rw [HW3];exact bA
 have hC:CC W3 W2.heap.size s2 A2 n2 c2 A3 n3 c3:=by rw [HW3];exact CC.new W2 s2 A2 n2 c2 A3 n3 c3
 have hb13:=hb2.trans (hb3.mono hb2.size)
 have hR3:=hR.next hb13
 have HB3:=ah (hB.trans (hb13.mono hB.size))
 have HLT:=ah (show w.heap.size < W1.heap.size/\W1.heap.size<=W2.heap.size from ⟨hR.lt,hb2.size⟩)
 have HO3:=ah (cJ (ho.next hb3) (hoz.next hb3))
 have q0:=hC.c0
 have q1:=hC.c1
 have q2:=hC.c2
 have HC:=ah hC
 have HR:=ah hR3
 have HW3:=ah HW3
 clear ho hoz hb2 hb3 hb13 hR hB h1 h hC hR3
 go_upto_region 2 with fail
 rw [<- HW3.out]
 clear HW3
 clear HW3
 generalize W2.heap.size=gc at *
 have r0:=HR.out.c0
 have r1:=HR.out.c1
 have f0:=HR.out.fz 0
 have f1:=HR.out.fz 1
 have HD:=ah (cJ (HC.out.next (Below.refl W3.heap.size W3).drew) (HR.out.next (Below.refl W3.heap.size W3).drew))
 have d0:=HD.out.1.c0
 have d1:=HD.out.1.c1
 have d2:=HD.out.1.c2
 have d3:=HD.out.2.c0
 have d4:=HD.out.2.c1
 have d5:=HD.out.2.fz 0
 have d6:=HD.out.2.fz 1
 have hF:=(HD.out.1.far (p:=⟨w.heap.size,0,none⟩) (by have:=HLT.out;simp;omega) (.bool s2)).far (p:=⟨w.heap.size,1,none⟩) (by have:=HLT.out;simp;omega) (.slice A2 n2 c2)
 have e2:=hF.c2
 have hlt:w.heap.size < W1.heap.size:=HLT.out.1
 have HO9:=ah (cJ (((HO3.out.1.keep (keep_set2 HR.out (.bool s2) (.slice A2 n2 c2))).next bR.drew).base (Nat.le_of_lt hlt)) ((((HO3.out.2.far (p:=⟨w.heap.size,0,none⟩) hlt (.bool s2)).far (p:=⟨w.heap.size,1,none⟩) hlt (.slice A2 n2 c2)).next bR.drew).base (Nat.le_of_lt hlt)))
 have HR9:=ah ((HR.out.store s2 A2 n2 c2).next bR.drew)
 have hB9:=below_put2 HB3.out (Nat.le_refl w.heap.size) (.bool s2) (.slice A2 n2 c2)
 have HB9:=ah (hB9.trans (bR.drew.mono hB9.size))
 clear hB9
 clear hF hlt
 go_region_with (fail)
 all_goals
  clear q0 q1 q2 r0 r1 f0 f1 d0 d1 d2 d3 d4 d5 d6 e2
  go_wp2
  generalize ((W3.setCell ⟨w.heap.size,0,none⟩ (.bool s2)).setCell ⟨w.heap.size,1,none⟩ (.slice A2 n2 c2)).drew=W9 at *
  have z0:=HR9.out.c0
  have z1:=HR9.out.c1
  exact bodyPost_ret (by simp [results,Tryz.results118,go_sem,z0,z1]) rfl ⟨s2,A2,n2,c2,y,A3,n3,c3,P,kk,rfl,HO9.out.1,HO9.out.2,hy,HB9.out⟩
def RetPt (d:Int)(P:List Int)(w:World)(e:Ending)(w':World):Prop :=
 ∃ (s:Bool) (A:Option Addr) (n c:Nat) (y:Int) (A':Option Addr) (n' c':Nat) (Q:List Int),e=.returned (.tuple #[.agg #[.bool s,.slice A n c],.slice A' n' c'])/\OwZ w' w.heap.size s A n c y/\OwZs w' w.heap.size A' n' c' Q/\Hid (y=d/\Q=P)/\Below w.heap.size w w'
theorem parts_any {N M:Nat}{A:Option Addr}{n c:Nat}{L:List Rat}{w:World}(h:RdQs w w.heap.size N A n c (L.map pr))(hS:∀ j,Zz.zl (denF 1 (L.take j))<=M)(hn:n<=1048576)(hN:N<=200000000000)(hM:M<=200000000000)(h1N:1<=N) :
  Calls Tryz.prog 217 #[.slice A n c] w (RetPt (denL L) (numL L) w):=by
 obtain ⟨W1,HW1⟩:∃ W,W=w.alloc (.cells #[.bool false,.slice none 0 0] 25):=⟨_,rfl⟩
 have hR:ZC W1 w.heap.size false none 0 0:=by rw [HW1];exact ZC.new w false none 0 0
 have hB:Below w.heap.size w W1:=by rw [HW1];exact (Below.refl w.heap.size w).alloc nR _
 have HW1:=ah HW1
 have h1:=h.next hB
 go_enter Tryz.func217,Tryz.ntmps217
 go_wp2_with fail
 rw [<- HW1.out]
 clear HW1
 clear HW1
 refine (common_any h1 hS hn hN hM h1N).mono ?_
 rintro _ W2 ⟨s2,A2,n2,c2,y,A3,n3,c3,P,kk,rfl,ho,hoz,hy,hb2⟩
 obtain ⟨W3,HW3⟩:∃ W,W=W2.alloc (.cells #[.bool s2,.slice A2 n2 c2] 25):=⟨_,rfl⟩
 have hb3:Below W2.heap.size W2 W3:=by rw [HW3];exact bA
 have hC:ZC W3 W2.heap.size s2 A2 n2 c2:=by rw [HW3];exact ZC.new W2 s2 A2 n2 c2
 have hb13:=hb2.trans (hb3.mono hb2.size)
 have hR3:=hR.next hb13
 have hB3:=hB.trans (hb13.mono hB.size)
 have hlt:w.heap.size < W1.heap.size:=hR.lt
 have HV:=ah (cJ hy.out.1 hy.out.2.1)
 have HO9:=ah (cJ (((ho.next hb3).keep (keep_set2 hR3 (.bool s2) (.slice A2 n2 c2))).base (Nat.le_of_lt hlt)) ((((hoz.next hb3).far (p:=⟨w.heap.size,0,none⟩) hlt (.bool s2)).far (p:=⟨w.heap.size,1,none⟩) hlt (.slice A2 n2 c2)).base (Nat.le_of_lt hlt)))
 have HR9:=ah (hR3.store s2 A2 n2 c2)
 have HB9:=ah (below_put2 hB3 (Nat.le_refl w.heap.size) (.bool s2) (.slice A2 n2 c2))
 have q0:=hC.c0
 have q1:=hC.c1
 have r0:=hR3.c0
 have r1:=hR3.c1
 have f0:=hR3.fz 0
 have f1:=hR3.fz 1
 rw [HW3] at q0 q1 r0 r1 f0 f1
 have HW3:=ah HW3
 clear ho hoz hb2 hb3 hb13 hR hB h1 h hC hR3 hB3 hlt hy
 go_wp2_with fail
 rw [<- HW3.out]
 clear HW3 q0 q1 r0 r1 f0 f1
 clear HW3
 generalize (W3.setCell ⟨w.heap.size,0,none⟩ (.bool s2)).setCell ⟨w.heap.size,1,none⟩ (.slice A2 n2 c2)=W9 at *
 have z0:=HR9.out.c0
 have z1:=HR9.out.c1
 exact bodyPost_ret (by simp [results,Tryz.results217,go_sem,z0,z1]) rfl ⟨s2,A2,n2,c2,y,A3,n3,c3,P,rfl,HO9.out.1,HO9.out.2,HV,HB9.out⟩
end Go.Proofs.YtjnklbfhelbjgaaGreat
namespace Go.Proofs.YtjnklbfhelbjgaaGreat
open Go.RowKit Go.IntWalk Go.Shelf
section
attribute [local go_sem ↓] Go.wp_at_zero Go.wp_at_succ
theorem evenQ_any {b q:Nat}{A:Option Addr}{n c:Nat}{LL:List (List Rat)}{w:World}(h:OwQss w b A n c LL)(hq:∀ L ∈ LL,L.length=q)(hn:n<=1048576) :
  Calls Tryz.prog 119 #[.slice A n c] w (fun e w'=>e=.returned (.bool true)/\Below w.heap.size w w'):=by
 have H:=ah h
 have HQ:=ah hq
 clear h hq
 go_enter Tryz.func119,Tryz.ntmps119
 go_wp2_with fail
 go_loopw [7] (fun iv wr=>∃ (j:Nat),iv=.int .i64 (j:Int)/\j<=n/\Below w.heap.size w wr) (fun iv _=>n-(intOf iv).toNat)
 case atStart=>exact ⟨0,rfl,nZ,bR⟩
 case round =>
  obtain ⟨j,rfl,hj,hB⟩:=hrel
  by_cases hjn:j=n
  ·subst hjn
   have HB:=ah hB
   clear hB
   go_wp2
   go_ret
   exact ⟨rfl,HB.out⟩
  ·have hjl:j < n:=by omega
   have hjli:(j:Int) < (n:Int):=by omega
   have hn0:(0:Int) < (n:Int):=by omega
   have h0n:0 < n:=by omega
   clear hjn
   obtain ⟨g,A1,n1,c1,L,rfl,hbk,hx,ho,hp⟩:=oql_at (H.out.next hB) hjl
   obtain ⟨g',A2,n2,c2,L0,e,_,hy,ho0,hp0⟩:=oql_at (H.out.next hB) h0n
   injection e with e
   injection e with e _ _
   subst e
   have hn1:n1=q:=by rw [<- ho.len];exact HQ.out L (gM hp.out)
   have hn2:n2=q:=by rw [<- ho0.len];exact HQ.out L0 (gM hp0.out)
   subst hn1
   subst hn2
   have HB:=ah hB
   clear hB ho ho0
   go_wp2
   go_roundw
   case rel=>exact ⟨j+1,by go_num,by omega,HB.out⟩
   case measure=>simp [intOf];omega
end
attribute [local go_sem] Oper.semAt_some
def RetME (d:Int)(LL:List (List Int))(k:Int)(w:World)(e:Ending)(w':World):Prop :=
 ∃ (s:Bool) (A:Option Addr) (n c:Nat) (G:Option Addr) (r q:Nat) (y:Int) (MM:List (List Int)) (kk:Int),e=.returned (.tuple #[.agg #[.bool s,.slice A n c,.slice G r q],.int .i64 kk])/\OwZ w' w.heap.size s A n c y/\OwMs w' w.heap.size G r q MM/\Hid (y=d/\MM=LL/\kk=k)/\Below w.heap.size w w'
abbrev frD (LL:List (List Rat)):Int:=(denL LL.flatten).tdiv (mG (denL LL.flatten) (fromN LL))
abbrev frN (LL:List (List Rat)):List (List Int):=mN (denL LL.flatten) (fromN LL)
theorem zss_ofZ (LL:List (List Int)):zss (LL.map fun L=>L.map ofZ)=LL:=by
 unfold zss
 rw [List.map_map]
 conv=>rhs;rw [<- List.map_id LL]
 refine List.map_congr_left fun L _=>?_
 show (L.map ofZ).map toZ=L
 rw [List.map_map]
 conv=>rhs;rw [<- List.map_id L]
 exact List.map_congr_left fun z _=>toZ_ofZ z
theorem OwIp.rest {w:World}{b n c:Nat}{ad:Addr}{L:List Int}(h:OwIp w b (some ad) n c L){k:Nat}(hk:k<=n):OwIp w b (if c=k then some ad else some (ad.add (k*2))) (n-k) (c-k) (L.drop k):=by
 by_cases hc:c=k
 ·have hn:n=k:=by have:=h.le.1;omega
  subst hc
  subst hn
  rw [if_pos rfl,Nat.sub_self,List.drop_eq_nil_of_le (by rw [h.len];exact nR)]
  exact OwIp.nil w b _ nZ
 ·rw [if_neg hc]
  exact h.drop hk
theorem flat_row {α:Type}{q:Nat}:∀ (MM:List (List α)) (j:Nat) (M:List α),(∀ L ∈ MM,L.length=q)->MM[j]?=some M->(MM.flatten.drop (j*q)).take q=M
 | [],_,_,_,h=>by simp at h
 | L :: MM, 0, M, hq, h => by
   simp at h
   subst h
   have:=hq L (List.mem_cons_self ..)
   rw [Nat.zero_mul,List.drop_zero,List.flatten_cons,List.take_append_of_le_length (by omega),List.take_of_length_le (by omega)]
 | L :: MM, j + 1, M, hq, h => by
   have h1:=hq L (List.mem_cons_self ..)
   have ih:=flat_row MM j M (fun L hL=>hq L (List.mem_cons_of_mem _ hL)) (by simpa using h)
   rw [List.flatten_cons,Nat.succ_mul,List.drop_append]
   rw [List.drop_of_length_le (by omega),List.nil_append,show j*q+q-L.length=j*q by omega]
   exact ih
theorem fromN_len {LL:List (List Rat)}{q:Nat}(h:∀ L ∈ LL,L.length=q):∀ M ∈ fromN LL,M.length=q:=by
 intro M hM
 obtain ⟨L,hL,rfl⟩:=List.mem_map.1 hM
 rw [List.length_map]
 exact h L hL
attribute [local go_sem] Oper.semAt_some
theorem mFromB_any {N b q:Nat}{G:Option Addr}{r k:Nat}{LL:List (List Rat)}{w:World}(h:OwQss w b G r k LL)(hb:b<=w.heap.size)(hq:∀ L ∈ LL,L.length=q)(hS:∀ L ∈ LL,∀ x ∈ L,Qs N x)(hN:N<=150000000)(h1N:1<=N)(hr:r<=24)(hq1:q<=24) :
  Calls Tryz.prog 66 #[.slice G r k] w (RetME (frD LL) (frN LL) 0 w):=by
 obtain ⟨XX,hG,hXX⟩:=h.grid
 obtain ⟨i1,hjf,hy0,hy1,hy2⟩:=info_parts infoIs
 obtain ⟨i0,hi,hz0,hz1,hz2⟩:=info_parts infoQ
 have hnm:r<=maxLen:=by unfold maxLen;omega
 have HL:=ah h.len
 have HTOT:=ah (show XX.flatten.length<=576 by
  have e:XX.flatten.length=(XX.flatten.map (fun x=>x.1.2)).length:=(List.length_map ..).symm
  rw [e,List.map_flatten,hXX]
  have h1:=flatten_le (K:=q) LL (fun L hL=>Nat.le_of_eq (hq L hL))
  rw [h.len] at h1
  have h2:r*q<=24*24:=Nat.mul_le_mul hr hq1
  omega)
 have HX:=ah (show ∀ W,Below w.heap.size w W->OwQss W b G r k LL from fun W hb=>h.next hb)
 have HXX:=ah hXX
 have HBB:=ah hb
 have HQ:=ah hq
 have HS:=ah hS
 refine (callsIn_wide (n:=4)).1 ?_
 refine callsIn_of_wp_marks Tryz.func66 rfl trivial ?_ rfl
 simp only [Tryz.ntmps66,List.size_toArray,List.length_cons,List.length_nil,Nat.reduceAdd,Nat.reduceSub,Array.replicate_succ,Array.replicate_zero,List.push_toArray,List.append_toArray,List.nil_append,List.cons_append]
 gi_wp2_with (refine ⟨trivial,?_⟩;gi_at_call 117;refine (callsIn_wide.2 (eachQ_any _)).mono ?_;rintro e w' ⟨rfl,rfl⟩)
 obtain ⟨W3,HW3⟩:∃ W,W=((w.alloc (.cells #[.bool false,.slice none 0 0,.slice none 0 0] 28)).alloc (.cells #[.slice none 0 0] 72)).alloc (.cells #[.slice G r k] 148):=⟨_,rfl⟩
 have hb3:Below w.heap.size w W3:=by rw [HW3];exact ((bA).alloc (by simp) _).alloc (by simp;omega) _
 have hsz:W3.heap.size=w.heap.size+3:=by rw [HW3];simp
 have hm3:MC W3 w.heap.size false none 0 0 none 0 0:=by rw [HW3];exact ((MC.new w false none 0 0 none 0 0).alloc _).alloc _
 have hbx:Boxed W3 (w.heap.size+1) 72 (.slice none 0 0):=by
  rw [HW3]
  have:=Boxed.new (w.alloc (.cells #[.bool false,.slice none 0 0,.slice none 0 0] 28)) 72 (.slice none 0 0)
  exact (by simpa using this:Boxed _ (w.heap.size+1) _ _).alloc _
 have hbs:Boxed W3 (w.heap.size+1+1) 148 (.slice G r k):=by
  rw [HW3]
  have:=Boxed.new ((w.alloc (.cells #[.bool false,.slice none 0 0,.slice none 0 0] 28)).alloc (.cells #[.slice none 0 0] 72)) 148 (.slice G r k)
  simpa using this
 have HI0:=ah (show (fun (pre:List (GQ w b)) W=>AllI (W0:=w) (b:=b) (w.heap.size+3) (w.heap.size+1) (w.heap.size+1+1) (.slice G r k) pre W/\MC W w.heap.size false none 0 0 none 0 0) [] W3 from
  ⟨⟨⟨none,0,[],hbx,World.ownsRow_nil _ _ _ _,rfl,⟨rfl,fun j e z he _=>by simp at he⟩⟩,hbs,hb3,Nat.le_of_eq hsz.symm⟩,hm3⟩)
 have HSQ:=ah (eachQ_stops 3 (by omega) (w.heap.size+1+1) w.heap.size hnm W3 (by omega) (by omega) (hG.below hb3) hbs.cell)
 rw [<- HW3]
 clear HW3 hbx hbs hb3 hG hXX hm3 h hb hq hS
 apply rangeFunc_box (n:=4) (P:=Tryz.prog) (by omega) (gf:=168) (lb:=#[.pointer (some ⟨w.heap.size+1+1,0,none⟩)]) rfl (enters_of Tryz.func168 (by kernel_rfl) rfl)
  HSQ.out (by omega) (by omega) rfl (fun (pre:List (GQ w b)) W=>AllI (W0:=w) (b:=b) (w.heap.size+3) (w.heap.size+1) (w.heap.size+1+1) (.slice G r k) pre W/\MC W w.heap.size false none 0 0 none 0 0) (by rw [hsz];exact fun pre W W' row hs hg hr=>⟨AllI.own (by omega) pre W W' row hs.1 hg hr,keepC_own hg (fun r e=>(hr r e).2) _ _ _ _ hs.2⟩) (fun _ _ hh=>by rw [hsz];exact hh.1.s) HI0.out 47 (fun x=>#[.bool x.1.1.1.1,.slice x.1.1.1.2.1 x.1.1.1.2.2.1 x.1.1.1.2.2.2,.bool x.1.1.2.1,.slice x.1.1.2.2.1 x.1.1.2.2.2.1 x.1.1.2.2.2.2])
 case hassign =>
  intro l x W K B hB hK
  unfold gQ
  gi_wp2
  rw [<- hB]
  exact hK
 case hbody =>
  rintro l pre x B W ⟨⟨⟨A',c',E,h1,h2,h3,h4⟩,h5,h6,h7⟩,hmc⟩ hB hx hlen
  have hq:QC W B x.1.1.1.1 x.1.1.1.2.1 x.1.1.1.2.2.1 x.1.1.1.2.2.2 x.1.1.2.1 x.1.1.2.2.1 x.1.1.2.2.2.1 x.1.1.2.2.2.2:=hx
  have k0:=h1.cell
  have q0:=hq.c0
  have q1:=hq.c1
  have q2:=hq.c2
  have q3:=hq.c3
  have hlen2:pre.length < 576:=Nat.lt_of_lt_of_le hlen HTOT.out
  have HST:=ah (show ∀ (w1:World) (v':Value),w1.ownsRow w.heap.size 47 4 v' (pre.length+1) (qcs E ++ [.bool x.1.1.1.1,.slice x.1.1.1.2.1 x.1.1.1.2.2.1 x.1.1.1.2.2.2,.bool x.1.1.2.1,.slice x.1.1.2.2.1 x.1.1.2.2.2.1 x.1.1.2.2.2.2])->(W.alloc (.cells #[.bool x.1.1.1.1,.slice x.1.1.1.2.1 x.1.1.1.2.2.1 x.1.1.1.2.2.2,.bool x.1.1.2.1,.slice x.1.1.2.2.1 x.1.1.2.2.2.1 x.1.1.2.2.2.2] 47)).grownBy w1 (Value.slice A' pre.length c').ownBlock->_ from fun w1 v'=>AllI.step (m:=w.heap.size+3) (Ba:=w.heap.size+1) (Bs:=w.heap.size+1+1) (gv:=.slice G r k) (x:=x) (w1:=w1) (v':=v') (t:=47) (by omega) (by omega) h1 h2 h3 h4 h5 h6 h7)
  have H2:=ah (h2.alloc (.cells #[.bool x.1.1.1.1,.slice x.1.1.1.2.1 x.1.1.1.2.2.1 x.1.1.1.2.2.2,.bool x.1.1.2.1,.slice x.1.1.2.2.1 x.1.1.2.2.2.1 x.1.1.2.2.2.2] 47))
  have HMC:=ah (hmc.alloc (.cells #[.bool x.1.1.1.1,.slice x.1.1.1.2.1 x.1.1.1.2.2.1 x.1.1.1.2.2.2,.bool x.1.1.2.1,.slice x.1.1.2.2.1 x.1.1.2.2.2.1 x.1.1.2.2.2.2] 47))
  have hsW:w.heap.size<=W.heap.size:=h6.size
  clear h1 h2 h3 h4 h5 h6 h7 hq hx hmc
  gi_wp2_with (gi_at_builtin;refine wpListIn_append_own _ rfl _ _ 72 rfl w.heap.size 47 i0 (.agg #[.bool false,.slice none 0 0,.bool false,.slice none 0 0]) 4 64 Tryz.underlying72 hi hz0 hz1 hz2 rfl (by decide) _ _ _ rfl H2.out ⟨W.heap.size,0,none⟩ 1 1 [.bool x.1.1.1.1,.slice x.1.1.1.2.1 x.1.1.1.2.2.1 x.1.1.1.2.2.2,.bool x.1.1.2.1,.slice x.1.1.2.2.1 x.1.1.2.2.2.1 x.1.1.2.2.2.2] rfl rfl (qcell_new W _ _ _ _ _) (by simp [Value.oneCell']) (by unfold maxLen;omega) (by omega) (by simp;omega) ?_;intro v' w1 hown' hgrow _;obtain ⟨A9,c9,rfl,k1,k2,k3,k4⟩:=HST.out _ _ hown' hgrow;have kc:=k1.cell;have kf:=k1.frozen;have HK:=ah (cJ k2 (cJ k3 k4));have HMG:=ah (show MC (w1.setCell ⟨w.heap.size+1,0,none⟩ (.slice A9 (pre.length+1) c9)) w.heap.size false none 0 0 none 0 0 from MC.far (grown_heap H2.out hgrow HMC.out (by decide)) (p:=⟨w.heap.size+1,0,none⟩) (by show w.heap.size ≠ w.heap.size+1;omega) _);clear hown' hgrow k0 q0 q1 q2 q3 k1 k2 k3 k4)
  exact ⟨HK.out.2.1.from _,HK.out.2.2,HK.out.1,HMG.out⟩
 case hdone =>
  rintro D ys W hD rfl ⟨⟨⟨A',c',E,h1,h2,h3,h4⟩,h5,h6,h7⟩,hmc⟩ hK
  obtain ⟨m,hqq⟩:∃ m,XX.flatten.length=m:=⟨_,rfl⟩
  rw [hqq] at h1 h2 h3
  have HM:=ah (show m<=576 by rw [<- hqq];exact HTOT.out)
  clear hqq
  have k0:=h1.cell
  have hlD:D < W.heap.size:=(Array.getElem?_eq_some_iff.1 hK).1
  have hflat:XX.flatten.map (fun x=>x.1.2)=LL.flatten:=by rw [List.map_flatten,HXX.out]
  have HO:=ah (show OwQs W b A' m c' LL.flatten from ⟨E,row_base h2 HBB.out,h3,by rw [<- hflat];exact h4⟩)
  have HSF:=ah (show ∀ x ∈ LL.flatten,Qs N x from fun x hx=>by
   obtain ⟨L,hL,hx⟩:=List.mem_flatten.1 hx
   exact HS.out L hL x hx)
  have HR:=ah (HO.out.p.rd (N:=N) (fun x hx=>HSF.out x hx))
  have HDEN:=ah (show ∀ j,Zz.zl (denF 1 (LL.flatten.take j))<=86400000001 from fun j=>by
   have e1:=denF_sz (N:=N) (LL.flatten.take j) 1 (fun x hx=>HSF.out x (List.mem_of_mem_take hx))
   have e2:Zz.zl 1<=1:=Zz.zl_small (by decide)
   have e3:(LL.flatten.take j).length<=576:=by
    rw [List.length_take]
    have:=HO.out.len
    have:=HM.out
    omega
   have e4:(LL.flatten.take j).length*N<=576*150000000:=Nat.mul_le_mul e3 hN
   omega)
  have HD:=ah (show ∀ W',KeepsOthers W W'->W'.heap[D]?=some (.deferred (some [])) from fun W' hk=>hk.same D _ hK rfl)
  have HDD:=ah hD
  have H6:=ah h6
  have HMC:=ah hmc
  clear h1 h2 h3 h4 h5 h6 h7 hflat hK hmc hD
  gi_wp2_with fail
  refine ⟨trivial,?_⟩
  refine (callsIn_wide.2 (common_any HR.out HDEN.out (by have:=HM.out;omega) (by omega) (by decide) h1N)).mono ?_
  rintro _ W4 ⟨s2,A2,n2,c2,y,A3,n3,c3,P,kk,rfl,ho4,hoz4,hy4,hb4⟩
  obtain rfl:kk=0:=hy4.out.2.2
  have HN3:=ah (show A3=none->c3=0 from fun e=>by
   rcases hoz4.form with ⟨_,_,h3⟩ | ⟨g,h1,_⟩
   ·exact h3
   ·rw [e] at h1;cases h1)
  have HP:=ah (show P=(fromN LL).flatten by rw [hy4.out.2.1,fromN_flat])
  have HY:=ah (show y=denL LL.flatten from hy4.out.1)
  obtain ⟨W5,HW5⟩:∃ W',W'=W4.alloc (.cells #[.bool s2,.slice A2 n2 c2] 25):=⟨_,rfl⟩
  have hb5:Below W4.heap.size W4 W5:=by rw [HW5];exact bA
  have HZ5:=ah (show ZC W5 W4.heap.size s2 A2 n2 c2 by rw [HW5];exact ZC.new W4 s2 A2 n2 c2)
  have HB5:=ah (hb4.trans (hb5.mono hb4.size))
  have HO5:=ah (cJ (ho4.next hb5) ((hoz4.next hb5).ip))
  have HG4:=ah (show W.heap.size<=W4.heap.size from hb4.size)
  have HW5:=ah HW5
  clear ho4 hoz4 hy4 hb4 hb5 k0
  gi_wp2_with fail
  refine ⟨trivial,?_⟩
  rw [<- HW5.out]
  clear HW5
  clear HW5
  obtain ⟨gd,hgd⟩:∃ gd,gd=W4.heap.size:=⟨_,rfl⟩
  rw [<- hgd] at HZ5 HG4 ⊢
  clear hgd
  have HX5:=ah (HX.out W5 (H6.out.trans (HB5.out.mono H6.out.size)))
  refine (callsIn_wide.2 (evenQ_any HX5.out HQ.out (by omega))).mono ?_
  rintro _ W6 ⟨rfl,hb6⟩
  have HZ6:=ah (HZ5.out.next hb6)
  have HO6:=ah (cJ (HO5.out.1.next hb6) (HO5.out.2.next hb6))
  have HB6:=tM HB5 hb6
  have HPL:=ah (show n3=r*q by
   rw [<- HO5.out.2.len,HP.out]
   have e:∀ MM:List (List Int),(∀ L ∈ MM,L.length=q)->MM.flatten.length=MM.length*q:=fun MM=>by
    induction MM with
    | nil=>intro _;simp
    | cons L MM ih =>
      intro hh
      rw [List.flatten_cons,List.length_append,ih (fun M hM=>hh M (List.mem_cons_of_mem _ hM)),hh L (List.mem_cons_self ..),List.length_cons,Nat.succ_mul]
      omega
   rw [e _ (fromN_len HQ.out)]
   congr 1
   unfold fromN
   rw [List.length_map,HL.out])
  have HFL:=ah (show (fromN LL).length=r by unfold fromN;rw [List.length_map,HL.out])
  clear hb6 HZ5 HO5 HB5 HX5
  gi_wp2_with fail
  gi_loopw [7,9,35] (fun nv ov iv wr=>∃ (j:Nat) (A7:Option Addr) (m7 c7:Nat) (A9:Option Addr) (c9:Nat),nv=.slice A7 m7 c7/\(A7=none->c7=0)/\ov=.slice A9 j c9/\iv=.int .i64 (j:Int)/\j<=r/\OwIp wr W.heap.size A7 m7 c7 (P.drop (j*q))/\OwMs wr W.heap.size A9 j c9 ((fromN LL).take j)/\ZC wr gd s2 A2 n2 c2/\OwZ wr W.heap.size s2 A2 n2 c2 y/\Below W.heap.size W wr/\KeepsOthers W wr) (fun _ _ iv _=>r-(intOf iv).toNat)
  case atStart=>exact ⟨0,A3,n3,c3,none,0,rfl,HN3.out,rfl,rfl,nZ,by simpa using HO6.out.2,OwMs.nil _ _,HZ6.out,HO6.out.1,HB6.out,below_others HB6.out⟩
  case round =>
   obtain ⟨j,A7,m7,c7,A9,c9,rfl,hn7,rfl,rfl,hj,hip,hom,hzc,hoz,hB,hK⟩:=hrel
   by_cases hjr:j=r
   ·have HOM:=ah (show OwMs wr W.heap.size A9 j c9 (fromN LL) by rw [List.take_of_length_le (by rw [HFL.out,hjr];exact nR)] at hom;exact hom)
    have HFS:=ah (show ∀ L ∈ fromN LL,L.length<=q/\∀ z ∈ L,Zz.zl z<=100000000000 from fun L hL=>⟨Nat.le_of_eq (fromN_len HQ.out L hL),fun z hz=>by
     have e1:=fromN_sz HS.out L hL z hz
     have e2:LL.flatten.length*N<=576*150000000:=Nat.mul_le_mul (by rw [HO.out.len];exact HM.out) hN
     omega⟩)
    have HRD:=ah (HOM.out.rd HFS.out)
    have HOZ:=ah hoz
    have HYL:=ah (show n2<=400000000000 by
     rw [hoz.len,HY.out]
     have e:=HDEN.out LL.flatten.length
     rw [List.take_length] at e
     show Zz.zl (denF 1 LL.flatten)<=_
     omega)
    have HYN:=ah (show y ≠ 0 by rw [HY.out];have:=denL_pos LL.flatten;omega)
    have HCL:=ah (show colsOf ((fromN LL).map fun L=>L.map ofZ) ≠ 0 ∨ y=1 by
     by_cases h0:0 < r/\0 < q
     ·refine .inl ?_
      have e:=HFL.out
      have e1:=fromN_len HQ.out
      unfold colsOf
      cases hh:fromN LL with
      | nil=>rw [hh] at e;simp at e;omega
      | cons M MM =>
        rw [hh] at e1
        have:=e1 M (List.mem_cons_self ..)
        simp
        intro h0
        rw [h0] at this
        simp at this
        omega
     ·refine .inr ?_
      have e:LL.flatten=[]:=by
       rw [List.flatten_eq_nil_iff]
       intro L hL
       have h1:0 < LL.length:=List.length_pos_of_mem hL
       have h2:=HL.out
       exact List.length_eq_zero_iff.1 (by rw [HQ.out L hL];omega)
      rw [HY.out,e]
      rfl)
    have HBW:=ah hB
    have HKW:=ah hK
    have a0:=hzc.c0
    have a1:=hzc.c1
    subst hjr
    clear hip hom hzc hoz hB hK hn7
    gi_wp2_with fail
    refine ⟨trivial,?_⟩
    refine (callsIn_wide.2 (mmadeG_any HOZ.out.rd HRD.out HYN.out HYL.out (by decide) (by omega) (by omega) HCL.out)).mono ?_
    rintro _ W8 ⟨s8,A8,n8,c8,G8,r8,k8,y8,MM,rfl,ho8,hm8,hy8,hb8⟩
    have HB8:=tM HBW hb8
    have hMz:=(HMC.out.next HB8.out)
    have r0:=hMz.c0
    have r1:=hMz.c1
    have r2:=hMz.c2
    have f0:=hMz.fz 0
    have f1:=hMz.fz 1
    have f2:=hMz.fz 2
    have HSS:=ah (hMz.store s8 A8 n8 c8 G8 r8 k8)
    have HU:=ah ((ho8.base (b':=w.heap.size) (nT H6.out.size HBW.out.size)).keep (keepI_put hMz s8 A8 n8 c8 G8 r8 k8).1)
    have HWL:=ah (show w.heap.size < wr.heap.size from Nat.lt_of_lt_of_le HMC.out.lt HBW.out.size)
    have HQQ:=ah ((hm8.put hMz HWL.out s8 A8 n8 c8 G8 r8 k8).base (b':=w.heap.size) (Nat.le_of_lt HWL.out))
    have HF:=ah (below_putM (H6.out.trans (HB8.out.mono H6.out.size)) (Nat.le_refl w.heap.size) s8 A8 n8 c8 G8 r8 k8)
    have HKD:=ah (HD.out _ ((((HKW.out.trans (below_others hb8)).trans (KeepsOthers.setCell _ ⟨w.heap.size,0,none⟩ (.bool s8))).trans (KeepsOthers.setCell _ ⟨w.heap.size,1,none⟩ (.slice A8 n8 c8))).trans (KeepsOthers.setCell _ ⟨w.heap.size,2,none⟩ (.slice G8 r8 k8))))
    have HY8:=ah (show y8=frD LL/\MM=frN LL by rw [hy8.out.1,hy8.out.2,zss_ofZ,HY.out];exact ⟨rfl,rfl⟩)
    unfold putM at HSS HU HQQ HF
    clear hMz ho8 hm8 hy8 hb8 a0 a1
    gi_wp2_with fail
    generalize ((W8.setCell ⟨w.heap.size,0,none⟩ (.bool s8)).setCell ⟨w.heap.size,1,none⟩ (.slice A8 n8 c8)).setCell ⟨w.heap.size,2,none⟩ (.slice G8 r8 k8)=W9 at *
    have hdr:∀ q,some D=some q->∃ o:Obj,W9.heap[q]?=some o/\o.isCells=false:=fun q e=>by cases e;exact ⟨_,HKD.out,rfl⟩
    have z0:=cell_kept HSS.out.c0 (grownBy_putObj' _ D (.deferred none)) hdr
    have z1:=cell_kept HSS.out.c1 (grownBy_putObj' _ D (.deferred none)) hdr
    have z2:=cell_kept HSS.out.c2 (grownBy_putObj' _ D (.deferred none)) hdr
    have hkc:=keepC_own (grownBy_putObj' W9 D (.deferred none)) hdr
    refine ⟨by simp,.inl ⟨_,_,rfl,run_takeDeferred HKD.out,?_⟩⟩
    refine ⟨.tuple #[.agg #[.bool s8,.slice A8 n8 c8,.slice G8 r8 k8],.int .i64 0],by simp [results,Tryz.f66,go_sem,z0,z1,z2],s8,A8,n8,c8,G8,r8,k8,_,_,0,rfl,HU.out.keep hkc.q.1,HQQ.out.keepC hkc,ah ⟨HY8.out.1,HY8.out.2,rfl⟩,?_⟩
    exact HF.out.trans (belowK_b (w:=w) nR _ D _ _ (by have:=HDD.out;omega) HKD.out rfl rfl)
   ·have hjl:j < r:=by omega
    have hjli:(j:Int) < (r:Int):=by omega
    clear hjr
    obtain ⟨gg,A1,n1,c1,L,rfl,hbk,hx,ho1,hp⟩:=oql_at (HX.out wr (H6.out.trans (hB.mono H6.out.size))) hjl
    have hn1:n1=q:=by rw [<- ho1.len];exact HQ.out L (gM hp.out)
    subst hn1
    have HML:=ah hip.len
    have hm7:n1<=m7:=by
     have e:=HML.out
     have e2:P.length=r*n1:=by rw [<- HPL.out];exact HO6.out.2.len
     rw [List.length_drop,e2] at e
     have e3:(j+1)*n1<=r*n1:=Nat.mul_le_mul_right _ (by omega)
     rw [Nat.succ_mul] at e3
     omega
    have hmc7:=hip.le
    rcases A7 with _ | ad
    ·obtain rfl:c7=0:=hn7 rfl
     obtain rfl:m7=0:=by omega
     obtain rfl:n1=0:=by omega
     have HIP:=ah hip
     have HOM:=ah hom
     have HZC:=ah (cJ hzc hoz)
     have HBK:=ah (cJ hB hK)
     clear ho1 hip hom hzc hoz hB hK hn7
     have HRW:=ah (show (P.drop (j*0)).take 0=(fromN LL)[j]'(by rw [HFL.out];exact hjl) by
      rw [HP.out]
      exact flat_row (fromN LL) j _ (fromN_len HQ.out) (gE _))
     have HTK:=ah (show (fromN LL).take j ++ [(P.drop (j*0)).take 0]=(fromN LL).take (j+1) by
      rw [HRW.out,List.take_add_one,gE (by rw [HFL.out];exact hjl)]
      rfl)
     have HDP:=ah (show (P.drop (j*0)).drop 0=P.drop ((j+1)*0) by rw [List.drop_drop,Nat.succ_mul])
     have HIT:=ah (HIP.out.take (Nat.zero_le 0))
     obtain ⟨E9,hE9,hEl9,hEn9⟩:=HOM.out
     have HE:=ah hE9
     have HEN:=ah (cJ hEl9 hEn9)
     have HSW:=ah (show W.heap.size<=wr.heap.size from HBK.out.1.size)
     clear hE9 hEl9 hEn9 HOM HRW
     gi_wp2_with (gi_at_builtin;refine wpListIn_append_own _ rfl _ _ 26 rfl W.heap.size 65 i1 (.slice none 0 0) 1 24 Tryz.underlying26 hjf hy0 hy1 hy2 rfl (by decide) _ _ _ rfl (HE.out.alloc _) ⟨wr.heap.size,0,none⟩ 1 1 [.slice none 0 0] rfl rfl (scell_new wr (.slice none 0 0) 65) (by simp [Value.oneCell']) (by unfold maxLen;omega) (by omega) (by have h2:=HSW.out;simp;omega) ?_;intro v' w1 hown' hgrow _;obtain ⟨B9,c8,rfl,ho9⟩:=ms_more (e:=(none,0,0)) (L:=(P.drop (j*0)).take 0) HIT.out rfl (HE.out.alloc _) HEN.out.1 (HEN.out.2.next (bR.alloc nR (.cells #[.slice none 0 0] 65))) hown' hgrow;have HO9:=ah ho9;have HGW:=ah hgrow;clear hown' ho9 hgrow)
     have hba:Below wr.heap.size wr (wr.alloc (.cells #[.slice none 0 0] 65)):=bA
     have hki:=keepI_grown (HE.out.alloc _) HGW.out
     have HIW:=ah ((HIP.out.next hba).keep hki)
     have HZW:=ah (show ZC w1 gd s2 A2 n2 c2 from grown_heap (HE.out.alloc _) HGW.out (HZC.out.1.alloc _) (by decide))
     have HYW:=ah ((HZC.out.2.next hba).keep hki.1)
     have HBW:=ah ((HBK.out.1.alloc HSW.out (.cells #[.slice none 0 0] 65)).grown HGW.out (by have h2:=HSW.out;simp;omega) (own_block HE.out))
     have HKW:=ah ((HBK.out.2.trans (below_others hba)).trans (others_append (HE.out.alloc _) HGW.out))
     clear hba hki
     go_roundw
     case rel=>exact ⟨j+1,none,0,0,B9,c8,rfl,(fun _=>rfl),rfl,by go_num,by omega,by have:=HIW.out;rw [Nat.mul_zero] at this ⊢;exact this,by rw [<- HTK.out];exact HO9.out,HZW.out,HYW.out,HBW.out,HKW.out⟩
     case measure=>simp [intOf];omega
    ·have HIP:=ah hip
     have HOM:=ah hom
     have HZC:=ah (cJ hzc hoz)
     have HBK:=ah (cJ hB hK)
     clear ho1 hip hom hzc hoz hB hK hn7
     have HRW:=ah (show (P.drop (j*n1)).take n1=(fromN LL)[j]'(by rw [HFL.out];exact hjl) by
      rw [HP.out]
      exact flat_row (fromN LL) j _ (fromN_len HQ.out) (gE _))
     have HTK:=ah (show (fromN LL).take j ++ [(P.drop (j*n1)).take n1]=(fromN LL).take (j+1) by
      rw [HRW.out,List.take_add_one,gE (by rw [HFL.out];exact hjl)]
      rfl)
     have HDP:=ah (show (P.drop (j*n1)).drop n1=P.drop ((j+1)*n1) by rw [List.drop_drop,Nat.succ_mul])
     have HIT:=ah (HIP.out.take hm7)
     have HIR:=ah (HIP.out.rest hm7)
     obtain ⟨E9,hE9,hEl9,hEn9⟩:=HOM.out
     have HE:=ah hE9
     have HEN:=ah (cJ hEl9 hEn9)
     have HSW:=ah (show W.heap.size<=wr.heap.size from HBK.out.1.size)
     clear hE9 hEl9 hEn9 HOM HRW
     have hm7i:(n1:Int)<=(m7:Int):=by omega
     have hck:(c7=n1) ∨ ¬(c7=n1):=Classical.em _
     rcases hck with hck | hck
     all_goals
      gi_wp2_with (gi_at_builtin;refine wpListIn_append_own _ rfl _ _ 26 rfl W.heap.size 65 i1 (.slice none 0 0) 1 24 Tryz.underlying26 hjf hy0 hy1 hy2 rfl (by decide) _ _ _ rfl (HE.out.alloc _) ⟨wr.heap.size,0,none⟩ 1 1 [.slice (some ad) n1 n1] rfl rfl (scell_new wr (.slice (some ad) n1 n1) 65) (by simp [Value.oneCell']) (by unfold maxLen;omega) (by omega) (by have h2:=HSW.out;simp;omega) ?_;intro v' w1 hown' hgrow _;obtain ⟨B9,c8,rfl,ho9⟩:=ms_more (e:=(some ad,n1,n1)) (L:=(P.drop (j*n1)).take n1) HIT.out rfl (HE.out.alloc _) HEN.out.1 (HEN.out.2.next (bR.alloc nR (.cells #[.slice (some ad) n1 n1] 65))) hown' hgrow;have HO9:=ah ho9;have HGW:=ah hgrow;clear hown' ho9 hgrow)
      have hba:Below wr.heap.size wr (wr.alloc (.cells #[.slice (some ad) n1 n1] 65)):=bA
      have hki:=keepI_grown (HE.out.alloc _) HGW.out
      have HIW:=ah ((HIR.out.next hba).keep hki)
      have HZW:=ah (show ZC w1 gd s2 A2 n2 c2 from grown_heap (HE.out.alloc _) HGW.out (HZC.out.1.alloc _) (by decide))
      have HYW:=ah ((HZC.out.2.next hba).keep hki.1)
      have HBW:=ah ((HBK.out.1.alloc HSW.out (.cells #[.slice (some ad) n1 n1] 65)).grown HGW.out (by have h2:=HSW.out;simp;omega) (own_block HE.out))
      have HKW:=ah ((HBK.out.2.trans (below_others hba)).trans (others_append (HE.out.alloc _) HGW.out))
      clear hba hki
      go_roundw
      case rel =>
       first
        | exact ⟨j+1,some ad,m7-n1,0,B9,c8,rfl,(fun _=>rfl),rfl,by go_num,by omega,by have:=HIW.out;rw [if_pos hck,hck,Nat.sub_self,HDP.out] at this;exact this,by rw [<- HTK.out];exact HO9.out,HZW.out,HYW.out,HBW.out,HKW.out⟩
        | exact ⟨j+1,_,_,_,B9,c8,rfl,(fun e=>by cases e),rfl,by go_num,by omega,by have:=HIW.out;rw [if_neg hck,HDP.out] at this;exact this,by rw [<- HTK.out];exact HO9.out,HZW.out,HYW.out,HBW.out,HKW.out⟩
      case measure=>simp [intOf];omega
end Go.Proofs.YtjnklbfhelbjgaaGreat
