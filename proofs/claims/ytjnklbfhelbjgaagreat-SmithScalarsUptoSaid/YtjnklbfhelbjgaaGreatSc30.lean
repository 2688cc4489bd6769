/- Sc30. -/
import Derived.Test.YtjnklbfhelbjgaaGreatRows
import Derived.WalkKit
import Derived.ProofKit
import Derived.OpenShut
import Derived.JoinedCond
import Derived.Test.YtjnklbfhelbjgaaGreatSc00
import Derived.ChangeSlices
import Derived.Test.YtjnklbfhelbjgaaGreatSc03
import Derived.Lib.SmallJoins
import Derived.Test.YtjnklbfhelbjgaaGreatSc06
import Derived.Deep.Slices
import Derived.DataShut
import Derived.Test.YtjnklbfhelbjgaaGreatSc15
set_option maxRecDepth 100000
set_option maxHeartbeats 32000000
set_option linter.all false
namespace Go.Proofs.YtjnklbfhelbjgaaGreat
open Go.ChangeShapes Go.WideShapes Go.ChangeAt Go.RowKit
theorem own:ownKnob Tryz.prog.godebug=none:=by kernel_rfl
theorem c32:Tryz.prog.cellsOf 171=1:=by kernel_rfl
section
variable {H:Type}{enc:TypeId × Value->H}{P:Program}
theorem post_of_below {f:Func}{s:ChangeSpec}{apart fresh handsOn again:Bool}{W W':World}{args:Array Value}{v:Value}{ds gs:List (DataW H)}{before pa pv:List MemPlace}
  (hW:DataW.Whole enc P f.params.toList s.vars apart W args.toList ds gs before)
  (hres:∀ (b:Nat) (sp:Nat->Bool) (hd:Bool),DataW.TrodAll enc P W' b sp hd f.resultTypes.toList (v.resultList f.resultTypes.size) (s.fn H (ds ++ gs)).results [])
  (hargs:∀ sp:Nat->Bool,(∀ p ∈ before,sp p.block=true)->DataW.TrodAll enc P W' 0 sp true f.params.toList args.toList (s.fn H (ds ++ gs)).args pa)
  (hvars:∀ sp:Nat->Bool,(∀ p ∈ before,sp p.block=true)->DataW.TrodVars enc P W' sp s.vars (s.fn H (ds ++ gs)).vars pv)
  (hps:before=pa ++ pv) (hb:Below W.heap.size W W')
  (hok:∀ (j:Nat) (t:TypeId) (r:Value),f.resultTypes[j]?=some t->(v.resultList f.resultTypes.size)[j]?=some r->Value.okWide P W' .any 0 t r) :
  s.post enc P f apart fresh handsOn again W args v W':=by
 have hlt:∀ p ∈ before,p.block < W.heap.size:=fun p hp=>hW.lt p hp
 have hold:∀ p ∈ before,(fun b=>decide (b < W.heap.size)) p.block=true:=fun p hp=>by simpa using hlt p hp
 refine ⟨ds,gs,before,[],pa,pv,hW,hres _ _ _,hargs _ hold,hvars _ hold,World.keptBut_mono (fun p hp=>⟨hp,?_⟩) (hb.frame (· ∈ before)),fun _=>?_⟩
 ·rw [hps,List.mem_append] at hp
  exact Or.inr hp
 ·obtain ⟨_,_,_,_,_,hz,hn⟩:=hW
  refine ⟨hok,_,_,([] ++ pa) ++ pv,⟨[] ++ pa,pv,trodAll_append (hargs _ (fun _ _=>rfl)) (hres _ _ _),hvars _ (fun _ _=>rfl),rfl,?_,?_⟩,?_⟩
  ·intro b off hp
   have hin:MemPlace.cell b off ∈ before:=by rw [hps];simpa using hp
   rw [hb.frozen (hlt _ hin)]
   exact hz b off hin
  ·intro ha
   have:=hn ha
   rw [hps] at this
   simpa using this
  ·intro p hp _
   rw [hps]
   simpa using hp
end
end Go.Proofs.YtjnklbfhelbjgaaGreat
namespace Go.Proofs.YtjnklbfhelbjgaaGreat
open Go.ChangeShapes Go.WideShapes Go.ChangeAt Go.RowKit
theorem bulk_one {H:Type}(d:DataW H):1<=Rows.uptoBulk d:=by
 cases d with
 | lit l=>cases l <;> simp [Rows.uptoBulk]
 | nil=>simp [Rows.uptoBulk]
 | ptr d=>simp [Rows.uptoBulk]
 | slice elems spare=>simp [Rows.uptoBulk]
 | agg parts=>simp [Rows.uptoBulk]
 | iface t d=>simp [Rows.uptoBulk]
 | map entries=>simp [Rows.uptoBulk]
 | held h=>simp [Rows.uptoBulk]
theorem bulk_len {H:Type}(l:List (DataW H)):l.length<=Rows.uptoBulkAll l:=by
 induction l with
 | nil=>simp [Rows.uptoBulkAll]
 | cons x r ih=>have:=bulk_one x;simp only [Rows.uptoBulkAll,List.length_cons];omega
theorem bulk_part {H:Type}{d:DataW H}{l:List (DataW H)}(h:d ∈ l):Rows.uptoBulk d<=Rows.uptoBulkAll l:=by
 induction l with
 | nil=>cases h
 | cons x r ih =>
   simp only [Rows.uptoBulkAll]
   cases List.mem_cons.1 h with
   | inl e=>subst e;omega
   | inr e=>have:=ih e;omega
theorem bulk_le {H:Type}{d:DataW H}{l:List (DataW H)}(hk:Rows.uptoSmall H l=true)(h:d ∈ l):Rows.uptoBulk d<=1048576:=by
 exact nT (bulk_part h) (of_decide_eq_true (p:=Rows.uptoBulkAll l<=1048576) hk)
theorem cell_in {w:World}{a:Addr}{v:Value}(h:w.cell? a=some v):a.block < w.heap.size:=by
 apply Classical.byContradiction
 intro hlt
 have hn:w.heap[a.block]?=none:=Array.getElem?_eq_none (by omega)
 simp [World.cell?,hn] at h
section
variable {H:Type}{enc:TypeId × Value->H}{W:World}
def Stays (enc:TypeId × Value->H)(W:World)(t:TypeId)(cs:List Value)(d:DataW H)(ps:List MemPlace):Prop :=
 ∀ (W':World) (sp:Nat->Bool),Below W.heap.size W W'->(∀ p ∈ ps,sp p.block=true)->∃ n,DataW.trod enc Tryz.prog W' 0 sp true n t cs=some (d,ps)
theorem open_nat {fuel:Nat}{cs:List Value}{y:DataW H × List MemPlace}(hd:DataW.trod enc Tryz.prog W 0 (fun _=>true) true fuel 23 cs=some y) :
  ∃ (A:Option Addr) (n c:Nat) (L:List Nat),cs=[.slice A n c]/\RdU W W.heap.size A n c L/\n<=Rows.uptoBulk y.1/\Stays enc W 23 cs y.1 y.2:=by
 have ht:=Tryz.underlying23
 rcases open_ints ht Tryz.underlying171 c32 hd with ⟨rfl,rfl⟩ | ⟨a',len,cap,zs,rfl,hb,hl,hm,hz,rfl,hcell,hwf⟩
 ·exact ⟨none,0,0,[],rfl,RdU.nil _ _ _ _ nZ,nZ,fun W' sp _ _=>⟨1,by simp [DataW.trod,ht]⟩⟩
 ·have hz':zs.length=cap:=by simpa using hz
  refine ⟨some a',len,cap,(zs.take len).map Int.toNat,rfl,⟨by simp;omega,hl,hm,fun j u hu=>?_⟩,?_,fun W' sp hB hsp=>?_⟩
  ·have hj:j < len:=by
    rcases Nat.lt_or_ge j len with h3 | h3
    ·exact h3
    ·rw [gN (by simp;omega)] at hu;cases hu
   have hjz:j < zs.length:=by omega
   have he:zs.getD j 0=zs[j]:=by simp [List.getD,hjz]
   have hw:=hwf _ (List.getElem_mem hjz)
   have hbd:=bounds_u32 hw
   rw [List.getElem?_map,List.getElem?_take_of_lt hj,gE hjz] at hu
   simp at hu
   have hc:=hcell j hjz
   have hb':=cell_in hc
   rw [block_add] at hb'
   refine ⟨by omega,a',rfl,hb',?_⟩
   rw [hc,he,<- hu]
   congr 2
   omega
  ·have h3:=bulk_len (lits (H:=H) .u32 (zs.take len))
   have h4:(lits (H:=H) .u32 (zs.take len)).length=len:=by simp [lits];omega
   simp only [Rows.uptoBulk]
   omega
  ·refine ⟨_,shut_ints 0 ht Tryz.underlying171 c32 nZ hl hm ?_ (fun i hi=>?_) hwf⟩
   ·rw [hz']
    by_cases hs:sp a'.block=true
    ·rw [if_pos hs]
    ·rw [if_neg hs]
     rcases Nat.eq_zero_or_pos cap with h3 | h3
     ·omega
     ·exact absurd (hsp (.cell a'.block (a'.off+0)) (by unfold MemPlace.row;exact List.mem_map.2 ⟨0,by simp;omega,rfl⟩)) hs
   ·have hc:=hcell i hi
    have hb':=cell_in hc
    exact (hB.cell (p:=a'.add i) hb').trans hc
theorem two_cells {cs:List Value}(h:cs.length=2):∃ a b,cs=[a,b]:=by
 match cs,h with
 | [a,b],_=>exact ⟨a,b,rfl⟩
theorem four_cells {cs:List Value}(h:cs.length=4):∃ a b c d,cs=[a,b,c,d]:=by
 match cs,h with
 | [a,b,c,d],_=>exact ⟨a,b,c,d,rfl⟩
theorem cInt:Tryz.prog.cellsOf 25=2:=by kernel_rfl
theorem cBool:Tryz.prog.cellsOf 4=1:=by kernel_rfl
theorem cNat:Tryz.prog.cellsOf 23=1:=by kernel_rfl
end
section
variable {H:Type}{enc:TypeId × Value->H}{W:World}
theorem cells_below {W':World}{a:Addr}{n:Nat}{cs:List Value}(h:W.cells? 0 a n=some cs)(hB:Below W.heap.size W W'):W'.cells? 0 a n=some cs:=by
 obtain ⟨h1,h2,h3⟩:=World.cells?_some h
 refine World.cells?_of_each h1 h2 fun i hi=>?_
 have e:=h3 i hi
 rw [gE (by omega)] at e ⊢
 exact (hB.cell (p:=a.add i) (cell_in e)).trans e
theorem stays_slice {t e:TypeId}{a:Addr}{len cap:Nat}{D:Nat->DataW H}{Pl:Nat->List MemPlace}(ht:Tryz.prog.underlying t=some (.slice e))(hc:0 < Tryz.prog.cellsOf e)(hl:len<=cap)(hm:cap<=maxLen)
  (hx:∀ i,i < cap->∃ cs,W.cells? 0 (a.add (i*Tryz.prog.cellsOf e)) (Tryz.prog.cellsOf e)=some cs/\Stays enc W e cs (D i) (Pl i)) :
  Stays enc W t [.slice (some a) len cap] (.slice ((List.range len).map D) ((List.range (cap-len)).map fun j=>D (len+j))) (MemPlace.row a (cap*Tryz.prog.cellsOf e) ++ (List.range cap).flatMap Pl):=by
 intro W' sp hB hsp
 have each:∀ i,i < cap->∃ cs n,W'.cells? 0 (a.add (i*Tryz.prog.cellsOf e)) (Tryz.prog.cellsOf e)=some cs/\DataW.trod enc Tryz.prog W' 0 sp true n e cs=some (D i,Pl i):=fun i hi=>by
  obtain ⟨cs,h1,h2⟩:=hx i hi
  obtain ⟨n,hn⟩:=h2 W' sp hB fun p hp=>hsp p (List.mem_append_right _ (List.mem_flatMap.2 ⟨i,by simpa using hi,hp⟩))
  exact ⟨cs,n,cells_below h1 hB,hn⟩
 cases hs:sp a.block with
 | true=>exact Go.Deep.shut_slice_whole_cells ht nZ hl hm hs D Pl each
 | false =>
   have h0:cap=0:=by
    rcases Nat.eq_zero_or_pos cap with h | h
    ·exact h
    ·have hr:MemPlace.cell a.block (a.off+0) ∈ MemPlace.row a (cap*Tryz.prog.cellsOf e):=by
      unfold MemPlace.row
      exact List.mem_map.2 ⟨0,by simpa using Nat.mul_pos h hc,rfl⟩
     have:=hsp _ (List.mem_append_left _ hr)
     rw [show (MemPlace.cell a.block (a.off+0)).block=a.block from rfl,hs] at this
     cases this
   subst h0
   obtain rfl:len=0:=by omega
   have:=Go.Deep.shut_slice_cells (enc:=enc) (P:=Tryz.prog) (w:=W') (base:=0) (spare:=sp) (held:=true) (a:=a) ht nZ (Nat.le_refl 0) hm hs D Pl (fun i hi=>by omega)
   simpa using this
theorem bulk_elem {len:Nat}{D:Nat->DataW H}{l:List (DataW H)}{i:Nat}(hi:i < len):Rows.uptoBulk (D i)<=Rows.uptoBulk (.slice ((List.range len).map D) l):=by
 have h:=bulk_part (H:=H) (d:=D i) (l:=(List.range len).map D) (List.mem_map.2 ⟨i,by simpa using hi,rfl⟩)
 simp only [Rows.uptoBulk]
 omega
theorem bulk_many {D:Nat->DataW H}{k:Nat}:∀ (l:List Nat),(∀ i ∈ l,k<=Rows.uptoBulk (D i))->k*l.length<=Rows.uptoBulkAll (l.map D)
 | [],_=>by simp
 | x :: l, h => by
   have h1:=bulk_many l fun i hi=>h i (by simp [hi])
   have h2:=h x (by simp)
   simp only [List.map_cons,List.length_cons,Rows.uptoBulkAll,Nat.mul_succ]
   omega
end
section
variable {H:Type}{enc:TypeId × Value->H}{W:World}
theorem cRat:Tryz.prog.cellsOf 47=4:=by kernel_rfl
theorem bulk_sum {D:Nat->DataW H}{k:Nat->Nat}:∀ (l:List Nat),(∀ i ∈ l,k i<=Rows.uptoBulk (D i))->(l.map k).sum<=Rows.uptoBulkAll (l.map D)
 | [],_=>by simp
 | x :: l, h => by
   have h1:=bulk_sum l fun i hi=>h i (by simp [hi])
   have h2:=h x (by simp)
   simp only [List.map_cons,List.sum_cons,Rows.uptoBulkAll]
   omega
theorem open_int4 {fuel:Nat}{cs:List Value}{y:DataW H × List MemPlace}(hd:DataW.trod enc Tryz.prog W 0 (fun _=>true) true fuel 25 cs=some y) :
  ∃ (s:Bool) (A:Option Addr) (n c:Nat) (M:List Nat),cs=[.bool s,.slice A n c]/\RdU W W.heap.size A n c M/\n+2<=Rows.uptoBulk y.1/\Stays enc W 25 cs y.1 y.2:=by
 obtain ⟨y0,y1,n,rfl,hl,h0,h1⟩:=trod_struct2 Tryz.underlying25 hd
 rw [cInt] at hl
 obtain ⟨c0,c1,rfl⟩:=two_cells hl
 have h0':DataW.trod enc Tryz.prog W 0 (fun _=>true) true n 4 [c0]=some y0:=by simpa [cBool] using h0
 have h1':DataW.trod enc Tryz.prog W 0 (fun _=>true) true n 23 [c1]=some y1:=by simpa [cNat] using h1
 obtain ⟨b,e,rfl⟩:=DataW.trod_bool Tryz.underlying4 h0'
 obtain ⟨A,m,c,L,e1,hR,hm,hS⟩:=open_nat h1'
 simp at e e1
 subst e e1
 refine ⟨b,A,m,c,_,rfl,hR,?_,fun W' sp hB hsp=>?_⟩
 ·have h2:=bulk_one y1.1
  simp only [Rows.uptoBulk,Rows.uptoBulkAll]
  omega
 obtain ⟨k,hk⟩:=hS W' sp hB (fun p hp=>hsp p (by simp [hp]))
 refine ⟨k+1+1,?_⟩
 have ht:=trod_struct2_mk (enc:=enc) (w:=W') (base:=0) (spare:=sp) (held:=true) (n:=k+1) (cs:=[.bool b,.slice A m c]) (y0:=(.lit (.bool b),[])) (y1:=y1) Tryz.underlying25 (by simp [cInt])
  (by simp [cBool,DataW.trod,Tryz.underlying4]) (by simpa [cNat] using DataW.trod_le (Nat.le_succ k) hk)
 exact ht
theorem open_rat4 {fuel:Nat}{cs:List Value}{y:DataW H × List MemPlace}(hd:DataW.trod enc Tryz.prog W 0 (fun _=>true) true fuel 47 cs=some y) :
  ∃ (s:Bool) (A:Option Addr) (n c:Nat) (M:List Nat) (s':Bool) (A':Option Addr) (n' c':Nat) (M':List Nat),cs=[.bool s,.slice A n c,.bool s',.slice A' n' c']/\RdU W W.heap.size A n c M/\RdU W W.heap.size A' n' c' M'/\n+n'+5<=Rows.uptoBulk y.1/\Stays enc W 47 cs y.1 y.2:=by
 obtain ⟨y0,y1,n,rfl,hl,h0,h1⟩:=trod_struct2 Tryz.underlying47 hd
 rw [cRat] at hl
 obtain ⟨c0,c1,c2,c3,rfl⟩:=four_cells hl
 have h0':DataW.trod enc Tryz.prog W 0 (fun _=>true) true n 25 [c0,c1]=some y0:=by simpa [cInt] using h0
 have h1':DataW.trod enc Tryz.prog W 0 (fun _=>true) true n 25 [c2,c3]=some y1:=by simpa [cInt] using h1
 obtain ⟨s,A,m,c,M,e,hR,hm,hS⟩:=open_int4 h0'
 obtain ⟨s',A',m',c',M',e',hR',hm',hS'⟩:=open_int4 h1'
 simp at e e'
 obtain ⟨rfl,rfl⟩:=e
 obtain ⟨rfl,rfl⟩:=e'
 refine ⟨s,A,m,c,M,s',A',m',c',M',rfl,hR,hR',?_,fun W' sp hB hsp=>?_⟩
 ·simp only [Rows.uptoBulk,Rows.uptoBulkAll]
  omega
 obtain ⟨k,hk⟩:=hS W' sp hB (fun p hp=>hsp p (by simp [hp]))
 obtain ⟨k',hk'⟩:=hS' W' sp hB (fun p hp=>hsp p (by simp [hp]))
 refine ⟨max k k'+1,?_⟩
 exact trod_struct2_mk (enc:=enc) (w:=W') (base:=0) (spare:=sp) (held:=true) (n:=max k k') (cs:=[.bool s,.slice A m c,.bool s',.slice A' m' c']) (y0:=y0) (y1:=y1) Tryz.underlying47 (by simp [cRat])
  (by simpa [cInt] using DataW.trod_le (Nat.le_max_left k k') hk) (by simpa [cInt] using DataW.trod_le (Nat.le_max_right k k') hk')
theorem open_Rat {r:Reach}{b0:Nat}{v:Value}{d:DataW H}{ps:List MemPlace}(hval:Value.okWide Tryz.prog W r b0 47 v)(hd:DataW.Trod enc Tryz.prog W 0 (fun _=>true) true 47 v d ps) :
  ∃ (s:Bool) (A:Option Addr) (n c:Nat) (z:Int) (s':Bool) (A':Option Addr) (n' c':Nat) (z':Int),v=.agg #[.bool s,.slice A n c,.bool s',.slice A' n' c']/\RdZ W W.heap.size s A n c z/\RdZ W W.heap.size s' A' n' c' z'/\n+n'<=Rows.uptoBulk d /\
   ∀ (W':World) (sp:Nat->Bool),Below W.heap.size W W'->(∀ p ∈ ps,sp p.block=true)->DataW.Trod enc Tryz.prog W' 0 sp true 47 v d ps:=by
 obtain ⟨cs,rfl,hsz⟩:=okWide_struct Tryz.underlying47 hval
 obtain ⟨fuel,hf⟩:=hd
 obtain ⟨s,A,n,c,M,s',A',n',c',M',e,hR,hR',hn,hS⟩:=open_rat4 hf
 have e2:cs=#[.bool s,.slice A n c,.bool s',.slice A' n' c']:=by
  apply Array.toList_inj.1
  simpa [Value.cells] using e
 subst e2
 exact ⟨s,A,n,c,_,s',A',n',c',_,rfl,⟨M,hR,rfl⟩,⟨M',hR',rfl⟩,by simp only at hn;omega,hS⟩
theorem cells_four {w:World}{a:Addr}{x y z u:Value}(h:w.cells? 0 a 4=some [x,y,z,u]):w.cell? a=some x/\w.cell? (a.add 1)=some y/\w.cell? (a.add 2)=some z/\w.cell? (a.add 3)=some u:=by
 obtain ⟨_,_,h3⟩:=World.cells?_some h
 have h0:=h3 0 (by omega)
 have h1:=h3 1 (by omega)
 have h2:=h3 2 (by omega)
 have h4:=h3 3 (by omega)
 simp at h0 h1 h2 h4
 refine ⟨?_,h1,h2,h4⟩
 have e:a.add 0=a:=by unfold Addr.add;simp
 rwa [e] at h0
theorem sum_five (l:List Nat)(f:Nat->Nat):(l.map fun i=>f i+5).sum=(l.map f).sum+5*l.length:=by
 induction l with
 | nil=>rfl
 | cons x l ih=>simp only [List.map_cons,List.sum_cons,ih,List.length_cons];omega
theorem open_qpoly {fuel:Nat}{cs:List Value}{y:DataW H × List MemPlace}(hd:DataW.trod enc Tryz.prog W 0 (fun _=>true) true fuel 73 cs=some y) :
  ∃ (A:Option Addr) (n c:Nat) (R:List RawQ),cs=[.slice A n c]/\RdRQ W W.heap.size A n c R/\(A=none->n=0/\c=0)/\5*n+rsz R<=Rows.uptoBulk y.1/\Stays enc W 73 cs y.1 y.2:=by
 have ht:=Tryz.underlying73
 rcases Go.Deep.open_slice ht hd with ⟨rfl,rfl⟩ | ⟨a,len,cap,m,n,D,Pl,rfl,hb,hl,hm,hmm,rfl,hx⟩
 ·exact ⟨none,0,0,[],rfl,⟨rfl,nR,nZ,fun j r hr=>by simp at hr⟩,fun _=>⟨rfl,rfl⟩,by simp [rsz],fun W' sp _ _=>⟨1,by simp [DataW.trod,ht]⟩⟩
 ·simp only [if_true] at hmm
  subst hmm
  rw [cRat] at hx
  obtain ⟨f,hf⟩:=Go.Deep.choose_lt (α:=(Bool × Option Addr × Nat × Nat × List Nat) × (Bool × Option Addr × Nat × Nat × List Nat)) (p:=fun i r=>W.cells? 0 (a.add (i*4)) 4=some [.bool r.1.1,.slice r.1.2.1 r.1.2.2.1 r.1.2.2.2.1,.bool r.2.1,.slice r.2.2.1 r.2.2.2.1 r.2.2.2.2.1]/\RdU W W.heap.size r.1.2.1 r.1.2.2.1 r.1.2.2.2.1 r.1.2.2.2.2/\RdU W W.heap.size r.2.2.1 r.2.2.2.1 r.2.2.2.2.1 r.2.2.2.2.2/\r.1.2.2.1+r.2.2.2.1+5<=Rows.uptoBulk (D i)/\Stays enc W 47 [.bool r.1.1,.slice r.1.2.1 r.1.2.2.1 r.1.2.2.2.1,.bool r.2.1,.slice r.2.2.1 r.2.2.2.1 r.2.2.2.2.1] (D i) (Pl i)) (fun i hi=>by
   obtain ⟨cs',h1,h2⟩:=hx i hi
   obtain ⟨s,A,k,c,M,s',A',k',c',M',rfl,h3,h4,h5,h6⟩:=open_rat4 h2
   exact ⟨((s,A,k,c,M),(s',A',k',c',M')),h1,h3,h4,h5,h6⟩)
  refine ⟨some a,len,m,(List.range len).map fun i=>(((f i).1.1,(f i).1.2.2.2.2),((f i).2.1,(f i).2.2.2.2.2)),rfl,⟨by simp,hl,hm,fun j r hr=>?_⟩,(fun e=>by cases e),?_,?_⟩
  ·have hj:j < len:=by
    rcases Nat.lt_or_ge j len with h3 | h3
    ·exact h3
    ·rw [gN (by simpa using h3)] at hr;cases hr
   rw [List.getElem?_map,List.getElem?_range hj] at hr
   simp at hr
   subst hr
   obtain ⟨h1,h2,h3,_,_⟩:=hf j (by omega)
   obtain ⟨k0,k1,k2,k3⟩:=cells_four h1
   have hbl:=cell_in k0
   rw [block_add] at hbl
   exact ⟨a,_,_,_,_,_,_,rfl,hbl,k0,by rw [<- k1];congr 1,by rw [<- k2];congr 1,by rw [<- k3];congr 1,h2,h3⟩
  ·have h:=bulk_sum (H:=H) (D:=D) (k:=fun i=>(f i).1.2.2.1+(f i).2.2.2.1+5) (List.range len) (fun i hi=>(hf i (by have:=List.mem_range.1 hi;omega)).2.2.2.1)
   rw [sum_five (List.range len) (fun i=>(f i).1.2.2.1+(f i).2.2.2.1),List.length_range] at h
   have e:rsz ((List.range len).map fun i=>(((f i).1.1,(f i).1.2.2.2.2),((f i).2.1,(f i).2.2.2.2.2)))=((List.range len).map fun i=>(f i).1.2.2.1+(f i).2.2.2.1).sum:=by
    unfold rsz
    rw [List.map_map]
    congr 1
    refine List.map_congr_left fun i hi=>?_
    obtain ⟨_,h2,h3,_,_⟩:=hf i (by have:=List.mem_range.1 hi;omega)
    show (f i).1.2.2.2.2.length+(f i).2.2.2.2.2.length=_
    rw [h2.len,h3.len]
   rw [e]
   simp only [Rows.uptoBulk]
   omega
  ·refine stays_slice ht (by rw [cRat];omega) hl hm fun i hi=>?_
   rw [cRat]
   exact ⟨_,(hf i hi).1,(hf i hi).2.2.2.2⟩
end
theorem RdRp.wide {w:World}{B N K N' K':Nat}{A:Option Addr}{n c:Nat}{RR:List (List RawQ)}(h:RdRp w B N K A n c RR)(hN:N<=N')(hK:K<=K'):RdRp w B N' K' A n c RR :=
 ⟨h.len,h.le,h.mx,fun j R hj=>by
  obtain ⟨ad,A1,n1,c1,h1,h2,h3,h4,h5,h6⟩:=h.at_ j R hj
  exact ⟨ad,A1,n1,c1,h1,h2,h3,h4,nT h5 hK,nT h6 hN⟩⟩
theorem RdRpp.wide {w:World}{B N K J N' K' J':Nat}{A:Option Addr}{n c:Nat}{PP:List (List (List RawQ))}(h:RdRpp w B N K J A n c PP)(hN:N<=N')(hK:K<=K')(hJ:J<=J'):RdRpp w B N' K' J' A n c PP :=
 ⟨h.len,h.le,h.mx,fun j R hj=>by
  obtain ⟨ad,A1,n1,c1,h1,h2,h3,h4,h5⟩:=h.at_ j R hj
  exact ⟨ad,A1,n1,c1,h1,h2,h3,h4.wide hN hK,nT h5 hJ⟩⟩
section
variable {H:Type}{enc:TypeId × Value->H}{W:World}
theorem cPol:Tryz.prog.cellsOf 73=1:=by kernel_rfl
theorem cPols:Tryz.prog.cellsOf 30=1:=by kernel_rfl
theorem cell_one {a:Addr}{v:Value}{i:Nat}(h1:W.cells? 0 (a.add (i*1)) 1=some [v]):W.cell? (a.add i)=some v:=by
 obtain ⟨_,_,hc⟩:=World.cells?_some h1
 have h0:=hc 0 (by omega)
 simp at h0
 have e:(a.add i).add 0=a.add i:=by unfold Addr.add;simp
 rwa [e] at h0
end
section
variable {H:Type}{enc:TypeId × Value->H}{W:World}
theorem open_prow2 {fuel:Nat}{cs:List Value}{y:DataW H × List MemPlace}(hd:DataW.trod enc Tryz.prog W 0 (fun _=>true) true fuel 30 cs=some y) :
  ∃ (A:Option Addr) (n c:Nat) (RR:List (List RawQ)),cs=[.slice A n c]/\RdRp W W.heap.size (Rows.uptoBulk y.1) (Rows.uptoBulk y.1) A n c RR/\n<=Rows.uptoBulk y.1/\(∀ R ∈ RR,5*R.length+rsz R<=Rows.uptoBulk y.1)/\Stays enc W 30 cs y.1 y.2:=by
 have ht:=Tryz.underlying30
 rcases Go.Deep.open_slice ht hd with ⟨rfl,rfl⟩ | ⟨a,len,cap,m,n,D,Pl,rfl,hb,hl,hm,hmm,rfl,hx⟩
 ·exact ⟨none,0,0,[],rfl,⟨rfl,nR,nZ,fun j r hr=>by simp at hr⟩,nZ,(fun R hR=>by cases hR),fun W' sp _ _=>⟨1,by simp [DataW.trod,ht]⟩⟩
 ·simp only [if_true] at hmm
  subst hmm
  rw [cPol] at hx
  obtain ⟨f,hf⟩:=Go.Deep.choose_lt (α:=Option Addr × Nat × Nat × List RawQ) (p:=fun i r=>W.cells? 0 (a.add (i*1)) 1=some [.slice r.1 r.2.1 r.2.2.1]/\RdRQ W W.heap.size r.1 r.2.1 r.2.2.1 r.2.2.2/\5*r.2.1+rsz r.2.2.2<=Rows.uptoBulk (D i)/\1<=Rows.uptoBulk (D i)/\Stays enc W 73 [.slice r.1 r.2.1 r.2.2.1] (D i) (Pl i)) (fun i hi=>by
   obtain ⟨cs',h1,h2⟩:=hx i hi
   obtain ⟨A,k,c,R,rfl,h3,_,h5,h6⟩:=open_qpoly h2
   exact ⟨(A,k,c,R),h1,h3,h5,bulk_one _,h6⟩)
  refine ⟨some a,len,m,(List.range len).map fun i=>(f i).2.2.2,rfl,⟨by simp,hl,hm,fun j r hr=>?_⟩,?_,?_,?_⟩
  ·have hj:j < len:=by
    rcases Nat.lt_or_ge j len with h3 | h3
    ·exact h3
    ·rw [gN (by simpa using h3)] at hr;cases hr
   rw [List.getElem?_map,List.getElem?_range hj] at hr
   simp at hr
   subst hr
   obtain ⟨h1,h2,h3,_,_⟩:=hf j (by omega)
   have k0:=cell_one h1
   have hbl:=cell_in k0
   rw [block_add] at hbl
   have hbe:=bulk_elem (D:=D) (l:=[]) hj
   exact ⟨a,_,_,_,rfl,hbl,k0,h2,nT (by omega) (bulk_elem hj),nT (by omega) (bulk_elem hj)⟩
  ·have h:=bulk_many (H:=H) (D:=D) (k:=1) (List.range len) (fun i hi=>(hf i (by have:=List.mem_range.1 hi;omega)).2.2.2.1)
   simp only [Rows.uptoBulk,List.length_range] at h ⊢
   omega
  ·intro R hR
   obtain ⟨i,hi,rfl⟩:=List.mem_map.1 hR
   have hj:=List.mem_range.1 hi
   obtain ⟨h1,h2,h3,_,_⟩:=hf i (by omega)
   have hbe:=bulk_elem (D:=D) (l:=[]) hj
   rw [h2.len]
   exact nT h3 (bulk_elem hj)
  ·refine stays_slice ht (by rw [cPol];omega) hl hm fun i hi=>?_
   rw [cPol]
   exact ⟨_,(hf i hi).1,(hf i hi).2.2.2.2⟩
theorem open_prows2 {fuel:Nat}{cs:List Value}{y:DataW H × List MemPlace}(hd:DataW.trod enc Tryz.prog W 0 (fun _=>true) true fuel 45 cs=some y) :
  ∃ (A:Option Addr) (n c:Nat) (PP:List (List (List RawQ))),cs=[.slice A n c]/\RdRpp W W.heap.size (Rows.uptoBulk y.1) (Rows.uptoBulk y.1) (Rows.uptoBulk y.1) A n c PP/\n<=Rows.uptoBulk y.1/\(∀ RR ∈ PP,∀ R ∈ RR,5*R.length+rsz R<=Rows.uptoBulk y.1)/\Stays enc W 45 cs y.1 y.2:=by
 have ht:=Tryz.underlying45
 rcases Go.Deep.open_slice ht hd with ⟨rfl,rfl⟩ | ⟨a,len,cap,m,n,D,Pl,rfl,hb,hl,hm,hmm,rfl,hx⟩
 ·exact ⟨none,0,0,[],rfl,⟨rfl,nR,nZ,fun j r hr=>by simp at hr⟩,nZ,(fun R hR=>by cases hR),fun W' sp _ _=>⟨1,by simp [DataW.trod,ht]⟩⟩
 ·simp only [if_true] at hmm
  subst hmm
  rw [cPols] at hx
  obtain ⟨f,hf⟩:=Go.Deep.choose_lt (α:=Option Addr × Nat × Nat × List (List RawQ)) (p:=fun i r=>W.cells? 0 (a.add (i*1)) 1=some [.slice r.1 r.2.1 r.2.2.1]/\RdRp W W.heap.size (Rows.uptoBulk (D i)) (Rows.uptoBulk (D i)) r.1 r.2.1 r.2.2.1 r.2.2.2/\r.2.1<=Rows.uptoBulk (D i)/\(∀ R ∈ r.2.2.2,5*R.length+rsz R<=Rows.uptoBulk (D i))/\1<=Rows.uptoBulk (D i)/\Stays enc W 30 [.slice r.1 r.2.1 r.2.2.1] (D i) (Pl i)) (fun i hi=>by
   obtain ⟨cs',h1,h2⟩:=hx i hi
   obtain ⟨A,k,c,R,rfl,h3,h5,h7,h6⟩:=open_prow2 h2
   exact ⟨(A,k,c,R),h1,h3,h5,h7,bulk_one _,h6⟩)
  refine ⟨some a,len,m,(List.range len).map fun i=>(f i).2.2.2,rfl,⟨by simp,hl,hm,fun j r hr=>?_⟩,?_,?_,?_⟩
  ·have hj:j < len:=by
    rcases Nat.lt_or_ge j len with h3 | h3
    ·exact h3
    ·rw [gN (by simpa using h3)] at hr;cases hr
   rw [List.getElem?_map,List.getElem?_range hj] at hr
   simp at hr
   subst hr
   obtain ⟨h1,h2,h3,_,_,_⟩:=hf j (by omega)
   have k0:=cell_one h1
   have hbl:=cell_in k0
   rw [block_add] at hbl
   exact ⟨a,_,_,_,rfl,hbl,k0,h2.wide (bulk_elem hj) (bulk_elem hj),nT h3 (bulk_elem hj)⟩
  ·have h:=bulk_many (H:=H) (D:=D) (k:=1) (List.range len) (fun i hi=>(hf i (by have:=List.mem_range.1 hi;omega)).2.2.2.2.1)
   simp only [Rows.uptoBulk,List.length_range] at h ⊢
   omega
  ·intro RR hRR R hR
   obtain ⟨i,hi,rfl⟩:=List.mem_map.1 hRR
   have hj:=List.mem_range.1 hi
   obtain ⟨h1,h2,h3,h4,_,_⟩:=hf i (by omega)
   exact nT (h4 R hR) (bulk_elem hj)
  ·refine stays_slice ht (by rw [cPols];omega) hl hm fun i hi=>?_
   rw [cPols]
   exact ⟨_,(hf i hi).1,(hf i hi).2.2.2.2.2⟩
theorem open_Tab2 {r:Reach}{b0:Nat}{v:Value}{d:DataW H}{ps:List MemPlace}(hval:Value.okWide Tryz.prog W r b0 45 v)(hd:DataW.Trod enc Tryz.prog W 0 (fun _=>true) true 45 v d ps) :
  ∃ (A:Option Addr) (n c:Nat) (PP:List (List (List RawQ))),v=.slice A n c/\RdRpp W W.heap.size (Rows.uptoBulk d) (Rows.uptoBulk d) (Rows.uptoBulk d) A n c PP/\n<=Rows.uptoBulk d/\(∀ RR ∈ PP,∀ R ∈ RR,5*R.length+rsz R<=Rows.uptoBulk d) /\
   ∀ (W':World) (sp:Nat->Bool),Below W.heap.size W W'->(∀ p ∈ ps,sp p.block=true)->DataW.Trod enc Tryz.prog W' 0 sp true 45 v d ps:=by
 obtain ⟨a,len,cap,rfl⟩:=okWide_slice Tryz.underlying45 hval
 obtain ⟨fuel,hf⟩:=hd
 obtain ⟨A,n,c,R,e,hR,hn,hE,hS⟩:=open_prows2 hf
 simp [Value.cells] at e
 obtain ⟨rfl,rfl,rfl⟩:=e
 exact ⟨_,_,_,R,rfl,hR,hn,hE,hS⟩
end
end Go.Proofs.YtjnklbfhelbjgaaGreat
