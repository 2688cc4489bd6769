/- Sc07. -/
import Derived.Test.YtjnklbfhelbjgaaGreatSc06
import Derived.Test.YtjnklbfhelbjgaaGreatSc00
set_option maxRecDepth 100000
set_option maxHeartbeats 32000000
set_option linter.all false
namespace Go.Proofs.YtjnklbfhelbjgaaGreat
open Go.RowKit Go.IntWalk
structure RdQs (w:World)(B N:Nat)(A:Option Addr)(n c:Nat)(L:List (Int × Int)):Prop where
 len:L.length=n
 le:n<=c
 mx:c<=maxLen
 at_:∀ (j:Nat) (p:Int × Int),L[j]?=some p->∃ (ad:Addr) (s:Bool) (A1:Option Addr) (n1 c1:Nat) (s':Bool) (A1':Option Addr) (n1' c1':Nat),A=some ad/\ad.block < B/\w.cell? (ad.add (j*4))=some (.bool s)/\w.cell? ⟨(ad.add (j*4)).block,(ad.add (j*4)).off+1,none⟩=some (.slice A1 n1 c1)/\w.cell? ⟨(ad.add (j*4)).block,(ad.add (j*4)).off+2,none⟩=some (.bool s')/\w.cell? ⟨(ad.add (j*4)).block,(ad.add (j*4)).off+3,none⟩=some (.slice A1' n1' c1')/\RdZ w B s A1 n1 c1 p.1/\RdZ w B s' A1' n1' c1' p.2/\n1<=N/\n1'<=N
theorem qs_cells {w w':World}{B:Nat}{ad:Addr}{j:Nat}{s s':Bool}{A A':Option Addr}{n c n' c':Nat}(hb:Below B w w')(h2:ad.block < B)(h3:w.cell? (ad.add (j*4))=some (.bool s))(h4:w.cell? ⟨(ad.add (j*4)).block,(ad.add (j*4)).off+1,none⟩=some (.slice A n c))(h5:w.cell? ⟨(ad.add (j*4)).block,(ad.add (j*4)).off+2,none⟩=some (.bool s'))(h6:w.cell? ⟨(ad.add (j*4)).block,(ad.add (j*4)).off+3,none⟩=some (.slice A' n' c')) :
  w'.cell? (ad.add (j*4))=some (.bool s)/\w'.cell? ⟨(ad.add (j*4)).block,(ad.add (j*4)).off+1,none⟩=some (.slice A n c)/\w'.cell? ⟨(ad.add (j*4)).block,(ad.add (j*4)).off+2,none⟩=some (.bool s')/\w'.cell? ⟨(ad.add (j*4)).block,(ad.add (j*4)).off+3,none⟩=some (.slice A' n' c') :=
 have hk:(ad.add (j*4)).block < B:=by rw [add_blk];exact h2
 ⟨(hb.cell (p:=ad.add (j*4)) hk).trans h3,(hb.cell (p:=⟨(ad.add (j*4)).block,(ad.add (j*4)).off+1,none⟩) hk).trans h4,(hb.cell (p:=⟨(ad.add (j*4)).block,(ad.add (j*4)).off+2,none⟩) hk).trans h5,(hb.cell (p:=⟨(ad.add (j*4)).block,(ad.add (j*4)).off+3,none⟩) hk).trans h6⟩
section
variable {w w':World}{B B' N:Nat}{A:Option Addr}{n c:Nat}{L:List (Int × Int)}
theorem RdQs.below (h:RdQs w B N A n c L)(hb:Below B w w'):RdQs w' B N A n c L :=
 ⟨h.len,h.le,h.mx,fun j p hp=>by
  obtain ⟨ad,s,A1,n1,c1,s',A1',n1',c1',h1,h2,h3,h4,h5,h6,h7,h8,h9,h10⟩:=h.at_ j p hp
  obtain ⟨k3,k4,k5,k6⟩:=qs_cells hb h2 h3 h4 h5 h6
  exact ⟨ad,s,A1,n1,c1,s',A1',n1',c1',h1,h2,k3,k4,k5,k6,h7.below hb,h8.below hb,h9,h10⟩⟩
theorem RdQs.more (h:RdQs w B N A n c L)(hB:B<=B'):RdQs w B' N A n c L :=
 ⟨h.len,h.le,h.mx,fun j p hp=>by
  obtain ⟨ad,s,A1,n1,c1,s',A1',n1',c1',h1,h2,h3,h4,h5,h6,h7,h8,h9,h10⟩:=h.at_ j p hp
  exact ⟨ad,s,A1,n1,c1,s',A1',n1',c1',h1,by omega,h3,h4,h5,h6,h7.more hB,h8.more hB,h9,h10⟩⟩
theorem RdQs.next (h:RdQs w w.heap.size N A n c L)(hb:Below w.heap.size w w'):RdQs w' w'.heap.size N A n c L:=(h.below hb).more hb.size
theorem qs_at (h:RdQs w B N A n c L){j:Nat}(hj:j < n) :
  ∃ (ad:Addr) (s:Bool) (A1:Option Addr) (n1 c1:Nat) (s':Bool) (A1':Option Addr) (n1' c1':Nat) (z d:Int),A=some ad/\ad.block < B/\w.cell? (ad.add (j*4))=some (.bool s)/\w.cell? ⟨(ad.add (j*4)).block,(ad.add (j*4)).off+1,none⟩=some (.slice A1 n1 c1)/\w.cell? ⟨(ad.add (j*4)).block,(ad.add (j*4)).off+2,none⟩=some (.bool s')/\w.cell? ⟨(ad.add (j*4)).block,(ad.add (j*4)).off+3,none⟩=some (.slice A1' n1' c1')/\RdZ w B s A1 n1 c1 z/\RdZ w B s' A1' n1' c1' d/\n1<=N/\n1'<=N/\Hid (L[j]?=some (z,d)):=by
 have hl:j < L.length:=by rw [h.len];exact hj
 obtain ⟨ad,s,A1,n1,c1,s',A1',n1',c1',h1,h2,h3,h4,h5,h6,h7,h8,h9,h10⟩:=h.at_ j L[j] (gE hl)
 exact ⟨ad,s,A1,n1,c1,s',A1',n1',c1',_,_,h1,h2,h3,h4,h5,h6,h7,h8,h9,h10,ah (gE hl)⟩
end
def qc (e:Ent × Ent):List Value:=[.bool e.1.1,.slice e.1.2.1 e.1.2.2.1 e.1.2.2.2,.bool e.2.1,.slice e.2.2.1 e.2.2.2.1 e.2.2.2.2]
def qcs (E:List (Ent × Ent)):List Value:=E.flatMap qc
theorem qcs_cons (e:Ent × Ent)(E:List (Ent × Ent)):qcs (e :: E)=qc e ++ qcs E:=by simp [qcs]
theorem qcs_append (E F:List (Ent × Ent)):qcs (E ++ F)=qcs E ++ qcs F:=by simp [qcs]
theorem qcs_one (e:Ent × Ent):qcs [e]=[.bool e.1.1,.slice e.1.2.1 e.1.2.2.1 e.1.2.2.2,.bool e.2.1,.slice e.2.2.1 e.2.2.2.1 e.2.2.2.2]:=rfl
theorem qcs_len (E:List (Ent × Ent)):(qcs E).length=E.length*4:=by
 induction E with
 | nil=>rfl
 | cons e E ih=>rw [qcs_cons,List.length_append,ih];simp [qc];omega
theorem qcs_at:∀ (E:List (Ent × Ent)) (j:Nat) (e:Ent × Ent),E[j]?=some e->∀ i,i < 4->(qcs E)[j*4+i]?=(qc e)[i]?
 | [],_,_,h,_,_=>by simp at h
 | x :: E, 0, e, h, i, hi => by
   simp at h
   subst h
   rw [qcs_cons,Nat.zero_mul,Nat.zero_add,List.getElem?_append_left (by simp [qc];omega)]
 | x :: E, j + 1, e, h, i, hi => by
   have ih:=qcs_at E j e (by simpa using h) i hi
   rw [qcs_cons,List.getElem?_append_right (by simp [qc];omega),<- ih]
   congr 1
   simp [qc]
   omega
def EntQ (w:World)(b:Nat)(E:List (Ent × Ent))(L:List Rat):Prop:=E.length=L.length/\∀ (j:Nat) (e:Ent × Ent) (x:Rat),E[j]?=some e->L[j]?=some x->OwQ w b e.1.1 e.1.2.1 e.1.2.2.1 e.1.2.2.2 e.2.1 e.2.2.1 e.2.2.2.1 e.2.2.2.2 x
def OwQs (w:World)(b:Nat)(A:Option Addr)(n c:Nat)(L:List Rat):Prop :=
 ∃ E:List (Ent × Ent),w.ownsRow b 47 4 (.slice A n c) n (qcs E)/\E.length=n/\EntQ w b E L
section
variable {w w':World}{b b':Nat}{A:Option Addr}{n c:Nat}{L:List Rat}{E:List (Ent × Ent)}
theorem EntQ.next (h:EntQ w b E L)(hb:Below w.heap.size w w'):EntQ w' b E L:=⟨h.1,fun j e z he hz=>(h.2 j e z he hz).next hb⟩
theorem EntQ.base (h:EntQ w b E L)(hb:b'<=b):EntQ w b' E L:=⟨h.1,fun j e z he hz=>(h.2 j e z he hz).base hb⟩
theorem EntQ.snoc (h:EntQ w b E L){e:Ent × Ent}{x:Rat}(he:OwQ w b e.1.1 e.1.2.1 e.1.2.2.1 e.1.2.2.2 e.2.1 e.2.2.1 e.2.2.2.1 e.2.2.2.2 x):EntQ w b (E ++ [e]) (L ++ [x]):=by
 refine ⟨by rw [List.length_append,List.length_append,h.1];rfl,fun j e' z' h1 h2=>?_⟩
 rcases Nat.lt_or_ge j E.length with hj | hj
 ·rw [List.getElem?_append_left hj] at h1
  rw [List.getElem?_append_left (by rw [<- h.1];exact hj)] at h2
  exact h.2 j e' z' h1 h2
 ·rw [List.getElem?_append_right hj] at h1
  rw [List.getElem?_append_right (by rw [<- h.1];exact hj)] at h2
  rw [<- h.1] at h2
  have hj0:j-E.length=0:=by
   rcases Nat.eq_zero_or_pos (j-E.length) with e0 | e0
   ·exact e0
   ·rw [gN (by simp;omega)] at h1;cases h1
  rw [hj0] at h1 h2
  simp at h1 h2
  subst h1 h2
  exact he
theorem OwQs.len (h:OwQs w b A n c L):L.length=n:=by
 obtain ⟨E,_,h2,h3⟩:=h
 rw [<- h3.1,h2]
theorem OwQs.nil (w:World)(b:Nat):OwQs w b none 0 0 []:=⟨[],World.ownsRow_nil _ _ _ _,rfl,rfl,fun j e z he _=>by simp at he⟩
theorem OwQs.next (h:OwQs w b A n c L)(hb:Below w.heap.size w w'):OwQs w' b A n c L:=by
 obtain ⟨E,h1,h2,h3⟩:=h
 exact ⟨E,row_next h1 hb,h2,h3.next hb⟩
theorem OwQs.form (h:OwQs w b A n c L):(A=none/\n=0/\c=0) ∨ ∃ g,A=some ⟨g,0,none⟩/\b<=g/\g < w.heap.size/\n<=c/\c<=maxLen:=by
 obtain ⟨E,h,_,_⟩:=h
 rcases h.2 with ⟨h1,h2⟩ | ⟨g,cap,cur,h1,h2,h3,h4,h5,_⟩
 ·injection h1 with h1 h1' h1''
  exact .inl ⟨h1,h2,h1''⟩
 ·injection h1 with h1 h1' h1''
  subst h1''
  exact .inr ⟨g,h1,h2,(Array.getElem?_eq_some_iff.1 h3).1,h4,h5⟩
theorem oq_at (h:OwQs w b A n c L){j:Nat}(hj:j < n) :
  ∃ (ad:Addr) (s:Bool) (A1:Option Addr) (n1 c1:Nat) (s':Bool) (A1':Option Addr) (n1' c1':Nat) (x:Rat),A=some ad/\ad.block < w.heap.size/\w.cell? (ad.add (j*4))=some (.bool s)/\w.cell? ⟨(ad.add (j*4)).block,(ad.add (j*4)).off+1,none⟩=some (.slice A1 n1 c1)/\w.cell? ⟨(ad.add (j*4)).block,(ad.add (j*4)).off+2,none⟩=some (.bool s')/\w.cell? ⟨(ad.add (j*4)).block,(ad.add (j*4)).off+3,none⟩=some (.slice A1' n1' c1')/\OwQ w b s A1 n1 c1 s' A1' n1' c1' x/\Hid (L[j]?=some x):=by
 have hl:=h.len
 rcases h.form with ⟨_,h0,_⟩ | ⟨g,rfl,h1,h2,h3,h4⟩
 ·omega
 ·obtain ⟨E,hr,hE,hel⟩:=h
  have hjE:j < E.length:=by omega
  have hjL:j < L.length:=by omega
  have he:=gE hjE
  have hq:=qcs_at E j _ he
  have hx:=hel.2 j _ _ he (gE hjL)
  refine ⟨_,_,_,_,_,_,_,_,_,_,rfl,h2,?_,?_,?_,?_,hx,ah (gE hjL)⟩
  ·rw [add_base,hr.cellAt (j*4) (by omega)];exact hq 0 (by omega)
  ·rw [add_base];exact (hr.cellAt (j*4+1) (by omega)).trans (hq 1 (by omega))
  ·rw [add_base];exact (hr.cellAt (j*4+2) (by omega)).trans (hq 2 (by omega))
  ·rw [add_base];exact (hr.cellAt (j*4+3) (by omega)).trans (hq 3 (by omega))
theorem own_otherT {t:TypeId}(ht:t ≠ 171){k m g:Nat}{M:List Nat}{A:Option Addr}{cur:Array Value}{f:Nat × Nat}(h:OwU w b A k m M)(hg:w.heap[g]?=some (.cells cur t f)){w1:World}(hb:∀ i,i < w.heap.size->i ≠ g->w1.heap[i]?=w.heap[i]?):OwU w1 b A k m M:=by
 refine ⟨⟨h.own.1,?_⟩,h.wd⟩
 rcases h.own.2 with h0 | ⟨g2,cap,cur2,h1,h2,h3,h4⟩
 ·exact .inl h0
 ·have hne:g2 ≠ g:=by
   rintro rfl
   rw [hg] at h3
   injection h3 with h3
   injection h3 with _ h3
   exact ht h3
  exact .inr ⟨g2,cap,cur2,h1,h2,(hb g2 (Array.getElem?_eq_some_iff.1 h3).1 hne).trans h3,h4⟩
theorem qs_more {wb w1:World}{v':Value}{e:Ent × Ent}{x:Rat}{t:TypeId}(he:OwQ w b e.1.1 e.1.2.1 e.1.2.2.1 e.1.2.2.2 e.2.1 e.2.2.1 e.2.2.2.1 e.2.2.2.2 x)(hwb:wb=w.alloc (.cells #[.bool e.1.1,.slice e.1.2.1 e.1.2.2.1 e.1.2.2.2,.bool e.2.1,.slice e.2.2.1 e.2.2.2.1 e.2.2.2.2] t)){E:List (Ent × Ent)}(hE:wb.ownsRow b 47 4 (.slice A n c) n (qcs E))(hEl:E.length=n)(hEn:EntQ w b E L)
  (hown':w1.ownsRow b 47 4 v' (n+1) (qcs E ++ [.bool e.1.1,.slice e.1.2.1 e.1.2.2.1 e.1.2.2.2,.bool e.2.1,.slice e.2.2.1 e.2.2.2.1 e.2.2.2.2])) (hg:wb.grownBy w1 (Value.slice A n c).ownBlock) :
  ∃ (A':Option Addr) (c':Nat),v'=.slice A' (n+1) c'/\OwQs w1 b A' (n+1) c' (L ++ [x]):=by
 obtain ⟨A',c',rfl⟩:=row_sl hown'
 have hba:Below w.heap.size w wb:=by rw [hwb];exact (Below.refl w.heap.size w).alloc nR _
 have key:∀ {s:Bool} {B:Option Addr} {k m:Nat} {y:Int},OwZ w b s B k m y->OwZ w1 b s B k m y:=by
  intro s B k m y hy
  have hy2:=hy.next hba
  refine ⟨?_,hy2.sgn⟩
  rcases hE.2 with ⟨h1,h2⟩ | ⟨g,cap,cur,h1,h2,h3,_⟩
  ·refine hy2.own.next (bR.grown hg nR fun k hk=>?_)
   rw [h1] at hk
   cases hk
  ·refine own_otherT (by decide) hy2.own h3 fun i hi hne=>hg.block i hi ?_
   rw [h1]
   intro e0
   cases e0
   exact hne rfl
 refine ⟨A',c',rfl,E ++ [e],?_,by rw [List.length_append,hEl];rfl,?_⟩
 ·rw [qcs_append,qcs_one];exact hown'
 ·have h2:=hEn.snoc he
  exact ⟨h2.1,fun j e' z' h3 h4=>⟨key (h2.2 j e' z' h3 h4).num,key (h2.2 j e' z' h3 h4).den⟩⟩
end
theorem infoQ:(Tryz.prog.info? 47).map (fun i=>(i.zero,i.size,i.bytes))=some (some (.agg #[.bool false,.slice none 0 0,.bool false,.slice none 0 0]),4,64):=by kernel_rfl
attribute [local go_sem ↓] Go.wp_at_zero Go.wp_at_succ
def RetZD2 (z d k:Int)(w:World)(e:Ending)(w':World):Prop :=
 ∃ (s:Bool) (A:Option Addr) (n c:Nat) (y:Int) (s':Bool) (A':Option Addr) (n' c':Nat) (y':Int) (kk:Int),e=.returned (.tuple #[.agg #[.bool s,.slice A n c,.bool s',.slice A' n' c'],.int .i64 kk])/\OwZ w' w.heap.size s A n c y/\OwZ w' w.heap.size s' A' n' c' y'/\Hid (y=z/\y'=d/\kk=k)/\Below w.heap.size w w'
theorem make_qroom (k:Nat)(hk:k<=1099511627776)(w:World) :
  (Instr.makeSlice 72 (.int .i64 0) (.int .i64 (k:Int))).run Tryz.prog w=.ok (.slice (some ⟨w.heap.size,0,none⟩) 0 k) (w.alloc (.cells (madeCells #[.bool false,.slice none 0 0,.bool false,.slice none 0 0] (k*4)) 47)):=by
 obtain ⟨i,hi,hz,hs,hb⟩:=info_parts infoQ
 have hr:=run_make (P:=Tryz.prog) w 72 47 i _ Tryz.underlying72 hi hz .i64 .i64 0 k (by omega) (by omega) (by rw [hb];omega) (by omega)
 rw [hs] at hr
 exact hr
theorem OwQs.room (w:World)(k:Nat)(hk:k<=maxLen):OwQs (w.alloc (.cells (madeCells #[.bool false,.slice none 0 0,.bool false,.slice none 0 0] (k*4)) 47)) w.heap.size (some ⟨w.heap.size,0,none⟩) 0 k [] :=
 ⟨[],⟨rfl,.inr ⟨w.heap.size,k,_,rfl,nR,heap_alloc_new w _,nZ,hk,by simp [madeCells],rfl⟩⟩,rfl,rfl,fun j e z he _=>by simp at he⟩
theorem qcell_new (w:World)(x y u v:Value)(t:TypeId):∀ j a,[x,y,u,v][j]?=some a->(w.alloc (.cells #[x,y,u,v] t)).cell? ((⟨w.heap.size,0,none⟩:Addr).add j)=some a:=by
 intro j a hj
 match j,hj with
 | 0,hj=>simp at hj;subst hj;simp [Addr.add]
 | 1,hj=>simp at hj;subst hj;simp [Addr.add]
 | 2,hj=>simp at hj;subst hj;simp [Addr.add]
 | 3,hj=>simp at hj;subst hj;simp [Addr.add]
 | (j+4),hj=>simp at hj
theorem mapq_snoc {f:Int × Int->Rat}{L:List (Int × Int)}{j:Nat}{p:Int × Int}(h:L[j]?=some p):(L.take j).map f ++ [f p]=(L.take (j+1)).map f:=by
 rw [List.take_add_one,h]
 simp
abbrev qval (p:Int × Int):Rat:=Rat.divInt p.1 p.2
theorem made_any {f N:Nat}{A:Option Addr}{n c:Nat}{L:List (Int × Int)}{w:World}{z d k:Int}(h:RdQs w w.heap.size N A n c L)(hn:n<=1048576)(hN:N<=1000000000000)(heg:∀ args w,(callFunc f args).run Tryz.prog w=.ok (.enter f args) w)
  (hdo:(∀ p ∈ L,p.2 ≠ 0)->∀ (W:World) (A':Option Addr) (c':Nat) (b:Nat),Below w.heap.size w W->w.heap.size<=b->OwQs W b A' n c' (L.map qval)->Calls Tryz.prog f #[.slice A' n c'] W (RetZD2 z d k W)) :
  Calls Tryz.prog 85 #[.func (.func f) #[] #[],.slice A n c] w fun e w'=>((∀ p ∈ L,p.2 ≠ 0)/\RetZD2 z d k w e w') ∨ ((∃ p ∈ L,p.2=0)/\RetQ0 6 w e w'):=by
 have HD:=ah hdo
 have HLEN:=ah h.len
 have hmk:=fun W:World=>make_qroom n (by omega) W
 obtain ⟨i0,hi,hz0,hz1,hz2⟩:=info_parts infoQ
 have hX0:=QC.new w false none 0 0 false none 0 0
 have hb0:Below w.heap.size w (w.alloc (.cells #[.bool false,.slice none 0 0,.bool false,.slice none 0 0] 47)):=bA
 obtain ⟨W0,HW0⟩:∃ W,W=(w.alloc (.cells #[.bool false,.slice none 0 0,.bool false,.slice none 0 0] 47)).alloc (.cells #[.bool false,.slice none 0 0,.bool false,.slice none 0 0] 47):=⟨_,rfl⟩
 obtain ⟨hR0,hZ0,hB0⟩:=q_box1 w false none 0 0 false none 0 0 W0 HW0
 have hs0:W0.heap.size=w.heap.size+1+1:=by rw [HW0];simp
 obtain ⟨W1,HW1⟩:∃ W,W=W0.alloc (.cells (madeCells #[.bool false,.slice none 0 0,.bool false,.slice none 0 0] (n*4)) 47):=⟨_,rfl⟩
 have hb1:Below W0.heap.size W0 W1:=by rw [HW1];exact bA
 have hO1:OwQs W1 W0.heap.size (some ⟨W0.heap.size,0,none⟩) 0 n []:=by rw [HW1];exact OwQs.room W0 n (by unfold maxLen;omega)
 have HRZ:=ah (show ∀ W:World,Below W0.heap.size W0 W->QC W w.heap.size false none 0 0 false none 0 0/\QC W (w.heap.size+1) false none 0 0 false none 0 0 from fun W hb=>⟨hR0.next hb,hZ0.next hb⟩)
 have HB0:=ah hB0
 have HS0:=ah hs0
 rw [hs0] at hO1
 rw [HW0] at HW1
 have HW1:=ah HW1
 clear hdo hX0 hb0 hR0 hZ0 hB0 hs0 HW0
 go_enter Tryz.func85,Tryz.ntmps85
 go_wp2_with fail
 rw [<- HW1.out]
 clear HW1
 clear HW1
 have HLT:=ah (show w.heap.size+1 < W0.heap.size by rw [HS0.out];exact Nat.lt_succ_self _)
 rw [<- HS0.out] at hO1
 go_loopw [7,17] (fun ov iv wr=>∃ (j c':Nat) (A':Option Addr) (M:List Rat),ov=.slice A' j c'/\iv=.int .i64 j/\j<=n/\OwQs wr W0.heap.size A' j c' M/\Hid (M=(L.take j).map qval)/\Hid (∀ (i:Nat) (p:Int × Int),i < j->L[i]?=some p->p.2 ≠ 0)/\Below W0.heap.size W0 wr) (fun _ iv _=>n-(intOf iv).toNat)
 case atStart=>exact ⟨0,n,_,[],by rw [HS0.out],rfl,nZ,hO1,ah rfl,ah fun i p hi=>absurd hi (Nat.not_lt_zero _),hb1⟩
 case round =>
  clear hO1 hb1
  obtain ⟨j,c',A',M,rfl,rfl,hj,ho,hM,hne,hB⟩:=hrel
  by_cases hjn:j=n
  ·subst hjn
   have HALL:=ah (show ∀ p ∈ L,p.2 ≠ 0 from fun p hp=>by
    obtain ⟨i,hi,e⟩:=List.mem_iff_getElem.1 hp
    exact hne.out i p (by rw [<- HLEN.out];exact hi) (by rw [gE hi,e]))
   have HBW:=tM HB0 hB
   have HO:=ah (show OwQs wr W0.heap.size A' j c' (L.map qval) by rw [<- List.take_of_length_le (l:=L) (by rw [HLEN.out];exact nR),<- hM.out];exact ho)
   have HR:=ah (HRZ.out _ hB).1
   clear ho hB hM hne
   go_wp2_with fail
   refine (HD.out HALL.out wr A' c' _ HBW.out HB0.out.size HO.out).mono ?_
   rintro _ W5 ⟨s5,A5,n5,c5,y5,s6,A6,n6,c6,y6,kk,rfl,ho5,ho6,hy,hb5⟩
   have hR5:=HR.out.next hb5
   have r0:=hR5.c0
   have r1:=hR5.c1
   have r2:=hR5.c2
   have r3:=hR5.c3
   have f0:=hR5.fz 0
   have f1:=hR5.fz 1
   have f2:=hR5.fz 2
   have f3:=hR5.fz 3
   have HR9:=ah (hR5.store s5 A5 n5 c5 s6 A6 n6 c6)
   have HO9:=ah (cJ ((ho5.base (b':=w.heap.size) HBW.out.size).keep (keep_putQ hR5 s5 A5 n5 c5 s6 A6 n6 c6)) ((ho6.base (b':=w.heap.size) HBW.out.size).keep (keep_putQ hR5 s5 A5 n5 c5 s6 A6 n6 c6)))
   have HB9:=ah (below_putQ (HBW.out.trans (hb5.mono HBW.out.size)) (Nat.le_refl w.heap.size) s5 A5 n5 c5 s6 A6 n6 c6)
   unfold putQ at HR9 HB9 HO9
   clear ho5 ho6 hb5 hR5
   go_wp2_with fail
   generalize (((W5.setCell ⟨w.heap.size,0,none⟩ (.bool s5)).setCell ⟨w.heap.size,1,none⟩ (.slice A5 n5 c5)).setCell ⟨w.heap.size,2,none⟩ (.bool s6)).setCell ⟨w.heap.size,3,none⟩ (.slice A6 n6 c6)=W9 at *
   have z0:=HR9.out.c0
   have z1:=HR9.out.c1
   have z2:=HR9.out.c2
   have z3:=HR9.out.c3
   exact bodyPost_ret (by simp [results,Tryz.results85,go_sem,z0,z1,z2,z3]) rfl (.inl ⟨HALL.out,_,_,_,_,_,_,_,_,_,_,_,rfl,HO9.out.1,HO9.out.2,hy,HB9.out⟩)
  ·have hjl:j < n:=by omega
   clear hjn
   have hjli:(j:Int) < (n:Int):=by omega
   have hBW:=HB0.out.trans (hB.mono HB0.out.size)
   obtain ⟨ad,s1,A1,n1,c1,s2,A2,n2,c2,z1,d1,rfl,hbk,hx0,hx1,hx2,hx3,hr1,hr2,hn1,hn2,hp⟩:=qs_at h hjl
   obtain ⟨hy0,hy1,hy2,hy3⟩:=qs_cells hBW hbk hx0 hx1 hx2 hx3
   obtain ⟨W2,HW2⟩:∃ W,W=wr.alloc (.cells #[.bool s1,.slice A1 n1 c1,.bool s2,.slice A2 n2 c2] 47):=⟨_,rfl⟩
   have hb2:Below wr.heap.size wr W2:=by rw [HW2];exact bA
   have hB2:=hB.trans (hb2.mono hB.size)
   have hBW2:=hBW.trans (hb2.mono hBW.size)
   have HO:=ah (ho.next hb2)
   have HRD:=ah (cJ (hr1.next hBW2) (hr2.next hBW2))
   have HB2:=ah hB2
   have HBW2:=ah hBW2
   have HNN:=ah (cJ (nT hn1 hN) (nT hn2 hN))
   have HW2:=ah HW2
   clear ho hB hb2 hB2 hBW hBW2 hr1 hr2 hx0 hx1 hx2 hx3
   go_wp2_with fail
   rw [<- HW2.out]
   clear HW2 hy0 hy1 hy2 hy3
   clear HW2
   by_cases hd0:d1=0
   ·subst hd0
    have HEX:=ah (show ∃ p ∈ L,p.2=0 from ⟨(z1,0),gM hp.out,rfl⟩)
    refine (qnorm_zero HRD.out.2 HNN.out.2).mono ?_
    rintro _ W3 ⟨rfl,hb3⟩
    obtain ⟨W4,HW4⟩:∃ W,W=W3.alloc (.cells #[.bool false,.slice none 0 0,.bool false,.slice none 0 0] 47):=⟨_,rfl⟩
    have hb4:Below W3.heap.size W3 W4:=by rw [HW4];exact bA
    have hb24:=hb3.trans (hb4.mono hb3.size)
    have hRZ:=HRZ.out _ (HB2.out.trans (hb24.mono HB2.out.size))
    have hR:=hRZ.1
    have r0:=hR.c0
    have r1:=hR.c1
    have r2:=hR.c2
    have r3:=hR.c3
    have f0:=hR.fz 0
    have f1:=hR.fz 1
    have f2:=hR.fz 2
    have f3:=hR.fz 3
    have g0:=hRZ.2.c0
    have g1:=hRZ.2.c1
    have g2:=hRZ.2.c2
    have g3:=hRZ.2.c3
    rw [HW4] at r0 r1 r2 r3 f0 f1 f2 f3 g0 g1 g2 g3
    have HR9:=ah (hR.store false none 0 0 false none 0 0)
    have HB9:=ah (below_putQ (HBW2.out.trans (hb24.mono HBW2.out.size)) (Nat.le_refl w.heap.size) false none 0 0 false none 0 0)
    unfold putQ at HR9 HB9
    have HW4:=ah HW4
    clear hb3 hb4 hb24 hR hRZ
    go_wp2_with fail
    rw [<- HW4.out]
    clear HW4 r0 r1 r2 r3 f0 f1 f2 f3 g0 g1 g2 g3
    clear HW4
    generalize (((W4.setCell ⟨w.heap.size,0,none⟩ (.bool false)).setCell ⟨w.heap.size,1,none⟩ (.slice none 0 0)).setCell ⟨w.heap.size,2,none⟩ (.bool false)).setCell ⟨w.heap.size,3,none⟩ (.slice none 0 0)=W9 at *
    have z0:=HR9.out.c0
    have z1:=HR9.out.c1
    have z2:=HR9.out.c2
    have z3:=HR9.out.c3
    exact bodyPost_ret (by simp [results,Tryz.results85,go_sem,z0,z1,z2,z3]) rfl (.inr ⟨HEX.out,rfl,HB9.out⟩)
   ·have HD1:=ah hd0
    clear hd0
    refine (qnorm_any HRD.out.1 HRD.out.2 HNN.out.1 HNN.out.2 HD1.out).mono ?_
    rintro _ W3 ⟨s3,A3,n3,c3,s4,A4,n4,c4,y,rfl,ho3,hy,hb3⟩
    have hB3:=HB2.out.trans (hb3.mono HB2.out.size)
    obtain ⟨W4,HW4⟩:∃ W,W=W3.alloc (.cells #[.bool s3,.slice A3 n3 c3,.bool s4,.slice A4 n4 c4] 47):=⟨_,rfl⟩
    have hb4:Below W3.heap.size W3 W4:=by rw [HW4];exact bA
    have hB4:=hB3.trans (hb4.mono hB3.size)
    obtain ⟨E,hE,hEl,hEn⟩:=(HO.out.next hb3).next hb4
    have HO4:=ah ((ho3.base HB2.out.size).next hb4)
    rw [HW4] at hE hB4 hEn
    rw [HW4] at HO4
    have HE:=ah hE
    have HEN:=ah (cJ hEl hEn)
    have HM2:=ah (show M ++ [y]=(L.take (j+1)).map qval by rw [hM.out,hy.out];exact mapq_snoc hp.out)
    have HNE2:=ah (show ∀ (i:Nat) (p:Int × Int),i < j+1->L[i]?=some p->p.2 ≠ 0 from fun i p hi hq=>by
     rcases Nat.lt_or_ge i j with h1 | h1
     ·exact hne.out i p h1 hq
     ·rw [show i=j by omega,hp.out] at hq
      injection hq with hq
      rw [<- hq]
      exact HD1.out)
    have HB4:=ah hB4
    clear hE hEl hEn hb3 ho3 hb4 hB3 hB4 hy HO hne hM
    clear HW4
    go_wp2_with (at_builtin;refine wpList_append_own _ rfl _ _ 72 rfl W0.heap.size 47 i0 (.agg #[.bool false,.slice none 0 0,.bool false,.slice none 0 0]) 4 64 Tryz.underlying72 hi hz0 hz1 hz2 rfl (by decide) _ _ _ rfl (HE.out.alloc _) ⟨W3.heap.size+1,0,none⟩ 1 1 [.bool s3,.slice A3 n3 c3,.bool s4,.slice A4 n4 c4] rfl rfl (by simpa using qcell_new (W3.alloc (.cells #[.bool s3,.slice A3 n3 c3,.bool s4,.slice A4 n4 c4] 47)) (.bool s3) (.slice A3 n3 c3) (.bool s4) (.slice A4 n4 c4) 47) (by simp [Value.oneCell']) (by unfold maxLen;omega) (by omega) (by have:=HB4.out.size;simp at this ⊢;omega) ?_;intro v' w1 hown' hgrow _)
    have hmore:=qs_more (e:=((s3,A3,n3,c3),(s4,A4,n4,c4))) (x:=y) HO4.out rfl (HE.out.alloc _) HEN.out.1 HEN.out.2 hown' hgrow
    have HB5:=ah ((HB4.out.alloc HB4.out.size (.cells #[.bool s3,.slice A3 n3 c3,.bool s4,.slice A4 n4 c4] 47)).grown hgrow (by have:=HB4.out.size;simp at this ⊢;omega) (own_block HE.out))
    obtain ⟨A5,c5,rfl,ho5⟩:=hmore
    clear hown' hgrow HE HEN HO4
    go_wp2
    go_roundw
    case rel=>exact ⟨j+1,c5,A5,M ++ [y],rfl,by go_num,by omega,ho5,HM2,HNE2,HB5.out⟩
    case measure=>simp [intOf];omega
theorem oq_two {w:World}{b:Nat}{A:Option Addr}{c:Nat}{x y:Rat}(h:OwQs w b A 2 c [x,y]) :
  ∃ (g:Nat) (s1:Bool) (A1:Option Addr) (n1 c1:Nat) (s2:Bool) (A2:Option Addr) (n2 c2:Nat) (s3:Bool) (A3:Option Addr) (n3 c3:Nat) (s4:Bool) (A4:Option Addr) (n4 c4:Nat),A=some ⟨g,0,none⟩/\g < w.heap.size /\
   (w.cell? ⟨g,0,none⟩=some (.bool s1)/\w.cell? ⟨g,1,none⟩=some (.slice A1 n1 c1)/\w.cell? ⟨g,2,none⟩=some (.bool s2)/\w.cell? ⟨g,3,none⟩=some (.slice A2 n2 c2)) /\
   (w.cell? ⟨g,4,none⟩=some (.bool s3)/\w.cell? ⟨g,5,none⟩=some (.slice A3 n3 c3)/\w.cell? ⟨g,6,none⟩=some (.bool s4)/\w.cell? ⟨g,7,none⟩=some (.slice A4 n4 c4)) /\
   OwQ w b s1 A1 n1 c1 s2 A2 n2 c2 x/\OwQ w b s3 A3 n3 c3 s4 A4 n4 c4 y:=by
 rcases h.form with ⟨_,h0,_⟩ | ⟨g,rfl,h1,h2,h3,h4⟩
 ·omega
 ·obtain ⟨ad,s1,A1,n1,c1,s2,A2,n2,c2,x',e1,k1,a0,a1,a2,a3,hx,hx'⟩:=oq_at h (show 0 < 2 by omega)
  obtain ⟨ad',s3,A3,n3,c3,s4,A4,n4,c4,y',e2,k2,b0,b1,b2,b3,hy,hy'⟩:=oq_at h (show 1 < 2 by omega)
  injection e1 with e1
  subst e1
  injection e2 with e2
  subst e2
  obtain rfl:x=x':=by simpa using hx'.out
  obtain rfl:y=y':=by simpa using hy'.out
  rw [add_base] at a0 a1 a2 a3 b0 b1 b2 b3
  exact ⟨g,s1,A1,n1,c1,s2,A2,n2,c2,s3,A3,n3,c3,s4,A4,n4,c4,rfl,h2,⟨a0,a1,a2,a3⟩,⟨b0,b1,b2,b3⟩,hx,hy⟩
theorem qmul_val (x y:Rat):Rat.divInt (x.num*y.num) ((x.den:Int)*(y.den:Int))=x*y:=by
 rw [<- Rat.divInt_mul_divInt,Rat.num_divInt_den,Rat.num_divInt_den]
theorem qden_ne (x:Rat):(x.den:Int) ≠ 0:=by
 have:=x.den_nz
 omega
theorem qmulIn_any {N b:Nat}{A:Option Addr}{c:Nat}{x y:Rat}{w:World}(h:OwQs w b A 2 c [x,y])(hx:Zz.zl x.num<=N/\Zz.zl x.den<=N)(hy:Zz.zl y.num<=N/\Zz.zl y.den<=N)(hN:N<=400000000000) :
  Calls Tryz.prog 165 #[.slice A 2 c] w (RetZD2 (x*y).num (x*y).den 0 w):=by
 obtain ⟨g,s1,A1,n1,c1,s2,A2,n2,c2,s3,A3,n3,c3,s4,A4,n4,c4,rfl,hg,⟨a0,a1,a2,a3⟩,⟨b0,b1,b2,b3⟩,ox,oy⟩:=oq_two h
 obtain ⟨W1,HW1⟩:∃ W,W=w.alloc (.cells #[.bool false,.slice none 0 0,.bool false,.slice none 0 0] 47):=⟨_,rfl⟩
 have hR:QC W1 w.heap.size false none 0 0 false none 0 0:=by rw [HW1];exact QC.new w false none 0 0 false none 0 0
 have hB:Below w.heap.size w W1:=by rw [HW1];exact bA
 have HCE:=ah (show ∀ W:World,Below W1.heap.size W1 W->(W.cell? ⟨g,0,none⟩=some (.bool s1)/\W.cell? ⟨g,1,none⟩=some (.slice A1 n1 c1)/\W.cell? ⟨g,2,none⟩=some (.bool s2)/\W.cell? ⟨g,3,none⟩=some (.slice A2 n2 c2)/\W.cell? ⟨g,4,none⟩=some (.bool s3)/\W.cell? ⟨g,5,none⟩=some (.slice A3 n3 c3)/\W.cell? ⟨g,6,none⟩=some (.bool s4)/\W.cell? ⟨g,7,none⟩=some (.slice A4 n4 c4)) from fun W hb=>by
  have hb':=hB.trans (hb.mono hB.size)
  exact ⟨(hb'.cell hg).trans a0,(hb'.cell hg).trans a1,(hb'.cell hg).trans a2,(hb'.cell hg).trans a3,(hb'.cell hg).trans b0,(hb'.cell hg).trans b1,(hb'.cell hg).trans b2,(hb'.cell hg).trans b3⟩)
 have HCP:=ah (show ∀ (W:World) (t:Bool) (D:Option Addr) (k m:Nat) (t':Bool) (D':Option Addr) (k' m':Nat),Below W1.heap.size W1 W->((putQ W w.heap.size t D k m t' D' k' m').cell? ⟨g,0,none⟩=some (.bool s1)/\(putQ W w.heap.size t D k m t' D' k' m').cell? ⟨g,1,none⟩=some (.slice A1 n1 c1)/\(putQ W w.heap.size t D k m t' D' k' m').cell? ⟨g,2,none⟩=some (.bool s2)/\(putQ W w.heap.size t D k m t' D' k' m').cell? ⟨g,3,none⟩=some (.slice A2 n2 c2)/\(putQ W w.heap.size t D k m t' D' k' m').cell? ⟨g,4,none⟩=some (.bool s3)/\(putQ W w.heap.size t D k m t' D' k' m').cell? ⟨g,5,none⟩=some (.slice A3 n3 c3)/\(putQ W w.heap.size t D k m t' D' k' m').cell? ⟨g,6,none⟩=some (.bool s4)/\(putQ W w.heap.size t D k m t' D' k' m').cell? ⟨g,7,none⟩=some (.slice A4 n4 c4)) from fun W t D k m t' D' k' m' hb=>by
  have hP:=below_putQ (Below.refl w.heap.size W) (Nat.le_refl w.heap.size) t D k m t' D' k' m'
  obtain ⟨e0,e1,e2,e3,e4,e5,e6,e7⟩:=HCE.out W hb
  exact ⟨(hP.cell hg).trans e0,(hP.cell hg).trans e1,(hP.cell hg).trans e2,(hP.cell hg).trans e3,(hP.cell hg).trans e4,(hP.cell hg).trans e5,(hP.cell hg).trans e6,(hP.cell hg).trans e7⟩)
 unfold putQ at HCP
 have HX:=ah (show ∀ W:World,Below W1.heap.size W1 W->RdZ W W.heap.size s1 A1 n1 c1 x.num/\RdZ W W.heap.size s2 A2 n2 c2 x.den/\RdZ W W.heap.size s3 A3 n3 c3 y.num/\RdZ W W.heap.size s4 A4 n4 c4 y.den from fun W hb=>by
  have hb':=hB.trans (hb.mono hB.size)
  exact ⟨(ox.num.next hb').rd,(ox.den.next hb').rd,(oy.num.next hb').rd,(oy.den.next hb').rd⟩)
 have HNN:=ah (show n1<=N/\n2<=N/\n3<=N/\n4<=N from ⟨by rw [ox.num.len];exact hx.1,by rw [ox.den.len];exact hx.2,by rw [oy.num.len];exact hy.1,by rw [oy.den.len];exact hy.2⟩)
 have HB:=ah hB
 have HRR:=ah (show ∀ W:World,Below W1.heap.size W1 W->QC W w.heap.size false none 0 0 false none 0 0 from fun W hb=>hR.next hb)
 have HD:=ah (Below.refl W1.heap.size W1).drew
 have HXY:=ah (cJ hx hy)
 have HGN:=ah (show g ≠ w.heap.size by omega)
 have HW1:=ah HW1
 clear a0 a1 a2 a3 b0 b1 b2 b3 ox oy hR hB h hx hy
 obtain ⟨a0,a1,a2,a3,b0,b1,b2,b3⟩:=HCE.out W1 bR
 go_enter Tryz.func165,Tryz.ntmps165
 go_upto_region 1 with fail
 rw [<- HW1.out]
 clear HW1
 clear HW1
 go_region_held3 (fun w'=>w'.cell? ⟨g,0,none⟩=some (.bool s1)/\w'.cell? ⟨g,1,none⟩=some (.slice A1 n1 c1)/\w'.cell? ⟨g,2,none⟩=some (.bool s2)/\w'.cell? ⟨g,3,none⟩=some (.slice A2 n2 c2)/\w'.cell? ⟨g,4,none⟩=some (.bool s3)/\w'.cell? ⟨g,5,none⟩=some (.slice A3 n3 c3)/\w'.cell? ⟨g,6,none⟩=some (.bool s4)/\w'.cell? ⟨g,7,none⟩=some (.slice A4 n4 c4))
  (first | exact HCE.out _ HB4.out | exact HCE.out _ HB3.out | exact HCE.out _ HB2.out | exact HCE.out _ HD.out | exact HCP.out _ _ _ _ _ _ _ _ _ HB4.out)
  (first
   | (go_at_call 83;refine (qmake_any ho2.rd ho3.rd HN2.out HN3.out HD3.out).mono ?_;rintro _ W4 ⟨s7,A7,n7,c7,s8,A8,n8,c8,q4,rfl,ho4,hq4,hb4⟩;have HB4:=tM HB3 hb4;have hR4:=HRR.out _ HB4.out;have r0:=hR4.c0;have r1:=hR4.c1;have r2:=hR4.c2;have r3:=hR4.c3;have f0:=hR4.fz 0;have f1:=hR4.fz 1;have f2:=hR4.fz 2;have f3:=hR4.fz 3)
   | (have hxx:=HB2.out;clear hxx;go_at_call 146;refine (imul_any (HX.out _ HB2.out).2.1 (HX.out _ HB2.out).2.2.2 (by have:=HNN.out;omega) (by have:=HNN.out;omega)).mono ?_;rintro _ W3 ⟨s6,A6,n6,c6,y3,rfl,ho3,hy3,hb3⟩;have HB3:=tM HB2 hb3;have ho2:=ho2.next hb3;have HN3:=ah (show n6<=1000000000000 by { rw [ho3.len,hy3.out];have e1:=Zz.zl_mul (x.den:Int) y.den;have e2:=HXY.out;omega });have HD3:=ah (show y3 ≠ 0 by { rw [hy3.out];exact Int.mul_ne_zero (qden_ne x) (qden_ne y) }))
   | (go_at_call 146;refine (imul_any (HX.out _ HD.out).1 (HX.out _ HD.out).2.2.1 (by have:=HNN.out;omega) (by have:=HNN.out;omega)).mono ?_;rintro _ W2 ⟨s5,A5,n5,c5,y2,rfl,ho2,hy2,hb2⟩;have HB2:=ah (HD.out.trans hb2);have HN2:=ah (show n5<=1000000000000 by { rw [ho2.len,hy2.out];have e1:=Zz.zl_mul x.num y.num;have e2:=HXY.out;omega })))
 have hR4':=HRR.out _ HB4.out
 have HR9:=ah (hR4'.store s7 A7 n7 c7 s8 A8 n8 c8)
 have HO9:=ah ((ho4.base (b':=w.heap.size) (nT HB.out.size HB3.out.size)).keep (keep_putQ hR4' s7 A7 n7 c7 s8 A8 n8 c8))
 have HB9:=ah (below_putQ (HB.out.trans (HB4.out.mono HB.out.size)) (Nat.le_refl w.heap.size) s7 A7 n7 c7 s8 A8 n8 c8)
 have HV:=ah (show q4=x*y by rw [hq4.out,hy2.out,hy3.out];exact qmul_val x y)
 unfold putQ at HR9 HO9 HB9
 clear a0 a1 a2 a3 b0 b1 b2 b3 r0 r1 r2 r3 f0 f1 f2 f3 hR4 hR4' ho2 ho3 ho4 hb2 hb3 hb4 hy2 hy3 hq4
 generalize (((W4.setCell ⟨w.heap.size,0,none⟩ (.bool s7)).setCell ⟨w.heap.size,1,none⟩ (.slice A7 n7 c7)).setCell ⟨w.heap.size,2,none⟩ (.bool s8)).setCell ⟨w.heap.size,3,none⟩ (.slice A8 n8 c8)=W9 at *
 have z0:=HR9.out.c0
 have z1:=HR9.out.c1
 have z2:=HR9.out.c2
 have z3:=HR9.out.c3
 go_wp2
 exact bodyPost_ret (by simp [results,Tryz.results165,go_sem,z0,z1,z2,z3];rfl) rfl ⟨_,_,_,_,_,_,_,_,_,_,_,rfl,HO9.out.num,HO9.out.den,ah (by rw [HV.out];exact ⟨rfl,rfl,rfl⟩),HB9.out⟩
end Go.Proofs.YtjnklbfhelbjgaaGreat
