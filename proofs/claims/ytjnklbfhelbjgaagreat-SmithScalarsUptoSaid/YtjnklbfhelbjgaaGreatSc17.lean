/- Sc17. -/
import Derived.Test.YtjnklbfhelbjgaaGreatSc11
import Derived.Test.YtjnklbfhelbjgaaGreatSc10
import Derived.Test.YtjnklbfhelbjgaaGreatSc00
set_option maxRecDepth 100000
set_option maxHeartbeats 32000000
set_option linter.all false
namespace Go.Proofs.YtjnklbfhelbjgaaGreat
open Go.RowKit Go.IntWalk
attribute [local go_sem ↓] Go.wp_at_zero Go.wp_at_succ
def PB (w:World)(g:Nat)(E:List (Ent × Ent)):Prop:=∃ cs:Array Value,w.heap[g]?=some (.cells cs 47 (0,0))/\∀ (i:Nat) (v:Value),(qcs E)[i]?=some v->cs[i]?=some v
section
variable {w w':World}{g b:Nat}{E:List (Ent × Ent)}{f:Nat->Rat}{m:Nat}
theorem QB.pb (h:QB w g E):PB w g E:=⟨_,h,fun i v hv=>by simpa using hv⟩
theorem PB.lt (h:PB w g E):g < w.heap.size:=by
 obtain ⟨cs,h,_⟩:=h
 exact (Array.getElem?_eq_some_iff.1 h).1
theorem PB.frozen (h:PB w g E)(j:Nat):w.frozen? ⟨g,j,none⟩=false:=by
 obtain ⟨cs,h,_⟩:=h
 exact frozen_of_row w g j _ _ h
theorem PB.next (h:PB w g E)(hb:Below w.heap.size w w'):PB w' g E:=by
 have hl:=h.lt
 obtain ⟨cs,h1,h2⟩:=h
 exact ⟨cs,(hb.block g hl).trans h1,h2⟩
theorem PB.cells (h:PB w g E){j:Nat}{e:Ent × Ent}(he:E[j]?=some e):w.cell? ⟨g,j*4,none⟩=some (.bool e.1.1)/\w.cell? ⟨g,j*4+1,none⟩=some (.slice e.1.2.1 e.1.2.2.1 e.1.2.2.2)/\w.cell? ⟨g,j*4+2,none⟩=some (.bool e.2.1)/\w.cell? ⟨g,j*4+3,none⟩=some (.slice e.2.2.1 e.2.2.2.1 e.2.2.2.2):=by
 obtain ⟨cs,h1,h2⟩:=h
 have hq:=qcs_at E j e he
 have hc:∀ i,i < 4->∀ v,(qc e)[i]?=some v->w.cell? ⟨g,j*4+i,none⟩=some v:=fun i hi v hv=>by
  rw [cell_of_row w g _ _ _ _ h1]
  exact h2 _ v ((hq i hi).trans hv)
 exact ⟨hc 0 (by omega) _ rfl,hc 1 (by omega) _ rfl,hc 2 (by omega) _ rfl,hc 3 (by omega) _ rfl⟩
theorem PB.take (h:PB w g E)(k:Nat):PB w g (E.take k):=by
 obtain ⟨cs,h1,h2⟩:=h
 exact ⟨cs,h1,fun i v hv=>h2 i v (qcs_take E k i v hv)⟩
theorem PB.keep (h:PB w g E)(j:Nat)(e:Ent × Ent):KeepT w (setQ w g j e):=by
 obtain ⟨cs,h1,h2⟩:=h
 exact keep_setQ (by decide) h1 j e
theorem set_get {l:List Value}{cs:Array Value}(h:∀ (i:Nat)(v:Value),l[i]?=some v->cs[i]?=some v)(p:Nat)(u:Value)(hp:p < l.length):∀ (i:Nat) (v:Value),(l.set p u)[i]?=some v->(cs.setIfInBounds p u)[i]?=some v:=fun i v hv=>by
 have hpc:p < cs.size:=by
  have:=h p _ (gE hp)
  exact (Array.getElem?_eq_some_iff.1 this).1
 by_cases hi:i=p
 ·subst hi
  rw [List.getElem?_set_self hp] at hv
  rw [Array.getElem?_setIfInBounds_self_of_lt hpc]
  exact hv
 ·rw [List.getElem?_set_ne (Ne.symm hi)] at hv
  rw [Array.getElem?_setIfInBounds_ne (Ne.symm hi)]
  exact h i v hv
theorem PB.store (h:PB w g E){j:Nat}(hj:j < E.length)(e:Ent × Ent):PB (setQ w g j e) g (E.set j e):=by
 obtain ⟨cs,h1,h2⟩:=h
 refine ⟨(((cs.setIfInBounds (j*4) (.bool e.1.1)).setIfInBounds (j*4+1) (.slice e.1.2.1 e.1.2.2.1 e.1.2.2.2)).setIfInBounds (j*4+2) (.bool e.2.1)).setIfInBounds (j*4+3) (.slice e.2.2.1 e.2.2.2.1 e.2.2.2.2),?_,?_⟩
 ·unfold setQ
  simp [World.setCell,Array.getElem?_modify,h1]
 ·rw [qcs_set]
  have hl:(qcs E).length=E.length*4:=qcs_len E
  exact set_get (set_get (set_get (set_get h2 _ _ (by omega)) _ _ (by simp;omega)) _ _ (by simp;omega)) _ _ (by simp;omega)
theorem PB.p (h:PB w g E)(hE:EntJ w b E f m)(hb:b<=g)(hm:E.length=m){c:Nat}(hc:m<=c)(hx:c<=maxLen):OwQp w b (some ⟨g,0,none⟩) m c ((List.range m).map f):=by
 obtain ⟨cs,h1,h2⟩:=h
 refine ⟨E,hm,⟨by simp [hm],fun j e z he hz=>?_⟩,hc,hx,.inr ⟨g,_,rfl,hb,h1,h2⟩⟩
 have hj:j < m:=by
  rcases Nat.lt_or_ge j m with h1 | h1
  ·exact h1
  ·rw [gN (by omega)] at he;cases he
 rw [List.getElem?_map,List.getElem?_range hj] at hz
 simp at hz
 rw [<- hz]
 exact hE j e he hj
theorem EntJ.set (h:EntJ w b E f m)(hz:PB w g E){j:Nat}{e:Ent × Ent}{x:Rat}(he:OwQ w b e.1.1 e.1.2.1 e.1.2.2.1 e.1.2.2.2 e.2.1 e.2.2.1 e.2.2.2.1 e.2.2.2.2 x):EntJ (setQ w g j e) b (E.set j e) (fun i=>if i=j then x else f i) m:=by
 intro i e' h' hi
 by_cases hij:i=j
 ·subst hij
  have hl:i < E.length:=by
   rcases Nat.lt_or_ge i E.length with h1 | h1
   ·exact h1
   ·rw [gN (by rw [List.length_set];exact h1)] at h';cases h'
  rw [List.getElem?_set_self hl] at h'
  injection h' with h'
  subst h'
  simp only [if_true]
  exact he.keep (hz.keep i e)
 ·rw [List.getElem?_set_ne (Ne.symm hij)] at h'
  simp only [if_neg hij]
  exact (h i e' h' hi).keep (hz.keep j e)
theorem EntJ.take (h:EntJ w b E f m)(k:Nat)(hk:k<=m):EntJ w b (E.take k) f k:=fun i e he hi=>by
 rw [List.getElem?_take_of_lt hi] at he
 exact h i e he (by omega)
theorem EntJ.congr {f':Nat->Rat}(h:EntJ w b E f m)(e:∀ i,i < m->f i=f' i):EntJ w b E f' m:=fun i x hx hi=>by rw [<- e i hi];exact h i x hx hi
theorem PB.other {g':Nat}(h:PB w g E)(hne:g ≠ g')(j:Nat)(e:Ent × Ent):PB (setQ w g' j e) g E:=by
 obtain ⟨cs,h1,h2⟩:=h
 refine ⟨cs,?_,h2⟩
 unfold setQ
 rw [Below.heap_setCell _ (⟨g',j*4+3,none⟩:Addr) _ g hne,Below.heap_setCell _ (⟨g',j*4+2,none⟩:Addr) _ g hne,Below.heap_setCell _ (⟨g',j*4+1,none⟩:Addr) _ g hne,Below.heap_setCell _ (⟨g',j*4,none⟩:Addr) _ g hne]
 exact h1
end
def RetTm (A:Option Addr)(L:List Rat)(w:World)(e:Ending)(w':World):Prop :=
 ∃ (k:Nat) (A':Option Addr),k<=L.length/\e=.returned (.slice A' k k)/\(k=0 ∨ A'=A)/\Hid (Pq.IsP (Pq.co L) (L.take k))/\Below w.heap.size w w'
theorem qtrim_blk {b N:Nat}{A:Option Addr}{n c:Nat}{L:List Rat}{w:World}(h:OwQp w b A n c L)(hz:∀ x ∈ L,Qs N x)(hn:n<=4398046511103)(hN:N<=17592186044416) :
  Calls Tryz.prog 164 #[.slice A n c] w (RetTm A L w):=by
 have HLEN:=ah h.len
 have H:=ah h
 have HSZ:=ah hz
 have hle:=h.le.1
 have hmx:=h.le.2
 clear h hz
 go_enter Tryz.func164,Tryz.ntmps164
 go_wp2_with fail
 go_loopw [3] (fun kv wr=>∃ k:Nat,kv=.int .i64 k/\k<=n/\Hid (∀ i,k<=i->Pq.co L i=0)/\Below w.heap.size w wr) (fun kv _=>(intOf kv).toNat)
 case atStart=>exact ⟨n,rfl,nR,ah fun i hi=>Pq.co_ge (by rw [HLEN.out];exact hi),bR⟩
 case round =>
  obtain ⟨k,rfl,hk,hZ,hB⟩:=hrel
  rcases Nat.eq_zero_or_pos k with h0 | h0
  ·subst h0
   go_wp2
   go_ret
   exact ⟨0,none,nZ,rfl,.inl rfl,ah ⟨Pq.nz_take nZ (.inl rfl),Pq.co_take_all hZ.out⟩,hB⟩
  ·obtain ⟨j,rfl⟩:∃ j,k=j+1:=⟨k-1,by omega⟩
   obtain ⟨ad,s,A1,n1,c1,s',A1',n1',c1',x,rfl,hbk,hx0,hx1,hx2,hx3,hr,hx⟩:=op_at H.out (show j < n by omega)
   obtain ⟨hy0,hy1,hy2,hy3⟩:=qs_cells hB hbk hx0 hx1 hx2 hx3
   have hn1:n1<=N:=by
    rw [hr.num.len]
    exact (HSZ.out x (gM hx.out)).1
   have hr':=(hr.next hB).num.rd
   clear hx0 hx1 hx2 hx3 hy2 hy3 hr
   go_wp2_with fail
   refine (sign_any hr' (by omega)).mono ?_
   rintro _ W2 ⟨kz,rfl,hkz,hb2⟩
   have HB2:=ah (hB.trans (hb2.mono hB.size))
   have HZ:=ah (show kz=0 ↔ Pq.co L j=0 by rw [hkz.out,Int.sign_eq_zero_iff_zero,Rat.num_eq_zero,Pq.co_get hx.out])
   clear hb2 hy0 hy1 hr'
   by_cases hk0:kz=0
   ·have HC:=ah (HZ.out.1 hk0)
    subst hk0
    go_wp2
    go_roundw
    case rel=>exact ⟨j,by go_num,by omega,ah fun i hi=>by
     rcases Nat.lt_or_ge j i with h1 | h1
     ·exact hZ.out i h1
     ·rw [show i=j by omega];exact HC.out,HB2.out⟩
    case measure=>simp [intOf]
   ·have HC:=ah (mt HZ.out.2 hk0)
    have hkb:(kz == 0)=false:=by simpa using hk0
    clear hk0
    go_wp2
    go_ret
    exact ⟨j+1,some ad,by rw [HLEN.out];exact hk,rfl,.inr rfl,ah ⟨Pq.nz_take (by rw [HLEN.out];exact hk) (.inr HC.out),Pq.co_take_all hZ.out⟩,HB2.out⟩
theorem qcs_one' (E:List (Ent × Ent)):∀ u ∈ qcs E,u.oneCell'=true:=fun u hu=>by
 unfold qcs at hu
 obtain ⟨e,_,h⟩:=List.mem_flatMap.1 hu
 simp [qc] at h
 rcases h with rfl | rfl | rfl | rfl <;> rfl
theorem qc_setQ {w:World}{g g':Nat}{s s':Bool}{A A':Option Addr}{n c n' c':Nat}(h:QC w g s A n c s' A' n' c')(hne:g ≠ g')(j:Nat)(e:Ent × Ent):QC (setQ w g' j e) g s A n c s' A' n' c':=by
 unfold QC setQ at *
 rw [Below.heap_setCell _ (⟨g',j*4+3,none⟩:Addr) _ g hne,Below.heap_setCell _ (⟨g',j*4+2,none⟩:Addr) _ g hne,Below.heap_setCell _ (⟨g',j*4+1,none⟩:Addr) _ g hne,Below.heap_setCell _ (⟨g',j*4,none⟩:Addr) _ g hne]
 exact h
theorem qb_setQ {w:World}{g g':Nat}{E:List (Ent × Ent)}(h:QB w g E)(hne:g ≠ g')(j:Nat)(e:Ent × Ent):QB (setQ w g' j e) g E:=by
 unfold QB setQ at *
 rw [Below.heap_setCell _ (⟨g',j*4+3,none⟩:Addr) _ g hne,Below.heap_setCell _ (⟨g',j*4+2,none⟩:Addr) _ g hne,Below.heap_setCell _ (⟨g',j*4+1,none⟩:Addr) _ g hne,Below.heap_setCell _ (⟨g',j*4,none⟩:Addr) _ g hne]
 exact h
def lenOf:Value->Nat
 | .slice _ n _=>n
 | _=>0
theorem range_co0 {f:Nat->Rat}{m:Nat}(h:∀ i,m<=i->f i=0)(i:Nat):Pq.co ((List.range m).map f) i=f i:=by
 rw [Pq.co_range]
 split
 ·rfl
 ·exact (h i (by omega)).symm
def RetDv (b:Nat)(La Lb:List Rat)(w:World)(e:Ending)(w':World):Prop :=
 ∃ (A:Option Addr) (n c:Nat) (Q:List Rat) (A':Option Addr) (n' c':Nat) (R:List Rat),e=.returned (.tuple #[.slice A n c,.slice A' n' c'])/\OwQp w' b A n c Q/\OwQp w' b A' n' c' R/\Hid (Pq.IsD La Lb Q R)/\Below w.heap.size w w'
theorem qdiv_run {b N:Nat}{A A':Option Addr}{n c n' c':Nat}{La Lb:List Rat}{w:World}(h:OwQp w b A n c La)(h':RdQs w w.heap.size N A' n' c' (Lb.map pr))(hza:Pq.Nz La)(hzb:Pq.Nz Lb)(h0:0 < Lb.length)(hle:Lb.length<=La.length)(hb:b<=w.heap.size)(hS:∀ j,SzQ N (Pq.drest Lb j La))(hn:n<=1048576)(hN:N<=60000000000)(h1N:1<=N) :
  Calls Tryz.prog 196 #[.slice A n c,.slice A' n' c'] w (RetDv b La Lb w):=by
 have hla:La.length=n:=h.len
 have hlb:Lb.length=n':=h'.lenp
 obtain ⟨k,hk⟩:∃ k,k=n-n'+1:=⟨_,rfl⟩
 have hnn:(n':Int)<=(n:Int):=by omega
 have hn0:0 < n':=by omega
 have hki:(n:Int)-(n':Int)+1=(k:Int):=by omega
 have hw1:IntKind.i64.wrap ((n:Int)-(n':Int))=(n:Int)-(n':Int):=by rw [IntWalk.i64_in _ (by omega)]
 have hw2:IntKind.i64.wrap ((n:Int)-(n':Int)+1)=(k:Int):=by rw [hki,IntWalk.i64_in _ (by omega)]
 have hmk:=make_qs Tryz.underlying73 k (by omega)
 have hZ0:=QB.made w k
 have hB0:=(Below.refl w.heap.size w).alloc nR (.cells (qcs (List.replicate k zq)).toArray 47)
 have hkb:k<=1048577:=by omega
 have HA:=ah (cJ h hza)
 have HBB:=ah (cJ h' (cJ hzb hb))
 have HL:=ah (cJ (cJ hla hlb) (cJ hk (cJ h0 hle)))
 have HS:=ah hS
 clear h h' hza hzb hla hlb hk h0 hle hb hS
 go_enter Tryz.func196,Tryz.ntmps196
 go_wp2_with fail
 generalize w.alloc (.cells (qcs (List.replicate k zq)).toArray 47)=W1 at *
 obtain ⟨gq,hgq⟩:∃ g,g=w.heap.size:=⟨_,rfl⟩
 rw [<- hgq] at hZ0 ⊢
 have HGQ:=ah hgq
 clear hmk hgq hw1 hw2 hki
 go_loopw [29] (fun iv wr=>∃ (j:Nat) (E:List (Ent × Ent)),iv=.int .i64 j/\j<=k/\QB wr gq E/\Hid (E.length=k)/\EntJ wr b E (fun _=>0) j/\Below w.heap.size w wr) (fun iv _=>k-(intOf iv).toNat)
 case atStart=>exact ⟨0,_,rfl,nZ,hZ0,ah (by simp),EntJ.zero _ _ _ _,hB0⟩
 case round =>
  clear hZ0 hB0
  obtain ⟨j,E,rfl,hj,hZ,hEl,hE,hB⟩:=hrel
  by_cases hjk:j=k
  ·have hkj:=hjk.symm
   subst hkj
   clear hjk
   obtain ⟨E0,hE0l,hE0,hle0,hmx0,hor0⟩:=HA.out.1.next hB
   obtain ⟨g0,cs0,rfl,hbg0,hcs0,hqc0⟩:=hor0.resolve_left (by omega)
   have HZ:=ah (cJ hZ hE)
   have HB:=ah hB
   have HE0:=ah (cJ hE0l hE0)
   have HNW:=ah (show ∀ (j:Nat) (u:Value),(qcs E0)[j]?=some u->wr.cell? ((⟨g0,0,none⟩:Addr).add j)=some u from fun j u hu=>by
    rw [add_base,cell_of_row wr g0 j _ _ _ hcs0]
    exact hqc0 j u hu)
   have HQL:=ah (show (qcs E0).length=n*4 by rw [qcs_len,hE0l])
   obtain ⟨i0,hi0,hz0,hz1,hz2⟩:=info_parts infoQ
   clear hZ hE hB hE0 hcs0 hqc0 hor0 hE0l
   go_wp2_with (at_builtin;refine wpList_append_own _ rfl _ _ 73 rfl wr.heap.size 47 i0 (.agg #[.bool false,.slice none 0 0,.bool false,.slice none 0 0]) 4 64 Tryz.underlying73 hi0 hz0 hz1 hz2 rfl (by decide) (.slice none 0 0) 0 [] rfl (World.ownsRow_nil _ _ _ _) ⟨g0,0,none⟩ n c (qcs E0) rfl HQL.out HNW.out (qcs_one' E0) (by unfold maxLen;omega) (by omega) nR ?_;intro v' w1 hown' hgrow _)
   rw [Nat.zero_add,List.nil_append] at hown'
   obtain ⟨ga,ca,cur,hv',hga,hcur,hnc,hcm,_,htk⟩:=hown'.2.resolve_left (by rintro ⟨_,e⟩;omega)
   have HPB:=ah (show PB w1 ga E0 from ⟨cur,hcur,fun i v hv=>by
    have hi:i < n*4:=by
     have:=HQL.out
     rcases Nat.lt_or_ge i (qcs E0).length with h5 | h5
     ·omega
     ·rw [gN h5] at hv;cases hv
    rw [<- htk,List.getElem?_take_of_lt hi] at hv
    simpa using hv⟩)
   have hb1:Below wr.heap.size wr w1:=bR.grown hgrow nR (fun k hk=>by cases hk)
   have HGA:=ah (show wr.heap.size<=ga/\gq < ga/\w.heap.size<=ga from ⟨hga,Nat.lt_of_lt_of_le HZ.out.1.lt hga,nT HB.out.size hga⟩)
   have HW1:=ah (cJ (HZ.out.1.next hb1) (HZ.out.2.next hb1))
   have HE1:=ah (HE0.out.2.next hb1)
   have HB1:=tM HB hb1
   have HCA:=ah (cJ hnc hcm)
   subst hv'
   clear hown' hgrow hcur htk hga hb1 hnc hcm
   go_wp2_with fail
   go_loopw [0] (fun av wr=>∃ (K:List Rat) (la cA:Nat) (Aa:Option Addr) (Ea Eq:List (Ent × Ent)) (q:Nat->Rat),av=.slice Aa la cA/\Hid (la=0 ∨ Aa=some ⟨ga,0,none⟩)/\la<=n/\Hid (la<=cA/\cA<=maxLen)/\PB wr ga Ea/\Hid (Ea.length=la/\K.length=la)/\EntJ wr b Ea (Pq.co K) la/\Hid (Pq.Nz K/\∀ j,SzQ N (Pq.drest Lb j K))/\QB wr gq Eq/\Hid (Eq.length=k)/\EntJ wr b Eq q k/\Hid ((∀ t,t+n'<=la->q t=0)/\(∀ t,k<=t->q t=0)/\(∀ t,Qs (N+N) (q t))/\∀ t,Pq.co La t=Pq.cv q (Pq.co Lb) t+Pq.co K t)/\Below w.heap.size w wr) (fun av _=>lenOf av)
   case atStart =>
    refine ⟨La,n,ca,_,E0,E,fun _=>0,rfl,ah (.inr rfl),nR,HCA,HPB.out,ah ⟨HE0.out.1,HL.out.1.1⟩,?_,ah ⟨HA.out.2,HS.out⟩,HW1.out.1,hEl,HW1.out.2,ah ⟨fun _ _=>rfl,fun _ _=>rfl,fun _=>Qs.zero (by omega),fun t=>by rw [Pq.cv_zero_left,Rat.zero_add]⟩,HB1.out⟩
    intro i e he hi
    exact HE1.out.2 i e (Pq.co La i) he (Pq.get_co (by rw [HL.out.1.1];exact hi))
   case round =>
    clear HPB HE1 HW1 HE0 HZ HNW hEl HB HB1
    obtain ⟨K,la,cA,Aa,Ea,Eq,q,rfl,hAa,hla,hcA,hPB,hEa,hEJ,hK,hQB,hEq,hQJ,hq,hB⟩:=hrel
    by_cases hge:n'<=la
    ·obtain ⟨m,hm⟩:∃ m,la=m+1:=⟨la-1,by omega⟩
     obtain ⟨mb,hmb⟩:∃ mb,n'=mb+1:=⟨n'-1,by omega⟩
     obtain ⟨k1,hk1⟩:∃ k1,k1=la-n':=⟨_,rfl⟩
     have hAe:=hAa.out.resolve_left (by omega)
     subst hAe
     have hgei:(n':Int)<=(la:Int):=by omega
     have hd3:(la:Int)-(n':Int)=(k1:Int):=by omega
     have hd4:(la:Int)-1=(m:Int):=by omega
     have hd5:(n':Int)-1=(mb:Int):=by omega
     have hw3:IntKind.i64.wrap (k1:Int)=(k1:Int):=by rw [IntWalk.i64_in _ (by omega)]
     have hw4:IntKind.i64.wrap (m:Int)=(m:Int):=by rw [IntWalk.i64_in _ (by omega)]
     have hw5:IntKind.i64.wrap (mb:Int)=(mb:Int):=by rw [IntWalk.i64_in _ (by omega)]
     have hl4:(m:Int) < (la:Int):=by omega
     have hl5:(mb:Int) < (n':Int):=by omega
     have hl3:(k1:Int) < (k:Int):=by have:=HL.out.2.1;omega
     obtain ⟨⟨⟨se,De,me,le⟩,⟨se',De',me',le'⟩⟩,he⟩:∃ e,Ea[m]?=some e:=⟨Ea[m]'(by rw [hEa.out.1];omega),gE _⟩
     obtain ⟨ad,s1,A1,n1,c1,s2,A2,n2,c2,y,hAd,hbk,hx0,hx1,hx2,hx3,hr1,hr2,hn1,hn2,hp⟩:=qp_at (HBB.out.1.next hB) (show mb < n' by omega)
     subst hAd
     have HNUM:=ah (cJ (cJ hm hmb) (cJ hk1 hge))
     have HSB:=ah (HBB.out.1.szp h1N)
     have HY:=ah (show y=Pq.co Lb mb/\y ≠ 0 by
      have e2:=Pq.nz_top HBB.out.2.1 HL.out.2.2.1
      rw [HL.out.1.2,show n'-1=mb by omega,Pq.co_get hp.out] at e2
      exact ⟨(Pq.co_get hp.out).symm,e2⟩)
     have hox:=hEJ m _ he (by omega)
     have HKS:=ah (show SzQ N K from hK.out.2 0)
     have HXX:=ah (show ∀ w':World,Below wr.heap.size wr w'->(w'.cell? ⟨ga,m*4,none⟩=some (.bool se)/\w'.cell? ⟨ga,m*4+1,none⟩=some (.slice De me le)/\w'.cell? ⟨ga,m*4+2,none⟩=some (.bool se')/\w'.cell? ⟨ga,m*4+3,none⟩=some (.slice De' me' le')/\w'.cell? (ad.add (mb*4))=some (.bool s1)/\w'.cell? ⟨(ad.add (mb*4)).block,(ad.add (mb*4)).off+1,none⟩=some (.slice A1 n1 c1)/\w'.cell? ⟨(ad.add (mb*4)).block,(ad.add (mb*4)).off+2,none⟩=some (.bool s2)/\w'.cell? ⟨(ad.add (mb*4)).block,(ad.add (mb*4)).off+3,none⟩=some (.slice A2 n2 c2))/\(OwQ w' b se De me le se' De' me' le' (Pq.co K m)/\RdZ w' w'.heap.size s1 A1 n1 c1 y.num/\RdZ w' w'.heap.size s2 A2 n2 c2 (y.den:Int)) from fun w' hb=>by
      obtain ⟨k0,k1,k2,k3⟩:=(hPB.next hb).cells he
      obtain ⟨l0,l1,l2,l3⟩:=qs_cells hb hbk hx0 hx1 hx2 hx3
      exact ⟨⟨k0,k1,k2,k3,l0,l1,l2,l3⟩,hox.next hb,hr1.next hb,hr2.next hb⟩)
     have HEN:=ah (show me<=N/\me'<=N from ⟨nT (Nat.le_of_eq hox.num.len) (HKS.out m).1,nT (Nat.le_of_eq hox.den.len) (HKS.out m).2⟩)
     have HST:=ah (cJ hPB (cJ hEJ (cJ hQB hQJ)))
     have HBW:=ah hB
     clear hPB hEJ hQB hQJ hB hx0 hx1 hx2 hx3 hr1 hr2 hox he hm hmb hk1 hge hp hAa
     go_upto_region 12 with fail
     go_cut [9,10] from 49 to 64 (fun pv _ V=>∃ (g9:Nat) (s3:Bool) (A3:Option Addr) (n3 c3:Nat) (s4:Bool) (A4:Option Addr) (n4 c4:Nat) (cc:Rat),pv=.pointer (some ⟨g9,0,none⟩)/\QC V g9 s3 A3 n3 c3 s4 A4 n4 c4/\OwQ V b s3 A3 n3 c3 s4 A4 n4 c4 cc/\Hid (cc=Pq.co K m / Pq.co Lb mb/\wr.heap.size<=g9)/\Below wr.heap.size wr V)
     case first =>
      clear hd3 hw3 hl3 hgei hnn hn0 hkb hla hi0 hz0 hz1 hz2
      have HBD:=ah (Below.refl wr.heap.size wr).drew
      obtain ⟨⟨z0,z1,z2,z3,z4,z5,z6,z7⟩,_⟩:=HXX.out _ bR
      obtain ⟨⟨y0,y1,y2,y3,y4,y5,y6,y7⟩,_⟩:=HXX.out _ ((Below.refl wr.heap.size wr).alloc nR (.cells #[.bool false,.slice none 0 0,.bool false,.slice none 0 0] 47))
      go_region_law (first
        | (go_simp;go_at_call 224;refine (qquoq_any (N:=N) (HXX.out _ (by first | exact HBD.out | exact HBD.out.alloc HBD.out.size _)).2.1.num.rd (HXX.out _ (by first | exact HBD.out | exact HBD.out.alloc HBD.out.size _)).2.1.den.rd (HXX.out _ (by first | exact HBD.out | exact HBD.out.alloc HBD.out.size _)).2.2.1 (HXX.out _ (by first | exact HBD.out | exact HBD.out.alloc HBD.out.size _)).2.2.2 ⟨HEN.out.1,HEN.out.2,hn1,hn2⟩ (by omega) HY.out.2).mono ?_;rintro _ W3 ⟨s3,A3,n3,c3,s4,A4,n4,c4,cc,rfl,ho3,hq3,hb3⟩;have HB3:Hid (Below wr.heap.size wr W3):=ah (by first | exact HBD.out.trans hb3 | exact (HBD.out.alloc HBD.out.size _).trans (hb3.mono (by simp)));have HO3:Hid (OwQ W3 b s3 A3 n3 c3 s4 A4 n4 c4 cc):=ah (by first | exact ho3.base (nT HBB.out.2.2 HBW.out.size) | exact ho3.base (by have h1:=HBB.out.2.2;have h2:=HBW.out.size;simp;omega));(first | have hA3:QC W3 wr.heap.size false none 0 0 false none 0 0:=qcF1 hb3 | skip);(try have r0:=hA3.c0);(try have r1:=hA3.c1);(try have r2:=hA3.c2);(try have r3:=hA3.c3);(try have f0:=hA3.fz 0);(try have f1:=hA3.fz 1);(try have f2:=hA3.fz 2);(try have f3:=hA3.fz 3)))
      all_goals
       have HV:=ah (show cc=Pq.co K m / Pq.co Lb mb by rw [hq3.out,HY.out.1])
       go_wp2
       go_meet
       first
        | exact ⟨wr.heap.size,s3,A3,n3,c3,s4,A4,n4,c4,cc,rfl,hA3.store s3 A3 n3 c3 s4 A4 n4 c4,HO3.out.keep (keep_putQ hA3 s3 A3 n3 c3 s4 A4 n4 c4),ah ⟨HV.out,nR⟩,below_putQ HB3.out nR s3 A3 n3 c3 s4 A4 n4 c4⟩
        | exact ⟨W3.heap.size,s3,A3,n3,c3,s4,A4,n4,c4,cc,rfl,QC.new W3 s3 A3 n3 c3 s4 A4 n4 c4,HO3.out.next (bA),ah ⟨HV.out,HB3.out.size⟩,HB3.out.alloc HB3.out.size _⟩
     case rest =>
      obtain ⟨g9,s3,A3,n3,c3,s4,A4,n4,c4,cc,rfl,hQ9,ho9,hcc,hb9⟩:=hcut
      have HB9:=tM HBW hb9
      obtain ⟨eq,heq⟩:∃ e,Eq[k1]?=some e:=⟨Eq[k1]'(by rw [hEq.out];omega),gE _⟩
      have hQB:=HST.out.2.2.1.next hb9
      have HNE:=ah (show gq < wr.heap.size/\ga < wr.heap.size/\gq < ga/\wr.heap.size<=g9 from ⟨HST.out.2.2.1.lt,HST.out.1.lt,HGA.out.2.1,hcc.out.2⟩)
      obtain ⟨k4,k5,k6,k7⟩:=hQB.cells heq
      have f0:=hQB.frozen (k1*4)
      have f1:=hQB.frozen (k1*4+1)
      have f2:=hQB.frozen (k1*4+2)
      have f3:=hQB.frozen (k1*4+3)
      have q0:=hQ9.c0
      have q1:=hQ9.c1
      have q2:=hQ9.c2
      have q3:=hQ9.c3
      have HQ2:=ah (hQB.store k1 ((s3,A3,n3,c3),(s4,A4,n4,c4)))
      have HJ2:=ah ((HST.out.2.2.2.next hb9).set hQB.pb (j:=k1) (e:=((s3,A3,n3,c3),(s4,A4,n4,c4))) ho9)
      have HP2:=ah ((HST.out.1.next hb9).other (show ga ≠ gq by have:=HNE.out;omega) k1 ((s3,A3,n3,c3),(s4,A4,n4,c4)))
      have HE2:=ah ((HST.out.2.1.next hb9).keep (hQB.keep k1 ((s3,A3,n3,c3),(s4,A4,n4,c4))))
      have HC2:=ah (cJ (qc_setQ hQ9 (show g9 ≠ gq by have:=HNE.out;omega) k1 ((s3,A3,n3,c3),(s4,A4,n4,c4))) (ho9.keep (hQB.keep k1 ((s3,A3,n3,c3),(s4,A4,n4,c4)))))
      have HB2:=ah (below_setQ HB9.out (Nat.le_of_eq HGQ.out.symm) k1 ((s3,A3,n3,c3),(s4,A4,n4,c4)))
      have HSZ2:=ah (show g9 < wc.heap.size from hQ9.lt)
      have HCQ:=ah (show Qs (N+N) cc by
       rw [hcc.out.1]
       exact (HKS.out m).div (HSB.out mb) (by rw [<- HY.out.1];exact HY.out.2))
      have HCN:=ah (show n3<=N+N/\n4<=N+N from ⟨nT (Nat.le_of_eq ho9.num.len) HCQ.out.1,nT (Nat.le_of_eq ho9.den.len) HCQ.out.2⟩)
      unfold setQ at HQ2 HJ2 HP2 HE2 HC2 HB2
      clear HXX HST hQB hQ9 ho9 hb9 heq hd4 hd5 hw4 hw5 hl4 hl5
      go_wp2_with fail
      generalize (((wc.setCell ⟨gq,k1*4,none⟩ (.bool s3)).setCell ⟨gq,k1*4+1,none⟩ (.slice A3 n3 c3)).setCell ⟨gq,k1*4+2,none⟩ (.bool s4)).setCell ⟨gq,k1*4+3,none⟩ (.slice A4 n4 c4)=V2 at *
      clear k4 k5 k6 k7 f0 f1 f2 f3 q0 q1 q2 q3
      have HG9:=ah HC2.out.1.lt
      go_loopw [71] (fun iv wr=>∃ (j:Nat) (Ea':List (Ent × Ent)),iv=.int .i64 j/\j<=n'/\PB wr ga Ea'/\Hid (Ea'.length=la)/\EntJ wr b Ea' (fun t=>if k1<=t/\t < k1+j then Pq.co K t-cc*Pq.co Lb (t-k1) else Pq.co K t) la/\QB wr gq (Eq.set k1 ((s3,A3,n3,c3),(s4,A4,n4,c4)))/\EntJ wr b (Eq.set k1 ((s3,A3,n3,c3),(s4,A4,n4,c4))) (fun t=>if t=k1 then cc else q t) k/\QC wr g9 s3 A3 n3 c3 s4 A4 n4 c4/\OwQ wr b s3 A3 n3 c3 s4 A4 n4 c4 cc/\Below w.heap.size w wr) (fun iv _=>n'-(intOf iv).toNat)
      case atStart=>exact ⟨0,Ea,rfl,nZ,HP2.out,ah hEa.out.1,HE2.out.congr (fun i _=>by rw [if_neg (by omega)]),HQ2.out,HJ2.out,HC2.out.1,HC2.out.2,HB2.out⟩
      case round =>
       clear HQ2 HJ2 HP2 HE2 HC2 HB2
       obtain ⟨j,Ea',rfl,hj,hPB,hEl',hEJ,hQB,hQJ,hQ9,ho9,hB⟩:=hrel
       by_cases hjn:j=n'
       ·have hjn':=hjn.symm
        subst hjn'
        clear hjn
        have HN:=ah (cJ HNUM.out hEa.out)
        have HLL:=ah (show K.length=la/\Lb.length=n'/\K.length-Lb.length=k1/\K.length-1=m/\Lb.length-1=mb/\Lb.length<=K.length by have h1:=HNUM.out;have h2:=hEa.out.2;have h3:=HL.out.1.2;omega)
        obtain ⟨f,hf⟩:∃ f:Nat->Rat,f=fun t=>if k1<=t/\t < k1+n' then Pq.co K t-cc*Pq.co Lb (t-k1) else Pq.co K t:=⟨_,rfl⟩
        rw [<- hf] at hEJ
        have HF:=ah (show ∀ i,(if i < la then f i else 0)=Pq.co (Pq.dstep Lb K) i from fun i=>by
         have h1:=HLL.out
         have h2:=HNUM.out
         have hfi:f i=if k1<=i/\i < k1+n' then Pq.co K i-cc*Pq.co Lb (i-k1) else Pq.co K i:=by rw [hf]
         rw [Pq.co_dstep h1.2.2.2.2.2,h1.2.2.1,h1.2.2.2.1,h1.2.2.2.2.1,<- hcc.out.1,hfi]
         by_cases h3:i < la
         ·rw [if_pos h3]
          by_cases h4:i < k1
          ·rw [if_neg (by omega),if_pos h4,Rat.sub_eq_add_neg,Rat.neg_zero,Rat.add_zero]
          ·rw [if_pos (by omega),if_neg h4]
         ·rw [if_neg h3,if_neg (by omega),Pq.co_ge (L:=K) (by omega),Pq.co_ge (L:=Lb) (by omega),Rat.mul_zero,Rat.sub_self])
        have HCF:=ah (show ∀ i,Pq.co ((List.range la).map f) i=Pq.co (Pq.dstep Lb K) i from fun i=>by rw [Pq.co_range];exact HF.out i)
        have hop:=hPB.p hEJ (nT HBB.out.2.2 HGA.out.2.2) hEl'.out hcA.out.1 hcA.out.2
        have HD:=ah (show ∀ t,SzQ N (Pq.drest Lb t (Pq.dstep Lb K)) from fun t=>by
         rw [<- Pq.drest_step HLL.out.2.2.2.2.2]
         exact hK.out.2 (t+1))
        have hsz:∀ x ∈ (List.range la).map f,Qs N x:=fun x hx=>by
         obtain ⟨i,_,rfl⟩:=Pq.mem_co hx
         rw [HCF.out]
         exact HD.out 0 i
        have HEJ:=ah hEJ
        have HPB:=ah hPB
        have HQS:=ah (cJ hQB hQJ)
        have HBR:=ah hB
        have hlan:la<=4398046511103:=by omega
        clear hPB hEJ hQB hQJ hQ9 ho9 hB hf
        go_wp2_with fail
        refine (qtrim_blk hop hsz hlan (by omega)).mono ?_
        rintro _ W5 ⟨k2,A5,hk2,rfl,hA5,hM5,hb5⟩
        have HM5:=ah (show ((List.range la).map f).take k2=Pq.dstep Lb K from (hM5.out.congr HCF.out).unique (Pq.IsP.self (Pq.dstep_nz _ _)))
        have HK2:=ah (show k2<=la/\(Pq.dstep Lb K).length=k2/\k2 < la by
         have h1:((List.range la).map f).length=la:=by simp
         have h2:(((List.range la).map f).take k2).length=k2:=by rw [List.length_take,h1];omega
         rw [HM5.out] at h2
         have h3:=Pq.dstep_len HBB.out.2.1 HL.out.2.2.1 HLL.out.2.2.2.2.2
         have h4:=HLL.out.1
         omega)
        have HA5:=ah hA5
        have HB5:=ah hb5
        clear hA5 hop hsz hk2 hb5
        go_wp2_with fail
        go_roundw
        case rel =>
         have hK2:=HK2.out
         have hLL:=HLL.out
         refine ⟨Pq.dstep Lb K,k2,k2,A5,Ea'.take k2,Eq.set k1 ((s3,A3,n3,c3),(s4,A4,n4,c4)),fun t=>if t=k1 then cc else q t,rfl,HA5,by omega,ah ⟨nR,?_⟩,(HPB.out.next HB5.out).take k2,ah ⟨?_,hK2.2.1⟩,?_,ah ⟨Pq.dstep_nz _ _,HD.out⟩,HQS.out.1.next HB5.out,ah ?_,HQS.out.2.next HB5.out,ah ⟨fun t ht=>?_,fun t ht=>?_,fun t=>?_,fun t=>?_⟩,HBR.out.trans (HB5.out.mono HBR.out.size)⟩
         ·have:=hcA.out;omega
         ·rw [List.length_take,hEl'.out];omega
         ·exact ((HEJ.out.next HB5.out).take k2 hK2.1).congr (fun i hi=>by have:=HF.out i;rwa [if_pos (by omega)] at this)
         ·rw [List.length_set];exact hEq.out
         ·show (if t=k1 then cc else q t)=0
          rw [if_neg (by have:=HNUM.out;omega)];exact hq.out.1 t (by omega)
         ·show (if t=k1 then cc else q t)=0
          rw [if_neg (by have:=HNUM.out;have:=HL.out.2.1;omega)];exact hq.out.2.1 t ht
         ·show Qs (N+N) (if t=k1 then cc else q t)
          split
          ·exact HCQ.out
          ·exact hq.out.2.2.1 t
         ·have:=Pq.dv_step hLL.2.2.2.2.2 hq.out.2.2.2 (by rw [hLL.2.2.1];exact hq.out.1 k1 (by have:=HNUM.out;omega)) t
          rw [hLL.2.2.1,hLL.2.2.2.1,hLL.2.2.2.2.1,<- hcc.out.1] at this
          exact this
        case measure=>simp [lenOf];exact HK2.out.2.2
       ·have hjl:j < n':=by omega
        clear hjn
        have hjli:(j:Int) < (n':Int):=by omega
        have hjb:j < 1048576:=by omega
        obtain ⟨p,hpk⟩:∃ p,p=k1+j:=⟨_,rfl⟩
        have hpi:(k1:Int)+(j:Int)=(p:Int):=by omega
        have hpw:IntKind.i64.wrap (p:Int)=(p:Int):=by rw [IntWalk.i64_in _ (by have:=HNUM.out;omega)]
        have hpl:(p:Int) < (la:Int):=by have:=HNUM.out;omega
        obtain ⟨ad2,s5,A5,n5,c5,s6,A6,n6,c6,y2,hAd,hbk2,hx0,hx1,hx2,hx3,hr1,hr2,hn5,hn6,hp2⟩:=qp_at (HBB.out.1.next hB) hjl
        injection hAd with hAd
        subst hAd
        have HY2:=ah (show y2=Pq.co Lb j from (Pq.co_get hp2.out).symm)
        obtain ⟨W4,HW4⟩:∃ W,W=wr.alloc (.cells #[.bool s5,.slice A5 n5 c5,.bool s6,.slice A6 n6 c6] 47):=⟨_,rfl⟩
        have hb4:Below wr.heap.size wr W4:=by rw [HW4];exact bA
        have hX4:QC W4 wr.heap.size s5 A5 n5 c5 s6 A6 n6 c6:=by rw [HW4];exact QC.new wr s5 A5 n5 c5 s6 A6 n6 c6
        have a0:=hX4.c0
        have a1:=hX4.c1
        have a2:=hX4.c2
        have a3:=hX4.c3
        have b0:=(hQ9.next hb4).c0
        have b1:=(hQ9.next hb4).c1
        have b2:=(hQ9.next hb4).c2
        have b3:=(hQ9.next hb4).c3
        rw [HW4] at a0 a1 a2 a3 b0 b1 b2 b3
        have HALL:=ah (show ∀ W:World,Below wr.heap.size wr W->PB W ga Ea'/\EntJ W b Ea' (fun t=>if k1<=t/\t < k1+j then Pq.co K t-cc*Pq.co Lb (t-k1) else Pq.co K t) la/\QB W gq (Eq.set k1 ((s3,A3,n3,c3),(s4,A4,n4,c4)))/\EntJ W b (Eq.set k1 ((s3,A3,n3,c3),(s4,A4,n4,c4))) (fun t=>if t=k1 then cc else q t) k/\QC W g9 s3 A3 n3 c3 s4 A4 n4 c4/\OwQ W b s3 A3 n3 c3 s4 A4 n4 c4 cc from fun W hb=>⟨hPB.next hb,hEJ.next hb,hQB.next hb,hQJ.next hb,hQ9.next hb,ho9.next hb⟩)
        have HRD:=ah (cJ (hr1.next hb4) (hr2.next hb4))
        have HB4:=ah hb4
        have HBR:=ah hB
        have HPK:=ah hpk
        have HLA:=ah (show ga < wr.heap.size from hPB.lt)
        have HW4:=ah HW4
        clear hPB hEJ hQB hQJ hQ9 ho9 hB hr1 hr2 hb4 hX4 hpk
        go_wp2_with fail
        rw [<- HW4.out]
        clear HW4 hx0 hx1 hx2 hx3 a0 a1 a2 a3 b0 b1 b2 b3
        clear HW4
        refine (qmulq_any (N:=N+N) (HALL.out _ HB4.out).2.2.2.2.2.num.rd (HALL.out _ HB4.out).2.2.2.2.2.den.rd HRD.out.1 HRD.out.2 ⟨HCN.out.1,HCN.out.2,by omega,by omega⟩ (by omega)).mono ?_
        rintro _ W5 ⟨s7,A7,n7,c7,s8,A8,n8,c8,tt,rfl,ho7,htt,hb5⟩
        obtain ⟨W6,HW6⟩:∃ W,W=W5.alloc (.cells #[.bool s7,.slice A7 n7 c7,.bool s8,.slice A8 n8 c8] 47):=⟨_,rfl⟩
        have hb6:Below W5.heap.size W5 W6:=by rw [HW6];exact bA
        have hX6:QC W6 W5.heap.size s7 A7 n7 c7 s8 A8 n8 c8:=by rw [HW6];exact QC.new W5 s7 A7 n7 c7 s8 A8 n8 c8
        have hb46:=HB4.out.trans ((hb5.trans (hb6.mono hb5.size)).mono HB4.out.size)
        have HB6:=ah hb46
        have HT6:=ah (cJ hX6 (ho7.next hb6))
        have HTQ:=ah (show Qs (N+N+N) tt by
         rw [htt.out,HY2.out]
         exact (HCQ.out.mul (HSB.out j)))
        have HTN:=ah (show n7<=N+N+N/\n8<=N+N+N from ⟨nT (Nat.le_of_eq ho7.num.len) HTQ.out.1,nT (Nat.le_of_eq ho7.den.len) HTQ.out.2⟩)
        have HG5:=ah (show wr.heap.size<=W5.heap.size from nT HB4.out.size hb5.size)
        have HW6:=ah HW6
        clear ho7 hb5 hb6 hX6 hb46
        go_upto_region 18 with fail
        rw [<- HW6.out]
        clear HW6
        clear HW6
        generalize W5.heap.size=gt at *
        obtain ⟨ep,hep⟩:∃ e,Ea'[p]?=some e:=⟨Ea'[p]'(by rw [hEl'.out];omega),gE _⟩
        obtain ⟨⟨s9,A9,n9,c9⟩,s0,A0,n0,c0⟩:=ep
        have hpK:(if k1<=p/\p < k1+j then Pq.co K p-cc*Pq.co Lb (p-k1) else Pq.co K p)=Pq.co K p:=by rw [if_neg (by have:=HPK.out;omega)]
        have HPE:=ah (show ∀ W,Below W6.heap.size W6 W->OwQ W b s9 A9 n9 c9 s0 A0 n0 c0 (Pq.co K p)/\OwQ W W4.heap.size s7 A7 n7 c7 s8 A8 n8 c8 tt/\PB W ga Ea' from fun W hb=>by
         have hbw:=HB6.out.trans (hb.mono HB6.out.size)
         have:=(HALL.out _ hbw).2.1 p _ hep (by omega)
         simp only [hpK] at this
         exact ⟨this,HT6.out.2.next hb,(HALL.out _ hbw).1⟩)
        have HNP:=ah (show n9<=N/\n0<=N from by
         have h1:=(HPE.out _ bR).1
         have h2:=HKS.out p
         exact ⟨nT (Nat.le_of_eq h1.num.len) h2.1,nT (Nat.le_of_eq h1.den.len) h2.2⟩)
        obtain ⟨v0,v1,v2,v3⟩:=(HALL.out _ HB6.out).1.cells hep
        have t0:=HT6.out.1.c0
        have t1:=HT6.out.1.c1
        have t2:=HT6.out.1.c2
        have t3:=HT6.out.1.c3
        have HB6':=ah (Below.refl W6.heap.size W6).drew
        have HEP:=ah hep
        clear hnn hn0 hkb hla hi0 hz0 hz1 hz2 hn1 hn2 hn5 hn6 hgei hpK hep hjli
        simp only [] at v0 v1 v2 v3
        go_region_law (first
          | (go_simp;go_at_call 225;refine (qsubq_any (N:=N+N+N) (HPE.out _ (by first | exact bR | exact HB6'.out)).1.num.rd (HPE.out _ (by first | exact bR | exact HB6'.out)).1.den.rd (HPE.out _ (by first | exact bR | exact HB6'.out)).2.1.num.rd (HPE.out _ (by first | exact bR | exact HB6'.out)).2.1.den.rd ⟨by have:=HNP.out;omega,by have:=HNP.out;omega,HTN.out.1,HTN.out.2⟩ (by omega)).mono ?_;rintro _ W7 ⟨s1,A1,n1,c1,s2,A2,n2,c2,df,rfl,ho7,hdf,hb7⟩;have HB7:Hid (Below W6.heap.size W6 W7):=ah (by first | exact hb7 | exact HB6'.out.trans hb7);obtain ⟨e0,e1,e2,e3⟩:=(HPE.out _ HB7.out).2.2.cells HEP.out;have f0:=(HPE.out _ HB7.out).2.2.frozen (p*4);have f1:=(HPE.out _ HB7.out).2.2.frozen (p*4+1);have f2:=(HPE.out _ HB7.out).2.2.frozen (p*4+2);have f3:=(HPE.out _ HB7.out).2.2.frozen (p*4+3)))
        all_goals
         have hBR7:=HB6.out.trans (HB7.out.mono HB6.out.size)
         obtain ⟨hPB7,hEJ7,hQB7,hQJ7,hQ97,ho97⟩:=HALL.out _ hBR7
         have hNE:gq ≠ ga/\g9 ≠ ga:=by have h1:=HNE.out;omega
         have HV:=ah (show df=Pq.co K p-cc*Pq.co Lb j by rw [hdf.out,htt.out,HY2.out])
         have hoD:OwQ W7 b s1 A1 n1 c1 s2 A2 n2 c2 df:=ho7.base (by have h1:=HBB.out.2.2;have h2:=HBR.out.size;have h3:=HB6.out.size;first | omega | (simp;omega))
         have HS1:=ah (hPB7.store (j:=p) (by rw [hEl'.out];omega) ((s1,A1,n1,c1),(s2,A2,n2,c2)))
         have HS2:=ah (hEJ7.set hPB7 (j:=p) (e:=((s1,A1,n1,c1),(s2,A2,n2,c2))) hoD)
         have HS3:=ah (qb_setQ hQB7 hNE.1 p ((s1,A1,n1,c1),(s2,A2,n2,c2)))
         have HS4:=ah (hQJ7.keep (hPB7.keep p ((s1,A1,n1,c1),(s2,A2,n2,c2))))
         have HS5:=ah (qc_setQ hQ97 hNE.2 p ((s1,A1,n1,c1),(s2,A2,n2,c2)))
         have HS6:=ah (ho97.keep (hPB7.keep p ((s1,A1,n1,c1),(s2,A2,n2,c2))))
         have HS7:=ah (below_setQ (HBR.out.trans (hBR7.mono HBR.out.size)) HGA.out.2.2 p ((s1,A1,n1,c1),(s2,A2,n2,c2)))
         unfold setQ at HS1 HS2 HS3 HS4 HS5 HS6 HS7
         clear hPB7 hEJ7 hQB7 hQJ7 hQ97 ho97 hoD ho7 hb7 e0 e1 e2 e3 f0 f1 f2 f3 v0 v1 v2 v3 t0 t1 t2 t3
         go_wp2
         go_roundw
         case rel=>exact ⟨j+1,Ea'.set p ((s1,A1,n1,c1),(s2,A2,n2,c2)),by go_num,by omega,HS1.out,ah (by rw [List.length_set];exact hEl'.out),HS2.out.congr (fun i _=>by
          have h1:=HPK.out
          by_cases hi:i=p
          ·rw [if_pos hi,if_pos (by omega),HV.out,hi,show p-k1=j by omega]
          ·rw [if_neg hi]
           by_cases h2:k1<=i/\i < k1+j
           ·rw [if_pos h2,if_pos (by omega)]
           ·rw [if_neg h2,if_neg (by omega)]),HS3.out,HS4.out,HS5.out,HS6.out,HS7.out⟩
         case measure=>simp [intOf];omega
    ·have hlt:(la:Int) < (n':Int):=by omega
     have HQB:=ah (cJ hQB hQJ)
     have HSQ:=ah (show ∀ x ∈ (List.range k).map q,Qs (N+N) x from fun x hx=>by
      obtain ⟨u,_,rfl⟩:=List.mem_map.1 hx
      exact hq.out.2.2.1 u)
     have HPA:=ah (show OwQp wr b Aa la cA K from by
      rcases hAa.out with e | e
      ·have hK0:=hEa.out.2
       subst e
       obtain rfl:=List.eq_nil_of_length_eq_zero hK0
       exact ⟨[],rfl,⟨rfl,fun j e z he _=>by simp at he⟩,hcA.out.1,hcA.out.2,.inl rfl⟩
      ·subst e
       have:=hPB.p hEJ (nT HBB.out.2.2 HGA.out.2.2) hEa.out.1 hcA.out.1 hcA.out.2
       have e2:(List.range la).map (Pq.co K)=K:=by
        apply List.ext_getElem?
        intro t
        rcases Nat.lt_or_ge t la with ht | ht
        ·rw [List.getElem?_map,List.getElem?_range ht,Pq.get_co (by rw [hEa.out.2];exact ht)];rfl
        ·rw [gN (by simpa using ht),gN (by rw [hEa.out.2];exact ht)]
       rwa [e2] at this)
     have HSK:=ah (show ∀ x ∈ K,Qs N x from (hK.out.2 0).mem)
     have HDK:=ah (show K.length < Lb.length by rw [hEa.out.2,HL.out.1.2];omega)
     have ho:=hQB.own hQJ (show b<=gq by rw [HGQ.out];exact HBB.out.2.2) hEq.out (by unfold maxLen;omega)
     clear hPB hEJ hQB hQJ hAa hge
     go_wp2_with fail
     refine (qtrim_any ho HSQ.out (by omega) (by omega)).mono ?_
     rintro _ W5 ⟨A5,n5,c5,M5,rfl,ho5,hM5,hb5⟩
     have HB5:=ah (hB.trans (hb5.mono hB.size))
     have hoK:=HPA.out.next hb5
     clear ho hB
     go_wp2_with fail
     refine (qtrim_any hoK HSK.out (by omega) (by omega)).mono ?_
     rintro _ W6 ⟨A6,n6,c6,M6,rfl,ho6,hM6,hb6⟩
     have HM6:=ah (show M6=K from hM6.out.unique (Pq.IsP.self hK.out.1))
     go_wp2
     go_ret2
     refine ⟨_,_,_,M5,_,_,_,M6,rfl,ho5.next hb6,ho6,ah ⟨hM5.out.1,hM6.out.1,by rw [HM6.out];exact HDK.out,fun t=>?_⟩,HB5.out.trans (hb6.mono HB5.out.size)⟩
     rw [HM6.out,hq.out.2.2.2 t]
     congr 1
     refine Pq.cv_congr (fun i _=>?_) (fun _ _=>rfl)
     rw [hM5.out.2,range_co0 hq.out.2.1]
  ·have hjl:j < k:=by omega
   have hjli:(j:Int) < (k:Int):=by omega
   clear hjk
   have HZ:=ah hZ
   have HE:=ah hE
   clear hZ hE
   go_wp2_with fail
   refine (qof_any 0 (by decide) (by decide) wr).mono ?_
   rintro _ W2 ⟨s5,A5,n5,c5,s6,A6,n6,c6,q,rfl,ho5,hq,hb2⟩
   obtain rfl:q=0:=hq.out
   have hB2:=hB.trans (hb2.mono hB.size)
   have hZ4:=HZ.out.next hb2
   obtain ⟨e,he⟩:∃ e,E[j]?=some e:=⟨E[j]'(by rw [hEl.out];exact hjl),gE _⟩
   obtain ⟨k0,k1,k2,k3⟩:=hZ4.cells he
   have f0:=hZ4.frozen (j*4)
   have f1:=hZ4.frozen (j*4+1)
   have f2:=hZ4.frozen (j*4+2)
   have f3:=hZ4.frozen (j*4+3)
   have HZ5:=ah (hZ4.store j ((s5,A5,n5,c5),(s6,A6,n6,c6)))
   have HE5:=ah ((HE.out.next hb2).store (e:=((s5,A5,n5,c5),(s6,A6,n6,c6))) hZ4 (ho5.base (b':=b) (nT HBB.out.2.2 hB.size)))
   have HB5:=ah (below_setQ hB2 (Nat.le_of_eq HGQ.out.symm) j ((s5,A5,n5,c5),(s6,A6,n6,c6)))
   unfold setQ at HZ5 HE5 HB5
   clear hb2 hB hB2 hZ4 he ho5 hq
   go_wp2_with fail
   go_roundw
   case rel=>exact ⟨j+1,E.set j ((s5,A5,n5,c5),(s6,A6,n6,c6)),by go_num,by omega,HZ5.out,ah (by rw [List.length_set];exact hEl.out),HE5.out,HB5.out⟩
   case measure=>simp [intOf];omega
end Go.Proofs.YtjnklbfhelbjgaaGreat
