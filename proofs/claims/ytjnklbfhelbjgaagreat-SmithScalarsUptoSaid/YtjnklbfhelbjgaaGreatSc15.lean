/- Sc15. -/
import Derived.Test.YtjnklbfhelbjgaaGreatSc09
import Derived.Test.YtjnklbfhelbjgaaGreatSc06
import Derived.Test.YtjnklbfhelbjgaaGreatSc10
import Derived.Test.YtjnklbfhelbjgaaGreatSc14
import Derived.Test.YtjnklbfhelbjgaaGreatSc11
import Derived.Deep.RegionLaw
import Derived.Test.YtjnklbfhelbjgaaGreatSc12
import Derived.Test.YtjnklbfhelbjgaaGreatSc00
set_option maxRecDepth 100000
set_option maxHeartbeats 32000000
set_option linter.all false
namespace Go.Proofs.YtjnklbfhelbjgaaGreat
open Go.RowKit Go.IntWalk
abbrev RawQ:=(Bool × List Nat) × (Bool × List Nat)
structure RdRQ (w:World)(B:Nat)(A:Option Addr)(n c:Nat)(R:List RawQ):Prop where
 len:R.length=n
 le:n<=c
 mx:c<=maxLen
 at_:∀ (j:Nat) (r:RawQ),R[j]?=some r->∃ (ad:Addr) (A1:Option Addr) (n1 c1:Nat) (A1':Option Addr) (n1' c1':Nat),A=some ad/\ad.block < B/\w.cell? (ad.add (j*4))=some (.bool r.1.1)/\w.cell? ⟨(ad.add (j*4)).block,(ad.add (j*4)).off+1,none⟩=some (.slice A1 n1 c1)/\w.cell? ⟨(ad.add (j*4)).block,(ad.add (j*4)).off+2,none⟩=some (.bool r.2.1)/\w.cell? ⟨(ad.add (j*4)).block,(ad.add (j*4)).off+3,none⟩=some (.slice A1' n1' c1')/\RdU w B A1 n1 c1 r.1.2/\RdU w B A1' n1' c1' r.2.2
def rsz (R:List RawQ):Nat:=(R.map fun r=>r.1.2.length+r.2.2.length).sum
def toQ (r:RawQ):Int × Int:=(toZ r.1,toZ r.2)
theorem rsz_mem {R:List RawQ}{r:RawQ}(h:r ∈ R):r.1.2.length+r.2.2.length<=rsz R:=by
 induction R with
 | nil=>cases h
 | cons x R ih =>
   have e:rsz (x :: R)=x.1.2.length+x.2.2.length+rsz R:=by simp [rsz]
   rw [e]
   rcases List.mem_cons.1 h with rfl | h
   ·omega
   ·have:=ih h;omega
section
variable {w w':World}{B B':Nat}{A:Option Addr}{n c:Nat}{R:List RawQ}
theorem RdRQ.below (h:RdRQ w B A n c R)(hb:Below B w w'):RdRQ w' B A n c R :=
 ⟨h.len,h.le,h.mx,fun j p hp=>by
  obtain ⟨ad,A1,n1,c1,A1',n1',c1',h1,h2,h3,h4,h5,h6,h7,h8⟩:=h.at_ j p hp
  obtain ⟨k3,k4,k5,k6⟩:=qs_cells hb h2 h3 h4 h5 h6
  exact ⟨ad,A1,n1,c1,A1',n1',c1',h1,h2,k3,k4,k5,k6,h7.below hb,h8.below hb⟩⟩
theorem RdRQ.more (h:RdRQ w B A n c R)(hB:B<=B'):RdRQ w B' A n c R :=
 ⟨h.len,h.le,h.mx,fun j p hp=>by
  obtain ⟨ad,A1,n1,c1,A1',n1',c1',h1,h2,h3,h4,h5,h6,h7,h8⟩:=h.at_ j p hp
  exact ⟨ad,A1,n1,c1,A1',n1',c1',h1,by omega,h3,h4,h5,h6,h7.more hB,h8.more hB⟩⟩
theorem RdRQ.rd (h:RdRQ w B A n c R){N:Nat}(hN:rsz R<=N):RdQs w B N A n c (R.map toQ) :=
 ⟨by rw [List.length_map];exact h.len,h.le,h.mx,fun j p hp=>by
  rw [List.getElem?_map] at hp
  rcases Nat.lt_or_ge j R.length with hj | hj
  ·rw [gE hj] at hp
   simp at hp
   subst hp
   obtain ⟨ad,A1,n1,c1,A1',n1',c1',h1,h2,h3,h4,h5,h6,h7,h8⟩:=h.at_ j R[j] (gE hj)
   have hm:=rsz_mem (List.getElem_mem hj)
   exact ⟨ad,_,A1,n1,c1,_,A1',n1',c1',h1,h2,h3,h4,h5,h6,⟨_,h7,rfl⟩,⟨_,h8,rfl⟩,by have:=h7.len;omega,by have:=h8.len;omega⟩
  ·rw [gN hj] at hp
   simp at hp⟩
end
structure Com (S:Nat)(f:Nat->Rat)(Z:Nat->Int)(D:Int):Prop where
 ne:D ≠ 0
 at_:∀ i,f i=Rat.divInt (Z i) D
 sz:∀ i,Zz.zl (Z i)<=S
 dz:Zz.zl D<=S
def qsz (L:List (Int × Int)):Nat:=(L.map fun p=>Zz.zl p.1+Zz.zl p.2).sum
theorem qsz_cons (p:Int × Int)(L:List (Int × Int)):qsz (p :: L)=Zz.zl p.1+Zz.zl p.2+qsz L:=by simp [qsz]
theorem Com.qs {S:Nat}{f:Nat->Rat}{Z:Nat->Int}{D:Int}(h:Com S f Z D)(i:Nat):Qs S (f i):=by
 rw [h.at_]
 exact Qs.divInt h.ne (h.sz i) h.dz
theorem Com.mono {S S':Nat}{f:Nat->Rat}{Z:Nat->Int}{D:Int}(h:Com S f Z D)(hS:S<=S'):Com S' f Z D:=⟨h.ne,h.at_,fun i=>nT (h.sz i) hS,nT h.dz hS⟩
theorem com_list:∀ L:List (Int × Int),(∀ p ∈ L,p.2 ≠ 0)->∃ Z D,Com (1+qsz L) (Pq.co (L.map qval)) Z D
 | [],_=>⟨fun _=>0,1,by decide,fun i=>by rw [List.map_nil,Pq.co_nil];rfl,fun i=>by rw [Zz.zl_zero];omega,nT (Zz.zl_small (by decide)) (by omega)⟩
 | p :: L, h => by
   obtain ⟨Z,D,hD⟩:=com_list L fun q hq=>h q (List.mem_cons_of_mem _ hq)
   have hp:=h p (List.mem_cons_self ..)
   have e0:=Zz.zl_mul p.2 D
   have e1:=Zz.zl_mul p.1 D
   have e2:=hD.dz
   refine ⟨fun i=>if i=0 then p.1*D else Z (i-1)*p.2,p.2*D,Int.mul_ne_zero hp hD.ne,fun i=>?_,fun i=>?_,?_⟩
   ·cases i with
    | zero =>
      rw [List.map_cons,Pq.co_cons_zero,if_pos rfl]
      show Rat.divInt p.1 p.2=_
      rw [Rat.divInt_eq_divInt_iff hp (Int.mul_ne_zero hp hD.ne)]
      grind
    | succ i =>
      rw [List.map_cons,Pq.co_cons_succ,if_neg (by omega),hD.at_,Nat.add_sub_cancel,Rat.divInt_eq_divInt_iff hD.ne (Int.mul_ne_zero hp hD.ne)]
      grind
   ·rw [qsz_cons]
    by_cases hi:i=0
    ·rw [if_pos hi];omega
    ·rw [if_neg hi]
     have e3:=Zz.zl_mul (Z (i-1)) p.2
     have e4:=hD.sz (i-1)
     omega
   ·rw [qsz_cons];omega
theorem divInt_div (z d:Int):Rat.divInt z d=(z:Rat) / (d:Rat):=Rat.divInt_eq_div z d
theorem int_ne {d:Int}(h:d ≠ 0):(d:Rat) ≠ 0:=fun e=>h (by exact_mod_cast e)
theorem com_quo {S T:Nat}{f g:Nat->Rat}{Z Y:Nat->Int}{D E:Int}(h:Com S f Z D)(h':Com T g Y E){m n:Nat}(hn:g n ≠ 0):Qs (S+T) (f m / g n)/\∀ t,Qs (S+T) (f m / g n*g t):=by
 have hE:=int_ne h'.ne
 have hD:=int_ne h.ne
 have hY:Y n ≠ 0:=by
  intro e
  apply hn
  rw [h'.at_,e,Rat.zero_divInt]
 have hYq:=int_ne hY
 have e0:=Zz.zl_mul D (Y n)
 have e1:=h.dz
 have e2:=h'.sz n
 constructor
 ·have e:f m / g n=Rat.divInt (Z m*E) (D*Y n):=by
   rw [h.at_,h'.at_,divInt_div,divInt_div,divInt_div,Rat.intCast_mul,Rat.intCast_mul]
   grind
  rw [e]
  refine Qs.divInt (Int.mul_ne_zero h.ne hY) ?_ (by omega)
  have e3:=Zz.zl_mul (Z m) E
  have e4:=h.sz m
  have e5:=h'.dz
  omega
 ·intro t
  have e:f m / g n*g t=Rat.divInt (Z m*Y t) (D*Y n):=by
   rw [h.at_,h'.at_,h'.at_,divInt_div,divInt_div,divInt_div,divInt_div,Rat.intCast_mul,Rat.intCast_mul]
   grind
  rw [e]
  refine Qs.divInt (Int.mul_ne_zero h.ne hY) ?_ (by omega)
  have e3:=Zz.zl_mul (Z m) (Y t)
  have e4:=h.sz m
  have e5:=h'.sz t
  omega
theorem com_step {S T:Nat}{a b:List Rat}{Z Y:Nat->Int}{D E:Int}(h:Com S (Pq.co a) Z D)(h':Com T (Pq.co b) Y E)(hb:Pq.Nz b)(h0:0 < b.length)(hl:b.length<=a.length):∃ Z' D',Com (S+T+1) (Pq.co (Pq.dstep b a)) Z' D':=by
 have hn:=Pq.nz_top hb h0
 have hE:=int_ne h'.ne
 have hD:=int_ne h.ne
 have hY:Y (b.length-1) ≠ 0:=by
  intro e
  apply hn
  rw [h'.at_,e,Rat.zero_divInt]
 have hYq:=int_ne hY
 refine ⟨fun i=>Y (b.length-1)*Z i-(if i < a.length-b.length then 0 else Z (a.length-1)*Y (i-(a.length-b.length))),D*Y (b.length-1),Int.mul_ne_zero h.ne hY,fun i=>?_,fun i=>?_,?_⟩
 ·rw [Pq.co_dstep hl]
  by_cases h1:i < a.length-b.length
  ·rw [if_pos h1,if_pos h1,h.at_,divInt_div,divInt_div,Int.sub_zero,Rat.intCast_mul,Rat.intCast_mul]
   grind
  ·rw [if_neg h1,if_neg h1,h.at_,h.at_,h'.at_,h'.at_,divInt_div,divInt_div,divInt_div,divInt_div,divInt_div,Rat.intCast_sub,Rat.intCast_mul,Rat.intCast_mul,Rat.intCast_mul]
   grind
 ·have e1:=Zz.zl_mul (Y (b.length-1)) (Z i)
  have e2:=h'.sz (b.length-1)
  have e3:=h.sz i
  by_cases h1:i < a.length-b.length
  ·rw [if_pos h1,Int.sub_zero];omega
  ·rw [if_neg h1]
   have e4:=Zz.zl_sub (Y (b.length-1)*Z i) (Z (a.length-1)*Y (i-(a.length-b.length)))
   have e5:=Zz.zl_mul (Z (a.length-1)) (Y (i-(a.length-b.length)))
   have e6:=h.sz (a.length-1)
   have e7:=h'.sz (i-(a.length-b.length))
   omega
 ·have e1:=Zz.zl_mul D (Y (b.length-1))
  have e2:=h'.sz (b.length-1)
  have e3:=h.dz
  omega
theorem com_rest {T:Nat}{b:List Rat}{Y:Nat->Int}{E:Int}(h':Com T (Pq.co b) Y E)(hb:Pq.Nz b)(h0:0 < b.length):∀ (j S:Nat) (a:List Rat) (Z:Nat->Int) (D:Int),Com S (Pq.co a) Z D->∃ S' Z' D',Com S' (Pq.co (Pq.drest b j a)) Z' D'/\S'+(Pq.drest b j a).length*(T+1)<=S+a.length*(T+1)
 | 0,S,a,Z,D,h=>⟨S,Z,D,h,nR⟩
 | j + 1, S, a, Z, D, h => by
   by_cases hl:b.length<=a.length
   ·rw [Pq.drest_step hl]
    obtain ⟨Z1,D1,h1⟩:=com_step h h' hb h0 hl
    obtain ⟨S2,Z2,D2,h2,h3⟩:=com_rest h' hb h0 j _ _ _ _ h1
    refine ⟨S2,Z2,D2,h2,?_⟩
    have h4:=Pq.dstep_len hb h0 hl
    have h5:((Pq.dstep b a).length+1)*(T+1)<=a.length*(T+1):=Nat.mul_le_mul_right _ h4
    rw [Nat.succ_mul] at h5
    omega
   ·rw [Pq.drest,if_neg hl]
    exact ⟨S,Z,D,h,nR⟩
structure DivSz (N:Nat)(a b:List Rat):Prop where
 rest:∀ j,SzQ N (Pq.drest b j a)
 quo:∀ j,b.length<=(Pq.drest b j a).length->Qs N (Pq.co (Pq.drest b j a) ((Pq.drest b j a).length-1) / Pq.co b (b.length-1))/\∀ t,Qs N (Pq.co (Pq.drest b j a) ((Pq.drest b j a).length-1) / Pq.co b (b.length-1)*Pq.co b t)
 one:1<=N
theorem div_sz {S T N:Nat}{a b:List Rat}{Z Y:Nat->Int}{D E:Int}(h:Com S (Pq.co a) Z D)(h':Com T (Pq.co b) Y E)(hb:Pq.Nz b)(h0:0 < b.length)(h1:1<=S)(hN:S+a.length*(T+1)<=N):DivSz N a b:=by
 refine ⟨fun j i=>?_,fun j hj=>?_,by omega⟩
 ·obtain ⟨S',Z',D',h2,h3⟩:=com_rest h' hb h0 j _ _ _ _ h
  exact (h2.qs i).mono (by have:=Nat.zero_le ((Pq.drest b j a).length*(T+1));omega)
 ·obtain ⟨S',Z',D',h2,h3⟩:=com_rest h' hb h0 j _ _ _ _ h
  have h5:1*(T+1)<=(Pq.drest b j a).length*(T+1):=Nat.mul_le_mul_right _ (by omega)
  have hq:=com_quo (m:=(Pq.drest b j a).length-1) h2 h' (Pq.nz_top hb h0)
  exact ⟨hq.1.mono (by omega),fun t=>(hq.2 t).mono (by omega)⟩
end Go.Proofs.YtjnklbfhelbjgaaGreat
namespace Pq
def pcv (a b:Nat → Rat):Nat → Nat → Rat
 | 0,_=>0
 | k+1,t=>pcv a b k t+(if k ≤ t then a k*b (t-k) else 0)
theorem pcv_succ (a b:Nat → Rat)(k t:Nat):pcv a b (k+1) t=pcv a b k t+(if k ≤ t then a k*b (t-k) else 0):=rfl
theorem pcv_cv (a b:Nat → Rat)(t:Nat):∀ n,pcv a b n t=cv (fun i=>if i < n then a i else 0) b t
 | 0 => by
   rw [show (fun i=>if i < 0 then a i else 0)=fun _=>(0:Rat) from funext fun i=>if_neg (Nat.not_lt_zero i),cv_zero_left]
   rfl
 | n + 1 => by
   have e:(fun i=>if i < n+1 then a i else 0)=fun i=>(if i < n then a i else 0)+mono (a n) n i:=by
    funext i
    unfold mono
    by_cases h1:i < n
    ·rw [if_pos h1,if_pos (by omega),if_neg (by omega),Rat.add_zero]
    ·by_cases h2:i=n
     ·subst h2
      rw [if_pos (by omega),if_neg h1,if_pos rfl,Rat.zero_add]
     ·rw [if_neg (by omega),if_neg h1,if_neg h2,Rat.add_zero]
   rw [pcv_succ,pcv_cv a b t n,e,cv_add_left,cv_mono]
theorem pcv_all {a:Nat → Rat}(b:Nat → Rat){n:Nat}(h:Up a n)(t:Nat):pcv a b n t=cv a b t:=by
 rw [pcv_cv]
 congr 1
 funext i
 by_cases h1:i < n
 ·rw [if_pos h1]
 ·rw [if_neg h1,h i (by omega)]
end Pq
namespace Go.Proofs.YtjnklbfhelbjgaaGreat
open Go.RowKit Go.IntWalk
theorem pcv_int {S T:Nat}{a b:Nat->Rat}{Z Y:Nat->Int}{D E:Int}(h:Com S a Z D)(h':Com T b Y E)(t:Nat):∀ n,Pq.pcv a b n t=((Pz.cvp Z Y n t:Int):Rat) / ((D:Rat)*(E:Rat))
 | 0 => by
   show (0:Rat)=_
   rw [Pz.cvp_zero,show ((0:Int):Rat)=0 from rfl,Rat.div_def,Rat.zero_mul]
 | n + 1 => by
   have hD:=int_ne h.ne
   have hE:=int_ne h'.ne
   rw [Pq.pcv_succ,pcv_int h h' t n,Pz.cvp_succ,h.at_,h'.at_,divInt_div,divInt_div]
   by_cases h1:n<=t
   ·rw [if_pos h1,if_pos h1,Rat.intCast_add,Rat.intCast_mul]
    grind
   ·rw [if_neg h1,if_neg h1,Int.add_zero,Rat.add_zero]
theorem com_pcv {S T n:Nat}{a b:Nat->Rat}{Z Y:Nat->Int}{D E:Int}(h:Com S a Z D)(h':Com T b Y E)(hn:n < 4294967295):Com (S+T+1) (Pq.pcv a b n) (Pz.cvp Z Y n) (D*E) :=
 ⟨Int.mul_ne_zero h.ne h'.ne,fun t=>by rw [pcv_int h h' t n,divInt_div,Rat.intCast_mul],fun t=>Pz.cvp_zl h.sz h'.sz hn t,by have e1:=Zz.zl_mul D E;have e2:=h.dz;have e3:=h'.dz;omega⟩
theorem den_dvd' (z:Int){d:Int}(hd:d ≠ 0):((Rat.divInt z d).den:Int) ∣ d:=by
 rw [Rat.den_divInt,if_neg hd]
 exact Int.ofNat_dvd_left.2 (Nat.div_dvd_of_dvd (Nat.gcd_dvd_left _ _))
theorem com_den {S:Nat}{L:List Rat}{Z:Nat->Int}{D:Int}(h:Com S (Pq.co L) Z D){x:Rat}(hx:x ∈ L):(x.den:Int) ∣ D:=by
 obtain ⟨i,_,rfl⟩:=Pq.mem_co hx
 rw [h.at_]
 exact den_dvd' _ h.ne
theorem denF_dvd_of {D:Int}:∀ (L:List Rat) (g:Int),g ∣ D->(∀ x ∈ L,(x.den:Int) ∣ D)->denF g L ∣ D
 | [],g,h,_=>h
 | x :: L, g, h, hx => by
   refine denF_dvd_of L _ ?_ fun y hy=>hx y (List.mem_cons_of_mem _ hy)
   have h1:g.natAbs ∣ D.natAbs:=Int.natAbs_dvd_natAbs.2 h
   have h2:x.den ∣ D.natAbs:=by
    have:=Int.natAbs_dvd_natAbs.2 (hx x (List.mem_cons_self ..))
    simpa using this
   exact Int.ofNat_dvd_left.2 (Nat.lcm_dvd h1 h2)
theorem zl_dvd {x D:Int}(h:x ∣ D)(hD:D ≠ 0):Zz.zl x<=Zz.zl D:=Zz.zl_of_le (Nat.le_of_dvd (Int.natAbs_pos.2 hD) (Int.natAbs_dvd_natAbs.2 h))
theorem com_denF {S:Nat}{L:List Rat}{Z:Nat->Int}{D:Int}(h:Com S (Pq.co L) Z D)(j:Nat):Zz.zl (denF 1 (L.take j))<=S :=
 nT (zl_dvd (denF_dvd_of _ 1 (Int.one_dvd D) fun _ hx=>com_den h (List.mem_of_mem_take hx)) h.ne) h.dz
theorem co_numL (L:List Rat)(i:Nat):Pz.co (numL L) i=(Pq.co L i).num*(denL L).tdiv (Pq.co L i).den:=by
 unfold numL
 rcases Nat.lt_or_ge i L.length with h | h
 ·rw [Pz.co_get (by rw [List.getElem?_map,Pq.get_co h];rfl)]
 ·rw [Pz.co_ge (by rw [List.length_map];exact h),Pq.co_ge h]
  show (0:Int)=0*_
  rw [Int.zero_mul]
theorem parts_com {S:Nat}{L:List Rat}{Z:Nat->Int}{D:Int}(h:Com S (Pq.co L) Z D):Com S (Pq.co L) (Pz.co (numL L)) (denL L):=by
 have hp:=denF_pos L 1 (by decide)
 have hne:denL L ≠ 0:=by show denF 1 L ≠ 0;omega
 have hdv:∀ i,((Pq.co L i).den:Int) ∣ denL L:=fun i=>by
  rcases Nat.lt_or_ge i L.length with h1 | h1
  ·exact den_dvd L 1 _ (gM (Pq.get_co h1))
  ·rw [Pq.co_ge h1];exact Int.one_dvd _
 have hdd:denL L ∣ D:=denF_dvd_of L 1 (Int.one_dvd D) fun _ hx=>com_den h hx
 refine ⟨hne,fun i=>?_,fun i=>?_,nT (zl_dvd hdd h.ne) h.dz⟩
 ·obtain ⟨k,hk⟩:=hdv i
  have hx:=qden_ne (Pq.co L i)
  rw [co_numL,hk,Int.mul_tdiv_cancel_left _ hx]
  conv=>lhs;rw [<- Rat.num_divInt_den (Pq.co L i)]
  rw [Rat.divInt_eq_divInt_iff hx (by rw [<- hk];exact hne)]
  grind
 ·obtain ⟨k,hk⟩:=hdv i
  obtain ⟨u,hu⟩:=hdd
  have hx:=qden_ne (Pq.co L i)
  have e:Z i=Pz.co (numL L) i*u:=by
   have h2:=h.at_ i
   rw [<- Rat.num_divInt_den (Pq.co L i)] at h2
   have h3:=(Rat.divInt_eq_divInt_iff hx h.ne).1 h2
   rw [co_numL,hk,Int.mul_tdiv_cancel_left _ hx]
   have h4:((Pq.co L i).den:Int)*Z i=((Pq.co L i).den:Int)*((Pq.co L i).num*k*u):=by
    rw [hu,hk] at h3
    rw [Int.mul_comm _ (Z i),<- h3]
    grind
   exact Int.eq_of_mul_eq_mul_left hx h4
  have hu0:u ≠ 0:=by
   rintro rfl
   rw [Int.mul_zero] at hu
   exact h.ne hu
  refine nT (Zz.zl_of_le ?_) (h.sz i)
  rw [e,Int.natAbs_mul]
  exact Nat.le_mul_of_pos_right _ (Int.natAbs_pos.2 hu0)
abbrev put4 (w:World)(g:Nat)(x y z u:Value):World:=(((w.setCell ⟨g,0,none⟩ x).setCell ⟨g,1,none⟩ y).setCell ⟨g,2,none⟩ z).setCell ⟨g,3,none⟩ u
section
variable {w w':World}{g b B:Nat}{s s' t t':Bool}{A A' D D':Option Addr}{n c n' c' k m k' m':Nat}{x:Rat}{z:Int}
theorem QC.newAt (hg:g=w.heap.size):QC (w.alloc (.cells #[.bool s,.slice A n c,.bool s',.slice A' n' c'] 47)) g s A n c s' A' n' c':=by subst hg;exact QC.new w s A n c s' A' n' c'
theorem QC.alloc (h:QC w g s A n c s' A' n' c')(o:Obj):QC (w.alloc o) g s A n c s' A' n' c':=h.next ((Below.refl w.heap.size w).alloc nR o)
theorem OwQ.made (h:OwQ w b s A n c s' A' n' c' x)(o:Obj):OwQ (w.alloc o) b s A n c s' A' n' c' x:=h.next ((Below.refl w.heap.size w).alloc nR o)
def QE (w:World)(g:Nat):Prop:=∃ s A n c s' A' n' c',QC w g s A n c s' A' n' c'
theorem QE.of (h:QC w g s A n c s' A' n' c'):QE w g:=⟨s,A,n,c,s',A',n',c',h⟩
theorem QE.newAt (hg:g=w.heap.size):QE (w.alloc (.cells #[.bool s,.slice A n c,.bool s',.slice A' n' c'] 47)) g:=QE.of (QC.newAt hg)
theorem QE.put (h:QE w g)(s:Bool)(A:Option Addr)(n c:Nat)(s':Bool)(A':Option Addr)(n' c':Nat):QC (put4 w g (.bool s) (.slice A n c) (.bool s') (.slice A' n' c')) g s A n c s' A' n' c':=by
 obtain ⟨_,_,_,_,_,_,_,_,h⟩:=h
 exact h.store s A n c s' A' n' c'
theorem QE.far (h:QE w g){p:Addr}(hp:g ≠ p.block)(u:Value):QE (w.setCell p u) g:=by
 obtain ⟨_,_,_,_,_,_,_,_,h⟩:=h
 exact QE.of (h.far hp u)
theorem QE.alloc (h:QE w g)(o:Obj):QE (w.alloc o) g:=by
 obtain ⟨_,_,_,_,_,_,_,_,h⟩:=h
 exact QE.of (h.alloc o)
theorem QE.keepT (h:QE w g)(x y u v:Value):KeepT w (put4 w g x y u v):=by
 obtain ⟨_,_,_,_,_,_,_,_,h⟩:=h
 intro i cs f e
 have hne:i ≠ g:=by
  rintro rfl
  unfold QC at h
  rw [h] at e
  simp at e
 rw [Below.heap_setCell _ (⟨g,3,none⟩:Addr) _ i hne,Below.heap_setCell _ (⟨g,2,none⟩:Addr) _ i hne,Below.heap_setCell _ (⟨g,1,none⟩:Addr) _ i hne,Below.heap_setCell _ (⟨g,0,none⟩:Addr) _ i hne]
 exact e
theorem OwQ.puts (h:OwQ w b t D k m t' D' k' m' x)(hz:QE w g)(x1 y1 u1 v1:Value):OwQ (put4 w g x1 y1 u1 v1) b t D k m t' D' k' m' x:=h.keep (hz.keepT x1 y1 u1 v1)
theorem size_put4 (w:World)(g:Nat)(x y u v:Value):(put4 w g x y u v).heap.size=w.heap.size:=by simp [World.setCell]
theorem RdU.put4 {L:List Nat}(h:RdU w B A n c L)(hz:QE w g)(x y u v:Value):RdU (put4 w g x y u v) B A n c L:=by
 obtain ⟨t1,D1,k1,m1,t2,D2,k2,m2,hz⟩:=hz
 refine ⟨h.len,h.le,h.mx,fun j a ha=>?_⟩
 obtain ⟨h1,ad,e,hB,hc⟩:=h.at_ j a ha
 refine ⟨h1,ad,e,hB,?_⟩
 have hne:(ad.add j).block ≠ g:=by
  intro e0
  unfold World.cell? at hc
  unfold QC at hz
  rw [e0,hz] at hc
  have hs:∀ (i:Nat) (y:Nat),(#[Value.bool t1,.slice D1 k1 m1,.bool t2,.slice D2 k2 m2]:Array Value)[i]? ≠ some (.int .u32 y):=fun i y=>by
   match i with
   | 0=>simp
   | 1=>simp
   | 2=>simp
   | 3=>simp
   | (j+4)=>simp
  simp only at hc
  split at hc <;> simp_all
 rw [<- hc]
 unfold World.cell?
 rw [Below.heap_setCell _ (⟨g,3,none⟩:Addr) _ _ hne,Below.heap_setCell _ (⟨g,2,none⟩:Addr) _ _ hne,Below.heap_setCell _ (⟨g,1,none⟩:Addr) _ _ hne,Below.heap_setCell _ (⟨g,0,none⟩:Addr) _ _ hne]
def RdN (w:World)(s:Bool)(A:Option Addr)(n c:Nat)(z:Int):Prop:=RdZ w w.heap.size s A n c z
theorem RdN.put4 (h:RdN w s A n c z)(hz:QE w g)(x y u v:Value):RdN (put4 w g x y u v) s A n c z:=by
 obtain ⟨M,h,e⟩:=h
 unfold RdN
 rw [size_put4]
 exact ⟨M,h.put4 hz x y u v,e⟩
theorem RdN.next (h:RdN w s A n c z)(hb:Below w.heap.size w w'):RdN w' s A n c z:=RdZ.next h hb
theorem RdN.made (h:RdN w s A n c z)(o:Obj):RdN (w.alloc o) s A n c z:=h.next ((Below.refl w.heap.size w).alloc nR o)
end
attribute [local go_sem ↓] Go.wp_at_zero Go.wp_at_succ
theorem q_pair (w:World)(s1 s2 s3 s4:Bool)(A1 A2 A3 A4:Option Addr)(n1 c1 n2 c2 n3 c3 n4 c4:Nat) :
  ∀ W1:World,W1=(w.alloc (.cells #[.bool s1,.slice A1 n1 c1,.bool s2,.slice A2 n2 c2] 47)).alloc (.cells #[.bool s3,.slice A3 n3 c3,.bool s4,.slice A4 n4 c4] 47) ->
   QC W1 w.heap.size s1 A1 n1 c1 s2 A2 n2 c2/\QC W1 (w.heap.size+1) s3 A3 n3 c3 s4 A4 n4 c4/\Below w.heap.size w W1:=by
 rintro W1 rfl
 refine ⟨(QC.new w s1 A1 n1 c1 s2 A2 n2 c2).next (bA),?_,((Below.refl w.heap.size w).alloc nR _).alloc (by simp) _⟩
 simpa using QC.new (w.alloc (.cells #[.bool s1,.slice A1 n1 c1,.bool s2,.slice A2 n2 c2] 47)) s3 A3 n3 c3 s4 A4 n4 c4
theorem same05_any {s1 s2 s3 s4:Bool}{A1 A2 A3 A4:Option Addr}{n1 c1 n2 c2 n3 c3 n4 c4:Nat}{M1 M2 M3 M4:List Nat}{w:World}(h1:RdU w w.heap.size A1 n1 c1 M1)(h2:RdU w w.heap.size A2 n2 c2 M2)(h3:RdU w w.heap.size A3 n3 c3 M3)(h4:RdU w w.heap.size A4 n4 c4 M4) :
  Calls Tryz.prog 156 #[.agg #[.bool s1,.slice A1 n1 c1,.bool s2,.slice A2 n2 c2],.agg #[.bool s3,.slice A3 n3 c3,.bool s4,.slice A4 n4 c4]] w (RetBo (((s1,M1),(s2,M2))=((s3,M3),(s4,M4))) w):=by
 obtain ⟨W1,HW1⟩:∃ W,W=(w.alloc (.cells #[.bool s1,.slice A1 n1 c1,.bool s2,.slice A2 n2 c2] 47)).alloc (.cells #[.bool s3,.slice A3 n3 c3,.bool s4,.slice A4 n4 c4] 47):=⟨_,rfl⟩
 obtain ⟨hX,hY,hB⟩:=q_pair w s1 s2 s3 s4 A1 A2 A3 A4 n1 c1 n2 c2 n3 c3 n4 c4 W1 HW1
 have a0:=hX.c0
 have a1:=hX.c1
 have b0:=hY.c0
 have b1:=hY.c1
 rw [HW1] at a0 a1 b0 b1
 have HX:=ah hX
 have HY:=ah hY
 have HB:=ah hB
 have HR:=ah (cJ (cJ (h1.next hB) (h3.next hB)) (cJ (h2.next hB) (h4.next hB)))
 have HW1:=ah HW1
 clear hX hY hB h1 h2 h3 h4
 go_enter Tryz.func156,Tryz.ntmps156
 go_wp2_with fail
 rw [<- HW1.out]
 clear HW1 a0 a1 b0 b1
 clear HW1
 refine (same03_any (s:=s1) (s':=s3) HR.out.1.1 HR.out.1.2).mono ?_
 rintro _ W2 ⟨b,rfl,hb,hb2⟩
 have HB2:=tM HB hb2
 cases b
 ·have HNE:=ah (show (s1,M1) ≠ (s3,M3) from fun e=>by have:=hb.out.2 e;simp at this)
  clear hb2
  go_wp2
  go_ret
  exact ⟨false,rfl,ah ⟨fun e=>by simp at e,fun e=>absurd (by injection e) HNE.out⟩,HB2.out⟩
 ·have HEQ:=ah (hb.out.1 rfl)
  have a2:=(HX.out.next hb2).c2
  have a3:=(HX.out.next hb2).c3
  have b2:=(HY.out.next hb2).c2
  have b3:=(HY.out.next hb2).c3
  have HR2:=ah (cJ (HR.out.2.1.next hb2) (HR.out.2.2.next hb2))
  clear hb2
  go_wp2_with fail
  clear a2 a3 b2 b3
  refine (same03_any (s:=s2) (s':=s4) HR2.out.1 HR2.out.2).mono ?_
  rintro _ W3 ⟨b,rfl,hb3,hb4⟩
  go_wp2
  go_ret
  exact ⟨b,rfl,ah ⟨fun e=>by rw [HEQ.out,hb3.out.1 e],fun e=>hb3.out.2 (by injection e)⟩,HB2.out.trans (hb4.mono HB2.out.size)⟩
theorem rq_at {w:World}{B:Nat}{A:Option Addr}{n c:Nat}{R:List RawQ}(h:RdRQ w B A n c R){j:Nat}(hj:j < n) :
  ∃ (ad:Addr) (s:Bool) (M:List Nat) (s':Bool) (M':List Nat) (A1:Option Addr) (n1 c1:Nat) (A1':Option Addr) (n1' c1':Nat),A=some ad/\ad.block < B/\w.cell? (ad.add (j*4))=some (.bool s)/\w.cell? ⟨(ad.add (j*4)).block,(ad.add (j*4)).off+1,none⟩=some (.slice A1 n1 c1)/\w.cell? ⟨(ad.add (j*4)).block,(ad.add (j*4)).off+2,none⟩=some (.bool s')/\w.cell? ⟨(ad.add (j*4)).block,(ad.add (j*4)).off+3,none⟩=some (.slice A1' n1' c1')/\RdU w B A1 n1 c1 M/\RdU w B A1' n1' c1' M'/\Hid (R[j]?=some ((s,M),(s',M'))):=by
 have hz:R[j]?=some (R[j]'(by rw [h.len];exact hj)):=gE _
 obtain ⟨ad,A1,n1,c1,A1',n1',c1',h1,h2,h3,h4,h5,h6,h7,h8⟩:=h.at_ j _ hz
 exact ⟨ad,_,_,_,_,A1,n1,c1,A1',n1',c1',h1,h2,h3,h4,h5,h6,h7,h8,ah hz⟩
theorem sameAll05_any {A A':Option Addr}{n c n' c':Nat}{R R':List RawQ}{w:World}(h:RdRQ w w.heap.size A n c R)(h':RdRQ w w.heap.size A' n' c' R') :
  Calls Tryz.prog 104 #[.slice A n c,.slice A' n' c'] w (RetBo (R=R') w):=by
 have hlen:=ah (cJ h.len h'.len)
 have hn:n<=9223372036854775807:=by
  have h1:=h.mx
  have h2:=h.le
  unfold maxLen at h1
  omega
 go_enter Tryz.func104,Tryz.ntmps104
 by_cases hne:n=n'
 ·subst hne
  go_wp2_with fail
  go_loopw [13] (fun iv wr=>∃ i:Nat,iv=.int .i64 i/\i<=n/\Hid (∀ t,t < i->R[t]?=R'[t]?)/\Below w.heap.size w wr) (fun iv _=>n-(intOf iv).toNat)
  case atStart=>exact ⟨0,rfl,nZ,ah fun t ht=>by omega,bR⟩
  case round =>
   obtain ⟨i,rfl,hi,hE,hB⟩:=hrel
   by_cases hin:i=n
   ·have hni:=hin.symm
    subst hni
    clear hin
    go_wp2
    go_ret
    exact ⟨true,rfl,ah ⟨fun _=>by
     apply List.ext_getElem?
     intro t
     rcases Nat.lt_or_ge t n with ht | ht
     ·exact hE.out t ht
     ·rw [gN (by rw [hlen.out.1];exact ht),gN (by rw [hlen.out.2];exact ht)],fun _=>rfl⟩,hB⟩
   ·have hil:i < n:=by omega
    clear hin
    have hili:(i:Int) < (n:Int):=by omega
    obtain ⟨ad,s,M,t,N,A1,n1,c1,A2,n2,c2,rfl,hbk,hx0,hx1,hx2,hx3,hrx,hrx',hx⟩:=rq_at h hil
    obtain ⟨ad',s',M',t',N',A3,n3,c3,A4,n4,c4,rfl,hbk',hy0,hy1,hy2,hy3,hry,hry',hy⟩:=rq_at h' hil
    obtain ⟨k0,k1,k2,k3⟩:=qs_cells hB hbk hx0 hx1 hx2 hx3
    obtain ⟨l0,l1,l2,l3⟩:=qs_cells hB hbk' hy0 hy1 hy2 hy3
    have HBD:=ah (Below.refl wr.heap.size wr).drew
    have HSA:=ah (same05_any (s1:=s) (s2:=t) (s3:=s') (s4:=t') ((hrx.next hB).next HBD.out) ((hrx'.next hB).next HBD.out) ((hry.next hB).next HBD.out) ((hry'.next hB).next HBD.out))
    have HCX:=ah (show ∀ W:World,Below wr.heap.size wr W->_ from fun W hb=>qs_cells (hB.trans (hb.mono hB.size)) hbk hx0 hx1 hx2 hx3)
    have HCY:=ah (show ∀ W:World,Below wr.heap.size wr W->_ from fun W hb=>qs_cells (hB.trans (hb.mono hB.size)) hbk' hy0 hy1 hy2 hy3)
    clear hx0 hx1 hx2 hx3 hy0 hy1 hy2 hy3 hrx hry hrx' hry'
    go_upto_region 6 with fail
    go_region_held3 (fun w'=>(w'.cell? (ad.add (i*4))=some (.bool s)/\w'.cell? ⟨(ad.add (i*4)).block,(ad.add (i*4)).off+1,none⟩=some (.slice A1 n1 c1)/\w'.cell? ⟨(ad.add (i*4)).block,(ad.add (i*4)).off+2,none⟩=some (.bool t)/\w'.cell? ⟨(ad.add (i*4)).block,(ad.add (i*4)).off+3,none⟩=some (.slice A2 n2 c2))/\w'.cell? (ad'.add (i*4))=some (.bool s')/\w'.cell? ⟨(ad'.add (i*4)).block,(ad'.add (i*4)).off+1,none⟩=some (.slice A3 n3 c3)/\w'.cell? ⟨(ad'.add (i*4)).block,(ad'.add (i*4)).off+2,none⟩=some (.bool t')/\w'.cell? ⟨(ad'.add (i*4)).block,(ad'.add (i*4)).off+3,none⟩=some (.slice A4 n4 c4))
     (first | exact ⟨HCX.out _ HB2.out,HCY.out _ HB2.out⟩ | exact ⟨HCX.out _ HBD.out,HCY.out _ HBD.out⟩ | exact ⟨HCX.out _ bR,HCY.out _ bR⟩)
     (first
      | (go_at_call 156;refine HSA.out.mono ?_;rintro _ W2 ⟨b,rfl,hb,hb2⟩;have HB2:=ah (HBD.out.trans hb2);obtain ⟨a0,a1,a2,a3⟩:=HCX.out W2 HB2.out;obtain ⟨b0,b1,b2,b3⟩:=HCY.out W2 HB2.out))
    have hB2:=hB.trans (HB2.out.mono hB.size)
    clear k0 k1 k2 k3 l0 l1 l2 l3 a0 a1 a2 a3 b0 b1 b2 b3 hb2
    cases b
    ·have HNE:=ah (show ((s,M),(t,N)) ≠ ((s',M'),(t',N')) from fun e=>by have:=hb.out.2 e;simp at this)
     go_wp2
     go_ret
     exact ⟨false,rfl,ah ⟨fun e=>by simp at e,fun e=>absurd (by
      have e1:=hx.out
      rw [e,hy.out] at e1
      injection e1 with e1
      exact e1.symm) HNE.out⟩,hB2⟩
    ·have HEQ:=ah (hb.out.1 rfl)
     go_wp2
     go_roundw
     case rel=>exact ⟨i+1,by go_num,by omega,ah fun t ht=>by
      rcases Nat.lt_or_ge t i with h1 | h1
      ·exact hE.out t h1
      ·rw [show t=i by omega,hx.out,hy.out,HEQ.out],hB2⟩
     case measure=>simp [intOf];omega
 ·have hb:((n:Int) != (n':Int))=true:=by simp;omega
  have HNE:=ah hne
  clear hne
  go_wp2
  go_ret
  exact ⟨false,rfl,ah ⟨fun e=>by simp at e,fun e=>absurd (by rw [<- hlen.out.1,<- hlen.out.2,e]) HNE.out⟩,bR⟩
theorem same09_any {A A':Option Addr}{n c n' c':Nat}{R R':List RawQ}{w:World}(h:RdRQ w w.heap.size A n c R)(h':RdRQ w w.heap.size A' n' c' R') :
  Calls Tryz.prog 58 #[.slice A n c,.slice A' n' c'] w (RetBo (R=R') w):=by
 go_enter Tryz.func58,Tryz.ntmps58
 go_wp2_with fail
 refine (sameAll05_any h h').mono ?_
 rintro _ W2 ⟨b,rfl,hb,hb2⟩
 go_wp2
 go_ret
 exact ⟨b,rfl,hb,hb2⟩
def ofQ (x:Rat):RawQ:=(ofZ x.num,ofZ (x.den:Int))
theorem OwQp.rq {w:World}{b:Nat}{A:Option Addr}{n c:Nat}{L:List Rat}(h:OwQp w b A n c L):RdRQ w w.heap.size A n c (L.map ofQ):=by
 refine ⟨by rw [List.length_map,h.len],h.le.1,h.le.2,fun j p hp=>?_⟩
 rw [List.getElem?_map] at hp
 rcases Nat.lt_or_ge j L.length with hj | hj
 ·obtain ⟨ad,s,A1,n1,c1,s',A1',n1',c1',x,e1,e2,a0,a1,a2,a3,hx,hL⟩:=op_at h (show j < n by rw [<- h.len];exact hj)
  rw [hL.out] at hp
  simp at hp
  subst hp
  have hs:s=(ofQ x).1.1:=hx.num.sgn
  have hs':s'=(ofQ x).2.1:=hx.den.sgn
  exact ⟨ad,A1,n1,c1,A1',n1',c1',e1,e2,by rw [<- hs];exact a0,a1,by rw [<- hs'];exact a2,a3,hx.num.own.rd,hx.den.own.rd⟩
 ·rw [gN hj] at hp
  simp at hp
section
variable {w w':World}{g b:Nat}{E:List (Ent × Ent)}{F:Nat->RawQ}
end
section
variable {w w':World}{b b':Nat}{A:Option Addr}{n c:Nat}{R:List RawQ}
end
structure RdRp (w:World)(B N K:Nat)(A:Option Addr)(n c:Nat)(RR:List (List RawQ)):Prop where
 len:RR.length=n
 le:n<=c
 mx:c<=maxLen
 at_:∀ (j:Nat) (R:List RawQ),RR[j]?=some R->∃ (ad:Addr) (A1:Option Addr) (n1 c1:Nat),A=some ad/\ad.block < B/\w.cell? (ad.add j)=some (.slice A1 n1 c1)/\RdRQ w B A1 n1 c1 R/\n1<=K/\rsz R<=N
structure RdRpp (w:World)(B N K J:Nat)(A:Option Addr)(n c:Nat)(PP:List (List (List RawQ))):Prop where
 len:PP.length=n
 le:n<=c
 mx:c<=maxLen
 at_:∀ (j:Nat) (RR:List (List RawQ)),PP[j]?=some RR->∃ (ad:Addr) (A1:Option Addr) (n1 c1:Nat),A=some ad/\ad.block < B/\w.cell? (ad.add j)=some (.slice A1 n1 c1)/\RdRp w B N K A1 n1 c1 RR/\n1<=J
section
variable {w w':World}{B B' N K J:Nat}{A:Option Addr}{n c:Nat}{RR:List (List RawQ)}{PP:List (List (List RawQ))}
theorem RdRp.below (h:RdRp w B N K A n c RR)(hb:Below B w w'):RdRp w' B N K A n c RR :=
 ⟨h.len,h.le,h.mx,fun j L hp=>by
  obtain ⟨ad,A1,n1,c1,h1,h2,h3,h4,h5,h6⟩:=h.at_ j L hp
  exact ⟨ad,A1,n1,c1,h1,h2,(hb.cell (p:=ad.add j) (by rw [add_blk];exact h2)).trans h3,h4.below hb,h5,h6⟩⟩
theorem RdRp.more (h:RdRp w B N K A n c RR)(hB:B<=B'):RdRp w B' N K A n c RR :=
 ⟨h.len,h.le,h.mx,fun j L hp=>by
  obtain ⟨ad,A1,n1,c1,h1,h2,h3,h4,h5,h6⟩:=h.at_ j L hp
  exact ⟨ad,A1,n1,c1,h1,Nat.lt_of_lt_of_le h2 hB,h3,h4.more hB,h5,h6⟩⟩
theorem RdRp.next (h:RdRp w w.heap.size N K A n c RR)(hb:Below w.heap.size w w'):RdRp w' w'.heap.size N K A n c RR:=(h.below hb).more hb.size
theorem RdRpp.below (h:RdRpp w B N K J A n c PP)(hb:Below B w w'):RdRpp w' B N K J A n c PP :=
 ⟨h.len,h.le,h.mx,fun j L hp=>by
  obtain ⟨ad,A1,n1,c1,h1,h2,h3,h4,h5⟩:=h.at_ j L hp
  exact ⟨ad,A1,n1,c1,h1,h2,(hb.cell (p:=ad.add j) (by rw [add_blk];exact h2)).trans h3,h4.below hb,h5⟩⟩
theorem RdRpp.more (h:RdRpp w B N K J A n c PP)(hB:B<=B'):RdRpp w B' N K J A n c PP :=
 ⟨h.len,h.le,h.mx,fun j L hp=>by
  obtain ⟨ad,A1,n1,c1,h1,h2,h3,h4,h5⟩:=h.at_ j L hp
  exact ⟨ad,A1,n1,c1,h1,Nat.lt_of_lt_of_le h2 hB,h3,h4.more hB,h5⟩⟩
theorem RdRpp.next (h:RdRpp w w.heap.size N K J A n c PP)(hb:Below w.heap.size w w'):RdRpp w' w'.heap.size N K J A n c PP:=(h.below hb).more hb.size
theorem rp_at (h:RdRp w B N K A n c RR){j:Nat}(hj:j < n) :
  ∃ (ad:Addr) (A1:Option Addr) (n1 c1:Nat) (R:List RawQ),A=some ad/\ad.block < B/\w.cell? (ad.add j)=some (.slice A1 n1 c1)/\RdRQ w B A1 n1 c1 R/\n1<=K/\rsz R<=N/\Hid (RR[j]?=some R):=by
 have hl:j < RR.length:=by rw [h.len];exact hj
 obtain ⟨ad,A1,n1,c1,h1,h2,h3,h4,h5,h6⟩:=h.at_ j RR[j] (gE hl)
 exact ⟨ad,A1,n1,c1,_,h1,h2,h3,h4,h5,h6,ah (gE hl)⟩
theorem rpp_at (h:RdRpp w B N K J A n c PP){j:Nat}(hj:j < n) :
  ∃ (ad:Addr) (A1:Option Addr) (n1 c1:Nat) (RR:List (List RawQ)),A=some ad/\ad.block < B/\w.cell? (ad.add j)=some (.slice A1 n1 c1)/\RdRp w B N K A1 n1 c1 RR/\n1<=J/\Hid (PP[j]?=some RR):=by
 have hl:j < PP.length:=by rw [h.len];exact hj
 obtain ⟨ad,A1,n1,c1,h1,h2,h3,h4,h5⟩:=h.at_ j PP[j] (gE hl)
 exact ⟨ad,A1,n1,c1,_,h1,h2,h3,h4,h5,ah (gE hl)⟩
end
section
variable {w w':World}{b b':Nat}{A:Option Addr}{n c:Nat}{MM:List (List (List Rat))}{E:List (Option Addr × Nat × Nat)}
end
abbrev Pe:=Option Addr × Nat × Nat
def PX (w:World)(g:Nat)(T:TypeId)(xs:List Value):Prop:=∃ cs:Array Value,w.heap[g]?=some (.cells cs T (0,0))/\∀ (i:Nat) (v:Value),xs[i]?=some v->cs[i]?=some v
def KeepS (w w':World):Prop:=∀ (i:Nat) (cs:Array Value) (T:TypeId) (f:Nat × Nat),T ≠ 73->T ≠ 30->w.heap[i]?=some (.cells cs T f)->w'.heap[i]?=some (.cells cs T f)
section
variable {w w' w2:World}{g g':Nat}{T T':TypeId}{xs ys:List Value}
theorem PX.lt (h:PX w g T xs):g < w.heap.size:=by
 obtain ⟨cs,h1,_⟩:=h
 exact (Array.getElem?_eq_some_iff.1 h1).1
theorem PX.cell (h:PX w g T xs){i:Nat}{v:Value}(hv:xs[i]?=some v):w.cell? ⟨g,i,none⟩=some v:=by
 obtain ⟨cs,h1,h2⟩:=h
 rw [cell_of_row w g _ _ _ _ h1]
 exact h2 i v hv
theorem PX.frozen (h:PX w g T xs)(j:Nat):w.frozen? ⟨g,j,none⟩=false:=by
 obtain ⟨cs,h1,_⟩:=h
 exact frozen_of_row w g j _ _ h1
theorem PX.next (h:PX w g T xs)(hb:Below w.heap.size w w'):PX w' g T xs:=by
 have hl:=h.lt
 obtain ⟨cs,h1,h2⟩:=h
 exact ⟨cs,(hb.block g hl).trans h1,h2⟩
theorem PX.store (h:PX w g T xs)(i:Nat)(v:Value):PX (w.setCell ⟨g,i,none⟩ v) g T (xs.set i v):=by
 obtain ⟨cs,h1,h2⟩:=h
 refine ⟨cs.setIfInBounds i v,by simp [World.setCell,Array.getElem?_modify,h1],fun j u hu=>?_⟩
 rw [Array.getElem?_setIfInBounds]
 by_cases e:i=j
 ·subst e
  rw [if_pos rfl]
  have hl:i < xs.length:=by
   rcases Nat.lt_or_ge i xs.length with h3 | h3
   ·exact h3
   ·rw [gN (by simpa using h3)] at hu;cases hu
  rw [List.getElem?_set_self hl] at hu
  have h4:=h2 i _ (gE hl)
  rw [if_pos (Array.getElem?_eq_some_iff.1 h4).1]
  exact hu
 ·rw [if_neg e]
  rw [List.getElem?_set_ne e] at hu
  exact h2 j u hu
theorem PX.far (h:PX w g T xs){p:Addr}(hp:g ≠ p.block)(u:Value):PX (w.setCell p u) g T xs:=by
 obtain ⟨cs,h1,h2⟩:=h
 exact ⟨cs,by rw [Below.heap_setCell _ p u g hp];exact h1,h2⟩
theorem PX.ne (h:PX w g T xs)(h':PX w g' T' ys)(hT:T ≠ T'):g ≠ g':=by
 obtain ⟨cs,h1,_⟩:=h
 obtain ⟨cs',h1',_⟩:=h'
 rintro rfl
 rw [h1] at h1'
 injection h1' with h1'
 injection h1' with _ h1' _
 exact hT h1'
theorem PX.keep (h:PX w g T xs)(hk:KeepS w w')(h1:T ≠ 73)(h2:T ≠ 30):PX w' g T xs:=by
 obtain ⟨cs,h3,h4⟩:=h
 exact ⟨cs,hk _ _ _ _ h1 h2 h3,h4⟩
theorem PX.new (w:World)(T:TypeId)(xs:List Value):PX (w.alloc (.cells xs.toArray T)) w.heap.size T xs:=⟨xs.toArray,heap_alloc_new w _,fun i v hv=>by simpa using hv⟩
theorem KeepS.trans (h:KeepS w w')(h':KeepS w' w2):KeepS w w2:=fun i cs T f h1 h2 h3=>h' i cs T f h1 h2 (h i cs T f h1 h2 h3)
theorem KeepS.below (h:Below w.heap.size w w'):KeepS w w':=fun i _ _ _ _ _ h3=>(h.block i (Array.getElem?_eq_some_iff.1 h3).1).trans h3
theorem KeepS.q (h:KeepS w w'):KeepQ w w':=⟨fun i cs f=>h i cs _ f (by decide) (by decide),fun i cs f=>h i cs _ f (by decide) (by decide)⟩
theorem PX.keepS (h:PX w g T xs)(hT:T=73 ∨ T=30)(j:Nat)(u:Value):KeepS w (w.setCell ⟨g,j,none⟩ u):=fun i cs T' f h1 h2 h3=>by
 obtain ⟨cs',h4,_⟩:=h
 have hne:i ≠ g:=by
  rintro rfl
  rw [h3] at h4
  injection h4 with h4
  injection h4 with _ h4 _
  rcases hT with e | e
  ·exact h1 (h4.trans e)
  ·exact h2 (h4.trans e)
 rw [Below.heap_setCell _ (⟨g,j,none⟩:Addr) u i hne]
 exact h3
end
structure M2 where
 a:List Rat
 b:List Rat
 c:List Rat
 d:List Rat
deriving DecidableEq
structure T2 (w:World)(b t gr cr g0 c0 g1 c1:Nat)(x y z u:Pe)(M:M2):Prop where
 hd:PX w t 102 [.slice (some ⟨gr,0,none⟩) 2 cr,.int .i64 2]
 rw:PX w gr 30 [.slice (some ⟨g0,0,none⟩) 2 c0,.slice (some ⟨g1,0,none⟩) 2 c1]
 r0:PX w g0 73 [psl x,psl y]
 r1:PX w g1 73 [psl z,psl u]
 ne:g0 ≠ g1
 bt:b<=t
 br:b<=gr
 b0:b<=g0
 b1:b<=g1
 lr:2<=cr/\cr<=maxLen
 l0:2<=c0/\c0<=maxLen
 l1:2<=c1/\c1<=maxLen
 ea:OwQp w b x.1 x.2.1 x.2.2 M.a
 eb:OwQp w b y.1 y.2.1 y.2.2 M.b
 ec:OwQp w b z.1 z.2.1 z.2.2 M.c
 ed:OwQp w b u.1 u.2.1 u.2.2 M.d
def Tb (w:World)(b t:Nat)(M:M2):Prop:=∃ gr cr g0 c0 g1 c1 x y z u,T2 w b t gr cr g0 c0 g1 c1 x y z u M
section
variable {w w':World}{b t gr cr g0 c0 g1 c1:Nat}{x y z u e:Pe}{M:M2}{L:List Rat}
theorem T2.next (h:T2 w b t gr cr g0 c0 g1 c1 x y z u M)(hb:Below w.heap.size w w'):T2 w' b t gr cr g0 c0 g1 c1 x y z u M :=
 ⟨h.hd.next hb,h.rw.next hb,h.r0.next hb,h.r1.next hb,h.ne,h.bt,h.br,h.b0,h.b1,h.lr,h.l0,h.l1,h.ea.next hb,h.eb.next hb,h.ec.next hb,h.ed.next hb⟩
theorem Tb.next (h:Tb w b t M)(hb:Below w.heap.size w w'):Tb w' b t M:=by
 obtain ⟨gr,cr,g0,c0,g1,c1,x,y,z,u,h⟩:=h
 exact ⟨gr,cr,g0,c0,g1,c1,x,y,z,u,h.next hb⟩
theorem T2.ht (h:T2 w b t gr cr g0 c0 g1 c1 x y z u M):t ≠ gr:=h.hd.ne h.rw (by decide)
theorem T2.ht0 (h:T2 w b t gr cr g0 c0 g1 c1 x y z u M):t ≠ g0:=h.hd.ne h.r0 (by decide)
theorem T2.ht1 (h:T2 w b t gr cr g0 c0 g1 c1 x y z u M):t ≠ g1:=h.hd.ne h.r1 (by decide)
theorem T2.hr0 (h:T2 w b t gr cr g0 c0 g1 c1 x y z u M):gr ≠ g0:=h.rw.ne h.r0 (by decide)
theorem T2.hr1 (h:T2 w b t gr cr g0 c0 g1 c1 x y z u M):gr ≠ g1:=h.rw.ne h.r1 (by decide)
theorem T2.put0 (h:T2 w b t gr cr g0 c0 g1 c1 x y z u M)(he:OwQp w b e.1 e.2.1 e.2.2 L):T2 (w.setCell ⟨g0,0,none⟩ (psl e)) b t gr cr g0 c0 g1 c1 e y z u ⟨L,M.b,M.c,M.d⟩:=by
 have hk:=(h.r0.keepS (.inl rfl) 0 (psl e)).q
 exact ⟨h.hd.far h.ht0 _,h.rw.far h.hr0 _,h.r0.store 0 _,h.r1.far h.ne.symm _,h.ne,h.bt,h.br,h.b0,h.b1,h.lr,h.l0,h.l1,he.keep hk,h.eb.keep hk,h.ec.keep hk,h.ed.keep hk⟩
theorem T2.put1 (h:T2 w b t gr cr g0 c0 g1 c1 x y z u M)(he:OwQp w b e.1 e.2.1 e.2.2 L):T2 (w.setCell ⟨g0,1,none⟩ (psl e)) b t gr cr g0 c0 g1 c1 x e z u ⟨M.a,L,M.c,M.d⟩:=by
 have hk:=(h.r0.keepS (.inl rfl) 1 (psl e)).q
 exact ⟨h.hd.far h.ht0 _,h.rw.far h.hr0 _,h.r0.store 1 _,h.r1.far h.ne.symm _,h.ne,h.bt,h.br,h.b0,h.b1,h.lr,h.l0,h.l1,h.ea.keep hk,he.keep hk,h.ec.keep hk,h.ed.keep hk⟩
theorem T2.put2 (h:T2 w b t gr cr g0 c0 g1 c1 x y z u M)(he:OwQp w b e.1 e.2.1 e.2.2 L):T2 (w.setCell ⟨g1,0,none⟩ (psl e)) b t gr cr g0 c0 g1 c1 x y e u ⟨M.a,M.b,L,M.d⟩:=by
 have hk:=(h.r1.keepS (.inl rfl) 0 (psl e)).q
 exact ⟨h.hd.far h.ht1 _,h.rw.far h.hr1 _,h.r0.far h.ne _,h.r1.store 0 _,h.ne,h.bt,h.br,h.b0,h.b1,h.lr,h.l0,h.l1,h.ea.keep hk,h.eb.keep hk,he.keep hk,h.ed.keep hk⟩
theorem T2.put3 (h:T2 w b t gr cr g0 c0 g1 c1 x y z u M)(he:OwQp w b e.1 e.2.1 e.2.2 L):T2 (w.setCell ⟨g1,1,none⟩ (psl e)) b t gr cr g0 c0 g1 c1 x y z e ⟨M.a,M.b,M.c,L⟩:=by
 have hk:=(h.r1.keepS (.inl rfl) 1 (psl e)).q
 exact ⟨h.hd.far h.ht1 _,h.rw.far h.hr1 _,h.r0.far h.ne _,h.r1.store 1 _,h.ne,h.bt,h.br,h.b0,h.b1,h.lr,h.l0,h.l1,h.ea.keep hk,h.eb.keep hk,h.ec.keep hk,he.keep hk⟩
theorem T2.same0 (h:T2 w b t gr cr g0 c0 g1 c1 x y z u M):T2 (w.setCell ⟨gr,0,none⟩ (.slice (some ⟨g0,0,none⟩) 2 c0)) b t gr cr g0 c0 g1 c1 x y z u M:=by
 have hk:=(h.rw.keepS (.inr rfl) 0 (.slice (some ⟨g0,0,none⟩) 2 c0)).q
 exact ⟨h.hd.far h.ht _,h.rw.store 0 _,h.r0.far h.hr0.symm _,h.r1.far h.hr1.symm _,h.ne,h.bt,h.br,h.b0,h.b1,h.lr,h.l0,h.l1,h.ea.keep hk,h.eb.keep hk,h.ec.keep hk,h.ed.keep hk⟩
theorem T2.same1 (h:T2 w b t gr cr g0 c0 g1 c1 x y z u M):T2 (w.setCell ⟨gr,1,none⟩ (.slice (some ⟨g1,0,none⟩) 2 c1)) b t gr cr g0 c0 g1 c1 x y z u M:=by
 have hk:=(h.rw.keepS (.inr rfl) 1 (.slice (some ⟨g1,0,none⟩) 2 c1)).q
 exact ⟨h.hd.far h.ht _,h.rw.store 1 _,h.r0.far h.hr0.symm _,h.r1.far h.hr1.symm _,h.ne,h.bt,h.br,h.b0,h.b1,h.lr,h.l0,h.l1,h.ea.keep hk,h.eb.keep hk,h.ec.keep hk,h.ed.keep hk⟩
theorem T2.swap (h:T2 w b t gr cr g0 c0 g1 c1 x y z u M):T2 ((w.setCell ⟨gr,0,none⟩ (.slice (some ⟨g1,0,none⟩) 2 c1)).setCell ⟨gr,1,none⟩ (.slice (some ⟨g0,0,none⟩) 2 c0)) b t gr cr g1 c1 g0 c0 z u x y ⟨M.c,M.d,M.a,M.b⟩:=by
 have hs:=h.rw.store 0 (.slice (some ⟨g1,0,none⟩) 2 c1)
 have hk:=((h.rw.keepS (.inr rfl) 0 (.slice (some ⟨g1,0,none⟩) 2 c1)).trans (hs.keepS (.inr rfl) 1 (.slice (some ⟨g0,0,none⟩) 2 c0))).q
 exact ⟨(h.hd.far h.ht _).far h.ht _,hs.store 1 _,(h.r1.far h.hr1.symm _).far h.hr1.symm _,(h.r0.far h.hr0.symm _).far h.hr0.symm _,h.ne.symm,h.bt,h.br,h.b1,h.b0,h.lr,h.l1,h.l0,h.ec.keep hk,h.ed.keep hk,h.ea.keep hk,h.eb.keep hk⟩
theorem T2.cells (h:T2 w b t gr cr g0 c0 g1 c1 x y z u M):w.cell? ⟨t,0,none⟩=some (.slice (some ⟨gr,0,none⟩) 2 cr)/\w.cell? ⟨t,1,none⟩=some (.int .i64 2)/\w.cell? ⟨gr,0,none⟩=some (.slice (some ⟨g0,0,none⟩) 2 c0)/\w.cell? ⟨gr,1,none⟩=some (.slice (some ⟨g1,0,none⟩) 2 c1)/\w.cell? ⟨g0,0,none⟩=some (psl x)/\w.cell? ⟨g0,1,none⟩=some (psl y)/\w.cell? ⟨g1,0,none⟩=some (psl z)/\w.cell? ⟨g1,1,none⟩=some (psl u) :=
 ⟨h.hd.cell rfl,h.hd.cell rfl,h.rw.cell rfl,h.rw.cell rfl,h.r0.cell rfl,h.r0.cell rfl,h.r1.cell rfl,h.r1.cell rfl⟩
end
def M2.swap (M:M2)(i j:Int):M2:=if i=j then M else ⟨M.c,M.d,M.a,M.b⟩
def M2.flip (M:M2):M2:=⟨M.a,M.c,M.b,M.d⟩
section
variable {w w' wr w1:World}{b g go n c:Nat}{T T':TypeId}{xs ys:List Value}{v r z:Value}{A:Option Addr}{o:Obj}
theorem PX.keepQ (h:PX w g T xs)(h1:T ≠ 171)(h2:T ≠ 47)(j:Nat)(u:Value):KeepQ w (w.setCell ⟨g,j,none⟩ u):=by
 obtain ⟨cs,h3,_⟩:=h
 have key:∀ (i:Nat) (cs':Array Value) (T':TypeId) (f:Nat × Nat),T' ≠ T->w.heap[i]?=some (.cells cs' T' f)->(w.setCell ⟨g,j,none⟩ u).heap[i]?=some (.cells cs' T' f):=by
  intro i cs' T' f ht hi
  have hne:i ≠ g:=by
   rintro rfl
   rw [hi] at h3
   injection h3 with h3
   injection h3 with _ h3 _
   exact ht h3
  rw [Below.heap_setCell _ (⟨g,j,none⟩:Addr) u i hne]
  exact hi
 exact ⟨fun i cs f=>key i cs _ f h1.symm,fun i cs f=>key i cs _ f h2.symm⟩
theorem own_type (hE:w.ownsRow b T 1 v n xs)(hg:w.grownBy w1 v.ownBlock){i:Nat}{cs:Array Value}{f:Nat × Nat}(hT:T' ≠ T)(hi:w.heap[i]?=some (.cells cs T' f)):w1.heap[i]?=some (.cells cs T' f):=by
 rw [<- hi]
 refine hg.block i (Array.getElem?_eq_some_iff.1 hi).1 ?_
 rcases hE.2 with ⟨h1,_⟩ | ⟨g,cap,cur,h1,h2,h3,_⟩
 ·rw [h1]
  intro e0
  cases e0
 ·rw [h1]
  intro e0
  cases e0
  rw [hi] at h3
  injection h3 with h3
  injection h3 with _ h3
  exact hT h3
theorem PX.grown (h:PX w g T' ys)(hE:w.ownsRow b T 1 v n xs)(hT:T' ≠ T)(hg:w.grownBy w1 v.ownBlock):PX w1 g T' ys:=by
 obtain ⟨cs,h1,h2⟩:=h
 exact ⟨cs,own_type hE hg hT h1,h2⟩
theorem own_set (hE:w.ownsRow b T 1 v n xs)(hz:PX w go T' ys)(hT:T' ≠ T)(j:Nat)(u:Value):(w.setCell ⟨go,j,none⟩ u).ownsRow b T 1 v n xs:=by
 refine ⟨hE.1,?_⟩
 rcases hE.2 with h0 | ⟨g',cap,cur,h1,h2,h3,h4⟩
 ·exact .inl h0
 ·have hne:g' ≠ go:=by
   rintro rfl
   obtain ⟨cs,h5,_⟩:=hz
   rw [h3] at h5
   injection h5 with h5
   injection h5 with _ h5 _
   exact hT h5.symm
  refine .inr ⟨g',cap,cur,h1,h2,?_,h4⟩
  rw [Below.heap_setCell _ (⟨go,j,none⟩:Addr) u g' hne]
  exact h3
theorem own_px (hE:w.ownsRow b T 1 (.slice A n c) n xs)(h0:0 < n):∃ g,A=some ⟨g,0,none⟩/\b<=g/\PX w g T xs/\n<=c/\c<=maxLen:=by
 rcases hE.2 with ⟨k1,k2⟩ | ⟨g,cap,cur,k1,k2,k3,k4,k5,k6,k7⟩
 ·omega
 ·injection k1 with k1 k1' k1''
  subst k1''
  refine ⟨g,k1,k2,⟨cur,k3,fun i u hu=>?_⟩,k4,k5⟩
  have hi:i < n*1:=by
   rcases Nat.lt_or_ge i (n*1) with h5 | h5
   ·exact h5
   ·rw [<- k7,List.getElem?_take_eq_none h5] at hu;cases hu
  rw [<- k7,List.getElem?_take_of_lt hi] at hu
  simpa using hu
theorem tpush {v':Value}(hT:PX wr go 102 [.slice A n c,z])(hE:wr.ownsRow b 30 1 (.slice A n c) n xs)(hown':w1.ownsRow b 30 1 v' (n+1) (xs ++ [r]))(hg:(wr.alloc o).grownBy w1 (Value.slice A n c).ownBlock) :
  ∃ (A':Option Addr) (c':Nat),v'=.slice A' (n+1) c'/\w1.cell? ⟨go,0,none⟩=some (.slice A n c)/\w1.frozen? ⟨go,0,none⟩=false/\PX (w1.setCell ⟨go,0,none⟩ v') go 102 [v',z]/\(w1.setCell ⟨go,0,none⟩ v').ownsRow b 30 1 v' (n+1) (xs ++ [r])/\(∀ (g:Nat) (T:TypeId) (ys:List Value),T ≠ 30->T ≠ 102->PX wr g T ys->PX (w1.setCell ⟨go,0,none⟩ v') g T ys)/\KeepQ wr (w1.setCell ⟨go,0,none⟩ v'):=by
 obtain ⟨A',c',rfl⟩:=row_sl hown'
 have hba:Below wr.heap.size wr (wr.alloc o):=bA
 have hE2:=row_next hE hba
 have hT1:=(hT.next hba).grown hE2 (by decide) hg
 refine ⟨A',c',rfl,hT1.cell rfl,hT1.frozen 0,hT1.store 0 _,own_set hown' hT1 (by decide) 0 _,fun g T ys h1 h2 h3=>?_,?_⟩
 ·have h4:=(h3.next hba).grown hE2 h1 hg
  exact h4.far (h4.ne hT1 h2) _
 ·have hk:=hT1.keepQ (by decide) (by decide) 0 (Value.slice A' (n+1) c')
  have hk0:KeepQ wr w1:=⟨fun i cs f hi=>own_type hE2 hg (by decide) ((hba.block i (Array.getElem?_eq_some_iff.1 hi).1).trans hi),fun i cs f hi=>own_type hE2 hg (by decide) ((hba.block i (Array.getElem?_eq_some_iff.1 hi).1).trans hi)⟩
  exact ⟨fun i cs f hi=>hk.1 i cs f (hk0.1 i cs f hi),fun i cs f hi=>hk.2 i cs f (hk0.2 i cs f hi)⟩
end
structure U1 (w:World)(b B t:Nat)(A:Option Addr)(c g0 c0:Nat)(x y:Pe)(P Q:List Rat):Prop where
 hd:PX w t 102 [.slice A 1 c,.int .i64 2]
 own:w.ownsRow B 30 1 (.slice A 1 c) 1 [.slice (some ⟨g0,0,none⟩) 2 c0]
 r0:PX w g0 73 [psl x,psl y]
 bt:B<=t
 b0:B<=g0
 l0:2<=c0/\c0<=maxLen
 ea:OwQp w b x.1 x.2.1 x.2.2 P
 eb:OwQp w b y.1 y.2.1 y.2.2 Q
section
variable {w w' wr w1:World}{b B t c g0 c0:Nat}{x y:Pe}{P Q:List Rat}{v':Value}{A:Option Addr}{o:Obj}
theorem U1.next (h:U1 w b B t A c g0 c0 x y P Q)(hb:Below w.heap.size w w'):U1 w' b B t A c g0 c0 x y P Q :=
 ⟨h.hd.next hb,row_next h.own hb,h.r0.next hb,h.bt,h.b0,h.l0,h.ea.next hb,h.eb.next hb⟩
theorem U1.put {g:Nat}{xs:List Value}(h:U1 w b B t A c g0 c0 x y P Q)(hp:PX w g 73 xs)(hne:g0 ≠ g)(j:Nat)(u:Value):U1 (w.setCell ⟨g,j,none⟩ u) b B t A c g0 c0 x y P Q:=by
 have hk:=(hp.keepS (.inl rfl) j u).q
 exact ⟨h.hd.far (h.hd.ne hp (by decide)) _,own_set h.own hp (by decide) j u,h.r0.far hne _,h.bt,h.b0,h.l0,h.ea.keep hk,h.eb.keep hk⟩
theorem U1.first (hT:PX wr t 102 [.slice none 0 0,.int .i64 2])(hbt:B<=t)(h0:PX wr g0 73 [psl x,psl y])(hb0:B<=g0)(hl:2<=c0/\c0<=maxLen)(ha:OwQp wr b x.1 x.2.1 x.2.2 P)(hb:OwQp wr b y.1 y.2.1 y.2.2 Q)
  (hown':w1.ownsRow B 30 1 v' (0+1) ([] ++ [.slice (some ⟨g0,0,none⟩) 2 c0])) (hg:(wr.alloc o).grownBy w1 (Value.slice none 0 0).ownBlock) :
  ∃ (A':Option Addr) (c':Nat),v'=.slice A' 1 c'/\w1.cell? ⟨t,0,none⟩=some (.slice none 0 0)/\w1.frozen? ⟨t,0,none⟩=false/\U1 (w1.setCell ⟨t,0,none⟩ v') b B t A' c' g0 c0 x y P Q:=by
 obtain ⟨A',c',rfl,e1,e2,h1,h2,h3,h4⟩:=tpush hT (World.ownsRow_nil _ _ _ _) hown' hg
 exact ⟨A',c',rfl,e1,e2,⟨h1,h2,h3 _ _ _ (by decide) (by decide) h0,hbt,hb0,hl,ha.keep h4,hb.keep h4⟩⟩
theorem U1.second {g1 c1:Nat}{z u:Pe}{R S:List Rat}(h:U1 wr b B t A c g0 c0 x y P Q)(h0:PX wr g1 73 [psl z,psl u])(hne:g0 ≠ g1)(hb1:B<=g1)(hbB:b<=B)(hl:2<=c1/\c1<=maxLen)(ha:OwQp wr b z.1 z.2.1 z.2.2 R)(hb:OwQp wr b u.1 u.2.1 u.2.2 S)
  (hown':w1.ownsRow B 30 1 v' (1+1) ([.slice (some ⟨g0,0,none⟩) 2 c0] ++ [.slice (some ⟨g1,0,none⟩) 2 c1])) (hg:(wr.alloc o).grownBy w1 (Value.slice A 1 c).ownBlock) :
  ∃ (A':Option Addr) (c':Nat),v'=.slice A' 2 c'/\w1.cell? ⟨t,0,none⟩=some (.slice A 1 c)/\w1.frozen? ⟨t,0,none⟩=false/\Tb (w1.setCell ⟨t,0,none⟩ v') b t ⟨P,Q,R,S⟩:=by
 obtain ⟨A',c',rfl,e1,e2,h1,h2,h3,h4⟩:=tpush h.hd h.own hown' hg
 obtain ⟨gr,rfl,k1,k2,k3,k4⟩:=own_px h2 (by decide)
 exact ⟨_,c',rfl,e1,e2,gr,c',g0,c0,g1,c1,x,y,z,u,h1,k2,h3 _ _ _ (by decide) (by decide) h.r0,h3 _ _ _ (by decide) (by decide) h0,hne,nT hbB h.bt,nT hbB k1,nT hbB h.b0,nT hbB hb1,⟨k3,k4⟩,h.l0,hl,h.ea.keep h4,h.eb.keep h4,ha.keep h4,hb.keep h4⟩
end
theorem tcell_new (w:World)(x:Value)(t:TypeId):∀ j u,[x][j]?=some u->(w.alloc (.cells #[x] t)).cell? ((⟨w.heap.size,0,none⟩:Addr).add j)=some u:=by
 intro j u hj
 match j,hj with
 | 0,hj=>simp at hj;subst hj;simp [Addr.add]
 | (j+1),hj=>simp at hj
theorem infoRow:(Tryz.prog.info? 30).map (fun i=>(i.zero,i.size,i.bytes))=some (some (.slice none 0 0),1,24):=by kernel_rfl
def KeepL (T:TypeId)(w w':World):Prop:=∀ (i:Nat) (cs:Array Value) (T':TypeId) (f:Nat × Nat),T' ≠ T->w.heap[i]?=some (.cells cs T' f)->w'.heap[i]?=some (.cells cs T' f)
section
variable {w w' w'' w1:World}{T T':TypeId}{b b' g n c:Nat}{A:Option Addr}{xs ys:List Value}{v:Value}
theorem KeepL.trans (h:KeepL T w w')(h':KeepL T w' w''):KeepL T w w'':=fun i cs T' f ht hi=>h' i cs T' f ht (h i cs T' f ht hi)
theorem KeepL.of (hb:Below w.heap.size w w'):KeepL T w w':=fun i _ _ _ _ hi=>(hb.block i (Array.getElem?_eq_some_iff.1 hi).1).trans hi
theorem KeepL.q (h:KeepL T w w')(h1:171 ≠ T)(h2:47 ≠ T):KeepQ w w':=⟨fun i cs f=>h i cs _ f h1,fun i cs f=>h i cs _ f h2⟩
theorem own_keepL (hE:w.ownsRow b T' 1 v n xs)(hT:T' ≠ T)(hk:KeepL T w w'):w'.ownsRow b T' 1 v n xs:=by
 refine ⟨hE.1,?_⟩
 rcases hE.2 with h0 | ⟨g,cap,cur,h1,h2,h3,h4⟩
 ·exact .inl h0
 ·exact .inr ⟨g,cap,cur,h1,h2,hk _ _ _ _ hT h3,h4⟩
theorem keepL_grown (hE:w.ownsRow b T 1 v n xs)(hg:w.grownBy w1 v.ownBlock):KeepL T w w1:=fun _ _ _ _ ht hi=>own_type hE hg ht hi
theorem PX.keepL (h:PX w g T xs)(j:Nat)(u:Value):KeepL T w (w.setCell ⟨g,j,none⟩ u):=by
 intro i cs T' f ht hi
 obtain ⟨cs',h3,_⟩:=h
 have hne:i ≠ g:=by
  rintro rfl
  rw [hi] at h3
  injection h3 with h3
  injection h3 with _ h3 _
  exact ht h3
 rw [Below.heap_setCell _ (⟨g,j,none⟩:Addr) u i hne]
 exact hi
end
structure Stay {α:Type}(T:TypeId)(P:World->Nat->Option Addr->Nat->Nat->α->Prop):Prop where
 next:∀ {w w':World} {b:Nat} {A:Option Addr} {n c:Nat} {x:α},P w b A n c x->Below w.heap.size w w'->P w' b A n c x
 base:∀ {w:World} {b b':Nat} {A:Option Addr} {n c:Nat} {x:α},P w b A n c x->b'<=b->P w b' A n c x
 keep:∀ {w w':World} {b:Nat} {A:Option Addr} {n c:Nat} {x:α},P w b A n c x->KeepL T w w'->P w' b A n c x
def EntL {α:Type}(P:World->Nat->Option Addr->Nat->Nat->α->Prop)(w:World)(b:Nat)(E:List (Option Addr × Nat × Nat))(LL:List α):Prop:=E.length=LL.length/\∀ (j:Nat) (e:Option Addr × Nat × Nat) (L:α),E[j]?=some e->LL[j]?=some L->P w b e.1 e.2.1 e.2.2 L
def OwL {α:Type}(T:TypeId)(P:World->Nat->Option Addr->Nat->Nat->α->Prop)(w:World)(b:Nat)(A:Option Addr)(n c:Nat)(LL:List α):Prop :=
 ∃ E:List (Option Addr × Nat × Nat),w.ownsRow b T 1 (.slice A n c) n (E.map psl)/\E.length=n/\EntL P w b E LL
section
variable {α:Type}{T T' T2:TypeId}{P:World->Nat->Option Addr->Nat->Nat->α->Prop}{w w' w1:World}{b b' n c:Nat}{A:Option Addr}{LL:List α}{E:List (Option Addr × Nat × Nat)}{L:α}
theorem EntL.next (hP:Stay T P)(h:EntL P w b E LL)(hb:Below w.heap.size w w'):EntL P w' b E LL:=⟨h.1,fun j e z he hz=>hP.next (h.2 j e z he hz) hb⟩
theorem EntL.base (hP:Stay T P)(h:EntL P w b E LL)(hb:b'<=b):EntL P w b' E LL:=⟨h.1,fun j e z he hz=>hP.base (h.2 j e z he hz) hb⟩
theorem EntL.keep (hP:Stay T P)(h:EntL P w b E LL)(hk:KeepL T w w'):EntL P w' b E LL:=⟨h.1,fun j e z he hz=>hP.keep (h.2 j e z he hz) hk⟩
theorem EntL.snoc (h:EntL P w b E LL){e:Option Addr × Nat × Nat}{L:α}(he:P w b e.1 e.2.1 e.2.2 L):EntL P w b (E ++ [e]) (LL ++ [L]):=by
 refine ⟨by rw [List.length_append,List.length_append,h.1];rfl,fun j e' z' h1 h2=>?_⟩
 rcases Nat.lt_or_ge j E.length with hj | hj
 ·rw [List.getElem?_append_left hj] at h1
  rw [List.getElem?_append_left (by rw [<- h.1];exact hj)] at h2
  exact h.2 j e' z' h1 h2
 ·rw [List.getElem?_append_right hj] at h1
  rw [List.getElem?_append_right (by rw [<- h.1];exact hj)] at h2
  rw [<- h.1] at h2
  have hj0:j-E.length=0:=by
   rcases Nat.eq_zero_or_pos (j-E.length) with e0 | e0
   ·exact e0
   ·rw [gN (by simp;omega)] at h1;cases h1
  rw [hj0] at h1 h2
  simp at h1 h2
  subst h1 h2
  exact he
theorem OwL.len (h:OwL T P w b A n c LL):LL.length=n:=by
 obtain ⟨E,_,h2,h3⟩:=h
 rw [<- h3.1,h2]
theorem OwL.nil (T:TypeId)(P:World->Nat->Option Addr->Nat->Nat->α->Prop)(w:World)(b:Nat):OwL T P w b none 0 0 []:=⟨[],World.ownsRow_nil _ _ _ _,rfl,rfl,fun j e z he _=>by simp at he⟩
theorem OwL.next (hP:Stay T P)(h:OwL T P w b A n c LL)(hb:Below w.heap.size w w'):OwL T P w' b A n c LL:=by
 obtain ⟨E,h1,h2,h3⟩:=h
 exact ⟨E,row_next h1 hb,h2,h3.next hP hb⟩
theorem OwL.base (hP:Stay T P)(h:OwL T P w b A n c LL)(hb:b'<=b):OwL T P w b' A n c LL:=by
 obtain ⟨E,h1,h2,h3⟩:=h
 exact ⟨E,row_base h1 hb,h2,h3.base hP hb⟩
theorem OwL.keep (hP:Stay T2 P)(hT:T ≠ T2)(h:OwL T P w b A n c LL)(hk:KeepL T2 w w'):OwL T P w' b A n c LL:=by
 obtain ⟨E,h1,h2,h3⟩:=h
 exact ⟨E,own_keepL h1 hT hk,h2,h3.keep hP hk⟩
theorem OwL.stay (hP:Stay T2 P)(hT:T ≠ T2):Stay T2 (OwL T P) :=
 ⟨fun h hb=>by
  obtain ⟨E,h1,h2,h3⟩:=h
  exact ⟨E,row_next h1 hb,h2,h3.next hP hb⟩,fun h hb=>by
  obtain ⟨E,h1,h2,h3⟩:=h
  exact ⟨E,row_base h1 hb,h2,h3.base hP hb⟩,fun h hk=>h.keep hP hT hk⟩
theorem OwL.form (h:OwL T P w b A n c LL):(A=none/\n=0/\c=0) ∨ ∃ g,A=some ⟨g,0,none⟩/\b<=g/\g < w.heap.size/\n<=c/\c<=maxLen:=by
 obtain ⟨E,h,_,_⟩:=h
 rcases h.2 with ⟨h1,h2⟩ | ⟨g,cap,cur,h1,h2,h3,h4,h5,_⟩
 ·injection h1 with h1 h1' h1''
  exact .inl ⟨h1,h2,h1''⟩
 ·injection h1 with h1 h1' h1''
  subst h1''
  exact .inr ⟨g,h1,h2,(Array.getElem?_eq_some_iff.1 h3).1,h4,h5⟩
theorem OwL.at_ (h:OwL T P w b A n c LL){j:Nat}(hj:j < n) :
  ∃ (g:Nat) (A1:Option Addr) (n1 c1:Nat) (L:α),A=some ⟨g,0,none⟩/\g < w.heap.size/\w.cell? ⟨g,j,none⟩=some (.slice A1 n1 c1)/\P w b A1 n1 c1 L/\Hid (LL[j]?=some L):=by
 have hl:=h.len
 rcases h.form with ⟨_,h0,_⟩ | ⟨g,rfl,h1,h2,h3,h4⟩
 ·omega
 ·obtain ⟨E,hr,hE,hel⟩:=h
  have hjE:j < E.length:=by omega
  have hjL:j < LL.length:=by omega
  refine ⟨g,E[j].1,E[j].2.1,E[j].2.2,LL[j],rfl,h2,?_,hel.2 j _ _ (gE hjE) (gE hjL),ah (gE hjL)⟩
  have:=hr.cellAt j (by omega)
  rw [this,List.getElem?_map,gE hjE]
  rfl
theorem OwL.more (hP:Stay T P){v':Value}{e:Option Addr × Nat × Nat}{o:Obj}(he:P w b e.1 e.2.1 e.2.2 L)(hE:(w.alloc o).ownsRow b T 1 (.slice A n c) n (E.map psl))(hEl:E.length=n)(hEn:EntL P w b E LL)
  (hown':w1.ownsRow b T 1 v' (n+1) (E.map psl ++ [.slice e.1 e.2.1 e.2.2])) (hg:(w.alloc o).grownBy w1 (Value.slice A n c).ownBlock) :
  ∃ (A':Option Addr) (c':Nat),v'=.slice A' (n+1) c'/\OwL T P w1 b A' (n+1) c' (LL ++ [L]):=by
 obtain ⟨A',c',rfl⟩:=row_sl hown'
 have hba:Below w.heap.size w (w.alloc o):=(Below.refl w.heap.size w).alloc nR _
 refine ⟨A',c',rfl,E ++ [e],?_,by rw [List.length_append,hEl];rfl,?_⟩
 ·rw [List.map_append];exact hown'
 ·exact ((hEn.snoc he).next hP hba).keep hP (keepL_grown hE hg)
end
theorem stayQ {T:TypeId}(h1:171 ≠ T)(h2:47 ≠ T):Stay T OwQp:=⟨fun h hb=>h.next hb,fun h hb=>h.base hb,fun h hk=>h.keep (hk.q h1 h2)⟩
theorem stayQP:Stay 73 OwQp:=stayQ (by decide) (by decide)
abbrev OwP:=OwL 73 OwQp
abbrev OwPp:=OwL 30 OwP
theorem stayPp:Stay 30 OwP:=OwL.stay (stayQ (by decide) (by decide)) (by decide)
section
variable {w w':World}{b n c N K J:Nat}{A:Option Addr}{RR:List (List RawQ)}{PP:List (List (List RawQ))}{LL:List (List Rat)}{MM:List (List (List Rat))}
end
theorem qval_at {L:List (Int × Int)}{k:Nat}{p:Int × Int}(h:L[k]?=some p):Pq.co (L.map qval) k=qval p:=Pq.co_get (by rw [List.getElem?_map,h];rfl)
theorem rQInt_any {s:Bool}{A:Option Addr}{n c:Nat}{z:Int}{w:World}(h:RdZ w w.heap.size s A n c z)(hn:n<=17592186044416) :
  Calls Tryz.prog 178 #[.agg #[.bool s,.slice A n c]] w (RetV4 (z:Rat) w):=by
 obtain ⟨W1,HW1⟩:∃ W,W=(w.alloc (.cells #[.bool s,.slice A n c] 25)).alloc (.cells #[.bool false,.slice none 0 0,.bool false,.slice none 0 0] 47):=⟨_,rfl⟩
 have hb0:Below w.heap.size w (w.alloc (.cells #[.bool s,.slice A n c] 25)):=bA
 have hZ:ZC W1 w.heap.size s A n c:=by rw [HW1];exact (ZC.new w s A n c).alloc _
 have hR:QC W1 (w.heap.size+1) false none 0 0 false none 0 0:=by rw [HW1];simpa using QC.new (w.alloc (.cells #[.bool s,.slice A n c] 25)) false none 0 0 false none 0 0
 have hB:Below w.heap.size w W1:=by rw [HW1];exact hb0.alloc hb0.size _
 have h1:=h.next hB
 have a0:=hZ.c0
 have a1:=hZ.c1
 rw [HW1] at a0 a1
 have HW1:=ah HW1
 clear hb0 hZ
 go_enter Tryz.func178,Tryz.ntmps178
 go_wp2_with fail
 rw [<- HW1.out]
 clear HW1 a0 a1
 clear HW1
 refine (rINorm_any h1 hn).mono ?_
 rintro _ W2 ⟨s2,A2,n2,c2,y2,rfl,ho2,hy2,hb2⟩
 go_wp2_with fail
 refine (rIOf_any 1 (by decide) (by decide) W2).mono ?_
 rintro _ W3 ⟨s3,A3,n3,c3,y3,rfl,ho3,hy3,hb3⟩
 have hb13:=hb2.trans (hb3.mono hb2.size)
 have hR3:=hR.next hb13
 have hB3:=hB.trans (hb13.mono hB.size)
 have ho:OwQ W3 w.heap.size s2 A2 n2 c2 s3 A3 n3 c3 (z:Rat):=⟨by have:=(ho2.next hb3).base hB.size;rw [hy2.out] at this;exact this,by have:=ho3.base (b':=w.heap.size) (nT hB.size hb2.size);rw [hy3.out] at this;exact this⟩
 have r0:=hR3.c0
 have r1:=hR3.c1
 have r2:=hR3.c2
 have r3:=hR3.c3
 have f0:=hR3.fz 0
 have f1:=hR3.fz 1
 have f2:=hR3.fz 2
 have f3:=hR3.fz 3
 have HR9:=ah (hR3.store s2 A2 n2 c2 s3 A3 n3 c3)
 have HO9:=ah (ho.keep (keep_putQ hR3 s2 A2 n2 c2 s3 A3 n3 c3))
 have HB9:=ah (below_putQ hB3 (Nat.le_succ w.heap.size) s2 A2 n2 c2 s3 A3 n3 c3)
 unfold putQ at HR9 HB9 HO9
 clear hR hR3 hB hB3 hb2 hb3 hb13 h1 h ho ho2 ho3 hy2 hy3
 go_wp2_with fail
 generalize (((W3.setCell ⟨w.heap.size+1,0,none⟩ (.bool s2)).setCell ⟨w.heap.size+1,1,none⟩ (.slice A2 n2 c2)).setCell ⟨w.heap.size+1,2,none⟩ (.bool s3)).setCell ⟨w.heap.size+1,3,none⟩ (.slice A3 n3 c3)=W9 at *
 have z0:=HR9.out.c0
 have z1:=HR9.out.c1
 have z2:=HR9.out.c2
 have z3:=HR9.out.c3
 exact bodyPost_ret (by simp [results,Tryz.results178,go_sem,z0,z1,z2,z3]) rfl ⟨_,_,_,_,_,_,_,_,(z:Rat),rfl,HO9.out,ah rfl,HB9.out⟩
abbrev nqp (R:List RawQ):List Rat:=nq (R.map toQ)
abbrev nn (PP:List (List (List RawQ))):List (List (List Rat)):=PP.map (·.map nqp)
def okPP (PP:List (List (List RawQ))):Prop:=∀ RR ∈ PP,∀ R ∈ RR,okD (R.map toQ)
theorem scell1 (w:World)(x:Value)(t:TypeId):∀ j a,[x][j]?=some a->(w.alloc (.cells #[x] t)).cell? ((⟨w.heap.size,0,none⟩:Addr).add j)=some a:=by
 intro j a hj
 match j,hj with
 | 0,hj=>simp at hj;subst hj;simp [Addr.add]
 | (j+1),hj=>simp at hj
theorem ix0 (a b:Int)(w:World):(Instr.index 180 (.agg #[.int .i64 a,.int .i64 b]) (.int .i64 0)).run Tryz.prog w=.ok (.int .i64 a) w:=by kernel_rfl
theorem ix1 (a b:Int)(w:World):(Instr.index 180 (.agg #[.int .i64 a,.int .i64 b]) (.int .i64 1)).run Tryz.prog w=.ok (.int .i64 b) w:=by kernel_rfl
theorem rQHeight_any {N:Nat}{A:Option Addr}{n c:Nat}{L:List (Int × Int)}{w:World}(h:RdQs w w.heap.size N A n c L)(hd:∀ p ∈ L,p.2 ≠ 0)(hn:n<=1048576)(hN:N<=1000000000000)(h1N:1<=N) :
  Calls Tryz.prog 96 #[.slice A n c] w (RetK (ht (L.map qval):Int) w):=by
 have H:=ah (show ∀ W,Below w.heap.size w W->RdQs W W.heap.size N A n c L from fun W hb=>h.next hb)
 have HL:=ah h.len
 have HD:=ah hd
 have HS:=ah (h.sz hd h1N)
 clear h hd
 go_enter Tryz.func96,Tryz.ntmps96
 go_wp2_with fail
 go_loopw [3,10] (fun nv iv wr=>∃ (j v:Nat),nv=.int .i64 (v:Int)/\iv=.int .i64 (j:Int)/\j<=n/\Hid (v=ht ((L.take j).map qval))/\Below w.heap.size w wr) (fun _ iv _=>n-(intOf iv).toNat)
 case atStart=>exact ⟨0,0,rfl,rfl,nZ,ah rfl,bR⟩
 case round =>
  obtain ⟨j,v,rfl,rfl,hj,hv,hB⟩:=hrel
  by_cases hjn:j=n
  ·have HV:=ah (show v=ht (L.map qval) from by rw [hv.out,hjn,List.take_of_length_le (by rw [HL.out];exact nR)])
   subst hjn
   have HF:=ah hB
   clear hB hv
   go_wp2
   go_ret
   exact ⟨_,rfl,ah (by rw [HV.out]),HF.out⟩
  ·have hjl:j < n:=by omega
   have hjli:(j:Int) < (n:Int):=by omega
   clear hjn
   obtain ⟨ad,s1,A1,n1,c1,s2,A2,n2,c2,z,d,rfl,hbk,hx0,hx1,hx2,hx3,hr1,hr2,hn1,hn2,hp⟩:=qs_at (H.out wr hB) hjl
   obtain ⟨W5,HW5⟩:∃ W,W=wr.alloc (.cells #[.bool s1,.slice A1 n1 c1,.bool s2,.slice A2 n2 c2] 47):=⟨_,rfl⟩
   have hb5:Below wr.heap.size wr W5:=by rw [HW5];exact bA
   have hQ5:QC W5 wr.heap.size s1 A1 n1 c1 s2 A2 n2 c2:=by rw [HW5];exact QC.new wr s1 A1 n1 c1 s2 A2 n2 c2
   have HQ5:=ah hQ5
   have HR5:=ah (cJ (hr1.next hb5) (hr2.next hb5))
   have HD1:=ah (HD.out _ (gM hp.out))
   have HXV:=ah (show Pq.co (L.map qval) j=Rat.divInt z d from Pq.co_get (by rw [List.getElem?_map,hp.out];rfl))
   have HF5:=ah (hB.trans (hb5.mono hB.size))
   have HWS:=ah hB.size
   have HTK:=ah (show ht ((L.take (j+1)).map qval)=max v (qbits (Rat.divInt z d)) from by
    rw [List.take_add_one,hp.out,List.map_append,show ((some (z,d)).toList).map qval=[Rat.divInt z d] from rfl,ht_snoc,hv.out])
   have HXS:=ah (show Qs N (Rat.divInt z d) from by rw [<- HXV.out];exact HS.out j)
   have q0:=hQ5.c0
   have q1:=hQ5.c1
   have q2:=hQ5.c2
   have q3:=hQ5.c3
   rw [HW5] at q0 q1 q2 q3
   have HW5:=ah HW5
   clear hb5 hQ5 hB hv hp hr1 hr2
   go_wp2_with fail
   rw [<- HW5.out]
   clear HW5 hx0 hx1 hx2 hx3 q0 q1 q2 q3
   clear HW5
   refine (rQNorm_any HR5.out.1 HR5.out.2 (by omega) (by omega) HD1.out).mono ?_
   rintro _ W6 ⟨s5,A5,n5,c5,s6,A6,n6,c6,y,rfl,ho6,hy,hb6⟩
   obtain rfl:=hy.out
   have hQ6:=HQ5.out.next hb6
   have f0:=hQ6.fz 0
   have f1:=hQ6.fz 1
   have f2:=hQ6.fz 2
   have f3:=hQ6.fz 3
   have q0:=hQ6.c0
   have q1:=hQ6.c1
   have q2:=hQ6.c2
   have q3:=hQ6.c3
   have HS7:=ah (hQ6.store s5 A5 n5 c5 s6 A6 n6 c6)
   have HO7:=ah (ho6.keep (keep_putQ hQ6 s5 A5 n5 c5 s6 A6 n6 c6))
   have HF7:=ah (below_putQ (HF5.out.trans (hb6.mono HF5.out.size)) (HWS.out) s5 A5 n5 c5 s6 A6 n6 c6)
   unfold putQ at HS7 HO7 HF7
   clear hQ6 ho6 hb6
   go_upto_region 6 with fail
   generalize (((W6.setCell ⟨wr.heap.size,0,none⟩ (.bool s5)).setCell ⟨wr.heap.size,1,none⟩ (.slice A5 n5 c5)).setCell ⟨wr.heap.size,2,none⟩ (.bool s6)).setCell ⟨wr.heap.size,3,none⟩ (.slice A6 n6 c6)=W7 at *
   clear q0 q1 q2 q3 f0 f1 f2 f3
   have q1:=HS7.out.c1
   have q3:=HS7.out.c3
   have HB8:=ah (Below.refl W7.heap.size W7).drew
   have HCC:=ah (show ∀ W,Below W7.heap.size W7 W->W.cell? ⟨wr.heap.size,1,none⟩=some (.slice A5 n5 c5)/\W.cell? ⟨wr.heap.size,3,none⟩=some (.slice A6 n6 c6) from fun W hb=>⟨(HS7.out.next hb).c1,(HS7.out.next hb).c3⟩)
   have HRD:=ah (show ∀ W,Below W7.heap.size W7 W->RdU W W.heap.size A5 n5 c5 (Dg.dg (Rat.divInt z d).num.natAbs)/\RdU W W.heap.size A6 n6 c6 (Dg.dg (Rat.divInt z d).den) from fun W hb=>⟨(HO7.out.num.own.next hb).rd,(HO7.out.den.own.next hb).rd⟩)
   have HNN:=ah (show n5<=N/\n6<=N from ⟨by rw [HO7.out.num.len];exact HXS.out.1,by rw [HO7.out.den.len];exact HXS.out.2⟩)
   go_region_held3 (fun w'=>w'.cell? ⟨wr.heap.size,1,none⟩=some (.slice A5 n5 c5)/\w'.cell? ⟨wr.heap.size,3,none⟩=some (.slice A6 n6 c6))
    (first | exact HCC.out _ HB9.out | exact HCC.out _ HB10.out | exact HCC.out _ HB8.out)
    (first
     | (have hz:=HZ1.out;clear hz;go_at_call 150;refine (rnlen_any (HRD.out _ HB9.out).2 (by have:=HNN.out;omega)).mono ?_;rintro _ W10 ⟨z2,rfl,hz2,hb10⟩;have HB10:=tM HB9 hb10;have HZ2:=ah (show z2=(nlen (Rat.divInt z d).den:Int) by rw [hz2.out,Dg.val_dg]))
     | (go_at_call 150;refine (rnlen_any (HRD.out _ HB8.out).1 (by have:=HNN.out;omega)).mono ?_;rintro _ W9 ⟨z1,rfl,hz1,hb9⟩;have HB9:=ah (HB8.out.trans hb9);have HZ1:=ah (show z1=(nlen (Rat.divInt z d).num.natAbs:Int) by rw [hz1.out,Dg.val_dg])))
   all_goals
    have HFF:=tM HF7 HB10.out
    obtain ⟨a,ha⟩:∃ a,a=nlen (Rat.divInt z d).num.natAbs:=⟨_,rfl⟩
    obtain ⟨b,hb⟩:∃ b,b=nlen (Rat.divInt z d).den:=⟨_,rfl⟩
    obtain rfl:z1=(a:Int):=by rw [HZ1.out,ha]
    obtain rfl:z2=(b:Int):=by rw [HZ2.out,hb]
    have HAB:=ah (show ht ((L.take (j+1)).map qval)=max (max v a) b from by rw [HTK.out,qbits,ha,hb,Nat.max_assoc])
    clear q1 q3 hz1 hz2 hb9 hb10 HZ1 HZ2 ha hb
    go_wp2_with fail
    go_loopw [3,25] (fun nv iv wx=>∃ (i m:Nat),nv=.int .i64 (m:Int)/\iv=.int .i64 (i:Int)/\Hid ((i=0/\m=v) ∨ (i=1/\m=max v a) ∨ (i=2/\m=max (max v a) b))/\wx=W10) (fun _ iv _=>2-(intOf iv).toNat)
    case atStart=>exact ⟨0,v,rfl,rfl,ah (.inl ⟨rfl,rfl⟩),rfl⟩
    case round =>
     obtain ⟨i,m,rfl,rfl,him,rfl⟩:=hrel
     rcases him.out with ⟨rfl,rfl⟩ | ⟨rfl,rfl⟩ | ⟨rfl,rfl⟩
     ·rcases Nat.lt_or_ge m a with hlt | hge
      ·have hli:(m:Int) < (a:Int):=by omega
       have HM:=ah (show a=max m a by omega)
       clear hlt him
       have e0:=fun W:World=>ix0 (a:Int) (b:Int) W
       have e1:=fun W:World=>ix1 (a:Int) (b:Int) W
       go_wp2
       go_roundw
       case rel=>exact ⟨1,a,rfl,by go_num,ah (.inr (.inl ⟨rfl,HM.out⟩)),by first | rfl | trivial⟩
       case measure=>simp [intOf]
      ·have hli:decide ((m:Int) < (a:Int))=false:=by simp only [decide_eq_false_iff_not];omega
       have hli2:¬(m:Int) < (a:Int):=by omega
       have HM:=ah (show m=max m a by omega)
       clear hge him
       have e0:=fun W:World=>ix0 (a:Int) (b:Int) W
       have e1:=fun W:World=>ix1 (a:Int) (b:Int) W
       go_wp2
       go_roundw
       case rel=>exact ⟨1,m,rfl,by go_num,ah (.inr (.inl ⟨rfl,HM.out⟩)),by first | rfl | trivial⟩
       case measure=>simp [intOf]
     ·generalize hq:max v a=q at *
      rcases Nat.lt_or_ge q b with hlt | hge
      ·have hli:(q:Int) < (b:Int):=by omega
       have HM:=ah (show b=max q b by omega)
       have HQ:=ah hq
       clear hlt him hq
       have e0:=fun W:World=>ix0 (a:Int) (b:Int) W
       have e1:=fun W:World=>ix1 (a:Int) (b:Int) W
       go_wp2
       go_roundw
       case rel=>exact ⟨2,b,rfl,by go_num,ah (.inr (.inr ⟨rfl,by first | exact HM.out | (rw [HQ.out];exact HM.out)⟩)),by first | rfl | trivial⟩
       case measure=>simp [intOf]
      ·have hli:decide ((q:Int) < (b:Int))=false:=by simp only [decide_eq_false_iff_not];omega
       have hli2:¬(q:Int) < (b:Int):=by omega
       have HM:=ah (show q=max q b by omega)
       have HQ:=ah hq
       clear hge him hq
       have e0:=fun W:World=>ix0 (a:Int) (b:Int) W
       have e1:=fun W:World=>ix1 (a:Int) (b:Int) W
       go_wp2
       go_roundw
       case rel=>exact ⟨2,q,rfl,by go_num,ah (.inr (.inr ⟨rfl,by first | exact HM.out | (rw [HQ.out];exact HM.out)⟩)),by first | rfl | trivial⟩
       case measure=>simp [intOf]
     ·clear him
      go_wp2
      go_roundw
      case rel=>exact ⟨j+1,max (max v a) b,rfl,by go_num,by omega,ah HAB.out.symm,HFF.out⟩
      case measure=>simp [intOf];omega
theorem pr_map' (L:List Rat):(L.map pr).map qval=L:=by
 rw [List.map_map]
 conv=>rhs;rw [<- List.map_id L]
 exact List.map_congr_left fun x _=>qval_pr x
theorem pr_okD' (L:List Rat):okD (L.map pr):=fun p hp=>by
 obtain ⟨x,_,rfl⟩:=List.mem_map.1 hp
 exact pr_ne x
def fpv (L:List (Int × Int)):Int:=if ¬okD L then 6 else if 101 < (nq L).length ∨ 4096 < ht (nq L) then 4 else 0
theorem fitPoly_any {N:Nat}{A:Option Addr}{n c:Nat}{L:List (Int × Int)}{w:World}(h:RdQs w w.heap.size N A n c L)(hn:n<=1048576)(hN:N<=1000000000000)(h1N:1<=N) :
  Calls Tryz.prog 68 #[.slice A n c] w (RetK (fpv L) w):=by
 have HH:=ah h
 have HB:=ah (cJ hn (cJ hN h1N))
 clear h hn hN h1N
 go_enter Tryz.func68,Tryz.ntmps68
 go_wp2_with fail
 refine (rPMay_any HH.out (by have:=HB.out.1;omega) (by have:=HB.out.2.1;omega)).mono ?_
 rintro _ W1 ⟨v,rfl,hv,hb1⟩
 have HB1:=ah hb1
 by_cases hd:okD L
 ·obtain rfl:v=true:=hv.out.2 hd
  have HD:=ah hd
  clear hv hb1 hd
  go_wp2_with fail
  refine (rqnorm_any (HH.out.next HB1.out) HD.out HB.out.1 HB.out.2.1).mono ?_
  rintro _ W2 ⟨A2,n2,c2,M,rfl,ho2,hM2,hb2⟩
  obtain rfl:M=nq L:=Pq.IsP.nrm hM2.out
  have HL2:=ah ho2.len
  have HO2:=ah ho2
  have HB2:=tM HB1 hb2
  clear ho2 hM2 hb2
  by_cases hl:101 < n2
  ·have hli:(101:Int) < (n2:Int):=by omega
   have HV:=ah (show fpv L=4 by unfold fpv;rw [if_neg (fun e=>e HD.out),if_pos (.inl (by rw [HL2.out];exact hl))])
   clear hl
   go_wp2
   go_ret
   exact ⟨4,rfl,ah HV.out.symm,HB2.out⟩
  ·have hli:¬(101:Int) < (n2:Int):=by omega
   have HNL:=ah hl
   clear hl
   go_wp2_with fail
   refine (rQHeight_any (N:=N) (HO2.out.rd (nq_qs HH.out HD.out HB.out.2.2)) (pr_okD' _) (by have:=HNL.out;omega) HB.out.2.1 HB.out.2.2).mono ?_
   rintro _ W3 ⟨z,rfl,hz,hb3⟩
   have HB3:=tM HB2 hb3
   have HZ:=ah (show z=(ht (nq L):Int) by rw [hz.out,pr_map'])
   clear hz hb3
   by_cases hh:4096 < ht (nq L)
   ·have hzi:(4096:Int) < z:=by rw [HZ.out];omega
    have HV:=ah (show fpv L=4 by unfold fpv;rw [if_neg (fun e=>e HD.out),if_pos (.inr hh)])
    clear hh
    go_wp2
    go_ret
    exact ⟨4,rfl,ah HV.out.symm,HB3.out⟩
   ·have hzi:¬(4096:Int) < z:=by rw [HZ.out];omega
    have HV:=ah (show fpv L=0 by unfold fpv;rw [if_neg (fun e=>e HD.out),if_neg (fun e=>e.elim (fun e=>HNL.out (by rw [<- HL2.out];exact e)) hh)])
    clear hh
    go_wp2
    go_ret
    exact ⟨0,rfl,ah HV.out.symm,HB3.out⟩
 ·obtain rfl:v=false:=by
   cases v with
   | false=>rfl
   | true=>exact absurd (hv.out.1 rfl) hd
  have HV:=ah (show fpv L=6 by unfold fpv;rw [if_pos hd])
  clear hv hb1 hd
  go_wp2
  go_ret
  exact ⟨6,rfl,ah HV.out.symm,HB1.out⟩
end Go.Proofs.YtjnklbfhelbjgaaGreat
