/- Sc02. -/
import Derived.Test.YtjnklbfhelbjgaaGreatSc01
import Derived.Deep.CutRange
import Derived.Deep.CutBlock
import Derived.Test.YtjnklbfhelbjgaaGreatSc00
set_option maxRecDepth 100000
set_option maxHeartbeats 32000000
set_option linter.all false
namespace Go.Proofs.YtjnklbfhelbjgaaGreat
open Go.RowKit Go.IntWalk
theorem mul_wrap (q x:Nat)(hq:q < 4294967296)(hx:x < 4294967296):IntKind.u64.wrap ((q:Int)*x)=(q:Int)*x:=by
 have h:=Nat.mul_le_mul (show q<=4294967295 by omega) (show x<=4294967295 by omega)
 have e:(q:Int)*x=((q*x:Nat):Int):=(Int.natCast_mul q x).symm
 rw [e,u64_in _ (by omega)]
theorem mul_gt {r a q x:Nat}(h:r*4294967296+a < q*x):(r:Int)*4294967296+a < (q:Int)*x:=by
 have e:(q:Int)*x=((q*x:Nat):Int):=(Int.natCast_mul q x).symm
 rw [e]
 omega
theorem mul_ngt {r a q x:Nat}(h:¬ r*4294967296+a < q*x):¬ (r:Int)*4294967296+a < (q:Int)*x:=by
 have e:(q:Int)*x=((q*x:Nat):Int):=(Int.natCast_mul q x).symm
 rw [e]
 omega
theorem u64_wrap' (x:Int):IntKind.u64.wrap x=x % 18446744073709551616:=by simp [IntKind.wrap,IntKind.bits,IntKind.signed]
theorem and_low (n m:Nat)(hn:n < 18446744073709551616)(hm:m=n % 4294967296):bits .and .u64 (n:Int) 4294967295=(m:Int):=by
 have h:=u64_and_nat n 4294967295 hn (by omega)
 rw [show ((4294967295:Nat):Int)=4294967295 from rfl] at h
 rw [h,hm,show (4294967295:Nat)=2 ^ 32-1 from rfl,Nat.and_two_pow_sub_one_eq_mod]
theorem bl_of:∀ (x:Nat),x ≠ 0->x < 18446744073709551616->∃ k,Lib.bitLen x=k+1/\2 ^ k<=x/\x < 2 ^ (k+1):=by
 intro x
 induction x using Nat.strongRecOn with
 | _ x ih =>
   intro h0 hx
   have hh:=Lib.bitLen_half x h0 hx
   by_cases h1:x / 2=0
   ·refine ⟨0,?_,by simp;omega,by simp;omega⟩
    rw [hh,h1]
    rfl
   ·obtain ⟨k,e1,e2,e3⟩:=ih (x / 2) (Nat.div_lt_self (by omega) (by omega)) h1 (by omega)
    refine ⟨k+1,by rw [hh,e1];omega,?_,?_⟩
    ·rw [Nat.pow_succ];omega
    ·rw [Nat.pow_succ];omega
theorem long_any (p e:Nat){A A':Option Addr}{c c':Nat}{L L':List Nat}{w:World}(h:RdU w w.heap.size A (p+2+e) c L)(h':RdU w w.heap.size A' (p+2) c' L')(hn:p+e<=1000000000000)
  (hN:L=Dg.dg (Dg.val L)) (hN':L'=Dg.dg (Dg.val L')) :
  Calls Tryz.prog 243 #[.slice A (p+2+e) c,.slice A' (p+2) c'] w fun e w'=>∃ (A A':Option Addr) (m c m' c' x y:Nat),e=.returned (.tuple #[.slice A m c,.slice A' m' c'])/\OwU w' w.heap.size A m c (Dg.dg x)/\OwU w' w.heap.size A' m' c' (Dg.dg y)/\Hid (x=Dg.val L / Dg.val L'/\y=Dg.val L % Dg.val L')/\Below w.heap.size w w':=by
 have HLEN:=ah h.len
 have HLEN':=ah h'.len
 obtain ⟨htl,adv,hadv,hbv,hcv⟩:=h'.at_ (p+1) (Dg.ld L' (p+1)) (Dg.get_of_ld (by rw [HLEN'.out];omega))
 subst hadv
 simp [Addr.add] at hcv
 have htp:Dg.ld L' (p+1) ≠ 0:=by
  have h1:=Dg.dg_nm (Dg.val L')
  rw [<- hN'] at h1
  have h2:=h1 (by intro h0;have:=HLEN'.out;rw [h0] at this;simp at this)
  rw [List.getLast_eq_getElem] at h2
  rw [Dg.ld_lt (by rw [HLEN'.out];omega)]
  simpa [HLEN'.out] using h2
 obtain ⟨tp,etp⟩:∃ tp,tp=Dg.ld L' (p+1):=⟨_,rfl⟩
 rw [<- etp] at htl hcv htp
 have ETP:=ah etp
 have HTP:=ah htp
 clear etp htp
 go_enter Tryz.func243,Tryz.ntmps243
 go_wp2_with fail
 refine (bits_LeadingZeros32 _ _ (by omega) (by omega)).mono ?_
 rintro _ w1 ⟨rfl,hw⟩
 have hw:=hw.symm
 subst hw
 obtain ⟨k,hbl,hk1,hk2⟩:=bl_of tp HTP.out (by omega)
 have hk31:k<=31:=by
  have:=Lib.bitLen_le tp 32 (by omega) (by omega)
  omega
 obtain ⟨s,hs⟩:∃ s,s=31-k:=⟨_,rfl⟩
 have hsI:(32:Int)-(Lib.bitLen ((tp:Int).toNat):Int)=(s:Int):=by
  rw [Int.toNat_natCast,hbl]
  omega
 rw [hsI]
 have hnv:=fun O=>Kn.norm_v (O:=O) h'.wd HLEN'.out ETP.out hk31 hs hk1 hk2
 have HNV:=ah hnv
 have hs32:s < 32:=by omega
 clear hnv hs hk1 hk2 hbl hsI hcv hbv
 go_wp2_with fail
 refine (left_any s h' (by omega) hs32).mono ?_
 rintro _ w1 ⟨m1,k1,O1,rfl,hU1,hO1,hb1⟩
 have hk1:k1=p+2:=by rw [hO1.out.1,<- hN',HLEN'.out]
 have hm1:m1=p+2:=by
  rcases hO1.out.2.2.2.1 with h0 | ⟨_,h0⟩
  ·omega
  ·have:=(HNV.out []).1
   rw [hk1] at h0
   omega
 subst hm1
 subst hk1
 have hV:=ah (show (O1.take (p+2)).length=p+2 by rw [List.length_take,hO1.out.2.1];omega)
 clear hw
 go_wp2_with fail
 refine (left_any s (h.next hb1) (by omega) hs32).mono ?_
 rintro _ w2 ⟨m2,k2,O2,rfl,hU2,hO2,hb2⟩
 have hk2:k2=p+2+e:=by rw [hO2.out.1,<- hN,HLEN.out]
 subst hk2
 have hm2:=hO2.out.2.2.2.1
 have hm2l:m2<=p+2+e+1:=by rcases hm2 with h0 | ⟨h0,_⟩ <;> omega
 have hm2g:p+2+e<=m2:=by rcases hm2 with h0 | ⟨h0,_⟩ <;> omega
 clear hm2
 have hgl:=hU2.lt
 have hc1:=hU2.cell (Dg.get_of_ld (L:=O2) (i:=m2) (by rw [hO2.out.2.1];omega))
 have hc2:=hU2.cell (Dg.get_of_ld (L:=O2) (i:=m2+1) (by rw [hO2.out.2.1];omega))
 have hf1:=hU2.frozen m2
 have hf2:=hU2.frozen (m2+1)
 generalize Dg.ld O2 m2=z1 at hc1
 generalize Dg.ld O2 (m2+1)=z2 at hc2
 have hmI:(p:Int)+2+e-(p+2)=e:=by omega
 have hmk:∀ W:World,(Instr.makeSlice 23 (.int .i64 ((e:Int)+1)) (.int .i64 ((e:Int)+1))).run Tryz.prog W=.ok (.slice (some ⟨W.heap.size,0,none⟩) (e+1) (e+1)) (W.alloc (.cells (madeCells #[.int .u32 0] (e+1)) 171)):=fun W=>make_nat (e+1) (by omega) W
 have hU3:UB ((((w2.setCell ⟨w1.heap.size,m2,none⟩ (.int .u32 0)).setCell ⟨w1.heap.size,m2+1,none⟩ (.int .u32 0)).alloc (.cells #[.int .u32 0,.int .u32 0] 171)).alloc (.cells (madeCells #[.int .u32 0] (e+1)) 171)) w1.heap.size ((O2.set m2 0).set (m2+1) 0) :=
  (((hU2.set m2 0).set (m2+1) 0).alloc _).alloc _
 have hV3:UB ((((w2.setCell ⟨w1.heap.size,m2,none⟩ (.int .u32 0)).setCell ⟨w1.heap.size,m2+1,none⟩ (.int .u32 0)).alloc (.cells #[.int .u32 0,.int .u32 0] 171)).alloc (.cells (madeCells #[.int .u32 0] (e+1)) 171)) w.heap.size O1 :=
  (((((hU1.below hb2 hU1.lt).far (p:=⟨w1.heap.size,m2,none⟩) (Nat.ne_of_lt hU1.lt) _).far (p:=⟨w1.heap.size,m2+1,none⟩) (Nat.ne_of_lt hU1.lt) _).alloc _).alloc _)
 have hB3:Below w.heap.size w ((((w2.setCell ⟨w1.heap.size,m2,none⟩ (.int .u32 0)).setCell ⟨w1.heap.size,m2+1,none⟩ (.int .u32 0)).alloc (.cells #[.int .u32 0,.int .u32 0] 171)).alloc (.cells (madeCells #[.int .u32 0] (e+1)) 171)):=by
  have h0:=hb1.trans (hb2.mono hb1.size)
  exact (((h0.setCell (p:=⟨w1.heap.size,m2,none⟩) hb1.size _).setCell (p:=⟨w1.heap.size,m2+1,none⟩) hb1.size _).alloc (by simp [World.setCell];exact h0.size) _).alloc (by simp [World.setCell];have:=h0.size;omega) _
 have hQ3:UB ((((w2.setCell ⟨w1.heap.size,m2,none⟩ (.int .u32 0)).setCell ⟨w1.heap.size,m2+1,none⟩ (.int .u32 0)).alloc (.cells #[.int .u32 0,.int .u32 0] 171)).alloc (.cells (madeCells #[.int .u32 0] (e+1)) 171)) (w2.heap.size+1) (List.replicate (e+1) 0):=by
  have h0:=UB.made (((w2.setCell ⟨w1.heap.size,m2,none⟩ (.int .u32 0)).setCell ⟨w1.heap.size,m2+1,none⟩ (.int .u32 0)).alloc (.cells #[.int .u32 0,.int .u32 0] 171)) (e+1)
  simpa [World.setCell] using h0
 have hw1l:=hU1.lt
 have hV1:2147483648<=Dg.ld O1 (p+1):=by
  have h0:=(HNV.out (O1.take (p+2))).2 (hO1.out.2.2.1.take _) hV.out hO1.out.2.2.2.2
  rwa [Dg.ld_lt (by rw [hV.out];omega),List.getElem_take,<- Dg.ld_lt] at h0
 have HU:=ah (Kn.norm_u (L':=L') h.wd HLEN.out hO1.out.2.1 hO1.out.2.2.2.2 hV1 hs32 hO2.out.2.1 hm2g hm2l hO2.out.2.2.2.2)
 have hUl:((O2.set m2 0).set (m2+1) 0).length=p+2+e+3:=by rw [List.length_set,List.length_set];exact hO2.out.2.1
 have hUw:Dg.Wd ((O2.set m2 0).set (m2+1) 0):=(hO2.out.2.2.1.set m2 (by omega)).set (m2+1) (by omega)
 have HUL:=ah hUl
 clear hUl
 generalize (O2.set m2 0).set (m2+1) 0=U0 at hU3 HU HUL hUw
 go_wp2_with fail
 clear hmk hmI hc1 hc2 hf1 hf2 hU2 hm2l hm2g
 generalize ((((w2.setCell ⟨w1.heap.size,m2,none⟩ (.int .u32 0)).setCell ⟨w1.heap.size,m2+1,none⟩ (.int .u32 0)).alloc (.cells #[.int .u32 0,.int .u32 0] 171)).alloc (.cells (madeCells #[.int .u32 0] (e+1)) 171))=W3 at hU3 hV3 hB3 hQ3 ⊢
 have hO1w:=hO1.out.2.2.1
 have hO1l:=ah hO1.out.2.1
 have hbb2:=hb2.size
 have hbb1:=hb1.size
 clear hO1 hO2 hU1 hb1 hb2
 generalize hgu:w1.heap.size=gu at *
 generalize hgq:w2.heap.size+1=gq at *
 obtain ⟨gv,hgv⟩:∃ gv,gv=w.heap.size:=⟨_,rfl⟩
 have hgvu:gv < gu:=by omega
 have hguq:gu < gq:=by omega
 have hgw:w.heap.size<=gv:=by omega
 rw [<- hgv] at hV3 ⊢
 clear hgu hgq hgv
 have hct:=hV3.cell (Dg.get_of_ld (L:=O1) (i:=p+1) (by rw [hO1l.out];omega))
 have hcn:=hV3.cell (Dg.get_of_ld (L:=O1) (i:=p) (by rw [hO1l.out];omega))
 obtain ⟨tpd,etpd⟩:∃ x,x=Dg.ld O1 (p+1):=⟨_,rfl⟩
 obtain ⟨nxt,enxt⟩:∃ x,x=Dg.ld O1 p:=⟨_,rfl⟩
 have htpl:tpd < 4294967296:=by rw [etpd];exact Dg.ld_word hO1w _
 have hnxl:nxt < 4294967296:=by rw [enxt];exact Dg.ld_word hO1w _
 rw [<- etpd] at hct hV1
 rw [<- enxt] at hcn
 have ETPD:=ah etpd
 have ENXT:=ah enxt
 clear etpd enxt
 have hs1:IntKind.i64.wrap ((p:Int)+2-1)=(p:Int)+1:=by rw [IntWalk.i64_in _ (by omega)];omega
 have hs2:IntKind.i64.wrap ((p:Int)+2-2)=(p:Int):=by rw [IntWalk.i64_in _ (by omega)];omega
 have hs3:(0:Int)<=(p:Int)+1:=by omega
 have hs4:((p:Int)+1).toNat=p+1:=by omega
 go_quiet (fail)
 clear hs1 hs2 hs3 hs4 hct hcn
 have hV4:=hV3.drewN nq
 have hU4:=hU3.drewN nq
 have hQ4:=hQ3.drewN nq
 have hB4:Below w.heap.size w (W3.drewN nq):=⟨hB3.os,hB3.tape,hB3.output,hB3.size,hB3.block⟩
 generalize W3.drewN nq=W4 at hV4 hU4 hQ4 hB4 ⊢
 clear hV3 hU3 hQ3 hB3
 obtain ⟨D,hD⟩:∃ D,D=Dg.vf (Dg.ld O1) (p+2):=⟨_,rfl⟩
 have HD:=ah hD
 clear hD
 go_wp2_with fail
 go_loopw [14] (fun jj wr=>∃ (J:Nat) (U Q:List Nat),jj=.int .i64 ((J:Int)-1)/\J<=e+1/\UB wr gu U/\UB wr gq Q/\UB wr gv O1 /\
  Hid (U.length=p+2+e+3/\Dg.Wd U/\Q.length=e+1/\Dg.Wd Q/\Dg.vf (Dg.ld U) (p+2+e+1) < D*4294967296 ^ J/\Dg.val (Q.drop J)*(D*4294967296 ^ J)+Dg.vf (Dg.ld U) (p+2+e+1)=Dg.val L*2 ^ s)/\Below w.heap.size w wr) (fun jj _=>(intOf jj+1).toNat)
 case atStart =>
  refine ⟨e+1,U0,_,?_,nR,hU4,hQ4,hV4,ah ⟨HUL.out,hUw,by simp,Dg.Wd.zeros _,?_,?_⟩,hB4⟩
  ·exact int_i (by omega)
  ·rw [HU.out.2.1,HD.out];exact HU.out.2.2
  ·rw [List.drop_eq_nil_of_le (by simp),HU.out.2.1];simp [Dg.val]
 case round =>
  as_aux_lemma =>
  clear hU4 hQ4 hV4 hB4
  obtain ⟨J,U,Q,rfl,hJ,hU,hQ,hV,hI,hB⟩:=hrel
  rcases Nat.eq_zero_or_pos J with h0 | h0
  ·subst h0
   rw [show (((0:Nat):Int)-1)=-1 from rfl]
   have hRu:=hU.rd hI.out.2.1 (B:=wr.heap.size) hU.lt (k:=p+2) (by rw [hI.out.1];omega) (by rw [hI.out.1];unfold maxLen;omega)
   rw [hI.out.1] at hRu
   have hRq:=hQ.rd hI.out.2.2.2.1 (B:=wr.heap.size) hQ.lt (k:=e+1) (by rw [hI.out.2.2.1];exact nR) (by rw [hI.out.2.2.1];unfold maxLen;omega)
   rw [hI.out.2.2.1,List.take_of_length_le (by rw [hI.out.2.2.1];exact nR)] at hRq
   have HVU:=ah (Kn.take_val (U:=U) (p:=p) (by rw [hI.out.1];omega) (by omega) (by rw [HD.out];exact Nat.le_of_lt (Dg.vf_lt (Dg.ld_word hO1w) _)) hI.out.2.2.2.2.1)
   clear hU hQ hV
   go_wp2_with fail
   refine (right_any s hRu (by omega) hs32).mono ?_
   rintro _ W5 ⟨A5,m5,c5,x5,rfl,ho5,hx5,hb5⟩
   go_wp2_with fail
   refine (own_any (hRq.next hb5) (by omega)).mono ?_
   rintro _ W6 ⟨A6,m6,c6,x6,rfl,ho6,hx6,hb6⟩
   go_wp2
   go_ret2
   exact ⟨A6,A5,m6,c6,m5,c5,x6,x5,rfl,ho6.base (nT hB.size hb5.size),(ho5.next hb6).base hB.size,ah (Kn.end_all hI.out.2.2.2.2.2 hI.out.2.2.2.2.1 (by rw [HD.out];exact HU.out.1) hx6.out HVU.out hx5.out),(hB.trans (hb5.mono hB.size)).trans (hb6.mono (nT hB.size hb5.size))⟩
  ·obtain ⟨j,rfl⟩:∃ j,J=j+1:=⟨J-1,by omega⟩
   rw [show (((j+1:Nat):Int)-1)=(j:Int) by omega]
   obtain ⟨x2,hx2⟩:∃ x,x=j+p+2:=⟨_,rfl⟩
   obtain ⟨x1,hx1⟩:∃ x,x=j+p+1:=⟨_,rfl⟩
   have hc2:=hU.cell (Dg.get_of_ld (L:=U) (i:=x2) (by rw [hI.out.1];omega))
   have hc1:=hU.cell (Dg.get_of_ld (L:=U) (i:=x1) (by rw [hI.out.1];omega))
   have ha2:=Dg.ld_word hI.out.2.1 x2
   have ha1:=Dg.ld_word hI.out.2.1 x1
   have hx2l:(x2:Int) < p+2+e+1:=by omega
   have hx1l:(x1:Int) < p+2+e+1:=by omega
   have hs1:IntKind.i64.wrap ((j:Int)+(p+2))=(x2:Int):=by rw [IntWalk.i64_in _ (by omega)];omega
   have hs2:IntKind.i64.wrap ((x2:Int)-1)=(x1:Int):=by rw [IntWalk.i64_in _ (by omega)];omega
   have HX2:=ah hx2
   have HX1:=ah hx1
   clear hx2 hx1
   obtain ⟨a2,ea2⟩:∃ a,a=Dg.ld U x2:=⟨_,rfl⟩
   obtain ⟨a1,ea1⟩:∃ a,a=Dg.ld U x1:=⟨_,rfl⟩
   rw [<- ea2] at hc2 ha2
   rw [<- ea1] at hc1 ha1
   have EA2:=ah ea2
   have EA1:=ah ea1
   clear ea2 ea1
   have hs3:IntKind.u64.wrap ((a2:Int)*4294967296)=(a2:Int)*4294967296:=by rw [IntWalk.u64_in _ (by omega)]
   have hor:=or_join a2 a1 ha2 ha1
   go_wp2_with fail
   go_step3
   go_wp2_with fail
   go_quiet (fail)
   clear hs1 hs2 hs3 hor hc2 hc1
   have hUn:=hU.drewN nq
   have hVn:=hV.drewN nq
   have hQn:=hQ.drewN nq
   have hBn:Below w.heap.size w (wr.drewN nq):=⟨hB.os,hB.tape,hB.output,hB.size,hB.block⟩
   clear hU hV hQ hB
   generalize wr.drewN nq=wr at hUn hVn hQn hBn ⊢
   have hU:=hUn
   have hV:=hVn
   have hQ:=hQn
   have hB:=hBn
   clear hUn hVn hQn hBn
   go_wp2_with fail
   go_quiet (fail)
   have hUn:=hU.drewN nq
   have hVn:=hV.drewN nq
   have hQn:=hQ.drewN nq
   have hBn:Below w.heap.size w (wr.drewN nq):=⟨hB.os,hB.tape,hB.output,hB.size,hB.block⟩
   clear hU hV hQ hB
   generalize wr.drewN nq=wr at hUn hVn hQn hBn ⊢
   have hU:=hUn
   have hV:=hVn
   have hQ:=hQn
   have hB:=hBn
   clear hUn hVn hQn hBn
   obtain ⟨t,ht⟩:∃ t,t=a2*4294967296+a1:=⟨_,rfl⟩
   have htI:(a2:Int)*4294967296+a1=(t:Int):=by rw [ht];simp
   have htl:t < 18446744073709551616:=by omega
   obtain ⟨hAt,hT1,hT2⟩:=Kn.at_digit (V:=O1) (U:=U) (p:=p) (j:=j) (M:=p+2+e+1) hO1w hI.out.2.1 (by omega) (by rw [<- ETPD.out];exact hV1) (by rw [<- HD.out];exact hI.out.2.2.2.2.1)
   rw [show j+p+2=x2 from HX2.out.symm,show j+p+1=x1 from HX1.out.symm,<- EA2.out,<- EA1.out,<- ht,<- HD.out,<- ETPD.out,<- ENXT.out] at hAt
   have HT1:=ah hT1
   have HT2:=ah hT2
   clear hT1 hT2
   obtain ⟨T,hT⟩:∃ T,T=Dg.vf (Dg.ld U) (p+2+e+1) / 4294967296 ^ j:=⟨_,rfl⟩
   rw [<- hT] at hAt
   have HT:=ah hT
   obtain ⟨a0,ea0⟩:∃ a,a=Dg.ld U (j+p):=⟨_,rfl⟩
   rw [<- ea0] at hAt
   have EA0:=ah ea0
   have HTE:=ah ht
   clear hT ea0 ht
   rw [htI]
   clear htI
   go_wp2_with fail
   go_step3
   go_upto_block 2 with fail
   go_cut [16] from 71 to 227 (fun qv wx=>∃ q:Nat,qv=.int .u64 q/\q < 4294967296/\Hid (q=T / D ∨ q=T / D+1)/\wx=wr)
   case first =>
    as_aux_lemma =>
    go_wp2_with fail
    go_loop [16,17] (fun qv rv=>∃ q r:Nat,qv=.int .u64 q/\rv=.int .u64 r/\r < 4294967296/\q < 18446744073709551616/\Hid (q*tpd+r=t/\T / D<=q)) (fun qv _=>(intOf qv).toNat)
    case atStart =>
     exact ⟨t / tpd,t % tpd,int_i (by simp),int_i (by simp),Nat.lt_trans (Nat.mod_lt _ (by omega)) htpl,Nat.lt_of_le_of_lt (Nat.div_le_self _ _) htl,ah ⟨by rw [Nat.mul_comm];exact Nat.div_add_mod t tpd,hAt.start⟩⟩
    case round =>
     obtain ⟨q,r,rfl,rfl,hr,hq,hQ⟩:=hrel
     obtain ⟨x0,hx0⟩:∃ x,x=j+p:=⟨_,rfl⟩
     have hc0:=hU.cell (Dg.get_of_ld (L:=U) (i:=x0) (by rw [hI.out.1];omega))
     rw [hx0,<- EA0.out,<- hx0] at hc0
     have hidx:(j:Int)+(p+2)-2=(x0:Int):=by omega
     have hx0l:(x0:Int) < p+2+e+1:=by omega
     clear hx0
     have ha0:a0 < 4294967296:=by rw [EA0.out];exact Dg.ld_word hI.out.2.1 _
     have hor:=or_join r a0 hr ha0
     by_cases hq1:4294967296<=q
     ·have hless:=hAt.less hQ.out.1 (.inl hq1)
      have hq1I:(4294967296:Int)<=(q:Int):=by omega
      have hq0:1<=q:=hless.2
      clear hq1
      obtain ⟨q',hqq⟩:∃ q',q=q'+1:=⟨q-1,by omega⟩
      have HQQ:=ah hqq
      have hqI:(q:Int)-1=(q':Int):=by omega
      have HQI:=ah hqI
      have HLE:=ah (show T / D<=q' by have:=hless.1;rwa [hqq,Nat.add_sub_cancel] at this)
      have HE:=ah (show q'*tpd+(r+tpd)=t by have:=hQ.out.1;rw [hqq,Nat.add_mul,Nat.one_mul] at this;omega)
      have hq1p:(1:Int)<=(q:Int):=by omega
      clear hless hqq hqI
      by_cases hbr:4294967296<=r+tpd
      ·have hb:=hAt.brk HE.out hbr
       have HG:=ah (hAt.guess HLE.out hb.1 hb.2)
       have HBL:=ah hb.1
       have hbrI:(4294967296:Int)<=(r:Int)+tpd:=by omega
       clear hb hbr
       go_wp2
       go_meet
       exact ⟨q',int_i HQI.out,HBL.out,HG.out,rfl⟩
      ·have hbrI:¬ (4294967296:Int)<=(r:Int)+tpd:=by omega
       have HBR:=ah hbr
       clear hbr
       go_wp2
       go_round
       case rel=>exact ⟨q',r+tpd,int_i HQI.out,int_i (by omega),by have:=HBR.out;omega,by have:=HQQ.out;omega,ah ⟨HE.out,HLE.out⟩⟩
       case measure=>simp [intOf];omega
     ·have hq1I:¬ (4294967296:Int)<=(q:Int):=by omega
      have hql:q < 4294967296:=by omega
      have HQL:=ah hql
      obtain ⟨X,hX⟩:∃ X:Int,X=(q:Int)*nxt:=⟨_,rfl⟩
      obtain ⟨Y,hY⟩:∃ Y:Int,Y=(r:Int)*4294967296+a0:=⟨_,rfl⟩
      have hwr:IntKind.u64.wrap ((q:Int)*nxt)=X:=by rw [hX];exact mul_wrap q nxt hql hnxl
      rw [<- hY] at hor
      have HX:=ah hX
      have HY:=ah hY
      clear hX hY
      have hqlI:(q:Int) < 4294967296:=by omega
      clear hq1 hql hq htl
      by_cases hgt:r*4294967296+a0 < q*nxt
      ·have hless:=hAt.less hQ.out.1 (.inr hgt)
       have hq0:1<=q:=hless.2
       have hgtI:Y < X:=by rw [HX.out,HY.out];exact mul_gt hgt
       clear hgt
       obtain ⟨q',hqq⟩:∃ q',q=q'+1:=⟨q-1,by omega⟩
       have HQQ:=ah hqq
       have hqI:(q:Int)-1=(q':Int):=by omega
       have HQI:=ah hqI
       have HLE:=ah (show T / D<=q' by have:=hless.1;rwa [hqq,Nat.add_sub_cancel] at this)
       have HE:=ah (show q'*tpd+(r+tpd)=t by have:=hQ.out.1;rw [hqq,Nat.add_mul,Nat.one_mul] at this;omega)
       have hq1p:(1:Int)<=(q:Int):=by omega
       clear hless hqq hqI
       by_cases hbr:4294967296<=r+tpd
       ·have hb:=hAt.brk HE.out hbr
        have HG:=ah (hAt.guess HLE.out hb.1 hb.2)
        have HBL:=ah hb.1
        have hbrI:(4294967296:Int)<=(r:Int)+tpd:=by omega
        clear hb hbr
        go_wp2
        go_meet
        exact ⟨q',int_i HQI.out,HBL.out,HG.out,rfl⟩
       ·have hbrI:¬ (4294967296:Int)<=(r:Int)+tpd:=by omega
        have HBR:=ah hbr
        clear hbr
        go_wp2
        go_round
        case rel=>exact ⟨q',r+tpd,int_i HQI.out,int_i (by omega),by have:=HBR.out;omega,by have:=HQQ.out;omega,ah ⟨HE.out,HLE.out⟩⟩
        case measure=>simp [intOf];omega
      ·have hfin:=hAt.fin hQ.out.1 (Nat.le_of_not_lt hgt)
       have HG:=ah (hAt.guess hQ.out.2 HQL.out hfin)
       have hgtI:¬ Y < X:=by rw [HX.out,HY.out];exact mul_ngt hgt
       clear hgt hfin
       go_wp2
       go_meet
       exact ⟨q,rfl,HQL.out,HG.out,rfl⟩
   case rest =>
    as_aux_lemma =>
    obtain ⟨q,rfl,hq,hG,rfl⟩:=hcut
    go_wp2_with fail
    go_loopw [18,19,125] (fun bv cv iv wr=>∃ (i br cy:Nat) (V:List Nat),iv=.int .i64 i/\bv=.int .u64 br/\cv=.int .u64 cy/\i<=p+2/\br<=1/\cy < 4294967296/\UB wr gu V/\UB wr gq Q/\UB wr gv O1 /\
     Hid (V.length=p+2+e+3/\Dg.Wd V/\Dg.vf (Dg.ld V) (j+p+2)+q*Dg.vf (Dg.ld O1) i*4294967296 ^ j=Dg.vf (Dg.ld U) (j+p+2)+(cy+br)*4294967296 ^ (i+j)/\∀ x,i+j<=x->Dg.ld V x=Dg.ld U x)/\Below w.heap.size w wr) (fun _ _ iv _=>p+2-(intOf iv).toNat)
    case atStart=>exact ⟨0,0,0,U,rfl,rfl,rfl,nZ,nZ,Kn.pos32,hU,hQ,hV,ah ⟨hI.out.1,hI.out.2.1,Kn.sub_start _ _ _ _,fun _ _=>rfl⟩,hB⟩
    case round =>
     as_aux_lemma =>
     have HQL:=ah hq
     clear hU hQ hV hB hq
     obtain ⟨i,br,cy,V,rfl,rfl,rfl,hi,hbr,hcy,hVU,hQ,hV,hM,hB⟩:=hrel
     by_cases hip:i < p+2
     ·obtain ⟨y,hy⟩:∃ y,y=i+j:=⟨_,rfl⟩
      have hcu:=hVU.cell (Dg.get_of_ld (L:=V) (i:=y) (by rw [hM.out.1];omega))
      have hfu:=hVU.frozen y
      have hcv:=hV.cell (Dg.get_of_ld (L:=O1) (i:=i) (by rw [hO1l.out];omega))
      have hidx:(i:Int)+j=(y:Int):=by omega
      have hyl:(y:Int) < p+2+e+1:=by omega
      have HY:=ah hy
      clear hy
      obtain ⟨u,eu⟩:∃ u,u=Dg.ld V y:=⟨_,rfl⟩
      obtain ⟨v,ev⟩:∃ v,v=Dg.ld O1 i:=⟨_,rfl⟩
      rw [<- eu] at hcu
      rw [<- ev] at hcv
      have hul:u < 4294967296:=by rw [eu];exact Dg.ld_word hM.out.2.1 _
      have hvl:v < 4294967296:=by rw [ev];exact Dg.ld_word hO1w _
      obtain ⟨pv,pr,pl,cy',w1',dd,dl,br',m1,m2,m3,m4,m5,m6,m7,m8,m9,m10,m11,m12,m13,m14,m15⟩:=Kn.msub_nums q v cy br u HQL.out hvl hcy hbr hul
      have EU:=ah eu
      have EV:=ah ev
      have hmul:IntKind.u64.wrap ((q:Int)*v)=(pv:Int):=by rw [m1];exact (mul_wrap q v HQL.out hvl).trans (Int.natCast_mul q v).symm
      have hadd:IntKind.u64.wrap ((pv:Int)+cy)=(pr:Int):=by rw [u64_in _ (by omega),m3];simp
      have hand:bits .and .u64 (pr:Int) 4294967295=(pl:Int):=and_low pr pl m4 m5
      have hsub:IntKind.u64.wrap ((u:Int)-pl)=(w1':Int):=by rw [u64_wrap',<- m8]
      have hsub2:IntKind.u64.wrap ((w1':Int)-br)=(dd:Int):=by rw [u64_wrap',<- m9]
      have hcy':(pr:Int) / 4294967296=(cy':Int):=by rw [m6];simp
      have hdl:(dd:Int) % 4294967296=(dl:Int):=by rw [m10];simp
      have hbr':(dd:Int) / 9223372036854775808=(br':Int):=by rw [m11];simp
      have hN:Hid (Dg.vf (Dg.ld (V.set y dl)) (j+p+2)+q*Dg.vf (Dg.ld O1) (i+1)*4294967296 ^ j=Dg.vf (Dg.ld U) (j+p+2)+(cy'+br')*4294967296 ^ (i+1+j)):=ah (by
       rw [Dg.vf_succ (Dg.ld O1) i,<- EV.out]
       refine Kn.msub hM.out.2.2.1 ?_ m14 m15
       have:=Dg.vf_set_in dl (U:=V) (k:=y) (by rw [hM.out.1];omega) (n:=j+p+2) (by have:=HY.out;omega)
       rw [<- EU.out,HY.out] at this
       rw [HY.out]
       exact this)
      have HCY:=ah hcy'
      have HDL:=ah hdl
      have HBR:=ah hbr'
      have M7:=ah m7
      clear eu ev m1 m2 m3 m4 m5 m6 m7 m8 m9 m10 m11 m14 m15 hcy' hdl hbr'
      have hU1:UB (wr.setCell ⟨gu,y,none⟩ (.int .u32 ((dd:Int) % 4294967296))) gu (V.set y dl):=by rw [HDL.out];exact hVU.set y dl
      have hQ1:=hQ.far (p:=⟨gu,y,none⟩) (Nat.ne_of_gt hguq) (.int .u32 ((dd:Int) % 4294967296))
      have hV1':=hV.far (p:=⟨gu,y,none⟩) (Nat.ne_of_lt hgvu) (.int .u32 ((dd:Int) % 4294967296))
      have hB1:=hB.setCell (p:=⟨gu,y,none⟩) (by show w.heap.size<=gu;omega) (.int .u32 ((dd:Int) % 4294967296))
      go_wp2
      go_roundw
      case rel=>exact ⟨i+1,br',cy',_,by go_num,int_i HBR.out,int_i HCY.out,by omega,m12,M7.out,hU1,hQ1,hV1',ah ⟨by rw [List.length_set];exact hM.out.1,hM.out.2.1.set y m13,hN.out,fun x hx=>by rw [Dg.ld_set_other dl (by have:=HY.out;omega)];exact hM.out.2.2.2 x (by omega)⟩,hB1⟩
      case measure=>simp [intOf];omega
     ·obtain rfl:i=p+2:=by omega
      have hDl:D < 4294967296 ^ (p+2):=by rw [HD.out];exact Dg.vf_lt (Dg.ld_word hO1w) _
      have hD0:0 < D:=by
       rcases Nat.eq_zero_or_pos D with h0 | h0
       ·have:=hAt.lt;rw [h0,Nat.zero_mul] at this;exact absurd this (Nat.not_lt_zero _)
       ·exact h0
      have hpw:p+2+j=j+p+2:=by omega
      have hVl:Dg.vf (Dg.ld V) (j+p+2) < 4294967296 ^ (j+p+2):=Dg.vf_lt (Dg.ld_word hM.out.2.1) _
      have hW:D*4294967296 ^ j<=4294967296 ^ (j+p+2):=by
       have:=Nat.mul_le_mul_right (4294967296 ^ j) (Nat.le_of_lt hDl)
       rwa [<- Nat.pow_add,hpw] at this
      have hE1:=hM.out.2.2.1
      rw [<- HD.out,hpw] at hE1
      have hE2:Dg.vf (Dg.ld U) (p+2+e+1)=Dg.vf (Dg.ld U) (j+p+2)+a2*4294967296 ^ (j+p+2):=by rw [HT2.out,Dg.vf_succ,EA2.out,HX2.out]
      have HTOP:=ah (Kn.top_all hE1 hE2 hVl hW HT.out (Nat.pow_pos (by decide)) hD0)
      have HQH:=ah (cJ hDl (cJ hD0 hVl))
      clear hE1 hE2 hVl hW hpw hDl hD0
      have HV2:=ah (show Dg.ld V x2=a2 by rw [hM.out.2.2.2 x2 (by have:=HX2.out;omega),EA2.out])
      have hx2V:x2 < p+2+e+1:=by omega
      have hc2:=hVU.cell (Dg.get_of_ld (L:=V) (i:=x2) (by rw [hM.out.1];omega))
      rw [HV2.out] at hc2
      have hf2:=hVU.frozen x2
      have hcq:=hQ.cell (Dg.get_of_ld (L:=Q) (i:=j) (by rw [hI.out.2.2.1];omega))
      generalize Dg.ld Q j=qq0 at hcq
      have hfq:=hQ.frozen j
      have hidx:(j:Int)+(p+2)=(x2:Int):=by have:=HX2.out;omega
      rcases hG.out with hq1 | hq1
      ·obtain ⟨h1,h2,h3⟩:=HTOP.out.1 hq1
       have H23:=ah (cJ h2 h3)
       have HQ1:=ah hq1
       have hsA:IntKind.u64.wrap ((a2:Int)-cy)=(br:Int):=by rw [IntWalk.u64_in _ (by omega)];omega
       have H1:=ah h1
       have HVF:=ah (Kn.vf_top (V:=V) HX2.out hx2V (by rw [hM.out.1];omega) HQH.out.1 hI.out.2.2.2.2.1 (fun x a=>hM.out.2.2.2 x (by have:=HX2.out;omega)))
       have HIN:=ah (cJ (show Dg.vf (Dg.ld (V.set x2 0)) (p+2+e+1) < D*4294967296 ^ j by rw [HVF.out];exact h3) (show Dg.val ((Q.set j q).drop j)*(D*4294967296 ^ j)+Dg.vf (Dg.ld (V.set x2 0)) (p+2+e+1)=Dg.val L*2 ^ s by
        rw [HVF.out];exact Kn.dig_step (by rw [hI.out.2.2.1];omega) hI.out.2.2.2.2.2 (by rw [hq1];exact h2)))
       have hql:=HQL.out
       have hjl:(j:Int) < e+1:=by omega
       clear h1 h2 h3 hq1
       go_wp2
       rw [Exit.noGoto_normal]
       go_wp2
       go_roundw
       case rel=>exact ⟨j,V.set x2 0,Q.set j q,rfl,by omega,(hVU.set x2 0).far (p:=⟨gq,j,none⟩) (Nat.ne_of_lt hguq) _,(hQ.far (p:=⟨gu,x2,none⟩) (Nat.ne_of_gt hguq) _).set j q,(hV.far (p:=⟨gu,x2,none⟩) (Nat.ne_of_lt hgvu) _).far (p:=⟨gq,j,none⟩) (Nat.ne_of_lt (Nat.lt_trans hgvu hguq)) _,
        ah ⟨by rw [List.length_set];exact hM.out.1,hM.out.2.1.set x2 Kn.pos32,by rw [List.length_set];exact hI.out.2.2.1,hI.out.2.2.2.1.set j HQL.out,HIN.out.1,HIN.out.2⟩,(hB.setCell (p:=⟨gu,x2,none⟩) (nT hgw (Nat.le_of_lt hgvu)) _).setCell (p:=⟨gq,j,none⟩) (nT hgw (Nat.le_of_lt (Nat.lt_trans hgvu hguq))) _⟩
       case measure=>simp [intOf]
      ·obtain ⟨h1,h2⟩:=HTOP.out.2 hq1
       have H2:=ah h2
       obtain ⟨q',hqq⟩:∃ q',q'=T / D:=⟨_,rfl⟩
       rw [<- hqq] at hq1
       have HQQ:=ah hqq
       have hqI:(q:Int)-1=(q':Int):=by omega
       have hq1p:(1:Int)<=(q:Int):=by omega
       have hqlt:=HQL.out
       have HQL':=ah (show q' < 4294967296 by omega)
       obtain ⟨X1,hX1⟩:∃ X1:Nat,(X1:Int)=((a2:Int)-cy) % 18446744073709551616:=⟨(((a2:Int)-cy) % 18446744073709551616).toNat,by omega⟩
       have hsA:IntKind.u64.wrap ((a2:Int)-cy)=(X1:Int):=by rw [u64_wrap',hX1]
       have hsB:IntKind.u64.wrap ((X1:Int)-br)=18446744073709551615:=by rw [u64_wrap'];omega
       clear h1 h2 hq1 hX1 hqq
       go_wp2_with fail
       have hU1:=hVU.set x2 4294967295
       have hQ1:=hQ.far (p:=⟨gu,x2,none⟩) (Nat.ne_of_gt hguq) (.int .u32 ((4294967295:Nat):Int))
       have hV1':=hV.far (p:=⟨gu,x2,none⟩) (Nat.ne_of_lt hgvu) (.int .u32 ((4294967295:Nat):Int))
       have hB1:=hB.setCell (p:=⟨gu,x2,none⟩) (nT hgw (Nat.le_of_lt hgvu)) (.int .u32 ((4294967295:Nat):Int))
       rw [show ((4294967295:Nat):Int)=4294967295 from rfl] at hU1 hQ1 hV1' hB1
       generalize wr.setCell ⟨gu,x2,none⟩ (.int .u32 4294967295)=W5 at hU1 hQ1 hV1' hB1 ⊢
       have HVL:=ah (show (V.set x2 4294967295).length=p+2+e+3/\Dg.Wd (V.set x2 4294967295)/\Dg.vf (Dg.ld (V.set x2 4294967295)) (j+p+2)=Dg.vf (Dg.ld V) (j+p+2)/\Dg.ld (V.set x2 4294967295) x2=4294967295/\∀ x,x2 < x->Dg.ld (V.set x2 4294967295) x=Dg.ld U x from
        ⟨by rw [List.length_set];exact hM.out.1,hM.out.2.1.set x2 (by decide),Dg.vf_set _ (Nat.le_of_eq HX2.out.symm),Dg.ld_set_same _ (by rw [hM.out.1];omega),fun x a=>by rw [Dg.ld_set_other _ (by omega),hM.out.2.2.2 x (by have:=HX2.out;omega)]⟩)
       generalize V.set x2 4294967295=V1 at hU1 HVL
       clear hVU hQ hV hB hc2 hf2 hcq hfq hsA hsB hqI hq1p hidx
       go_wp2_with fail
       go_loopw [24,185] (fun cv iv wr=>∃ (i c:Nat) (Y:List Nat),iv=.int .i64 i/\cv=.int .u64 c/\i<=p+2/\c<=1/\UB wr gu Y/\UB wr gq Q/\UB wr gv O1 /\
        Hid (Y.length=p+2+e+3/\Dg.Wd Y/\Dg.vf (Dg.ld Y) (j+p+2)+c*4294967296 ^ (i+j)=Dg.vf (Dg.ld V) (j+p+2)+Dg.vf (Dg.ld O1) i*4294967296 ^ j/\∀ x,i+j<=x->Dg.ld Y x=Dg.ld V1 x)/\Below w.heap.size w wr) (fun _ iv _=>p+2-(intOf iv).toNat)
       case atStart=>exact ⟨0,0,V1,rfl,rfl,nZ,nZ,hU1,hQ1,hV1',ah ⟨HVL.out.1,HVL.out.2.1,by rw [HVL.out.2.2.1];exact Kn.back_start _ _ _,fun _ _=>rfl⟩,hB1⟩
       case round =>
        as_aux_lemma =>
        clear hU1 hQ1 hV1' hB1
        obtain ⟨i,cc,Y,rfl,rfl,hi,hcc,hYU,hQ,hV,hN,hB⟩:=hrel
        by_cases hip:i < p+2
        ·obtain ⟨y,hy⟩:∃ y,y=i+j:=⟨_,rfl⟩
         have hyN:y < p+2+e+3:=by omega
         have hcu:=hYU.cell (Dg.get_of_ld (L:=Y) (i:=y) (by rw [hN.out.1];exact hyN))
         have hfu:=hYU.frozen y
         have hcv:=hV.cell (Dg.get_of_ld (L:=O1) (i:=i) (by rw [hO1l.out];omega))
         obtain ⟨u,eu⟩:∃ u,u=Dg.ld Y y:=⟨_,rfl⟩
         obtain ⟨v,ev⟩:∃ v,v=Dg.ld O1 i:=⟨_,rfl⟩
         rw [<- eu] at hcu
         rw [<- ev] at hcv
         have hul:u < 4294967296:=by rw [eu];exact Dg.ld_word hN.out.2.1 _
         have hvl:v < 4294967296:=by rw [ev];exact Dg.ld_word hO1w _
         have EU:=ah eu
         have EV:=ah ev
         obtain ⟨S,hS⟩:∃ S,S=u+v+cc:=⟨_,rfl⟩
         obtain ⟨X,hX⟩:∃ X,X=u+v:=⟨_,rfl⟩
         have hsum1:IntKind.u64.wrap ((u:Int)+v)=(X:Int):=by rw [u64_in _ (by omega),hX];simp
         have hsum2:IntKind.u64.wrap ((X:Int)+cc)=(S:Int):=by rw [u64_in _ (by omega),hS,hX];simp
         have hSl:S < 8589934592:=by omega
         have hidx:IntKind.i64.wrap ((i:Int)+j)=(y:Int):=by rw [IntWalk.i64_in _ (by omega)];omega
         have hidx':(i:Int)+j=(y:Int):=by omega
         have hyl:(y:Int) < p+2+e+1:=by omega
         have hil:(i:Int) < p+2:=by omega
         have HY:=ah hy
         have HS:=ah hS
         clear hy hS hX eu ev
         go_wp2_with fail
         go_quiet (fail)
         clear hsum1 hsum2 hidx hcu hcv hfu
         have hUn:=hYU.drewN nq
         have hVn:=hV.drewN nq
         have hQn:=hQ.drewN nq
         have hBn:Below w.heap.size w (wr.drewN nq):=⟨hB.os,hB.tape,hB.output,hB.size,hB.block⟩
         clear hYU hV hQ hB
         generalize wr.drewN nq=wr at hUn hVn hQn hBn ⊢
         have hcu:=hUn.cell (Dg.get_of_ld (L:=Y) (i:=y) (by rw [hN.out.1];exact hyN))
         rw [<- EU.out] at hcu
         have hfu:=hUn.frozen y
         obtain ⟨sl,hsl⟩:∃ sl,sl=S % 4294967296:=⟨_,rfl⟩
         obtain ⟨c',hc'⟩:∃ c',c'=S / 4294967296:=⟨_,rfl⟩
         have hc1:c'<=1:=by omega
         have hsl1:sl < 4294967296:=by omega
         have hsI:(S:Int) % 4294967296=(sl:Int):=by omega
         have hcI:(S:Int) / 4294967296=(c':Int):=by omega
         have HB:=ah (Kn.back (u:=u) (sl:=sl) (c':=c') (v:=v) hN.out.2.2.1 (X':=Dg.vf (Dg.ld (Y.set y sl)) (j+p+2)) (by
          have:=Dg.vf_set_in sl (U:=Y) (k:=y) (by rw [hN.out.1];exact hyN) (n:=j+p+2) (by have:=HY.out;omega)
          rw [<- EU.out,HY.out] at this
          rw [HY.out]
          exact this) (by rw [<- HS.out];omega))
         have HCI:=ah hcI
         have HSI:=ah hsI
         clear hsl hc' hcI hsI
         have hU2:UB (wr.setCell ⟨gu,y,none⟩ (.int .u32 ((S:Int) % 4294967296))) gu (Y.set y sl):=by rw [HSI.out];exact hUn.set y sl
         have hQ2:=hQn.far (p:=⟨gu,y,none⟩) (Nat.ne_of_gt hguq) (.int .u32 ((S:Int) % 4294967296))
         have hV2:=hVn.far (p:=⟨gu,y,none⟩) (Nat.ne_of_lt hgvu) (.int .u32 ((S:Int) % 4294967296))
         have hB2:=hBn.setCell (p:=⟨gu,y,none⟩) (nT hgw (Nat.le_of_lt hgvu)) (.int .u32 ((S:Int) % 4294967296))
         go_wp2
         go_roundw
         case rel=>exact ⟨i+1,c',Y.set y sl,by go_num,int_i HCI.out,hip,hc1,hU2,hQ2,hV2,ah ⟨by rw [List.length_set];exact hN.out.1,hN.out.2.1.set y hsl1,by rw [Dg.vf_succ (Dg.ld O1) i,<- EV.out];exact HB.out,fun x hx=>by rw [Dg.ld_set_other sl (by have:=HY.out;omega)];exact hN.out.2.2.2 x (by omega)⟩,hB2⟩
         case measure=>simp [intOf];omega
        ·obtain rfl:i=p+2:=by omega
         have hpw:p+2+j=j+p+2:=by omega
         have hE:=hN.out.2.2.1
         rw [<- HD.out,hpw] at hE
         obtain ⟨g1,g2,g3⟩:=Kn.back_end (VV:=Dg.vf (Dg.ld Y) (j+p+2)) (T:=T) hE H2.out (Dg.vf_lt (Dg.ld_word hN.out.2.1) _) hcc HT.out (Nat.pow_pos (by decide)) HQH.out.2.1
         have hx2N:x2 < p+2+e+3:=by omega
         have HYX:=ah (show Dg.ld Y x2=4294967295 by rw [hN.out.2.2.2 x2 (by have:=HX2.out;omega)];exact HVL.out.2.2.2.1)
         have HVF:=ah (Kn.vf_top (V:=Y) HX2.out hx2V (by rw [hN.out.1];exact hx2N) HQH.out.1 hI.out.2.2.2.2.1 (fun x a=>by rw [hN.out.2.2.2 x (by have:=HX2.out;omega)];exact HVL.out.2.2.2.2 x a))
         have HIN:=ah (cJ (show Dg.vf (Dg.ld (Y.set x2 0)) (p+2+e+1) < D*4294967296 ^ j by rw [HVF.out];exact g3) (show Dg.val ((Q.set j q').drop j)*(D*4294967296 ^ j)+Dg.vf (Dg.ld (Y.set x2 0)) (p+2+e+1)=Dg.val L*2 ^ s by
          rw [HVF.out];exact Kn.dig_step (by rw [hI.out.2.2.1];omega) hI.out.2.2.2.2.2 (by rw [HQQ.out];exact g2)))
         subst g1
         have hc2:=hYU.cell (Dg.get_of_ld (L:=Y) (i:=x2) (by rw [hN.out.1];exact hx2N))
         rw [HYX.out] at hc2
         have hf2:=hYU.frozen x2
         have hcq:=hQ.cell (Dg.get_of_ld (L:=Q) (i:=j) (by rw [hI.out.2.2.1];omega))
         generalize Dg.ld Q j=qq0 at hcq
         have hfq:=hQ.frozen j
         have hidx:(j:Int)+(p+2)=(x2:Int):=by have:=HX2.out;omega
         have hql:=HQL'.out
         have hjl:(j:Int) < e+1:=by omega
         clear g2 g3 hE hpw
         go_wp2
         rw [Exit.noGoto_normal]
         go_wp2
         go_roundw
         case rel=>exact ⟨j,Y.set x2 0,Q.set j q',rfl,by omega,(hYU.set x2 0).far (p:=⟨gq,j,none⟩) (Nat.ne_of_lt hguq) _,(hQ.far (p:=⟨gu,x2,none⟩) (Nat.ne_of_gt hguq) _).set j q',(hV.far (p:=⟨gu,x2,none⟩) (Nat.ne_of_lt hgvu) _).far (p:=⟨gq,j,none⟩) (Nat.ne_of_lt (Nat.lt_trans hgvu hguq)) _,
          ah ⟨by rw [List.length_set];exact hN.out.1,hN.out.2.1.set x2 Kn.pos32,by rw [List.length_set];exact hI.out.2.2.1,hI.out.2.2.2.1.set j HQL'.out,HIN.out.1,HIN.out.2⟩,(hB.setCell (p:=⟨gu,x2,none⟩) (nT hgw (Nat.le_of_lt hgvu)) _).setCell (p:=⟨gq,j,none⟩) (nT hgw (Nat.le_of_lt (Nat.lt_trans hgvu hguq))) _⟩
         case measure=>simp [intOf]
end Go.Proofs.YtjnklbfhelbjgaaGreat
