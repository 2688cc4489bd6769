/- Sc01. -/
import Derived.Test.YtjnklbfhelbjgaaGreatSc00
set_option maxRecDepth 100000
set_option maxHeartbeats 32000000
set_option linter.all false
namespace Go.Proofs.YtjnklbfhelbjgaaGreat
open Go.RowKit Go.IntWalk
theorem make_left (k:Nat)(hn:k<=17592186044410)(w:World) :
  (Instr.makeSlice 23 (.int .i64 0) (.int .i64 ((k:Int)+3))).run Tryz.prog w=.ok (.slice (some ⟨w.heap.size,0,none⟩) 0 (k+3)) (w.alloc (.cells (madeCells #[.int .u32 0] (k+3)) 171)):=by
 obtain ⟨i,hi,hzz⟩:=Option.map_eq_some_iff.1 infoW
 simp only [Prod.mk.injEq] at hzz
 obtain ⟨hz,hs,hb⟩:=hzz
 have hr:=run_make (P:=Tryz.prog) w 23 171 i _ Tryz.underlying23 hi hz .i64 .i64 0 (k+3) (by omega) (by omega) (by rw [hb];omega) (by omega)
 have e3:((k:Int)+3).toNat=k+3:=by omega
 simpa [hs,Value.cells,e3] using hr
theorem pow_le31 {s:Nat}(hs:s < 32):2 ^ s<=2147483648:=Nat.pow_le_pow_right (by omega) (show s<=31 by omega)
theorem pow_dvd32 {s:Nat}(hs:s < 32):2 ^ s ∣ 4294967296:=⟨2 ^ (32-s),by rw [<- Nat.pow_add,show s+(32-s)=32 by omega]⟩
theorem left_mul {x s:Nat}(hx:x < 4294967296)(hs:s < 32):x*2 ^ s<=9223372034707292160:=by
 have:=Nat.mul_le_mul (show x<=4294967295 by omega) (pow_le31 hs)
 omega
theorem left_low {x s q:Nat}(hs:s < 32)(hq:q < 2 ^ s):x*2 ^ s % 4294967296+q < 4294967296/\x*2 ^ s % 4294967296 ||| q=x*2 ^ s % 4294967296+q:=by
 have hd:2 ^ s ∣ x*2 ^ s % 4294967296:=(Nat.dvd_mod_iff (pow_dvd32 hs)).2 (Nat.dvd_mul_left _ _)
 obtain ⟨e,he⟩:=hd
 obtain ⟨f,hf⟩:=pow_dvd32 hs
 have hlt:x*2 ^ s % 4294967296 < 4294967296:=Nat.mod_lt _ (by omega)
 constructor
 ·rw [he]
  rw [he,hf] at hlt
  have hef:e+1<=f:=Nat.lt_of_mul_lt_mul_left hlt
  have:=Nat.mul_le_mul_left (2 ^ s) hef
  rw [<- hf,Nat.mul_add] at this
  omega
 ·refine nat_join s _ _ ?_ hq
  rw [he]
  exact Nat.mul_mod_right _ _
theorem left_dig {x s q:Nat}(hs:s < 32)(hq:q < 2 ^ s):bits .or .u32 ((x:Int)*2 ^ s % 4294967296) (q:Int)=((x*2 ^ s % 4294967296+q:Nat):Int):=by
 have e:(x:Int)*2 ^ s % 4294967296=((x*2 ^ s % 4294967296:Nat):Int):=by simp
 have h31:=pow_le31 hs
 rw [e,u32_or_nat _ _ (Nat.mod_lt _ (by omega)) (by omega),(left_low hs hq).2]
theorem left_car {x s:Nat}(hx:x < 4294967296)(hs:s < 32):IntKind.u64.wrap ((x:Int)*2 ^ s) / 4294967296 % 4294967296=((x*2 ^ s / 4294967296:Nat):Int)/\x*2 ^ s / 4294967296 < 2 ^ s:=by
 have h1:=left_mul hx hs
 have e:(x:Int)*2 ^ s=((x*2 ^ s:Nat):Int):=by simp
 constructor
 ·rw [e,u64_in _ (by omega)];omega
 ·rw [Nat.div_lt_iff_lt_mul (by omega),Nat.mul_comm]
  exact Nat.mul_lt_mul_of_pos_left hx (Nat.two_pow_pos s)
theorem left_any (s:Nat){A:Option Addr}{n c:Nat}{L:List Nat}{w:World}(h:RdU w w.heap.size A n c L)(hn:n<=8796093022207)(hs:s < 32) :
  Calls Tryz.prog 253 #[.slice A n c,.int .i64 s] w fun e w'=>∃ (m k:Nat) (O:List Nat),e=.returned (.slice (some ⟨w.heap.size,0,none⟩) m (k+3))/\UB w' w.heap.size O /\
   Hid (k=(Dg.dg (Dg.val L)).length/\O.length=k+3/\Dg.Wd O/\(m=k ∨ m=k+1/\4294967296 ^ k<=Dg.val L*2 ^ s)/\Dg.val (O.take m)=Dg.val L*2 ^ s)/\Below w.heap.size w w':=by
 have HLEN:=ah h.len
 have hsr:((s:Int)).tdiv 32=0:=by rw [Int.tdiv_eq_ediv_of_nonneg (by omega)];omega
 have hsm:((s:Int)).tmod 32=s:=by rw [Int.tmod_eq_emod_of_nonneg (by omega)];omega
 go_enter Tryz.func253,Tryz.ntmps253
 go_wp2_with fail
 refine (trim_any h (by omega)).mono ?_
 rintro _ _ ⟨k,rfl,hk,rfl⟩
 have hkn:k<=n:=by have:=hk.out.1;rw [HLEN.out] at this;exact this
 have hT:=h.take hkn
 rw [hk.out.2] at hT
 have hmk:=make_left k (by omega)
 have hB0:=(Below.refl w.heap.size w).alloc nR (.cells (madeCells #[.int .u32 0] (k+3)) 171)
 have hU0:=UB.made w (k+3)
 go_wp2_with fail
 generalize w.alloc (.cells (madeCells #[.int .u32 0] (k+3)) 171)=W1 at hB0 hU0 ⊢
 clear hmk
 obtain ⟨g,hg⟩:∃ g,g=w.heap.size:=⟨_,rfl⟩
 rw [<- hg] at hU0 ⊢
 have HG:=ah hg
 clear hg
 go_wp2_with fail
 go_loopw [5,6,22] (fun out cy i wr=>∃ (j q:Nat) (O:List Nat),i=.int .i64 j/\cy=.int .u32 q/\out=.slice (some ⟨g,0,none⟩) j (k+3)/\j<=k/\q < 2 ^ s/\UB wr g O /\
  Hid (O.length=k+3/\Dg.Wd O/\Dg.vf (Dg.ld O) j+q*4294967296 ^ j=Dg.vf (Dg.ld (Dg.dg (Dg.val L))) j*2 ^ s)/\Below w.heap.size w wr) (fun _ _ i _=>k-(intOf i).toNat)
 case atStart =>
  exact ⟨0,0,_,rfl,rfl,rfl,nZ,Nat.two_pow_pos s,hU0,ah ⟨by simp,Dg.Wd.zeros _,by simp [Dg.vf]⟩,hB0⟩
 case round =>
  clear hU0 hB0
  obtain ⟨j,q,O,rfl,rfl,rfl,hj,hq,hU,hO,hB⟩:=hrel
  by_cases hjk:j < k
  ·obtain ⟨hx,ad,rfl,hbx,hcx⟩:=hT.at_ j (Dg.ld (Dg.dg (Dg.val L)) j) (Dg.get_of_ld (by rw [hT.len];exact hjk))
   have hcx:=(hB.cell (p:=ad.add j) (by rw [add_blk];exact hbx)).trans hcx
   obtain ⟨x,ex⟩:∃ x,x=Dg.ld (Dg.dg (Dg.val L)) j:=⟨_,rfl⟩
   rw [<- ex] at hx hcx
   have EX:=ah ex
   clear ex
   have hcell:=hU.cell (Dg.get_of_ld (L:=O) (i:=j) (by rw [hO.out.1];omega))
   generalize Dg.ld O j=o0 at hcell
   have hfz:=hU.frozen j
   have hgl:=hU.lt
   have hdig:=left_dig (x:=x) hs hq
   have hcar:=left_car hx hs
   have hlow:=left_low (x:=x) hs hq
   obtain ⟨dg,hdg⟩:∃ dg,dg=x*2 ^ s % 4294967296+q:=⟨_,rfl⟩
   obtain ⟨cy,hcy⟩:∃ cy,cy=x*2 ^ s / 4294967296:=⟨_,rfl⟩
   have hU1:UB ((wr.setCell ⟨g,j,none⟩ (.int .u32 (bits BinOp.or .u32 ((x:Int)*2 ^ s % 4294967296) q))).alloc (.cells #[.int .u32 (bits BinOp.or .u32 ((x:Int)*2 ^ s % 4294967296) q)] 171)) g (O.set j dg):=by
    rw [hdig,<- hdg];exact (hU.set j dg).alloc _
   have hB1:=(hB.setCell (p:=⟨g,j,none⟩) (by show w.heap.size<=g;have:=HG.out;omega) (.int .u32 (bits BinOp.or .u32 ((x:Int)*2 ^ s % 4294967296) q))).alloc (by simp [World.setCell];exact hB.size) (.cells #[.int .u32 (bits BinOp.or .u32 ((x:Int)*2 ^ s % 4294967296) q)] 171)
   have HD:=ah hdg
   have HC:=ah (show IntKind.u64.wrap ((x:Int)*2 ^ s) / 4294967296 % 4294967296=(cy:Int) by rw [hcy];exact hcar.1)
   have HCY:=ah hcy
   have hdl:dg < 4294967296:=by rw [hdg];exact hlow.1
   have hcl:cy < 2 ^ s:=by rw [hcy];exact hcar.2
   have HI:Hid (Dg.vf (Dg.ld (O.set j dg)) (j+1)+cy*4294967296 ^ (j+1)=Dg.vf (Dg.ld (Dg.dg (Dg.val L))) (j+1)*2 ^ s):=ah (by
    have e:=hO.out.2.2
    have hdm:=Nat.div_add_mod (x*2 ^ s) 4294967296
    rw [Dg.vf_succ,Dg.vf_succ,Dg.ld_set_same dg (by rw [hO.out.1];omega),Dg.vf_set dg (Nat.le_refl j),<- EX.out,hdg,hcy,Nat.pow_succ]
    rw [Nat.add_mul (Dg.vf (Dg.ld (Dg.dg (Dg.val L))) j),<- e]
    have h3:(4294967296*(x*2 ^ s / 4294967296)+x*2 ^ s % 4294967296)*4294967296 ^ j=x*2 ^ s*4294967296 ^ j:=by rw [hdm]
    generalize x*2 ^ s / 4294967296=u at *
    generalize x*2 ^ s % 4294967296=v at *
    generalize 4294967296 ^ j=B at *
    grind)
   clear hdig hcar hdg hcy hlow
   go_wp2
   go_roundw
   case rel=>exact ⟨j+1,cy,_,by go_num,int_i HC.out,rfl,hjk,hcl,hU1,ah ⟨by rw [List.length_set];exact hO.out.1,hO.out.2.1.set j hdl,HI.out⟩,hB1⟩
   case measure=>simp [intOf];omega
  ·obtain rfl:j=k:=by omega
   have hkl:(Dg.dg (Dg.val L)).length=j:=hT.len
   have hvv:Dg.vf (Dg.ld (Dg.dg (Dg.val L))) j=Dg.val L:=by rw [Dg.vf_eq_val (by rw [hkl];exact nR),Dg.val_dg]
   have HI:=ah (show Dg.vf (Dg.ld O) j+q*4294967296 ^ j=Dg.val L*2 ^ s by rw [<- hvv];exact hO.out.2.2)
   have HKL:=ah hkl
   clear hkl hvv
   have h31:=pow_le31 hs
   have htake:∀ (P:List Nat) (m:Nat),m<=P.length->Dg.val (P.take m)=Dg.vf (Dg.ld P) m:=fun P m hm=>by
    rw [<- Dg.vf_eq_val (L:=P.take m) (n:=m) (by simp;omega)]
    exact Dg.vf_congr fun i hi=>by rw [Dg.ld_lt (by rw [List.length_take];omega),Dg.ld_lt (by omega),List.getElem_take]
   have HTK:=ah htake
   clear htake
   by_cases hq0:q=0
   ·subst hq0
    go_wp2
    go_ret
    refine ⟨j,j,O,by rw [<- HG.out];rfl,by rw [<- HG.out];exact hU,ah ⟨HKL.out.symm,hO.out.1,hO.out.2.1,.inl rfl,?_⟩,hB⟩
    rw [HTK.out O j (by rw [hO.out.1];omega),<- HI.out]
    simp
   ·have hqn:((q:Int) != 0)=true:=by simp;omega
    have hq1:1<=q:=by omega
    clear hq0
    have hcell:=hU.cell (Dg.get_of_ld (L:=O) (i:=j) (by rw [hO.out.1];omega))
    generalize Dg.ld O j=o0 at hcell
    have hfz:=hU.frozen j
    have hgl:=hU.lt
    have hU1:=(hU.set j q).alloc (.cells #[.int .u32 q] 171)
    have hB1:=(hB.setCell (p:=⟨g,j,none⟩) (by show w.heap.size<=g;have:=HG.out;omega) (.int .u32 q)).alloc (by simp [World.setCell];exact hB.size) (.cells #[.int .u32 q] 171)
    go_wp2
    go_ret
    refine ⟨j+1,j,O.set j q,by rw [<- HG.out];rfl,by rw [<- HG.out];exact hU1,ah ⟨HKL.out.symm,by rw [List.length_set];exact hO.out.1,hO.out.2.1.set j (by omega),.inr ⟨rfl,?_⟩,?_⟩,hB1⟩
    ·rw [<- HI.out]
     have:=Nat.mul_le_mul_right (4294967296 ^ j) hq1
     omega
    ·rw [HTK.out _ (j+1) (by rw [List.length_set,hO.out.1];omega),Dg.vf_succ,Dg.ld_set_same q (by rw [hO.out.1];omega),Dg.vf_set q (Nat.le_refl j),HI.out]
theorem or_hi (x y:Nat)(hx:x < 4294967296)(hy:y < 4294967296):bits .or .u64 (x:Int) ((y:Int)*4294967296)=((x+4294967296*y:Nat):Int):=by
 have e:(y:Int)*4294967296=((y*4294967296:Nat):Int):=by simp
 rw [e,u64_or_nat _ _ (by omega) (by omega),Nat.or_comm,nat_join 32 _ _ (by rw [show (2:Nat) ^ 32=4294967296 from rfl];omega) (by rw [show (2:Nat) ^ 32=4294967296 from rfl];exact hx)]
 congr 1
 omega
theorem right_any (s:Nat){A:Option Addr}{n c:Nat}{L:List Nat}{w:World}(h:RdU w w.heap.size A n c L)(hn:n<=8796093022207)(hs:s < 32) :
  Calls Tryz.prog 254 #[.slice A n c,.int .i64 s] w fun e w'=>∃ (A:Option Addr) (m c x:Nat),e=.returned (.tuple #[.slice A m c,.int .i64 0])/\OwU w' w.heap.size A m c (Dg.dg x)/\Hid (x=Dg.val L / 2 ^ s)/\Below w.heap.size w w':=by
 have HLEN:=ah h.len
 have hsr:((s:Int)).tdiv 32=0:=by rw [Int.tdiv_eq_ediv_of_nonneg (by omega)];omega
 have hsm:((s:Int)).tmod 32=s:=by rw [Int.tmod_eq_emod_of_nonneg (by omega)];omega
 go_enter Tryz.func254,Tryz.ntmps254
 go_wp2_with fail
 refine (trim_any h (by omega)).mono ?_
 rintro _ _ ⟨k,rfl,hk,rfl⟩
 have hkn:k<=n:=by have:=hk.out.1;rw [HLEN.out] at this;exact this
 have hT:=h.take hkn
 rw [hk.out.2] at hT
 rcases Nat.eq_zero_or_pos k with h0 | h0
 ·subst h0
  have hz:=Dg.dg_nil.1 (hk.out.2.symm.trans (List.take_zero))
  have HZ:=ah hz
  clear hz
  go_wp2
  go_ret2
  exact ⟨none,0,0,0,rfl,by rw [Dg.dg_zero];exact OwU.nil w _,ah (by rw [HZ.out];simp),bR⟩
 ·have hmk:=make_nat k (by omega)
  have hB0:=(Below.refl w.heap.size w).alloc nR (.cells (madeCells #[.int .u32 0] k) 171)
  have hU0:=UB.made w k
  have hck:=hT.le
  have hc0:¬ c=0:=by omega
  have hkl:=hT.len
  obtain ⟨_,ad,rfl,hbx,_⟩:=hT.at_ 0 (Dg.ld (Dg.dg (Dg.val L)) 0) (Dg.get_of_ld (by omega))
  have HKL:=ah hkl
  clear hkl
  go_wp2_with fail
  generalize w.alloc (.cells (madeCells #[.int .u32 0] k) 171)=W1 at hB0 hU0 ⊢
  clear hmk
  obtain ⟨g,hg⟩:∃ g,g=w.heap.size:=⟨_,rfl⟩
  rw [<- hg] at hU0 ⊢
  have HG:=ah hg
  clear hg
  go_wp2_with fail
  go_loopw [28] (fun i wr=>∃ (j:Nat) (O:List Nat),i=.int .i64 j/\j<=k/\UB wr g O/\Hid (O.length=k/\Dg.Wd O/\∀ z,z < j->Dg.ld O z=Dg.val L / 2 ^ s / 4294967296 ^ z % 4294967296)/\Below w.heap.size w wr) (fun i _=>k-(intOf i).toNat)
  case atStart=>exact ⟨0,_,rfl,nZ,hU0,ah ⟨by simp,Dg.Wd.zeros _,fun z hz=>by omega⟩,hB0⟩
  case round =>
   clear hU0 hB0
   obtain ⟨j,O,rfl,hj,hU,hO,hB⟩:=hrel
   by_cases hjk:j < k
   ·obtain ⟨hx,_,e1,_,hcx⟩:=hT.at_ j (Dg.ld (Dg.dg (Dg.val L)) j) (Dg.get_of_ld (by rw [HKL.out];exact hjk))
    injection e1 with e1
    subst e1
    have hcx:=(hB.cell (p:=ad.add j) (by rw [add_blk];exact hbx)).trans hcx
    have hrd:(Dg.ld (Dg.dg (Dg.val L)) j+4294967296*Dg.ld (Dg.dg (Dg.val L)) (j+1)) / 2 ^ s % 4294967296=Dg.val L / 2 ^ s / 4294967296 ^ j % 4294967296:=by
     have:=Dg.right_dig (Dg.dg_wd (Dg.val L)) (i:=j) (s:=s) (by rw [HKL.out];exact hjk) (pow_dvd32 hs)
     rwa [Dg.val_dg] at this
    have hcell:=hU.cell (Dg.get_of_ld (L:=O) (i:=j) (by rw [hO.out.1];omega))
    generalize Dg.ld O j=o0 at hcell
    have hfz:=hU.frozen j
    by_cases hj1:j+1 < k
    ·obtain ⟨hy,_,e1,_,hcy⟩:=hT.at_ (j+1) (Dg.ld (Dg.dg (Dg.val L)) (j+1)) (Dg.get_of_ld (by rw [HKL.out];exact hj1))
     injection e1 with e1
     subst e1
     have hcy:=(hB.cell (p:=ad.add (j+1)) (by rw [add_blk];exact hbx)).trans hcy
     generalize Dg.ld (Dg.dg (Dg.val L)) (j+1)=y at hy hcy hrd
     simp [Addr.add] at hcy
     generalize Dg.ld (Dg.dg (Dg.val L)) j=x at hx hcx hrd
     have HRD:=ah hrd
     have hor:bits .or .u64 (x:Int) ((y:Int)*4294967296)=(x:Int)+4294967296*y:=by rw [or_hi x y hx hy];simp
     clear hrd
     obtain ⟨dg,hdg⟩:∃ dg,dg=(x+4294967296*y) / 2 ^ s % 4294967296:=⟨_,rfl⟩
     have HDG:=ah hdg
     have hdl:dg < 4294967296:=by rw [hdg];exact Nat.mod_lt _ (by omega)
     have hV:(((x:Int)+4294967296*y) / 2 ^ s % 4294967296)=(dg:Int):=by rw [hdg];simp
     have hU1:UB (wr.setCell ⟨g,j,none⟩ (.int .u32 (((x:Int)+4294967296*y) / 2 ^ s % 4294967296))) g (O.set j dg):=by rw [hV];exact hU.set j dg
     have hB1:=hB.setCell (p:=⟨g,j,none⟩) (by show w.heap.size<=g;have:=HG.out;omega) (.int .u32 (((x:Int)+4294967296*y) / 2 ^ s % 4294967296))
     clear hdg hV
     go_wp2
     go_roundw
     case rel=>exact ⟨j+1,_,by go_num,hjk,hU1,ah ⟨by rw [List.length_set];exact hO.out.1,hO.out.2.1.set j hdl,fun z hz=>by
      rcases Nat.lt_or_ge z j with h1 | h1
      ·rw [Dg.ld_set_other dg (by omega)];exact hO.out.2.2 z h1
      ·obtain rfl:z=j:=by omega
       rw [Dg.ld_set_same dg (by rw [hO.out.1];omega),HDG.out,HRD.out]⟩,hB1⟩
     case measure=>simp [intOf];omega
    ·have hy0:Dg.ld (Dg.dg (Dg.val L)) (j+1)=0:=Dg.ld_ge (by rw [HKL.out];omega)
     rw [hy0] at hrd
     generalize Dg.ld (Dg.dg (Dg.val L)) j=x at hx hcx hrd
     have HRD:=ah hrd
     clear hrd hy0
     obtain ⟨dg,hdg⟩:∃ dg,dg=(x+4294967296*0) / 2 ^ s % 4294967296:=⟨_,rfl⟩
     have HDG:=ah hdg
     have hdl:dg < 4294967296:=by rw [hdg];exact Nat.mod_lt _ (by omega)
     have hV:((x:Int) / 2 ^ s % 4294967296)=(dg:Int):=by rw [hdg];simp
     have hU1:UB (wr.setCell ⟨g,j,none⟩ (.int .u32 ((x:Int) / 2 ^ s % 4294967296))) g (O.set j dg):=by rw [hV];exact hU.set j dg
     have hB1:=hB.setCell (p:=⟨g,j,none⟩) (by show w.heap.size<=g;have:=HG.out;omega) (.int .u32 ((x:Int) / 2 ^ s % 4294967296))
     clear hdg hV
     go_wp2
     go_roundw
     case rel=>exact ⟨j+1,_,by go_num,hjk,hU1,ah ⟨by rw [List.length_set];exact hO.out.1,hO.out.2.1.set j hdl,fun z hz=>by
      rcases Nat.lt_or_ge z j with h1 | h1
      ·rw [Dg.ld_set_other dg (by omega)];exact hO.out.2.2 z h1
      ·obtain rfl:z=j:=by omega
       rw [Dg.ld_set_same dg (by rw [hO.out.1];omega),HDG.out,HRD.out]⟩,hB1⟩
     case measure=>simp [intOf];omega
   ·obtain rfl:j=k:=by omega
    have hO3:=hU.rd hO.out.2.1 hU.lt (k:=j) (by rw [hO.out.1];exact nR) (by rw [hO.out.1];unfold maxLen;omega)
    rw [hO.out.1,List.take_of_length_le (by rw [hO.out.1];exact nR)] at hO3
    have HV:=ah (Dg.right_val (Dg.dg_wd (Dg.val L)) (s:=s) HKL.out hO.out.1 (by rw [Dg.val_dg];exact hO.out.2.2))
    go_wp2_with fail
    refine (own_any hO3 (by omega)).mono ?_
    rintro _ W4 ⟨A4,m4,c4,x4,rfl,ho4,hx4,hb4⟩
    go_wp2
    go_ret2
    exact ⟨_,_,_,_,rfl,ho4.base hB.size,ah (by rw [hx4.out,HV.out,Dg.val_dg]),hB.trans (hb4.mono hB.size)⟩
end Go.Proofs.YtjnklbfhelbjgaaGreat
namespace Kn
structure At (D T top next t u2 P low lowT:Nat):Prop where
 hD:D=(top*4294967296+next)*P+low
 hT:T=(t*4294967296+u2)*P+lowT
 low:low < P
 lowT:lowT < P
 top1:2147483648 ≤ top
 top2:top < 4294967296
 next:next < 4294967296
 u2:u2 < 4294967296
 lt:T < D*4294967296
variable {D T top next t u2 P low lowT:Nat}
theorem At.big (h:At D T top next t u2 P low lowT){q:Nat}(hq:t*4294967296+u2 < q*(top*4294967296+next)):T < q*D:=by
 have h1:=Nat.mul_le_mul_right P (Nat.succ_le_of_lt hq)
 have h2:q*(top*4294967296+next)*P ≤ q*D:=by
  rw [Nat.mul_assoc]
  exact Nat.mul_le_mul_left q (by rw [h.hD];omega)
 have h3:=h.hT
 have h4:=h.lowT
 rw [Nat.succ_mul] at h1
 omega
theorem At.tlt (h:At D T top next t u2 P low lowT):t < (top+1)*4294967296:=by
 have hP:0 < P:=by have:=h.low;omega
 apply Classical.byContradiction
 intro hn
 have h1:D < (top+1)*4294967296*P:=by
  have h2:(top*4294967296+next+1)*P ≤ (top+1)*4294967296*P:=Nat.mul_le_mul_right P (by have:=h.next;omega)
  rw [Nat.add_mul _ 1,Nat.one_mul] at h2
  have h3:=h.hD
  have h4:=h.low
  omega
 have h2:(top+1)*4294967296*4294967296*P ≤ T:=by
  have h3:(top+1)*4294967296*4294967296*P ≤ (t*4294967296+u2)*P:=Nat.mul_le_mul_right P (by omega)
  have h4:=h.hT
  omega
 have h3:=h.lt
 have h4:(top+1)*4294967296*4294967296*P=(top+1)*4294967296*P*4294967296:=by grind
 omega
theorem At.close (h:At D T top next t u2 P low lowT){q:Nat}(hq:q < 4294967296)(hv:q*(top*4294967296+next) ≤ t*4294967296+u2):q*D < T+D:=by
 have hP:0 < P:=by have:=h.low;omega
 have h1:q*D=q*(top*4294967296+next)*P+q*low:=by rw [h.hD];grind
 have h2:=Nat.mul_le_mul_right P hv
 have h3:q*low ≤ 4294967295*P:=Nat.mul_le_mul (by omega) (Nat.le_of_lt h.low)
 have h4:4294967296*P ≤ (top*4294967296+next)*P:=Nat.mul_le_mul_right P (by have:=h.top1;omega)
 have h5:=h.hT
 have h6:=h.hD
 omega
theorem At.brk (h:At D T top next t u2 P low lowT){q r:Nat}(he:q*top+r=t)(hr:4294967296 ≤ r):q < 4294967296 ∧ q*(top*4294967296+next) ≤ t*4294967296+u2:=by
 have h1:=h.tlt
 have h2:q*top < top*4294967296:=by rw [Nat.add_mul] at h1;omega
 have hq:q < 4294967296:=by
  apply Classical.byContradiction
  intro hn
  have:=Nat.mul_le_mul_right top (show 4294967296 ≤ q by omega)
  rw [Nat.mul_comm 4294967296] at this
  omega
 refine ⟨hq,?_⟩
 have h3:q*next ≤ 4294967295*4294967295:=Nat.mul_le_mul (by omega) (by have:=h.next;omega)
 have h4:q*(top*4294967296+next)=q*top*4294967296+q*next:=by grind
 rw [h4,← he,Nat.add_mul]
 omega
theorem At.fin (_:At D T top next t u2 P low lowT){q r:Nat}(he:q*top+r=t)(hv:q*next ≤ r*4294967296+u2):q*(top*4294967296+next) ≤ t*4294967296+u2:=by
 have h4:q*(top*4294967296+next)=q*top*4294967296+q*next:=by grind
 rw [h4,← he,Nat.add_mul]
 omega
theorem At.less (h:At D T top next t u2 P low lowT){q r:Nat}(he:q*top+r=t)(hv:4294967296 ≤ q ∨ r*4294967296+u2 < q*next):T / D ≤ q-1 ∧ 1 ≤ q:=by
 have hD0:0 < D:=by
  rcases Nat.eq_zero_or_pos D with h0 | h0
  ·have:=h.lt;rw [h0] at this;omega
  ·exact h0
 have hlt:T / D < q:=by
  rcases hv with hv | hv
  ·have h1:T / D < 4294967296:=by
    rw [Nat.div_lt_iff_lt_mul hD0,Nat.mul_comm]
    exact h.lt
   have h5:¬ q ≤ T / D:=fun h6=>absurd (Nat.le_trans hv h6) (Nat.not_le_of_gt h1)
   exact Nat.lt_of_not_le h5
  ·rw [Nat.div_lt_iff_lt_mul hD0]
   refine h.big ?_
   have h4:q*(top*4294967296+next)=q*top*4294967296+q*next:=by grind
   rw [h4,← he,Nat.add_mul,Nat.add_assoc]
   exact Nat.add_lt_add_left hv _
 exact ⟨Nat.le_sub_one_of_lt hlt,Nat.lt_of_le_of_lt (Nat.zero_le _) hlt⟩
theorem At.guess (h:At D T top next t u2 P low lowT){q:Nat}(hQ:T / D ≤ q)(hq:q < 4294967296)(hv:q*(top*4294967296+next) ≤ t*4294967296+u2):q=T / D ∨ q=T / D+1:=by
 have h1:=h.close hq hv
 have hD0:0 < D:=by
  rcases Nat.eq_zero_or_pos D with h0 | h0
  ·have:=h.lt;rw [h0] at this;omega
  ·exact h0
 have h2:q-1 ≤ T / D:=by
  rw [Nat.le_div_iff_mul_le hD0,Nat.sub_mul]
  omega
 omega
end Kn
namespace Dg
theorem vf_split (f:Nat → Nat)(j:Nat):∀ c,vf f (j+c)=vf f j+4294967296 ^ j*vf (fun x=>f (j+x)) c
 | 0=>by simp [vf]
 | c + 1 => by
   rw [← Nat.add_assoc,vf_succ,vf_split f j c,vf_succ,Nat.pow_add,Nat.mul_add]
   grind
theorem vf_set_in {U:List Nat}{k:Nat}(s:Nat)(hl:k < U.length):∀ {n:Nat},k < n → vf (ld (U.set k s)) n+ld U k*4294967296 ^ k=vf (ld U) n+s*4294967296 ^ k
 | 0,h=>by omega
 | n + 1, h => by
   rw [vf_succ,vf_succ]
   by_cases hk:k=n
   ·subst hk
    rw [vf_set s (Nat.le_refl k),ld_set_same s hl]
    omega
   ·have ih:=vf_set_in s hl (n:=n) (by omega)
    rw [ld_set_other s (by omega)]
    omega
theorem term_le (f:Nat → Nat){x:Nat}:∀ {M:Nat},x < M → f x*4294967296 ^ x ≤ vf f M
 | 0,h=>by omega
 | M + 1, h => by
   rw [vf_succ]
   by_cases hx:x=M
   ·subst hx;omega
   ·have:=term_le f (x:=x) (M:=M) (by omega);omega
theorem zero_above {f:Nat → Nat}{M k x:Nat}(h:vf f M < 4294967296 ^ k)(hk:k ≤ x)(hx:x < M):f x=0:=by
 have h1:=term_le f hx
 have h2:4294967296 ^ k ≤ 4294967296 ^ x:=Nat.pow_le_pow_right (by omega) hk
 apply Classical.byContradiction
 intro hn
 have h3:=Nat.mul_le_mul_right (4294967296 ^ x) (show 1 ≤ f x by omega)
 omega
theorem vf_cut {f:Nat → Nat}{k:Nat}:∀ {M:Nat},k ≤ M → (∀ x,k ≤ x → x < M → f x=0) → vf f M=vf f k
 | 0,h,_=>by rw [show k=0 by omega]
 | M + 1, h, hz => by
   by_cases hk:k=M+1
   ·rw [hk]
   ·rw [vf_succ,hz M (by omega) (by omega),vf_cut (k:=k) (M:=M) (by omega) (fun x a b=>hz x a (by omega))];simp
end Dg
namespace Kn
open Dg
theorem at_digit {V U:List Nat}{p j M:Nat}(hV:Wd V)(hU:Wd U)(hM:j+p+3 ≤ M)(htop:2147483648 ≤ ld V (p+1))
  (hlt:vf (ld U) M < vf (ld V) (p+2)*4294967296 ^ (j+1)) :
  At (vf (ld V) (p+2)) (vf (ld U) M / 4294967296 ^ j) (ld V (p+1)) (ld V p) (ld U (j+p+2)*4294967296+ld U (j+p+1)) (ld U (j+p)) (4294967296 ^ p) (vf (ld V) p) (vf (fun x=>ld U (j+x)) p) ∧
   vf (ld U) M / 4294967296 ^ j=vf (fun x=>ld U (j+x)) (p+3) ∧ vf (ld U) M=vf (ld U) (j+p+3):=by
 have hD:vf (ld V) (p+2) < 4294967296 ^ (p+2):=vf_lt (ld_word hV) _
 have hb:vf (ld U) M < 4294967296 ^ (j+p+3):=by
  refine Nat.lt_of_lt_of_le hlt ?_
  have:=Nat.mul_le_mul_right (4294967296 ^ (j+1)) (Nat.le_of_lt hD)
  rw [← Nat.pow_add] at this
  rwa [show j+p+3=p+2+(j+1) by omega]
 have hc:vf (ld U) M=vf (ld U) (j+p+3):=vf_cut hM (fun x a b=>zero_above hb a b)
 have hT:vf (ld U) M / 4294967296 ^ j=vf (fun x=>ld U (j+x)) (p+3):=by
  rw [hc,show j+p+3=j+(p+3) by omega,vf_split,Nat.add_mul_div_left _ _ (Nat.pow_pos (by omega)),Nat.div_eq_of_lt (vf_lt (ld_word hU) j),Nat.zero_add]
 refine ⟨⟨?_,?_,vf_lt (ld_word hV) p,vf_lt (fun x=>ld_word hU (j+x)) p,htop,ld_word hV _,ld_word hV _,ld_word hU _,?_⟩,hT,hc⟩
 ·rw [vf_succ,vf_succ,Nat.pow_succ];grind
 ·rw [hT,vf_succ,vf_succ,vf_succ,Nat.pow_succ,Nat.pow_succ]
  simp only [Nat.add_assoc]
  grind
 ·rw [Nat.div_lt_iff_lt_mul (Nat.pow_pos (by omega)),Nat.mul_assoc,← Nat.pow_succ',Nat.add_comm]
  rwa [Nat.add_comm] at hlt
end Kn
namespace Kn
open Dg
theorem top_lt {L:List Nat}{p:Nat}(hw:Wd L)(hl:L.length=p+2):val L < (ld L (p+1)+1)*4294967296 ^ (p+1) ∧ ld L (p+1)*4294967296 ^ (p+1) ≤ val L:=by
 have e:=vf_eq_val (L:=L) (n:=p+2) (by omega)
 rw [vf_succ] at e
 have h1:=vf_lt (ld_word hw) (p+1)
 rw [Nat.add_mul,Nat.one_mul]
 constructor <;> omega
theorem norm_v {L O:List Nat}{p s k tp:Nat}(hw:Wd L)(hl:L.length=p+2)(htp:tp=ld L (p+1))(hk:k ≤ 31)(hs:s=31-k)(h1:2 ^ k ≤ tp)(h2:tp < 2 ^ (k+1)) :
  val L*2 ^ s < 4294967296 ^ (p+2) ∧ (Wd O → O.length=p+2 → val O=val L*2 ^ s → 2147483648 ≤ ld O (p+1)):=by
 obtain ⟨t1,t2⟩:=top_lt hw hl
 rw [← htp] at t1 t2
 have e31:2 ^ k*2 ^ s=2147483648:=by rw [← Nat.pow_add,show k+s=31 by omega]
 have e32:2 ^ (k+1)*2 ^ s=4294967296:=by rw [← Nat.pow_add,show k+1+s=32 by omega]
 constructor
 ·have h3:(tp+1)*2 ^ s ≤ 4294967296:=by rw [← e32];exact Nat.mul_le_mul_right _ h2
  have h4:val L*2 ^ s < (tp+1)*4294967296 ^ (p+1)*2 ^ s:=Nat.mul_lt_mul_of_pos_right t1 (Nat.two_pow_pos s)
  have h5:(tp+1)*4294967296 ^ (p+1)*2 ^ s=(tp+1)*2 ^ s*4294967296 ^ (p+1):=by grind
  have h6:(tp+1)*2 ^ s*4294967296 ^ (p+1) ≤ 4294967296*4294967296 ^ (p+1):=Nat.mul_le_mul_right _ h3
  rw [show p+2=(p+1)+1 from rfl,Nat.pow_succ _ (p+1),Nat.mul_comm _ 4294967296]
  omega
 ·intro hO hOl hv
  have h3:=(top_lt hO hOl).1
  have h4:2147483648*4294967296 ^ (p+1) ≤ val O:=by
   rw [hv,← e31]
   have h5:=Nat.mul_le_mul_right (2 ^ s) t2
   have h6:2 ^ k*2 ^ s*4294967296 ^ (p+1) ≤ tp*4294967296 ^ (p+1)*2 ^ s:=by
    have:=Nat.mul_le_mul_right (2 ^ s*4294967296 ^ (p+1)) h1
    grind
   omega
  have h5:=Nat.lt_of_le_of_lt h4 h3
  have h6:=Nat.lt_of_mul_lt_mul_right h5
  omega
end Kn
namespace Kn
open Dg
theorem norm_u {L L' O1 O2:List Nat}{p e s m2:Nat}(hw:Wd L)(hl:L.length=p+2+e)(hO1:O1.length=p+5)(hv1:val (O1.take (p+2))=val L'*2 ^ s)(htop:2147483648 ≤ ld O1 (p+1))(hs:s < 32)
  (hO2:O2.length=p+2+e+3) (hm1:p+2+e ≤ m2) (hm2:m2 ≤ p+2+e+1) (hv2:val (O2.take m2)=val L*2 ^ s) :
  vf (ld O1) (p+2)=val L'*2 ^ s ∧ vf (ld ((O2.set m2 0).set (m2+1) 0)) (p+2+e+1)=val L*2 ^ s ∧ val L*2 ^ s < vf (ld O1) (p+2)*4294967296 ^ (e+1):=by
 have hD:vf (ld O1) (p+2)=val L'*2 ^ s:=by
  rw [← hv1,← vf_eq_val (L:=O1.take (p+2)) (n:=p+2) (by simp;omega)]
  exact vf_congr fun j hj=>by rw [ld_lt (by omega),ld_lt (by rw [List.length_take];omega),List.getElem_take]
 refine ⟨hD,?_,?_⟩
 ·rw [← hv2,← vf_eq_val (L:=O2.take m2) (n:=p+2+e+1) (by simp;omega)]
  refine vf_congr fun j hj=>?_
  rw [ld_set_other 0 (by omega)]
  by_cases h:j=m2
  ·subst h
   rw [ld_set_same 0 (by omega),ld_ge (by rw [List.length_take];omega)]
  ·rw [ld_set_other 0 h,ld_lt (by omega),ld_lt (by rw [List.length_take];omega),List.getElem_take]
 ·have h1:2147483648*4294967296 ^ (p+1) ≤ vf (ld O1) (p+2):=by
   rw [vf_succ]
   have:=Nat.mul_le_mul_right (4294967296 ^ (p+1)) htop
   omega
  have h2:=val_lt hw
  rw [hl] at h2
  have h3:2 ^ s ≤ 2147483648:=Nat.pow_le_pow_right (by omega) (show s ≤ 31 by omega)
  have h4:val L*2 ^ s < 4294967296 ^ (p+2+e)*2147483648:=Nat.lt_of_lt_of_le (Nat.mul_lt_mul_of_pos_right h2 (Nat.two_pow_pos s)) (Nat.mul_le_mul_left _ h3)
  have h5:=Nat.mul_le_mul_right (4294967296 ^ (e+1)) h1
  have h6:2147483648*4294967296 ^ (p+1)*4294967296 ^ (e+1)=4294967296 ^ (p+2+e)*2147483648:=by
   rw [show p+2+e=(p+1)+(e+1) by omega,Nat.pow_add];grind
  omega
end Kn
namespace Kn
theorem At.start {D T top next t u2 P low lowT:Nat}(h:At D T top next t u2 P low lowT):T / D ≤ t / top:=by
 have hD0:0 < D:=by
  rcases Nat.eq_zero_or_pos D with h0 | h0
  ·have:=h.lt;rw [h0] at this;omega
  ·exact h0
 have h1:T / D < t / top+1:=by
  rw [Nat.div_lt_iff_lt_mul hD0]
  refine h.big ?_
  have ht:0 < top:=by have:=h.top1;omega
  have h2:t+1 ≤ (t / top+1)*top:=by
   have h3:=Nat.div_add_mod t top
   have h4:=Nat.mod_lt t ht
   rw [Nat.add_mul,Nat.one_mul,Nat.mul_comm (t / top)]
   omega
  have h5:=Nat.mul_le_mul_right 4294967296 h2
  have h6:(t / top+1)*(top*4294967296+next)=(t / top+1)*top*4294967296+(t / top+1)*next:=by grind
  have h7:=h.u2
  rw [h6]
  rw [Nat.add_mul t 1] at h5
  omega
 omega
end Kn
namespace Kn
open Dg
theorem msub {X X' Y W q v cy br u pl cy' dl br' i j:Nat}(hI:X+q*W*4294967296 ^ j=Y+(cy+br)*4294967296 ^ (i+j))(hX:X'+u*4294967296 ^ (i+j)=X+dl*4294967296 ^ (i+j))
  (hp:q*v+cy=pl+4294967296*cy') (hd:dl+pl+br=u+4294967296*br') :
  X'+q*(W+v*4294967296 ^ i)*4294967296 ^ j=Y+(cy'+br')*4294967296 ^ (i+1+j):=by
 have e1:4294967296 ^ (i+1+j)=4294967296 ^ (i+j)*4294967296:=by rw [← Nat.pow_succ];congr 1;omega
 have e2:4294967296 ^ (i+j)=4294967296 ^ i*4294967296 ^ j:=Nat.pow_add _ _ _
 have e3:(q*v+cy)*4294967296 ^ (i+j)=(pl+4294967296*cy')*4294967296 ^ (i+j):=by rw [hp]
 have e4:(dl+pl+br)*4294967296 ^ (i+j)=(u+4294967296*br')*4294967296 ^ (i+j):=by rw [hd]
 have e5:q*(W+v*4294967296 ^ i)*4294967296 ^ j=q*W*4294967296 ^ j+q*v*4294967296 ^ (i+j):=by rw [e2];grind
 rw [e5,e1]
 generalize 4294967296 ^ (i+j)=P at *
 generalize q*W*4294967296 ^ j=Z at *
 grind
theorem msub_nums (q v cy br u:Nat)(hq:q < 4294967296)(hv:v < 4294967296)(hcy:cy < 4294967296)(hbr:br ≤ 1)(hu:u < 4294967296) :
  ∃ pv pr pl cy' w1 dd dl br':Nat,pv=q*v ∧ pv ≤ 18446744065119617025 ∧ pr=pv+cy ∧ pr < 18446744073709551616 ∧ pl=pr % 4294967296 ∧ cy'=pr / 4294967296 ∧ cy' < 4294967296 ∧
   (w1:Int)=((u:Int)-pl) % 18446744073709551616 ∧ (dd:Int)=((w1:Int)-br) % 18446744073709551616 ∧ dl=dd % 4294967296 ∧ br'=dd / 9223372036854775808 ∧ br' ≤ 1 ∧ dl < 4294967296 ∧ q*v+cy=pl+4294967296*cy' ∧ dl+pl+br=u+4294967296*br':=by
 have h1:=Nat.mul_le_mul (show q ≤ 4294967295 by omega) (show v ≤ 4294967295 by omega)
 refine ⟨q*v,q*v+cy,(q*v+cy) % 4294967296,(q*v+cy) / 4294967296,(((u:Int)-((q*v+cy) % 4294967296:Nat)) % 18446744073709551616).toNat,(((((u:Int)-((q*v+cy) % 4294967296:Nat)) % 18446744073709551616).toNat-br:Int) % 18446744073709551616).toNat,_,_,rfl,h1,rfl,?_,rfl,rfl,?_,?_,?_,rfl,rfl,?_⟩
 all_goals generalize q*v=m at *
 ·omega
 ·omega
 ·omega
 ·omega
 ·refine ⟨?_,?_,?_,?_⟩ <;> omega
end Kn
namespace Kn
open Dg
theorem top_same {VV UU UM Z W P u2 s:Nat}(hV:VV+Z=UU+s*P)(hU:UM=UU+u2*P)(hl:VV < P)(hW:W ≤ P)(h1:Z ≤ UM)(h2:UM < Z+W):u2=s ∧ VV+Z=UM:=by
 have e:u2=s:=by
  rcases Nat.lt_trichotomy u2 s with h | h | h
  ·have:=Nat.mul_le_mul_right P (show u2+1 ≤ s from h)
   rw [Nat.add_mul,Nat.one_mul] at this
   omega
  ·exact h
  ·have:=Nat.mul_le_mul_right P (show s+1 ≤ u2 from h)
   rw [Nat.add_mul,Nat.one_mul] at this
   omega
 subst e
 exact ⟨rfl,by omega⟩
theorem top_more {VV UU UM Z W P u2 s:Nat}(hV:VV+(Z+W)=UU+s*P)(hU:UM=UU+u2*P)(hl:VV < P)(hW:W ≤ P)(h1:Z ≤ UM)(h2:UM < Z+W):u2+1=s ∧ VV+(Z+W)=UM+P:=by
 have e:u2+1=s:=by
  rcases Nat.lt_trichotomy (u2+1) s with h | h | h
  ·have:=Nat.mul_le_mul_right P (show u2+1+1 ≤ s from h)
   rw [Nat.add_mul,Nat.add_mul,Nat.one_mul] at this
   omega
  ·exact h
  ·have:=Nat.mul_le_mul_right P (show s ≤ u2 by omega)
   omega
 subst e
 rw [Nat.add_mul,Nat.one_mul] at hV
 exact ⟨rfl,by omega⟩
theorem back {X X' Y W v c sl c' u i j:Nat}(hI:X+c*4294967296 ^ (i+j)=Y+W*4294967296 ^ j)(hX:X'+u*4294967296 ^ (i+j)=X+sl*4294967296 ^ (i+j))(hs:u+v+c=sl+4294967296*c') :
  X'+c'*4294967296 ^ (i+1+j)=Y+(W+v*4294967296 ^ i)*4294967296 ^ j:=by
 have e1:4294967296 ^ (i+1+j)=4294967296 ^ (i+j)*4294967296:=by rw [← Nat.pow_succ];congr 1;omega
 have e2:4294967296 ^ (i+j)=4294967296 ^ i*4294967296 ^ j:=Nat.pow_add _ _ _
 have e3:(u+v+c)*4294967296 ^ (i+j)=(sl+4294967296*c')*4294967296 ^ (i+j):=by rw [hs]
 have e4:(W+v*4294967296 ^ i)*4294967296 ^ j=W*4294967296 ^ j+v*4294967296 ^ (i+j):=by rw [e2];grind
 rw [e4,e1]
 generalize 4294967296 ^ (i+j)=P at *
 generalize W*4294967296 ^ j=Z at *
 grind
theorem dig_le {T UM D BJ:Nat}(hT:T=UM / BJ)(hB:0 < BJ)(hD:0 < D):T / D*D*BJ ≤ UM ∧ UM < T / D*D*BJ+D*BJ:=by
 have h1:=Nat.div_add_mod T D
 have h2:=Nat.mod_lt T hD
 have h3:=Nat.div_add_mod UM BJ
 have h4:=Nat.mod_lt UM hB
 rw [← hT] at h3
 have h5:T / D*D ≤ T:=Nat.div_mul_le_self T D
 have h6:=Nat.mul_le_mul_right BJ h5
 have h7:T+1 ≤ T / D*D+D:=by rw [Nat.mul_comm (T / D)];omega
 have h8:=Nat.mul_le_mul_right BJ h7
 rw [Nat.add_mul,Nat.add_mul,Nat.one_mul] at h8
 rw [Nat.mul_comm BJ] at h3
 constructor <;> omega
theorem dig_step {Q:List Nat}{j q D VV UM R:Nat}(hj:j < Q.length)(hI:val (Q.drop (j+1))*(D*4294967296 ^ (j+1))+UM=R)(hV:VV+q*D*4294967296 ^ j=UM) :
  val ((Q.set j q).drop j)*(D*4294967296 ^ j)+VV=R:=by
 rw [val_drop (by simpa using hj),ld_set_same q hj,drop_set q (Nat.lt_succ_self j),← hI,← hV,Nat.pow_succ]
 generalize val (Q.drop (j+1))=X
 generalize 4294967296 ^ j=P
 grind
theorem end_div {Q X Y s D VU:Nat}(h:Q*D+VU=X*2 ^ s)(hl:VU < D)(hD:D=Y*2 ^ s):Q=X / Y ∧ VU=X % Y*2 ^ s:=by
 subst hD
 have hp:=Nat.two_pow_pos s
 have h1:Q*Y ≤ X:=by
  apply Nat.le_of_mul_le_mul_right (c:=2 ^ s) _ hp
  rw [Nat.mul_assoc];omega
 obtain ⟨r,hr⟩:∃ r,X=Q*Y+r:=⟨X-Q*Y,by omega⟩
 have h2:VU=r*2 ^ s:=by
  rw [hr,Nat.add_mul,Nat.mul_assoc] at h;omega
 have h3:r < Y:=by
  rw [h2] at hl;exact Nat.lt_of_mul_lt_mul_right hl
 have h4:X / Y=Q:=by rw [hr,Nat.mul_comm Q,Nat.mul_add_div (by omega),Nat.div_eq_of_lt h3];omega
 have h5:X % Y=r:=by rw [hr,Nat.mul_comm Q,Nat.mul_add_mod,Nat.mod_eq_of_lt h3]
 exact ⟨h4.symm,by rw [h5];exact h2⟩
theorem pos32:0 < 4294967296:=by omega
theorem sub_start (X q j:Nat)(f:Nat → Nat):X+q*Dg.vf f 0*4294967296 ^ j=X+(0+0)*4294967296 ^ (0+j):=by simp [Dg.vf]
theorem back_start (X j:Nat)(f:Nat → Nat):X+0*4294967296 ^ (0+j)=X+Dg.vf f 0*4294967296 ^ j:=by simp [Dg.vf]
theorem top_all {VV UU UM D T BJ P u2 s q:Nat}(hV:VV+q*D*BJ=UU+s*P)(hU:UM=UU+u2*P)(hl:VV < P)(hW:D*BJ ≤ P)(hT:T=UM / BJ)(hB:0 < BJ)(hD:0 < D) :
  (q=T / D → u2=s ∧ VV+T / D*D*BJ=UM ∧ VV < D*BJ) ∧ (q=T / D+1 → u2+1=s ∧ VV+T / D*D*BJ+D*BJ=UM+P):=by
 obtain ⟨h1,h2⟩:=dig_le hT hB hD
 constructor
 ·rintro rfl
  obtain ⟨a,b⟩:=top_same hV hU hl hW h1 h2
  exact ⟨a,b,by omega⟩
 ·rintro rfl
  rw [Nat.add_mul,Nat.add_mul,Nat.one_mul] at hV
  obtain ⟨a,b⟩:=top_more hV hU hl hW h1 h2
  exact ⟨a,by omega⟩
theorem back_end {VV V0 UM T c D BJ P:Nat}(h:VV+c*P=V0+D*BJ)(h0:V0+T / D*D*BJ+D*BJ=UM+P)(hl:VV < P)(hc:c ≤ 1)(hT:T=UM / BJ)(hB:0 < BJ)(hD:0 < D) :
  c=1 ∧ VV+T / D*D*BJ=UM ∧ VV < D*BJ:=by
 obtain ⟨h1,h2⟩:=dig_le hT hB hD
 have hc':c=0 ∨ c=1:=by omega
 rcases hc' with rfl | rfl
 ·rw [Nat.zero_mul] at h;omega
 ·rw [Nat.one_mul] at h;exact ⟨rfl,by omega,by omega⟩
theorem vf_clear {V:List Nat}{m M:Nat}(hm:m ≤ M)(h0:ld V m=0)(hz:∀ x,m < x → x < M → ld V x=0):vf (ld V) M=vf (ld V) m :=
 vf_cut hm fun x a b=>by
  rcases Nat.eq_or_lt_of_le a with e | e
  ·rw [← e];exact h0
  ·exact hz x e b
theorem above {U:List Nat}{D j p M x:Nat}(hD:D < 4294967296 ^ (p+2))(hU:vf (ld U) M < D*4294967296 ^ (j+1))(hx:j+p+3 ≤ x)(hM:x < M):ld U x=0:=by
 refine zero_above (k:=j+p+3) ?_ hx hM
 refine Nat.lt_of_lt_of_le hU ?_
 have:=Nat.mul_le_mul_right (4294967296 ^ (j+1)) (Nat.le_of_lt hD)
 rw [← Nat.pow_add] at this
 rwa [show j+p+3=p+2+(j+1) by omega]
theorem vf_top {V U:List Nat}{D j p M x2:Nat}(hx2:x2=j+p+2)(hM:x2 < M)(hl:x2 < V.length)(hD:D < 4294967296 ^ (p+2))(hU:vf (ld U) M < D*4294967296 ^ (j+1))(hd:∀ x,x2 < x → ld V x=ld U x) :
  vf (ld (V.set x2 0)) M=vf (ld V) (j+p+2):=by
 rw [vf_clear (m:=x2) (Nat.le_of_lt hM) (ld_set_same 0 hl) (fun x a b=>by rw [ld_set_other 0 (by omega),hd x a,above hD hU (by omega) b]),vf_set 0 (Nat.le_refl _),hx2]
theorem take_val {U:List Nat}{p M D:Nat}(hl:p+2 ≤ U.length)(hM:p+2 ≤ M)(hD:D ≤ 4294967296 ^ (p+2))(h:vf (ld U) M < D*4294967296 ^ 0):val (U.take (p+2))=vf (ld U) M:=by
 rw [Nat.pow_zero,Nat.mul_one] at h
 rw [← vf_eq_val (L:=U.take (p+2)) (n:=p+2) (by rw [List.length_take];omega),vf_cut hM (fun x a b=>zero_above (Nat.lt_of_lt_of_le h hD) a b)]
 exact vf_congr fun j hj=>by rw [ld_lt (by rw [List.length_take];omega),ld_lt (by omega),List.getElem_take]
theorem end_all {Q U:List Nat}{p M D X Y s x y:Nat}(h:val (Q.drop 0)*(D*4294967296 ^ 0)+vf (ld U) M=X*2 ^ s)(hl:vf (ld U) M < D*4294967296 ^ 0)(hD:D=Y*2 ^ s)(hx:x=val Q)(ht:val (U.take (p+2))=vf (ld U) M)(hy:y=val (U.take (p+2)) / 2 ^ s) :
  x=X / Y ∧ y=X % Y:=by
 rw [Nat.pow_zero,Nat.mul_one] at h hl
 rw [List.drop_zero] at h
 obtain ⟨a,b⟩:=end_div h hl hD
 exact ⟨hx.trans a,by rw [hy,ht,b,Nat.mul_div_cancel _ (Nat.two_pow_pos s)]⟩
end Kn
