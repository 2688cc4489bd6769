/- Sc06. -/
import Derived.Test.YtjnklbfhelbjgaaGreatSc05
import Derived.Test.YtjnklbfhelbjgaaGreatSc04
import Derived.Deep.QuietTactic
import Derived.Deep.AppendLies
import Derived.Deep.AppendSrc
import Derived.Deep.Upon
import Derived.Deep.RegionLaw
import Derived.Deep.CutBlock
import Derived.Deep.CutRange
import Derived.Deep.RegionWith
import Derived.Test.YtjnklbfhelbjgaaGreatSc03
import Derived.Test.YtjnklbfhelbjgaaGreatSc00
set_option maxRecDepth 100000
set_option maxHeartbeats 32000000
set_option linter.all false
namespace Go.Proofs.YtjnklbfhelbjgaaGreat
open Go.RowKit Go.IntWalk
attribute [local go_sem ↓] Go.wp_at_zero Go.wp_at_succ
def ZB (w:World)(g:Nat)(E:List Ent):Prop:=w.heap[g]?=some (.cells (zcs E).toArray 25 (0,0))
def EntF (w:World)(b:Nat)(E:List Ent)(f:Nat->Int):Prop:=∀ (i:Nat) (e:Ent),E[i]?=some e->OwZ w b e.1 e.2.1 e.2.2.1 e.2.2.2 (f i)
theorem zcs_set (E:List Ent)(j:Nat)(e:Ent):zcs (E.set j e)=((zcs E).set (j*2) (.bool e.1)).set (j*2+1) (.slice e.2.1 e.2.2.1 e.2.2.2):=by
 induction E generalizing j with
 | nil=>rfl
 | cons x E ih =>
   cases j with
   | zero=>rw [List.set_cons_zero,zcs_cons,zcs_cons];rfl
   | succ j =>
     rw [List.set_cons_succ,zcs_cons,zcs_cons,ih]
     rw [show (j+1)*2=j*2+2 by omega]
     rfl
section
variable {w w':World}{g b:Nat}{E:List Ent}{f:Nat->Int}
theorem ZB.lt (h:ZB w g E):g < w.heap.size:=(Array.getElem?_eq_some_iff.1 h).1
theorem ZB.frozen (h:ZB w g E)(j:Nat):w.frozen? ⟨g,j,none⟩=false:=frozen_of_row w g j _ _ h
theorem ZB.cells (h:ZB w g E){j:Nat}{e:Ent}(he:E[j]?=some e):w.cell? ⟨g,j*2,none⟩=some (.bool e.1)/\w.cell? ⟨g,j*2+1,none⟩=some (.slice e.2.1 e.2.2.1 e.2.2.2):=by
 obtain ⟨h1,h2⟩:=zcs_at E j e he
 exact ⟨by rw [cell_of_row w g _ _ _ _ h];simpa using h1,by rw [cell_of_row w g _ _ _ _ h];simpa using h2⟩
theorem ZB.store (h:ZB w g E)(j:Nat)(e:Ent):ZB ((w.setCell ⟨g,j*2,none⟩ (.bool e.1)).setCell ⟨g,j*2+1,none⟩ (.slice e.2.1 e.2.2.1 e.2.2.2)) g (E.set j e):=by
 unfold ZB at h ⊢
 rw [zcs_set]
 simp [World.setCell,Array.getElem?_modify,h]
theorem ZB.next (h:ZB w g E)(hb:Below w.heap.size w w'):ZB w' g E:=(hb.block g h.lt).trans h
theorem EntF.next (h:EntF w b E f)(hb:Below w.heap.size w w'):EntF w' b E f:=fun i e he=>(h i e he).next hb
theorem ent_put {s:Bool}{A:Option Addr}{k m:Nat}{z:Int}(h:OwZ w b s A k m z)(hz:ZB w g E)(j:Nat)(e:Ent):OwZ ((w.setCell ⟨g,j*2,none⟩ (.bool e.1)).setCell ⟨g,j*2+1,none⟩ (.slice e.2.1 e.2.2.1 e.2.2.2)) b s A k m z:=by
 refine ⟨own_other h.own hz fun i _ hne=>?_,h.sgn⟩
 exact (Below.heap_setCell _ (⟨g,j*2+1,none⟩:Addr) _ i hne).trans (Below.heap_setCell _ (⟨g,j*2,none⟩:Addr) _ i hne)
theorem EntF.store (h:EntF w b E f)(hz:ZB w g E){j:Nat}{e:Ent}{z:Int}(he:OwZ w b e.1 e.2.1 e.2.2.1 e.2.2.2 z):EntF ((w.setCell ⟨g,j*2,none⟩ (.bool e.1)).setCell ⟨g,j*2+1,none⟩ (.slice e.2.1 e.2.2.1 e.2.2.2)) b (E.set j e) (fun i=>if i=j then z else f i):=by
 intro i e' h'
 by_cases hij:i=j
 ·subst hij
  simp only [if_true]
  have hl:i < E.length:=by
   rcases Nat.lt_or_ge i E.length with h1 | h1
   ·exact h1
   ·rw [gN (by rw [List.length_set];exact h1)] at h';cases h'
  rw [List.getElem?_set_self hl] at h'
  injection h' with h'
  subst h'
  exact ent_put he hz i e
 ·simp only [if_neg hij]
  rw [List.getElem?_set_ne (Ne.symm hij)] at h'
  exact ent_put (h i e' h') hz j e
theorem ZB.own (h:ZB w g E)(hE:EntF w b E f)(hb:b<=g){m:Nat}(hm:E.length=m)(hx:m<=maxLen):OwZs w b (some ⟨g,0,none⟩) m m ((List.range m).map f):=by
 refine ⟨E,⟨by rw [zcs_len,hm],.inr ⟨g,m,_,rfl,hb,h,nR,hx,by simp [zcs_len,hm],?_⟩⟩,hm,by simp [hm],fun j e z he hz=>?_⟩
 ·rw [List.take_of_length_le (by simp [zcs_len,hm])]
 ·have hj:j < m:=by
   rcases Nat.lt_or_ge j m with h1 | h1
   ·exact h1
   ·rw [gN (by omega)] at he;cases he
  rw [List.getElem?_map,List.getElem?_range hj] at hz
  simp at hz
  rw [<- hz]
  exact hE j e he
end
theorem zcs_zeros (n:Nat):(zcs (List.replicate n (false,none,0,0))).toArray=madeCells #[.bool false,.slice none 0 0] (n*2):=by
 apply Array.ext
 ·simp [zcs_len,size_madeCells]
 ·intro i h1 h2
  have hi:i < n*2:=by simpa [zcs_len] using h1
  have hj:i / 2 < n:=by omega
  obtain ⟨c0,c1⟩:=zcs_at (List.replicate n ((false,none,0,0):Ent)) (i / 2) (false,none,0,0) (by simp [hj])
  rcases Nat.mod_two_eq_zero_or_one i with e | e
  ·rw [show i / 2*2=i by omega] at c0
   have e2:(zcs (List.replicate n ((false,none,0,0):Ent)))[i]'(by rw [zcs_len];simpa using hi)=.bool false:=by
    rw [gE (by rw [zcs_len];simpa using hi)] at c0
    injection c0
   simp only [List.getElem_toArray]
   rw [e2]
   simp [madeCells,e]
  ·rw [show i / 2*2+1=i by omega] at c1
   have e2:(zcs (List.replicate n ((false,none,0,0):Ent)))[i]'(by rw [zcs_len];simpa using hi)=.slice none 0 0:=by
    rw [gE (by rw [zcs_len];simpa using hi)] at c1
    injection c1
   simp only [List.getElem_toArray]
   rw [e2]
   simp [madeCells,e]
theorem make_zs (n:Nat)(hn:n<=8796093022208)(w:World) :
  (Instr.makeSlice 230 (.int .i64 (n:Int)) (.int .i64 (n:Int))).run Tryz.prog w=.ok (.slice (some ⟨w.heap.size,0,none⟩) n n) (w.alloc (.cells (zcs (List.replicate n (false,none,0,0))).toArray 25)):=by
 obtain ⟨i0,hi,hz0,hz1,hz2⟩:=info_parts infoZ
 have h:=run_make (P:=Tryz.prog) w 230 25 i0 _ Tryz.underlying230 hi hz0 .i64 .i64 (n:Int) (n:Int) (by omega) (Int.le_refl _) (by rw [hz2];omega) (by omega)
 rw [hz1] at h
 rw [zcs_zeros]
 exact h
theorem ZB.made (w:World)(n:Nat):ZB (w.alloc (.cells (zcs (List.replicate n (false,none,0,0))).toArray 25)) w.heap.size (List.replicate n (false,none,0,0)):=heap_alloc_new w _
theorem EntF.zeros (w:World)(b n:Nat):EntF w b (List.replicate n (false,none,0,0)) (fun _=>0):=by
 intro i e he
 have e1:e=(false,none,0,0):=by
  have:=gM he
  exact List.eq_of_mem_replicate this
 subst e1
 exact OwZ.zero w b
def RetIP (q r:Int)(w:World)(e:Ending)(w':World):Prop :=
 ∃ (s:Bool) (A:Option Addr) (n c:Nat) (y:Int) (s':Bool) (A':Option Addr) (n' c':Nat) (y':Int),e=.returned (.tuple #[.agg #[.bool s,.slice A n c],.agg #[.bool s',.slice A' n' c']])/\OwZ w' w.heap.size s A n c y/\OwZ w' w.heap.size s' A' n' c' y'/\Hid (y=q/\y'=r)/\Below w.heap.size w w'
theorem rITrunc_any {s s':Bool}{A A':Option Addr}{n c n' c':Nat}{z z':Int}{w:World}(h:RdZ w w.heap.size s A n c z)(h':RdZ w w.heap.size s' A' n' c' z')(hn:n<=4398046511103)(hn':n'<=4398046511103)(h0:z' ≠ 0) :
  Calls Tryz.prog 199 #[.agg #[.bool s,.slice A n c],.agg #[.bool s',.slice A' n' c']] w (RetIP (z.tdiv z') (z.tmod z') w):=by
 have HH:=ah h
 have HH':=ah h'
 obtain ⟨M,h,hz⟩:=h.raw
 obtain ⟨M',h',hz'⟩:=h'.raw
 have HP:=ah (show 0 < Dg.val M' by
  rcases Nat.eq_zero_or_pos (Dg.val M') with e | e
  ·exact absurd (by rw [hz'.out,e,Zz.sg_zero]) h0
  ·exact e)
 clear h0
 have HL:=ah (show Dg.val M < 4294967296 ^ n from by rw [<- h.len];exact Dg.val_lt h.wd)
 have HL':=ah (show Zz.zl z<=n/\Zz.zl z'<=n' from ⟨HH.out.len,HH'.out.len⟩)
 obtain ⟨W1,HW1,hZ,hY,hR,hS,hB⟩:=boxed22 w s A n c s' A' n' c'
 have HW1:=ah HW1
 have HSZ:=ah (show w.heap.size < W1.heap.size from hZ.lt)
 go_enter Tryz.func199,Tryz.ntmps199
 go_wp2_with fail
 rw [<- HW1.out]
 clear HW1
 clear HW1
 have hc0:=hZ.c0
 have hc1:=hZ.c1
 have hd0:=hY.c0
 have hd1:=hY.c1
 refine (refNDiv_any (h.next hB) (h'.next hB) hn hn' HP.out).mono ?_
 rintro _ W2 ⟨A2,A3,m2,c2,m3,c3,x2,x3,rfl,ho2,ho3,hx2,hb2⟩
 have hZ2:=hZ.next hb2
 have hY2:=hY.next hb2
 have hR2:=hR.next hb2
 have hS2:=hS.next hb2
 have hB2:=hB.trans (hb2.mono hB.size)
 have HS1:=ah (cJ hR.lt hS.lt)
 have HS2:=ah hb2.size
 have HM2:=ah (show m2<=n from ho2.short (by rw [hx2.out.1];exact Nat.lt_of_le_of_lt (Nat.div_le_self _ _) HL.out))
 clear hc0 hc1 hd0 hd1 hZ hY hR hS hb2 hB ho3 h h'
 have hc0:=hZ2.c0
 have hd0:=hY2.c0
 go_wp2_with fail
 refine (rINorm_any (z:=Zz.sg (s != s') (Dg.val (Dg.dg x2))) ⟨_,ho2.rd,rfl⟩ (by have:=HM2.out;omega)).mono ?_
 rintro _ W3 ⟨s3,A4,m4,c4,z4,rfl,ho4,hz4,hb3⟩
 have HQ:=ah (show z4=z.tdiv z' by rw [hz4.out,Dg.val_dg,hx2.out.1,hz.out,hz'.out,Zz.sg_div])
 obtain ⟨W4,HW4⟩:∃ W,W=W3.alloc (.cells #[.bool s3,.slice A4 m4 c4] 25):=⟨_,rfl⟩
 have hX:ZC W4 W3.heap.size s3 A4 m4 c4:=by rw [HW4];exact ZC.new W3 s3 A4 m4 c4
 have hb4:Below W3.heap.size W3 W4:=by rw [HW4];exact (Below.refl W3.heap.size W3).alloc nR _
 have HW4:=ah HW4
 clear hc0 hd0
 go_wp2_with fail
 rw [<- HW4.out]
 clear HW4
 clear HW4
 have hb24:=hb3.trans (hb4.mono hb3.size)
 have HO4:=ah (ho4.next hb4)
 have HZ:=ah (hZ2.next hb24)
 have HY:=ah (hY2.next hb24)
 have HR:=ah (hR2.next hb24)
 have HS:=ah (hS2.next hb24)
 have HX:=ah hX
 have HB:=ah (hB2.trans (hb24.mono hB2.size))
 have HBD:=ah (Below.refl W4.heap.size W4).drew
 have HM4:=ah (show m4<=n from by rw [ho4.len,HQ.out];exact nT (Zz.zl_tdiv _ _) HL'.out.1)
 have HSX:=ah (show W1.heap.size<=W2.heap.size/\W2.heap.size<=W3.heap.size from ⟨HS2.out,hb3.size⟩)
 obtain ⟨gx,hgx⟩:∃ g,g=W3.heap.size:=⟨_,rfl⟩
 rw [<- hgx] at HX ⊢
 have HGX:=ah (show W2.heap.size<=gx by rw [hgx];exact hb3.size)
 clear hZ2 hY2 hR2 hS2 hX hb24 hb3 hb4 ho4 ho2 hz4 hx2 hgx
 have hc0:=HZ.out.c0
 have hc1:=HZ.out.c1
 have hd0:=HY.out.c0
 have hd1:=HY.out.c1
 have he0:=HX.out.c0
 have he1:=HX.out.c1
 have hq1:¬ (w.heap.size+1+1=w.heap.size):=by omega
 have hq3:¬ (w.heap.size+1+1+1=w.heap.size):=by omega
 have hq5:¬ (w.heap.size+1+1=gx):=by have:=HGX.out;have:=HS1.out;have:=HS2.out;omega
 have hq6:¬ (w.heap.size+1+1+1=gx):=by have:=HGX.out;have:=HS1.out;have:=HS2.out;omega
 have HMU:=ah (rIMul_any (HO4.out.next HBD.out).rd (HH'.out.next HB.out.drew) (by have:=HM4.out;omega) hn')
 go_region_held3 (fun w'=>w'.cell? ⟨w.heap.size,0,none⟩=some (.bool s)/\w'.cell? ⟨w.heap.size,1,none⟩=some (.slice A n c)/\w'.cell? ⟨w.heap.size+1,0,none⟩=some (.bool s')/\w'.cell? ⟨w.heap.size+1,1,none⟩=some (.slice A' n' c')/\w'.cell? ⟨gx,0,none⟩=some (.bool s3)/\w'.cell? ⟨gx,1,none⟩=some (.slice A4 m4 c4)) (go_keep)
  (first
   | (go_at_call 176;refine HMU.out.mono ?_;rintro _ W5 ⟨s5,A5,m5,c5,z5,rfl,ho5,hz5,hb5⟩;have HB5:=ah (HBD.out.trans hb5);have hi0:=(HZ.out.next HB5.out).c0;have hi1:=(HZ.out.next HB5.out).c1;have hi2:=(HY.out.next HB5.out).c0;have hi3:=(HY.out.next HB5.out).c1;have hi4:=(HX.out.next HB5.out).c0;have hi5:=(HX.out.next HB5.out).c1)
   | (go_at_call 229;refine (rISub_any (HH.out.next (HB.out.trans (HB5.out.mono HB.out.size))) ho5.rd (by omega) (by rw [ho5.len,hz5.out];have e1:=Zz.zl_mul z4 z';have e2:=HL'.out.2;have e3:=HM4.out;have e4:=HO4.out.len;omega)).mono ?_;rintro _ W6 ⟨s6,A6,m6,c6,z6,rfl,ho6,hz6,hb6⟩;have HB6:=tM HB5 hb6;have hj0:=(HZ.out.next HB6.out).c0;have hj1:=(HZ.out.next HB6.out).c1;have hj2:=(HY.out.next HB6.out).c0;have hj3:=(HY.out.next HB6.out).c1;have hj4:=(HX.out.next HB6.out).c0;have hj5:=(HX.out.next HB6.out).c1;have hk0:=(HR.out.next HB6.out).c0;have hk1:=(HR.out.next HB6.out).c1;have hk2:=(HR.out.next HB6.out).fz 0;have hk3:=(HR.out.next HB6.out).fz 1;have hk4:=(HS.out.next HB6.out).c0;have hk5:=(HS.out.next HB6.out).c1;have hk6:=(HS.out.next HB6.out).fz 0;have hk7:=(HS.out.next HB6.out).fz 1))
 obtain ⟨V,HV⟩:∃ W,W=(((W6.setCell ⟨w.heap.size+1+1,0,none⟩ (.bool s3)).setCell ⟨w.heap.size+1+1,1,none⟩ (.slice A4 m4 c4)).setCell ⟨w.heap.size+1+1+1,0,none⟩ (.bool s6)).setCell ⟨w.heap.size+1+1+1,1,none⟩ (.slice A6 m6 c6):=⟨_,rfl⟩
 obtain ⟨hZ9,hY9,ho9,ho10,hB9⟩:=put_two (HR.out.next HB6.out) (HS.out.next HB6.out) (by omega) (HB.out.trans (HB6.out.mono HB.out.size)) (by omega) (by omega) ((HO4.out.next HB6.out).base HS2.out) ho6 HS1.out (by have:=HS1.out;have:=HS2.out;have:=HB5.out.size;have:=HGX.out;have:=HX.out.lt;omega) HV
 rw [<- HV]
 have HF:=ah (show z6=z.tmod z' by rw [hz6.out,hz5.out,HQ.out];have e:=Int.mul_tdiv_add_tmod z z';rw [Int.mul_comm z'] at e;omega)
 have HSV:=ah (show w.heap.size<=W5.heap.size from nT HB.out.size HB5.out.size)
 clear HV hc0 hc1 hd0 hd1 he0 he1 hi0 hi1 hi2 hi3 hi4 hi5 hj0 hj1 hj2 hj3 hj4 hj5 hk0 hk1 hk2 hk3 hk4 hk5 hk6 hk7 hq1 hq3 hq5 hq6 hb5 hb6 ho5 ho6
 go_wp2
 exact bodyPost_ret (by simp [results,Tryz.results199,go_sem,hZ9.c0,hZ9.c1,hY9.c0,hY9.c1]) rfl ⟨_,_,_,_,_,_,_,_,_,_,rfl,ho9.base (Nat.le_of_lt HSZ.out),ho10.base HSV.out,ah ⟨HQ.out,HF.out⟩,hB9⟩
theorem rIExact_any {s s':Bool}{A A':Option Addr}{n c n' c':Nat}{z z':Int}{w:World}(h:RdZ w w.heap.size s A n c z)(h':RdZ w w.heap.size s' A' n' c' z')(hn:n<=4398046511103)(hn':n'<=4398046511103)(h0:z' ≠ 0) :
  Calls Tryz.prog 153 #[.agg #[.bool s,.slice A n c],.agg #[.bool s',.slice A' n' c']] w fun e w'=>∃ (s:Bool) (A:Option Addr) (n c:Nat) (y:Int) (k:Bool),e=.returned (.tuple #[.agg #[.bool s,.slice A n c],.bool k])/\OwZ w' w.heap.size s A n c y/\Hid ((z.tmod z'=0/\y=z.tdiv z'/\k=true) ∨ (z.tmod z' ≠ 0/\y=0/\k=false))/\Below w.heap.size w w':=by
 obtain ⟨hZ,hY,hR,hB⟩:=boxed2 w s A n c s' A' n' c'
 have h1:=h.next hB
 have h1':=h'.next hB
 have HLN:=ah h1'.len
 have HSZ:=ah (show w.heap.size < _ from Nat.lt_trans (Nat.lt_succ_self _) (Nat.lt_trans (Nat.lt_succ_self _) hR.lt))
 go_enter Tryz.func153,Tryz.ntmps153
 go_wp2_with fail
 generalize ((w.alloc (.cells #[.bool s,.slice A n c] 25)).alloc (.cells #[.bool s',.slice A' n' c'] 25)).alloc (.cells #[.bool false,.slice none 0 0] 25)=W1 at *
 have hc0:=hZ.c0
 have hc1:=hZ.c1
 have hd0:=hY.c0
 have hd1:=hY.c1
 refine (rITrunc_any h1 h1' hn hn' h0).mono ?_
 rintro _ W2 ⟨s2,A2,m2,c2,z2,s3,A3,m3,c3,z3,rfl,ho2,ho3,hz2,hb2⟩
 obtain ⟨W3,HW3⟩:∃ W,W=(W2.alloc (.cells #[.bool s2,.slice A2 m2 c2] 25)).alloc (.cells #[.bool s3,.slice A3 m3 c3] 25):=⟨_,rfl⟩
 have hQ:ZC W3 W2.heap.size s2 A2 m2 c2:=by rw [HW3];exact (ZC.new W2 s2 A2 m2 c2).alloc _
 have hS:ZC W3 (W2.heap.size+1) s3 A3 m3 c3:=by rw [HW3];simpa using ZC.new (W2.alloc (.cells #[.bool s2,.slice A2 m2 c2] 25)) s3 A3 m3 c3
 have hb3:Below W2.heap.size W2 W3:=by rw [HW3];exact ((Below.refl W2.heap.size W2).alloc nR _).alloc (by simp) _
 have HW3:=ah HW3
 clear hc0 hc1 hd0 hd1
 go_wp2_with fail
 rw [<- HW3.out]
 clear HW3
 have hs0:=hS.c0
 have hs1:=hS.c1
 have HM3:=ah (show m3<=4398046511103 from by rw [ho3.len,hz2.out.2];exact nT (Zz.zl_tmod_lt _ h0) (nT HLN.out hn'))
 refine (rISign_any (ho3.next hb3).rd (by have:=HM3.out;omega)).mono ?_
 rintro _ W4 ⟨k,rfl,hk,hb4⟩
 have HB24:=ah (hb3.trans (hb4.mono hb3.size))
 have HO2:=ah ((ho2.next HB24.out))
 have hQ4:=hQ.next hb4
 have hR4:=(hR.next hb2).next HB24.out
 have hB4:=hB.trans ((hb2.trans (HB24.out.mono hb2.size)).mono hB.size)
 have hf0:=hR4.fz 0
 have hf1:=hR4.fz 1
 have hr0:=hR4.c0
 have hr1:=hR4.c1
 have hq0:=hQ4.c0
 have hq1:=hQ4.c1
 have HS1:=ah hR.lt
 have HK:=ah (show k=0 ↔ z.tmod z'=0 by rw [hk.out,hz2.out.2];exact Int.sign_eq_zero_iff_zero)
 clear hs0 hs1 hS hQ hR hZ hY hb2 hb3 hb4 ho2 ho3
 by_cases hk0:k=0
 ·have HT:=ah (HK.out.1 hk0)
  subst hk0
  go_wp2
  have hp:=put_int hR4 hB4 (by omega) HO2.out HS1.out
  generalize (W4.setCell ⟨w.heap.size+1+1,0,none⟩ (.bool s2)).setCell ⟨w.heap.size+1+1,1,none⟩ (.slice A2 m2 c2)=W5 at hp ⊢
  obtain ⟨hZ5,ho5,hB5⟩:=hp
  exact bodyPost_ret (by simp [results,Tryz.results153,go_sem,hZ5.c0,hZ5.c1]) rfl ⟨_,_,_,_,_,_,rfl,ho5.base (Nat.le_of_lt HSZ.out),ah (.inl ⟨HT.out,hz2.out.1,rfl⟩),hB5⟩
 ·have HT:=ah (mt HK.out.2 hk0)
  have hkb:(k != 0)=true:=by simpa using hk0
  clear hk0
  go_wp2
  have hp:=put_int hR4 hB4 (by omega) (OwZ.zero W4 W1.heap.size) HS1.out
  generalize (W4.setCell ⟨w.heap.size+1+1,0,none⟩ (.bool false)).setCell ⟨w.heap.size+1+1,1,none⟩ (.slice none 0 0)=W5 at hp ⊢
  obtain ⟨hZ5,ho5,hB5⟩:=hp
  exact bodyPost_ret (by simp [results,Tryz.results153,go_sem,hZ5.c0,hZ5.c1]) rfl ⟨_,_,_,_,_,_,rfl,ho5.base (Nat.le_of_lt HSZ.out),ah (.inr ⟨HT.out,rfl,rfl⟩),hB5⟩
structure RdRs (w:World)(B N:Nat)(A:Option Addr)(n c:Nat)(R:List (Bool × List Nat)):Prop where
 len:R.length=n
 le:n<=c
 mx:c<=maxLen
 at_:∀ (j:Nat) (r:Bool × List Nat),R[j]?=some r->∃ (ad:Addr) (A':Option Addr) (n' c':Nat),A=some ad/\ad.block < B/\w.cell? (ad.add (j*2))=some (.bool r.1)/\w.cell? ⟨(ad.add (j*2)).block,(ad.add (j*2)).off+1,none⟩=some (.slice A' n' c')/\RdU w B A' n' c' r.2/\n'<=N
def toZ (r:Bool × List Nat):Int:=Zz.sg r.1 (Dg.val r.2)
def ofZ (z:Int):Bool × List Nat:=(decide (z < 0),Dg.dg z.natAbs)
section
variable {w w':World}{B B' N:Nat}{A:Option Addr}{n c:Nat}{R:List (Bool × List Nat)}
theorem RdRs.below (h:RdRs w B N A n c R)(hb:Below B w w'):RdRs w' B N A n c R :=
 ⟨h.len,h.le,h.mx,fun j r hr=>by
  obtain ⟨ad,A',n',c',h1,h2,h3,h4,h5,h6⟩:=h.at_ j r hr
  obtain ⟨k3,k4⟩:=zs_cells hb h2 h3 h4
  exact ⟨ad,A',n',c',h1,h2,k3,k4,h5.below hb,h6⟩⟩
theorem RdRs.more (h:RdRs w B N A n c R)(hB:B<=B'):RdRs w B' N A n c R :=
 ⟨h.len,h.le,h.mx,fun j r hr=>by
  obtain ⟨ad,A',n',c',h1,h2,h3,h4,h5,h6⟩:=h.at_ j r hr
  exact ⟨ad,A',n',c',h1,by omega,h3,h4,h5.more hB,h6⟩⟩
theorem RdRs.next (h:RdRs w w.heap.size N A n c R)(hb:Below w.heap.size w w'):RdRs w' w'.heap.size N A n c R:=(h.below hb).more hb.size
end
theorem below_dr {B:Nat}{a w:World}(h:Below B a w)(n:Nat):Below B a (w.drewN n):=⟨h.os,h.tape,h.output,h.size,h.block⟩
def RetBo (P:Prop)(w:World)(e:Ending)(w':World):Prop:=∃ b:Bool,e=.returned (.bool b)/\Hid (b=true ↔ P)/\Below w.heap.size w w'
theorem same01_any {A A':Option Addr}{n c n' c':Nat}{L L':List Nat}{w:World}(h:RdU w w.heap.size A n c L)(h':RdU w w.heap.size A' n' c' L') :
  Calls Tryz.prog 95 #[.slice A n c,.slice A' n' c'] w (RetBo (L=L') w):=by
 have hlen:=ah (cJ h.len h'.len)
 have hn:n<=9223372036854775807:=by
  have h1:=h.mx
  have h2:=h.le
  unfold maxLen at h1
  omega
 go_enter Tryz.func95,Tryz.ntmps95
 by_cases hne:n=n'
 ·subst hne
  go_wp2_with fail
  go_loopw [13] (fun iv wr=>∃ i:Nat,iv=.int .i64 i/\i<=n/\Hid (∀ t,t < i->Dg.ld L t=Dg.ld L' t)/\Below w.heap.size w wr) (fun iv _=>n-(intOf iv).toNat)
  case atStart=>exact ⟨0,rfl,nZ,ah fun t ht=>by omega,bR⟩
  case round =>
   obtain ⟨i,rfl,hi,hE,hB⟩:=hrel
   by_cases hin:i=n
   ·have hni:=hin.symm
    subst hni
    clear hin
    go_wp2
    go_ret
    exact ⟨true,rfl,ah ⟨fun _=>by
     apply List.ext_getElem?
     intro t
     rcases Nat.lt_or_ge t n with ht | ht
     ·rw [Dg.get_of_ld (by rw [hlen.out.1];exact ht),Dg.get_of_ld (by rw [hlen.out.2];exact ht),hE.out t ht]
     ·rw [gN (by rw [hlen.out.1];exact ht),gN (by rw [hlen.out.2];exact ht)],fun _=>rfl⟩,hB⟩
   ·have hil:i < n:=by omega
    clear hin
    have hili:(i:Int) < (n:Int):=by omega
    obtain ⟨hx,ad,rfl,hbx,hcx⟩:=h.at_ i _ (Dg.get_of_ld (by rw [hlen.out.1];exact hil))
    obtain ⟨hy,ad',rfl,hby,hcy⟩:=h'.at_ i _ (Dg.get_of_ld (by rw [hlen.out.2];exact hil))
    have hcx:=(hB.cell (p:=ad.add i) (by rw [add_blk];exact hbx)).trans hcx
    have hcy:=(hB.cell (p:=ad'.add i) (by rw [add_blk];exact hby)).trans hcy
    obtain ⟨x,ex⟩:∃ x,x=Dg.ld L i:=⟨_,rfl⟩
    obtain ⟨y,ey⟩:∃ y,y=Dg.ld L' i:=⟨_,rfl⟩
    rw [<- ex] at hcx
    rw [<- ey] at hcy
    have EX:=ah (cJ ex ey)
    clear ex ey
    by_cases hxy:x=y
    ·subst hxy
     go_wp2
     go_quiet (fail)
     go_wp2
     go_roundw
     case rel=>exact ⟨i+1,by go_num,by omega,ah fun t ht=>by
      rcases Nat.lt_or_ge t i with h1 | h1
      ·exact hE.out t h1
      ·rw [show t=i by omega,<- EX.out.1,<- EX.out.2],by first | exact hB.drew | exact below_dr hB _⟩
     case measure=>simp [intOf];omega
    ·have hb:((x:Int) != (y:Int))=true:=by simp;omega
     have HXY:=ah hxy
     clear hxy
     go_wp2
     go_quiet (fail)
     go_wp2
     go_ret
     exact ⟨false,rfl,ah ⟨fun e=>by simp at e,fun e=>absurd (by rw [EX.out.1,EX.out.2,e]) HXY.out⟩,by first | exact hB.drew | exact below_dr hB _⟩
 ·have hb:((n:Int) != (n':Int))=true:=by simp;omega
  have HNE:=ah hne
  clear hne
  go_wp2
  go_ret
  exact ⟨false,rfl,ah ⟨fun e=>by simp at e,fun e=>absurd (by rw [<- hlen.out.1,<- hlen.out.2,e]) HNE.out⟩,bR⟩
theorem same03_any {s s':Bool}{A A':Option Addr}{n c n' c':Nat}{M M':List Nat}{w:World}(h:RdU w w.heap.size A n c M)(h':RdU w w.heap.size A' n' c' M') :
  Calls Tryz.prog 42 #[.agg #[.bool s,.slice A n c],.agg #[.bool s',.slice A' n' c']] w (RetBo ((s,M)=(s',M')) w):=by
 obtain ⟨W1,HW1⟩:∃ W,W=(w.alloc (.cells #[.bool s,.slice A n c] 25)).alloc (.cells #[.bool s',.slice A' n' c'] 25):=⟨_,rfl⟩
 have hZ:ZC W1 w.heap.size s A n c:=by rw [HW1];exact (ZC.new w s A n c).alloc _
 have hY:ZC W1 (w.heap.size+1) s' A' n' c':=by rw [HW1];simpa using ZC.new (w.alloc (.cells #[.bool s,.slice A n c] 25)) s' A' n' c'
 have hB:Below w.heap.size w W1:=by rw [HW1];exact ((Below.refl w.heap.size w).alloc nR _).alloc (by simp) _
 have h1:=h.next hB
 have h1':=h'.next hB
 have HB:=ah hB
 by_cases hss:s=s'
 ·subst hss
  have HW1:=ah HW1
  go_enter Tryz.func42,Tryz.ntmps42
  go_wp2_with fail
  rw [<- HW1.out]
  clear HW1
  clear HW1
  refine (same01_any h1 h1').mono ?_
  rintro _ W2 ⟨b,rfl,hb,hb2⟩
  go_wp2
  go_ret
  exact ⟨b,rfl,ah ⟨fun e=>by rw [hb.out.1 e],fun e=>hb.out.2 (by injection e)⟩,HB.out.trans (hb2.mono HB.out.size)⟩
 ·have hbe:(s == s')=false:=by simpa using hss
  have HSS:=ah hss
  have HB0:=ah (show Below w.heap.size w ((w.alloc (.cells #[.bool s,.slice A n c] 25)).alloc (.cells #[.bool s',.slice A' n' c'] 25)) by rw [<- HW1];exact hB)
  clear hss hZ hY hB h1 h1'
  clear HW1
  go_enter Tryz.func42,Tryz.ntmps42
  go_wp2
  go_ret
  exact ⟨false,rfl,ah ⟨fun e=>by simp at e,fun e=>absurd (by injection e) HSS.out⟩,HB0.out⟩
theorem rs_at {w:World}{B N:Nat}{A:Option Addr}{n c:Nat}{R:List (Bool × List Nat)}(h:RdRs w B N A n c R){j:Nat}(hj:j < n) :
  ∃ (ad:Addr) (s:Bool) (M:List Nat) (A':Option Addr) (n' c':Nat),A=some ad/\ad.block < B/\w.cell? (ad.add (j*2))=some (.bool s)/\w.cell? ⟨(ad.add (j*2)).block,(ad.add (j*2)).off+1,none⟩=some (.slice A' n' c')/\RdU w B A' n' c' M/\n'<=N/\Hid (R[j]?=some (s,M)):=by
 have hz:R[j]?=some (R[j]'(by rw [h.len];exact hj)):=gE _
 obtain ⟨ad,A',n',c',h1,h2,h3,h4,h5,h6⟩:=h.at_ j _ hz
 exact ⟨ad,_,_,A',n',c',h1,h2,h3,h4,h5,h6,ah hz⟩
theorem sameAll_any {N N':Nat}{A A':Option Addr}{n c n' c':Nat}{R R':List (Bool × List Nat)}{w:World}(h:RdRs w w.heap.size N A n c R)(h':RdRs w w.heap.size N' A' n' c' R') :
  Calls Tryz.prog 43 #[.slice A n c,.slice A' n' c'] w (RetBo (R=R') w):=by
 have hlen:=ah (cJ h.len h'.len)
 have hn:n<=9223372036854775807:=by
  have h1:=h.mx
  have h2:=h.le
  unfold maxLen at h1
  omega
 go_enter Tryz.func43,Tryz.ntmps43
 by_cases hne:n=n'
 ·subst hne
  go_wp2_with fail
  go_loopw [13] (fun iv wr=>∃ i:Nat,iv=.int .i64 i/\i<=n/\Hid (∀ t,t < i->R[t]?=R'[t]?)/\Below w.heap.size w wr) (fun iv _=>n-(intOf iv).toNat)
  case atStart=>exact ⟨0,rfl,nZ,ah fun t ht=>by omega,bR⟩
  case round =>
   obtain ⟨i,rfl,hi,hE,hB⟩:=hrel
   by_cases hin:i=n
   ·have hni:=hin.symm
    subst hni
    clear hin
    go_wp2
    go_ret
    exact ⟨true,rfl,ah ⟨fun _=>by
     apply List.ext_getElem?
     intro t
     rcases Nat.lt_or_ge t n with ht | ht
     ·exact hE.out t ht
     ·rw [gN (by rw [hlen.out.1];exact ht),gN (by rw [hlen.out.2];exact ht)],fun _=>rfl⟩,hB⟩
   ·have hil:i < n:=by omega
    clear hin
    have hili:(i:Int) < (n:Int):=by omega
    obtain ⟨ad,s,M,A1,n1,c1,rfl,hbk,hx0,hx1,hrx,hn1,hx⟩:=rs_at h hil
    obtain ⟨ad',s',M',A2,n2,c2,rfl,hbk',hy0,hy1,hry,hn2,hy⟩:=rs_at h' hil
    obtain ⟨k0,k1⟩:=zs_cells hB hbk hx0 hx1
    obtain ⟨l0,l1⟩:=zs_cells hB hbk' hy0 hy1
    have HBD:=ah (Below.refl wr.heap.size wr).drew
    have HSA:=ah (same03_any (s:=s) (s':=s') ((hrx.next hB).next HBD.out) ((hry.next hB).next HBD.out))
    have HCX:=ah (show ∀ W:World,Below wr.heap.size wr W->_ from fun W hb=>zs_cells (hB.trans (hb.mono hB.size)) hbk hx0 hx1)
    have HCY:=ah (show ∀ W:World,Below wr.heap.size wr W->_ from fun W hb=>zs_cells (hB.trans (hb.mono hB.size)) hbk' hy0 hy1)
    clear hx0 hx1 hy0 hy1 hrx hry
    go_upto_region 6 with fail
    go_region_held3 (fun w'=>w'.cell? (ad.add (i*2))=some (.bool s)/\w'.cell? ⟨(ad.add (i*2)).block,(ad.add (i*2)).off+1,none⟩=some (.slice A1 n1 c1)/\w'.cell? (ad'.add (i*2))=some (.bool s')/\w'.cell? ⟨(ad'.add (i*2)).block,(ad'.add (i*2)).off+1,none⟩=some (.slice A2 n2 c2)) (go_keep)
     (first
      | (go_at_call 42;refine HSA.out.mono ?_;rintro _ W2 ⟨b,rfl,hb,hb2⟩;have HB2:=ah (HBD.out.trans hb2);have a0:=(HCX.out W2 HB2.out).1;have a1:=(HCX.out W2 HB2.out).2;have a2:=(HCY.out W2 HB2.out).1;have a3:=(HCY.out W2 HB2.out).2))
    have hB2:=hB.trans (HB2.out.mono hB.size)
    clear k0 k1 l0 l1 a0 a1 a2 a3 hb2
    cases b
    ·have HNE:=ah (show (s,M) ≠ (s',M') from fun e=>by have:=hb.out.2 e;simp at this)
     go_wp2
     go_ret
     exact ⟨false,rfl,ah ⟨fun e=>by simp at e,fun e=>absurd (by
      have e1:=hx.out
      rw [e,hy.out] at e1
      injection e1 with e1
      exact e1.symm) HNE.out⟩,hB2⟩
    ·have HEQ:=ah (hb.out.1 rfl)
     go_wp2
     go_roundw
     case rel=>exact ⟨i+1,by go_num,by omega,ah fun t ht=>by
      rcases Nat.lt_or_ge t i with h1 | h1
      ·exact hE.out t h1
      ·rw [show t=i by omega,hx.out,hy.out,HEQ.out],hB2⟩
     case measure=>simp [intOf];omega
 ·have hb:((n:Int) != (n':Int))=true:=by simp;omega
  have HNE:=ah hne
  clear hne
  go_wp2
  go_ret
  exact ⟨false,rfl,ah ⟨fun e=>by simp at e,fun e=>absurd (by rw [<- hlen.out.1,<- hlen.out.2,e]) HNE.out⟩,bR⟩
theorem wp_append_sl {P:Program}{w:World}{o:Oper}{a:Act}{K:Act->World->Prop}{Q:Exit->Act->World->Prop}(s x:Operand)(t:TypeId)
  (ho:o.op=.call { callee:=.builtin .append,args:=#[s,x],argTypes:=#[t,t] })
  (base:Nat) (e:TypeId) (i:TypeInfo) (z:Value) (size bytes:Nat) (ht:P.underlying t=some (.slice e)) (hi:P.info? e=some i) (hz:i.zero=some z)
  (hsize:i.size=size) (hby:i.bytes=bytes) (hzs:z.cells.size=size) (hsz:0 < size)
  (v:Value) (n:Nat) (xs:List Value) (hs:a.eval s=v) (hown:w.ownsRow base e size v n xs)
  (X:Option Addr) (m c:Nat) (news:List Value) (hx:a.eval x=.slice X m c) (hl:news.length=m*size) (hnil:X=none->m=0) (hnews:∀ ad,X=some ad->∀ j u,news[j]?=some u->w.cell? (ad.add j)=some u) (h1:∀ u ∈ news,u.oneCell'=true)
  (h63:n+m<=maxLen) (hbytes:(n+m)*bytes<=140737488355328) (hbase:base<=w.heap.size)
  (h:∀ A' c' w',w'.ownsRow base e size (.slice A' (n+m) c') (n+m) (xs ++ news)->w.grownBy w' v.ownBlock->K (a.put o.dst (.slice A' (n+m) c')) w'):o.wp P a w K Q:=by
 rcases X with _ | ad
 ·obtain rfl:=hnil rfl
  have hn0:news=[]:=List.eq_nil_of_length_eq_zero (by simpa using hl)
  subst hn0
  obtain ⟨A',c',rfl⟩:=row_sl hown
  have hle:n<=c':=by
   rcases hown.2 with ⟨e1,e2⟩ | ⟨g,cap,cur,e1,_,_,e4,_⟩
   ·omega
   ·injection e1 with e1 e2 e3
    omega
  have hr:=run_append_nothing (P:=P) w t t o.type e i ht hi A' n c' hle (.slice none 0 c) (Src.ofNil w ht c)
  unfold Oper.wp execOp
  simp only [ho,resolve,invoke,builtin,Sem.run_bind,Sem.run_pure,Result.andThen_ok,List.map_toArray,List.map_cons,List.map_nil,hs,hx,hr]
  exact h A' c' w (by simpa using hown) (World.grownBy.refl w _)
 ·obtain ⟨v',w',hr,h2,h3,_⟩:=run_append_own_at (P:=P) w base t o.type e i z size bytes ht hi hz hsize hby hzs hsz v n xs hown ad m c news hl (hnews ad rfl) h1 h63 hbytes hbase
  obtain ⟨A',c',rfl⟩:=row_sl h2
  unfold Oper.wp execOp
  simp only [ho,resolve,invoke,builtin,Sem.run_bind,Sem.run_pure,Result.andThen_ok,List.map_toArray,List.map_cons,List.map_nil,hs,hx,hr]
  exact h A' c' w' h2 h3
theorem step_append_sl {P:Program}{ops:Array Oper}{w:World}{o:Oper}{a:Act}{K:Act->World->Prop}{Q:Exit->Act->World->Prop}{E:Prop}(hgd:o.guard=none)(s x:Operand)(t:TypeId)
  (ho:o.op=.call { callee:=.builtin .append,args:=#[s,x],argTypes:=#[t,t] })
  (base:Nat) (e:TypeId) (i:TypeInfo) (z:Value) (size bytes:Nat) (ht:P.underlying t=some (.slice e)) (hi:P.info? e=some i) (hz:i.zero=some z)
  (hsize:i.size=size) (hby:i.bytes=bytes) (hzs:z.cells.size=size) (hsz:0 < size)
  (v:Value) (n:Nat) (xs:List Value) (hs:a.eval s=v) (hown:w.ownsRow base e size v n xs)
  (X:Option Addr) (m c:Nat) (news:List Value) (hx:a.eval x=.slice X m c) (hl:news.length=m*size) (hnil:X=none->m=0) (hnews:∀ ad,X=some ad->∀ j u,news[j]?=some u->w.cell? (ad.add j)=some u) (h1:∀ u ∈ news,u.oneCell'=true)
  (h63:n+m<=maxLen) (hbytes:(n+m)*bytes<=140737488355328) (hbase:base<=w.heap.size)
  (h:∀ A' c' w',w'.ownsRow base e size (.slice A' (n+m) c') (n+m) (xs ++ news)->w.grownBy w' v.ownBlock->K (a.put o.dst (.slice A' (n+m) c')) w') :
  if Region.wanted o (yielded ops a.tmps)=true then Oper.wp P o a w K Q else E:=by
 have hw:Region.wanted o (yielded ops a.tmps)=true:=by simp [Region.wanted,hgd]
 rw [if_pos hw]
 exact wp_append_sl s x t ho base e i z size bytes ht hi hz hsize hby hzs hsz v n xs hs hown X m c news hx hl hnil hnews h1 h63 hbytes hbase h
section
variable {w w':World}{g b:Nat}{E:List Ent}{F:Nat->Bool × List Nat}
end
structure RdK (w:World)(B:Nat)(A:Option Addr)(n c:Nat)(L:List Int):Prop where
 len:L.length=n
 le:n<=c
 mx:c<=maxLen
 at_:∀ (j:Nat) (z:Int),L[j]?=some z->-9223372036854775808<=z/\z < 9223372036854775808/\∃ ad,A=some ad/\ad.block < B/\w.cell? (ad.add j)=some (.int .i64 z)
theorem RdK.next {w w':World}{A:Option Addr}{n c:Nat}{L:List Int}(h:RdK w w.heap.size A n c L)(hb:Below w.heap.size w w'):RdK w' w'.heap.size A n c L :=
 ⟨h.len,h.le,h.mx,fun j z hz=>by
  obtain ⟨h1,h2,ad,h3,h4,h5⟩:=h.at_ j z hz
  exact ⟨h1,h2,ad,h3,by have:=hb.size;omega,(hb.cell (p:=ad.add j) (by rw [add_blk];exact h4)).trans h5⟩⟩
theorem RdK.new (w:World)(t:TypeId)(L:List Int)(hL:∀ z ∈ L,-9223372036854775808<=z/\z < 9223372036854775808)(hm:L.length<=maxLen){C:Array Value}(hC:C=(L.map fun z:Int=>Value.int .i64 z).toArray){n:Nat}(hn:n=L.length) :
  RdK (w.alloc (.cells C t)) (w.alloc (.cells C t)).heap.size (some ⟨w.heap.size,0,none⟩) n n L:=by
 subst hn
 refine ⟨rfl,nR,hm,fun j z hz=>?_⟩
 obtain ⟨h1,h2⟩:=hL z (gM hz)
 refine ⟨h1,h2,_,rfl,by simp,?_⟩
 have e:(⟨w.heap.size,0,none⟩:Addr).add j=⟨w.heap.size,j,none⟩:=by unfold Addr.add;by_cases h:j=0 <;> simp [h]
 rw [e,cell_of_row _ w.heap.size j _ _ _ (heap_alloc_new w _),hC]
 simp [hz]
theorem EntF.congr {w:World}{b:Nat}{E:List Ent}{f g:Nat->Int}(h:EntF w b E f)(e:∀ i,f i=g i):EntF w b E g:=fun i x hx=>by rw [<- e];exact h i x hx
theorem zl_co {w:World}{B N:Nat}{A:Option Addr}{n c:Nat}{L:List Int}(h:RdZs w B N A n c L)(i:Nat):Zz.zl (Pz.co L i)<=N:=by
 rcases Nat.lt_or_ge i n with hi | hi
 ·obtain ⟨_,_,_,_,_,z,_,_,_,_,hr,hn,hz⟩:=zs_at h hi
  rw [Pz.co_get hz.out]
  exact nT hr.len hn
 ·rw [Pz.co_ge (by rw [h.len];exact hi),Zz.zl_zero]
  exact nZ
end Go.Proofs.YtjnklbfhelbjgaaGreat
namespace Pz
def cvp (a b:Nat → Int):Nat → Nat → Int
 | 0,_=>0
 | i+1,t=>cvp a b i t+(if i ≤ t then a i*b (t-i) else 0)
theorem cvp_zero (a b:Nat → Int)(t:Nat):cvp a b 0 t=0:=rfl
theorem cvp_succ (a b:Nat → Int)(i t:Nat):cvp a b (i+1) t=cvp a b i t+(if i ≤ t then a i*b (t-i) else 0):=rfl
theorem cvp_congr {a a' b b':Nat → Int}(ha:∀ i,a i=a' i)(hb:∀ i,b i=b' i)(t:Nat):∀ i,cvp a b i t=cvp a' b' i t
 | 0=>rfl
 | i+1=>by rw [cvp_succ,cvp_succ,cvp_congr ha hb t i,ha,hb]
theorem cvp_stop {a b:Nat → Int}{k:Nat}(h:∀ i,k ≤ i → a i=0)(t:Nat):∀ d,cvp a b (k+d) t=cvp a b k t
 | 0=>rfl
 | d + 1 => by
   rw [show k+(d+1)=(k+d)+1 by omega,cvp_succ,cvp_stop h t d,h _ (by omega)]
   simp
theorem cvp_stop' {a b:Nat → Int}{k m:Nat}(h:∀ i,k ≤ i → a i=0)(hm:k ≤ m)(t:Nat):cvp a b m t=cvp a b k t:=by
 obtain ⟨d,rfl⟩:∃ d,m=k+d:=⟨m-k,by omega⟩
 exact cvp_stop h t d
theorem cvp_above {a b:Nat → Int}{k:Nat}(hb:∀ i,k ≤ i → b i=0):∀ {i t:Nat},i+k ≤ t+1 → cvp a b i t=0
 | 0,_,_=>rfl
 | i + 1, t, h => by
   rw [cvp_succ,cvp_above hb (by omega),hb (t-i) (by omega)]
   simp
def cvm (a b:Nat → Int)(i k t:Nat):Int:=cvp a b i t+(if i ≤ t ∧ t < i+k then a i*b (t-i) else 0)
theorem cvm_zero (a b:Nat → Int)(i t:Nat):cvm a b i 0 t=cvp a b i t:=by
 unfold cvm
 rw [if_neg (by omega),Int.add_zero]
theorem cvm_end {a b:Nat → Int}{k:Nat}(hb:∀ i,k ≤ i → b i=0)(i t:Nat):cvm a b i k t=cvp a b (i+1) t:=by
 unfold cvm
 rw [cvp_succ]
 by_cases h1:i ≤ t
 ·rw [if_pos h1]
  by_cases h2:t < i+k
  ·rw [if_pos ⟨h1,h2⟩]
  ·rw [if_neg (by omega),hb (t-i) (by omega),Int.mul_zero]
 ·rw [if_neg h1,if_neg (by omega)]
theorem cvm_step (a b:Nat → Int)(i k t:Nat):cvm a b i (k+1) t=if t=i+k then cvm a b i k (i+k)+a i*b k else cvm a b i k t:=by
 unfold cvm
 by_cases h:t=i+k
 ·subst h
  rw [if_pos rfl,if_pos (by omega),if_neg (by omega),show i+k-i=k by omega,Int.add_zero]
 ·rw [if_neg h]
  congr 1
  by_cases h2:i ≤ t ∧ t < i+k
  ·rw [if_pos h2,if_pos (by omega)]
  ·rw [if_neg h2,if_neg (by omega)]
theorem mul_size {x y:Int}{N N':Nat}(hx:Zz.zl x ≤ N)(hy:Zz.zl y ≤ N'):(x*y).natAbs ≤ 4294967296 ^ (N+N'):=by
 have e:=Zz.zl_mul x y
 exact Nat.le_of_lt (Zz.zl_le.1 (show Zz.zl (x*y) ≤ N+N' by omega))
theorem cvp_size {a b:Nat → Int}{N N':Nat}(ha:∀ i,Zz.zl (a i) ≤ N)(hb:∀ i,Zz.zl (b i) ≤ N')(t:Nat):∀ i,(cvp a b i t).natAbs ≤ i*4294967296 ^ (N+N')
 | 0=>by simp [cvp_zero]
 | i + 1 => by
   have ih:=cvp_size ha hb t i
   have e:=mul_size (ha i) (hb (t-i))
   rw [cvp_succ,Nat.succ_mul]
   split
   ·omega
   ·omega
theorem cvm_zl {a b:Nat → Int}{N N':Nat}(ha:∀ i,Zz.zl (a i) ≤ N)(hb:∀ i,Zz.zl (b i) ≤ N'){i:Nat}(hi:i < 4294967295)(k t:Nat):Zz.zl (cvm a b i k t) ≤ N+N'+1:=by
 rw [Zz.zl_le,Nat.pow_succ]
 have e1:=cvp_size ha hb t i
 have e2:=mul_size (ha i) (hb (t-i))
 have hp:0 < 4294967296 ^ (N+N'):=Nat.pow_pos (by omega)
 have e3:(i+1)*4294967296 ^ (N+N') < 4294967296 ^ (N+N')*4294967296:=by
  rw [Nat.mul_comm]
  exact Nat.mul_lt_mul_of_pos_left (by omega) hp
 rw [Nat.succ_mul] at e3
 unfold cvm
 split
 ·omega
 ·omega
theorem cvp_zl {a b:Nat → Int}{N N':Nat}(ha:∀ i,Zz.zl (a i) ≤ N)(hb:∀ i,Zz.zl (b i) ≤ N'){i:Nat}(hi:i < 4294967295)(t:Nat):Zz.zl (cvp a b i t) ≤ N+N'+1:=by
 rw [← cvm_zero];exact cvm_zl ha hb hi 0 t
end Pz
namespace Go.Proofs.YtjnklbfhelbjgaaGreat
open Go.RowKit Go.IntWalk
attribute [local go_sem ↓] Go.wp_at_zero Go.wp_at_succ
end Go.Proofs.YtjnklbfhelbjgaaGreat
namespace Pz
end Pz
namespace Go.Proofs.YtjnklbfhelbjgaaGreat
open Go.RowKit Go.IntWalk
attribute [local go_sem ↓] Go.wp_at_zero Go.wp_at_succ
end Go.Proofs.YtjnklbfhelbjgaaGreat
namespace Pz
end Pz
namespace Pz
end Pz
namespace Go.Proofs.YtjnklbfhelbjgaaGreat
open Go.RowKit Go.IntWalk
attribute [local go_sem ↓] Go.wp_at_zero Go.wp_at_succ
end Go.Proofs.YtjnklbfhelbjgaaGreat
namespace Pz
end Pz
namespace Go.Proofs.YtjnklbfhelbjgaaGreat
open Go.RowKit Go.IntWalk
attribute [local go_sem ↓] Go.wp_at_zero Go.wp_at_succ
theorem rd_of' {w:World}{b N:Nat}{A:Option Addr}{n c:Nat}{M:List Int}{f:Nat->Int}(h:OwZs w b A n c M)(hM:∀ i,Pz.co M i=f i)(hf:∀ i,Zz.zl (f i)<=N):RdZs w w.heap.size N A n c M:=h.rd fun z hz=>by
 obtain ⟨i,_,rfl⟩:=Pz.mem_co hz
 rw [hM]
 exact hf i
theorem rd_st {w:World}{b N:Nat}{A:Option Addr}{n c:Nat}{M:List Int}(h:OwZs w b A n c M)(hf:∀ i,Zz.zl (Pz.co M i)<=N):RdZs w w.heap.size N A n c M:=rd_of' h (fun _=>rfl) hf
def KeepT (w w':World):Prop:=∀ (i:Nat) (c:Array Value) (f:Nat × Nat),w.heap[i]?=some (.cells c 171 f)->w'.heap[i]?=some (.cells c 171 f)
section
variable {w w':World}{b B g:Nat}{A:Option Addr}{n c:Nat}
theorem KeepT.trans {w'':World}(h:KeepT w w')(h':KeepT w' w''):KeepT w w'':=fun i c f e=>h' i c f (h i c f e)
theorem KeepT.below (h:Below w.heap.size w w'):KeepT w w':=fun i _ _ e=>(h.block i (Array.getElem?_eq_some_iff.1 e).1).trans e
theorem KeepT.set {p:Addr}{cs:Array Value}{t:TypeId}{f:Nat × Nat}(h:w.heap[p.block]?=some (.cells cs t f))(ht:t ≠ 171)(v:Value):KeepT w (w.setCell p v):=fun i c f' e=>by
 have hne:i ≠ p.block:=by
  rintro rfl
  rw [h] at e
  injection e with e
  injection e with _ e _
  exact ht e
 exact (Below.heap_setCell w p v i hne).trans e
theorem KeepT.grown {e:TypeId}{k:Nat}{v:Value}{xs:List Value}(h:w.ownsRow b e k v n xs)(he:e ≠ 171)(hg:w.grownBy w' v.ownBlock):KeepT w w':=fun i c f hi=>by
 have hne:some i ≠ v.ownBlock:=by
  intro h0
  rcases h.2 with ⟨h1,_⟩ | ⟨g,cap,cur,h1,_,h3,_⟩
  ·rw [h1] at h0;cases h0
  ·rw [h1] at h0
   injection h0 with h0
   subst h0
   rw [h3] at hi
   injection hi with hi
   injection hi with _ hi _
   exact he hi
 exact (hg.block i (Array.getElem?_eq_some_iff.1 hi).1 hne).trans hi
theorem OwU.keep {L:List Nat}(h:OwU w b A n c L)(hk:KeepT w w'):OwU w' b A n c L:=by
 refine ⟨⟨h.own.1,?_⟩,h.wd⟩
 rcases h.own.2 with h0 | ⟨g,cap,cur,h1,h2,h3,h4⟩
 ·exact .inl h0
 ·exact .inr ⟨g,cap,cur,h1,h2,hk _ _ _ h3,h4⟩
theorem OwZ.keep {s:Bool}{z:Int}(h:OwZ w b s A n c z)(hk:KeepT w w'):OwZ w' b s A n c z:=⟨h.own.keep hk,h.sgn⟩
theorem row_far {e:TypeId}{k:Nat}{v:Value}{xs:List Value}(h:w.ownsRow b e k v n xs){p:Addr}(hp:p.block < b)(u:Value):(w.setCell p u).ownsRow b e k v n xs:=by
 refine ⟨h.1,?_⟩
 rcases h.2 with h0 | ⟨g,cap,cur,h1,h2,h3,h4⟩
 ·exact .inl h0
 ·exact .inr ⟨g,cap,cur,h1,h2,(Below.heap_setCell w p u g (by omega)).trans h3,h4⟩
end
theorem keep_set2 {w:World}{g:Nat}{s:Bool}{A:Option Addr}{n c:Nat}(h:ZC w g s A n c)(x y:Value):KeepT w ((w.setCell ⟨g,0,none⟩ x).setCell ⟨g,1,none⟩ y):=fun i cs f e=>by
 have hne:i ≠ g:=by
  rintro rfl
  unfold ZC at h
  rw [h] at e
  simp at e
 exact ((Below.heap_setCell _ (⟨g,1,none⟩:Addr) y i hne).trans (Below.heap_setCell _ (⟨g,0,none⟩:Addr) x i hne)).trans e
end Go.Proofs.YtjnklbfhelbjgaaGreat
namespace Pz
end Pz
namespace Go.Proofs.YtjnklbfhelbjgaaGreat
open Go.RowKit Go.IntWalk
attribute [local go_sem ↓] Go.wp_at_zero Go.wp_at_succ
theorem OwZs.far {w:World}{b:Nat}{A:Option Addr}{n c:Nat}{L:List Int}(h:OwZs w b A n c L){p:Addr}(hp:p.block < b)(u:Value):OwZs (w.setCell p u) b A n c L:=by
 obtain ⟨E,h1,h2,h3⟩:=h
 exact ⟨E,row_far h1 hp u,h2,h3.1,fun j e z he hz=>(h3.2 j e z he hz).far hp u⟩
end Go.Proofs.YtjnklbfhelbjgaaGreat
namespace Qz
def gs (a b:Int):Int:=if b < 0 then -(Int.gcd a b:Int) else (Int.gcd a b:Int)
theorem gs_ne {a b:Int}(hb:b ≠ 0):gs a b ≠ 0:=by
 have h:Int.gcd a b ≠ 0:=fun e=>hb (Int.gcd_eq_zero_iff.1 e).2
 unfold gs
 split <;> omega
theorem gs_left (a b:Int):gs a b ∣ a:=by
 unfold gs
 split
 ·exact Int.neg_dvd.2 (Int.gcd_dvd_left a b)
 ·exact Int.gcd_dvd_left a b
theorem gs_right (a b:Int):gs a b ∣ b:=by
 unfold gs
 split
 ·exact Int.neg_dvd.2 (Int.gcd_dvd_right a b)
 ·exact Int.gcd_dvd_right a b
theorem make_num {a b:Int}(hb:b ≠ 0):a.tdiv (gs a b)=(Rat.divInt a b).num:=by
 rw [Rat.num_divInt,Int.gcd_comm b a]
 unfold gs
 split
 ·rw [Int.tdiv_neg,Int.sign_eq_neg_one_of_neg (by assumption),Int.tdiv_eq_ediv_of_dvd (Int.gcd_dvd_left a b),Int.neg_one_mul,Int.neg_ediv_of_dvd (Int.gcd_dvd_left a b)]
 ·rw [Int.sign_eq_one_of_pos (by omega),Int.one_mul,Int.tdiv_eq_ediv_of_dvd (Int.gcd_dvd_left a b)]
theorem make_den {a b:Int}(hb:b ≠ 0):b.tdiv (gs a b)=((Rat.divInt a b).den:Int):=by
 rw [Rat.den_divInt,if_neg hb,Int.gcd_comm b a]
 unfold gs
 split
 ·rename_i h
  obtain ⟨k,hk⟩:∃ k:Nat,b=-(k:Int):=⟨b.natAbs,by omega⟩
  have e:b.natAbs=k:=by omega
  rw [Int.tdiv_neg,Int.tdiv_eq_ediv_of_dvd (Int.gcd_dvd_right a b),← Int.neg_ediv_of_dvd (Int.gcd_dvd_right a b),e]
  rw [show -b=(k:Int) by omega]
  rfl
 ·rename_i h
  obtain ⟨k,hk⟩:∃ k:Nat,b=(k:Int):=⟨b.natAbs,by omega⟩
  have e:b.natAbs=k:=by omega
  rw [Int.tdiv_eq_ediv_of_dvd (Int.gcd_dvd_right a b),e]
  conv=>lhs;arg 1;rw [hk]
  rfl
theorem gcd_list (a b:Int):[a,b].foldl (fun (g x:Int)=>(Int.gcd g x:Int)) 0=(Int.gcd a b:Int):=by
 simp [Int.gcd]
end Qz
namespace Go.Proofs.YtjnklbfhelbjgaaGreat
open Go.RowKit Go.IntWalk
attribute [local go_sem ↓] Go.wp_at_zero Go.wp_at_succ
def QC (w:World)(g:Nat)(s:Bool)(A:Option Addr)(n c:Nat)(s':Bool)(A':Option Addr)(n' c':Nat):Prop:=w.heap[g]?=some (.cells #[.bool s,.slice A n c,.bool s',.slice A' n' c'] 47 (0,0))
structure OwQ (w:World)(b:Nat)(s:Bool)(A:Option Addr)(n c:Nat)(s':Bool)(A':Option Addr)(n' c':Nat)(x:Rat):Prop where
 num:OwZ w b s A n c x.num
 den:OwZ w b s' A' n' c' (x.den:Int)
section
variable {w w':World}{g b b' B:Nat}{s s':Bool}{A A':Option Addr}{n c n' c':Nat}{x:Rat}
theorem QC.lt (h:QC w g s A n c s' A' n' c'):g < w.heap.size:=(Array.getElem?_eq_some_iff.1 h).1
theorem QC.c0 (h:QC w g s A n c s' A' n' c'):w.cell? ⟨g,0,none⟩=some (.bool s):=by rw [cell_of_row w g 0 _ _ _ h];rfl
theorem QC.c1 (h:QC w g s A n c s' A' n' c'):w.cell? ⟨g,1,none⟩=some (.slice A n c):=by rw [cell_of_row w g 1 _ _ _ h];rfl
theorem QC.c2 (h:QC w g s A n c s' A' n' c'):w.cell? ⟨g,2,none⟩=some (.bool s'):=by rw [cell_of_row w g 2 _ _ _ h];rfl
theorem QC.c3 (h:QC w g s A n c s' A' n' c'):w.cell? ⟨g,3,none⟩=some (.slice A' n' c'):=by rw [cell_of_row w g 3 _ _ _ h];rfl
theorem QC.fz (h:QC w g s A n c s' A' n' c')(j:Nat):w.frozen? ⟨g,j,none⟩=false:=frozen_of_row w g j _ _ h
theorem QC.next (h:QC w g s A n c s' A' n' c')(hb:Below w.heap.size w w'):QC w' g s A n c s' A' n' c':=(hb.block g h.lt).trans h
theorem QC.new (w:World)(s:Bool)(A:Option Addr)(n c:Nat)(s':Bool)(A':Option Addr)(n' c':Nat):QC (w.alloc (.cells #[.bool s,.slice A n c,.bool s',.slice A' n' c'] 47)) w.heap.size s A n c s' A' n' c':=heap_alloc_new w _
def putQ (w:World)(g:Nat)(s:Bool)(A:Option Addr)(n c:Nat)(s':Bool)(A':Option Addr)(n' c':Nat):World:=(((w.setCell ⟨g,0,none⟩ (.bool s)).setCell ⟨g,1,none⟩ (.slice A n c)).setCell ⟨g,2,none⟩ (.bool s')).setCell ⟨g,3,none⟩ (.slice A' n' c')
theorem QC.store (h:QC w g s A n c s' A' n' c')(t:Bool)(D:Option Addr)(k m:Nat)(t':Bool)(D':Option Addr)(k' m':Nat):QC (putQ w g t D k m t' D' k' m') g t D k m t' D' k' m':=by
 unfold QC putQ at *
 simp [World.setCell,Array.getElem?_modify,h]
theorem keep_putQ (h:QC w g s A n c s' A' n' c')(t:Bool)(D:Option Addr)(k m:Nat)(t':Bool)(D':Option Addr)(k' m':Nat):KeepT w (putQ w g t D k m t' D' k' m'):=fun i cs f e=>by
 have hne:i ≠ g:=by
  rintro rfl
  unfold QC at h
  rw [h] at e
  simp at e
 unfold putQ
 rw [Below.heap_setCell _ (⟨g,3,none⟩:Addr) _ i hne,Below.heap_setCell _ (⟨g,2,none⟩:Addr) _ i hne,Below.heap_setCell _ (⟨g,1,none⟩:Addr) _ i hne,Below.heap_setCell _ (⟨g,0,none⟩:Addr) _ i hne]
 exact e
theorem below_putQ (hb:Below B w w')(hg:B<=g)(t:Bool)(D:Option Addr)(k m:Nat)(t':Bool)(D':Option Addr)(k' m':Nat):Below B w (putQ w' g t D k m t' D' k' m') :=
 (((hb.setCell (p:=⟨g,0,none⟩) hg _).setCell (p:=⟨g,1,none⟩) hg _).setCell (p:=⟨g,2,none⟩) hg _).setCell (p:=⟨g,3,none⟩) hg _
theorem OwQ.next (h:OwQ w b s A n c s' A' n' c' x)(hb:Below w.heap.size w w'):OwQ w' b s A n c s' A' n' c' x:=⟨h.num.next hb,h.den.next hb⟩
theorem OwQ.base (h:OwQ w b s A n c s' A' n' c' x)(hb:b'<=b):OwQ w b' s A n c s' A' n' c' x:=⟨h.num.base hb,h.den.base hb⟩
theorem OwQ.keep (h:OwQ w b s A n c s' A' n' c' x)(hk:KeepT w w'):OwQ w' b s A n c s' A' n' c' x:=⟨h.num.keep hk,h.den.keep hk⟩
theorem zs_two {N:Nat}{z z':Int}(h:RdZ w w.heap.size s A n c z)(h':RdZ w w.heap.size s' A' n' c' z')(hn:n<=N)(hn':n'<=N){w1:World}(hw:w1=w.alloc (.cells #[.bool s,.slice A n c,.bool s',.slice A' n' c'] 25)) :
  RdZs w1 w1.heap.size N (some ⟨w.heap.size,0,none⟩) 2 2 [z,z']:=by
 have hb:Below w.heap.size w w1:=by rw [hw];exact bA
 have hr:w1.heap[w.heap.size]?=some (.cells #[.bool s,.slice A n c,.bool s',.slice A' n' c'] 25 (0,0)):=by rw [hw];exact heap_alloc_new w _
 have hlt:w.heap.size < w1.heap.size:=(Array.getElem?_eq_some_iff.1 hr).1
 refine ⟨rfl,nR,by unfold maxLen;omega,fun j y hy=>?_⟩
 match j,hy with
 | 0, hy =>
   simp at hy
   subst hy
   exact ⟨_,s,A,n,c,rfl,hlt,by rw [add_base,cell_of_row w1 _ _ _ _ _ hr];rfl,by rw [add_base];exact (cell_of_row w1 _ _ _ _ _ hr).trans rfl,h.next hb,hn⟩
 | 1, hy =>
   simp at hy
   subst hy
   exact ⟨_,s',A',n',c',rfl,hlt,by rw [add_base,cell_of_row w1 _ _ _ _ _ hr];rfl,by rw [add_base];exact (cell_of_row w1 _ _ _ _ _ hr).trans rfl,h'.next hb,hn'⟩
 | j+2,hy=>simp at hy
end
def RetQ (x:Rat)(w:World)(e:Ending)(w':World):Prop :=
 ∃ (s:Bool) (A:Option Addr) (n c:Nat) (s':Bool) (A':Option Addr) (n' c':Nat) (y:Rat),e=.returned (.tuple #[.agg #[.bool s,.slice A n c,.bool s',.slice A' n' c'],.int .i64 0])/\OwQ w' w.heap.size s A n c s' A' n' c' y/\Hid (y=x)/\Below w.heap.size w w'
def RetQ0 (k:Int)(w:World)(e:Ending)(w':World):Prop:=e=.returned (.tuple #[.agg #[.bool false,.slice none 0 0,.bool false,.slice none 0 0],.int .i64 k])/\Below w.heap.size w w'
theorem q_boxes (w:World)(s:Bool)(A:Option Addr)(n c:Nat)(s':Bool)(A':Option Addr)(n' c':Nat) :
  ∀ W1:World,W1=((w.alloc (.cells #[.bool s,.slice A n c] 25)).alloc (.cells #[.bool s',.slice A' n' c'] 25)).alloc (.cells #[.bool false,.slice none 0 0,.bool false,.slice none 0 0] 47) ->
   ZC W1 w.heap.size s A n c/\ZC W1 (w.heap.size+1) s' A' n' c'/\QC W1 (w.heap.size+1+1) false none 0 0 false none 0 0/\Below w.heap.size w W1:=by
 rintro W1 rfl
 refine ⟨((ZC.new w s A n c).alloc _).alloc _,by simpa using (ZC.new (w.alloc (.cells #[.bool s,.slice A n c] 25)) s' A' n' c').alloc (.cells #[.bool false,.slice none 0 0,.bool false,.slice none 0 0] 47),by simpa using QC.new ((w.alloc (.cells #[.bool s,.slice A n c] 25)).alloc (.cells #[.bool s',.slice A' n' c'] 25)) false none 0 0 false none 0 0,?_⟩
 exact (((Below.refl w.heap.size w).alloc nR _).alloc (by simp) _).alloc (by simp;omega) _
theorem qmake_zero {s s':Bool}{A A':Option Addr}{n c n' c':Nat}{w:World}(h':RdZ w w.heap.size s' A' n' c' 0)(hn':n'<=1000000000000) :
  Calls Tryz.prog 83 #[.agg #[.bool s,.slice A n c],.agg #[.bool s',.slice A' n' c']] w (RetQ0 6 w):=by
 obtain ⟨W1,HW1⟩:∃ W,W=((w.alloc (.cells #[.bool s,.slice A n c] 25)).alloc (.cells #[.bool s',.slice A' n' c'] 25)).alloc (.cells #[.bool false,.slice none 0 0,.bool false,.slice none 0 0] 47):=⟨_,rfl⟩
 obtain ⟨hX,hY,hR,hB⟩:=q_boxes w s A n c s' A' n' c' W1 HW1
 have a0:=hY.c0
 have a1:=hY.c1
 rw [HW1] at a0 a1
 have h1:=h'.next hB
 have HW1:=ah HW1
 go_enter Tryz.func83,Tryz.ntmps83
 go_wp2_with fail
 rw [<- HW1.out]
 clear HW1 a0 a1
 clear HW1
 refine (sign_any h1 (by omega)).mono ?_
 rintro _ W2 ⟨k,rfl,hk,hb2⟩
 obtain rfl:k=0:=hk.out
 have hR2:=hR.next hb2
 have hB2:=hB.trans (hb2.mono hB.size)
 have r0:=hR2.c0
 have r1:=hR2.c1
 have r2:=hR2.c2
 have r3:=hR2.c3
 have f0:=hR2.fz 0
 have f1:=hR2.fz 1
 have f2:=hR2.fz 2
 have f3:=hR2.fz 3
 have HR9:=ah (hR2.store false none 0 0 false none 0 0)
 have HB9:=ah (below_putQ hB2 (show w.heap.size<=w.heap.size+1+1 by omega) false none 0 0 false none 0 0)
 unfold putQ at HR9 HB9
 clear hX hY hR hR2 hB hB2 hb2 h1 h'
 go_wp2_with fail
 generalize (((W2.setCell ⟨w.heap.size+1+1,0,none⟩ (.bool false)).setCell ⟨w.heap.size+1+1,1,none⟩ (.slice none 0 0)).setCell ⟨w.heap.size+1+1,2,none⟩ (.bool false)).setCell ⟨w.heap.size+1+1,3,none⟩ (.slice none 0 0)=W9 at *
 have z0:=HR9.out.c0
 have z1:=HR9.out.c1
 have z2:=HR9.out.c2
 have z3:=HR9.out.c3
 exact bodyPost_ret (by simp [results,Tryz.results83,go_sem,z0,z1,z2,z3]) rfl ⟨rfl,HB9.out⟩
theorem qmake_any {s s':Bool}{A A':Option Addr}{n c n' c':Nat}{z d:Int}{w:World}(h:RdZ w w.heap.size s A n c z)(h':RdZ w w.heap.size s' A' n' c' d)(hn:n<=1000000000000)(hn':n'<=1000000000000)(hd:d ≠ 0) :
  Calls Tryz.prog 83 #[.agg #[.bool s,.slice A n c],.agg #[.bool s',.slice A' n' c']] w (RetQ (Rat.divInt z d) w):=by
 obtain ⟨W1,HW1⟩:∃ W,W=((w.alloc (.cells #[.bool s,.slice A n c] 25)).alloc (.cells #[.bool s',.slice A' n' c'] 25)).alloc (.cells #[.bool false,.slice none 0 0,.bool false,.slice none 0 0] 47):=⟨_,rfl⟩
 obtain ⟨hX,hY,hR,hB⟩:=q_boxes w s A n c s' A' n' c' W1 HW1
 have a0:=hY.c0
 have a1:=hY.c1
 rw [HW1] at a0 a1
 have HRD:=ah (show ∀ W:World,Below W1.heap.size W1 W->RdZ W W.heap.size s A n c z/\RdZ W W.heap.size s' A' n' c' d from fun W hb=>⟨(h.next hB).next hb,(h'.next hB).next hb⟩)
 have HCE:=ah (show ∀ W:World,Below W1.heap.size W1 W->ZC W w.heap.size s A n c/\ZC W (w.heap.size+1) s' A' n' c'/\QC W (w.heap.size+1+1) false none 0 0 false none 0 0 from fun W hb=>⟨hX.next hb,hY.next hb,hR.next hb⟩)
 have HB:=ah hB
 have HS:=ah (show w.heap.size+1+1 < W1.heap.size from hR.lt)
 have HLZ:=ah (cJ h.len h'.len)
 have HD0:=ah hd
 have HW1:=ah HW1
 clear hX hY hR hB h h' hd
 go_enter Tryz.func83,Tryz.ntmps83
 go_wp2_with fail
 rw [<- HW1.out]
 clear HW1 a0 a1
 clear HW1
 refine (sign_any (HRD.out _ bR).2 (by omega)).mono ?_
 rintro _ W2 ⟨k,rfl,hk,hb2⟩
 have hkb:(k == 0)=false:=by
  have e:=hk.out
  have e2:=mt Int.sign_eq_zero_iff_zero.1 HD0.out
  rw [<- e] at e2
  simpa using e2
 have HB2:=ah hb2
 obtain ⟨W3,HW3⟩:∃ W,W=W2.alloc (.cells #[.bool s,.slice A n c,.bool s',.slice A' n' c'] 25):=⟨_,rfl⟩
 have hr3:=zs_two (N:=1000000000000) (HRD.out _ hb2).1 (HRD.out _ hb2).2 hn hn' HW3
 have hb3:Below W2.heap.size W2 W3:=by rw [HW3];exact bA
 have HB3:=ah (hb2.trans (hb3.mono hb2.size))
 have x0:=(HCE.out _ hb2).1.c0
 have x1:=(HCE.out _ hb2).1.c1
 have y0:=(HCE.out _ hb2).2.1.c0
 have y1:=(HCE.out _ hb2).2.1.c1
 have HW3:=ah HW3
 clear hb2 hb3
 go_wp2_with fail
 rw [<- HW3.out]
 clear HW3 x0 x1 y0 y1
 clear HW3
 refine (gcdl_any hr3 (by decide)).mono ?_
 rintro _ W4 ⟨s4,A4,n4,c4,g4,rfl,ho4,hg4,hb4⟩
 have HB4:=tM HB3 hb4
 obtain ⟨W5,HW5⟩:∃ W,W=W4.alloc (.cells #[.bool s4,.slice A4 n4 c4] 25):=⟨_,rfl⟩
 have hb5:Below W4.heap.size W4 W5:=by rw [HW5];exact bA
 have HX5:=ah (show ZC W5 W4.heap.size s4 A4 n4 c4 by rw [HW5];exact ZC.new W4 s4 A4 n4 c4)
 have HB5:=tM HB4 hb5
 have HO5:=ah ((ho4.base (b':=W1.heap.size) HB3.out.size).next hb5)
 have HGC:=ah (show W1.heap.size<=W4.heap.size from HB4.out.size)
 have HG4:=ah (show g4=(Int.gcd z d:Int) by rw [hg4.out];exact Qz.gcd_list z d)
 have HN4:=ah (show n4<=1000000000000 by
  rw [ho4.len,HG4.out]
  have e1:=Zz.zl_gcd z d
  have e2:=HLZ.out
  omega)
 have y0:=(HCE.out _ HB5.out).2.1.c0
 have y1:=(HCE.out _ HB5.out).2.1.c1
 rw [HW5] at y0 y1
 have HW5:=ah HW5
 clear hr3 ho4 hg4 hb4 hb5
 go_wp2_with fail
 rw [<- HW5.out]
 clear HW5 y0 y1
 clear HW5
 generalize W4.heap.size=gc at *
 refine (sign_any (HRD.out _ HB5.out).2 (by omega)).mono ?_
 rintro _ W6 ⟨k6,rfl,hk6,hb6⟩
 have HB6:=tM HB5 hb6
 have HX6:=ah (HX5.out.next hb6)
 have HO6:=ah (HO5.out.next hb6)
 clear hb6 HX5 HO5
 go_upto_if 21 with fail
 go_cut [] from 21 (fun wr=>∃ (s':Bool) (A':Option Addr) (n' c':Nat) (y:Int),ZC wr gc s' A' n' c'/\OwZ wr W1.heap.size s' A' n' c' y/\Hid (y=Qz.gs z d)/\Below W1.heap.size W1 wr)
 case first =>
  by_cases hneg:k6 < 0
  ·have HP:=ah (show -g4=Qz.gs z d by
    have h5:=hk6.out
    rw [h5] at hneg
    unfold Qz.gs
    rw [if_pos (Int.sign_neg_iff.1 hneg),HG4.out])
   have a0:=HX6.out.c0
   have a1:=HX6.out.c1
   go_wp2_with fail
   refine (neg_any HO6.out.rd (by have:=HN4.out;omega)).mono ?_
   rintro _ W7 ⟨s7,A7,n7,c7,z7,rfl,ho7,hz7,hb7⟩
   have hX7:=HX6.out.next hb7
   have g0:=hX7.fz 0
   have g1:=hX7.fz 1
   have b0:=hX7.c0
   have b1:=hX7.c1
   have hZ8:=hX7.store s7 A7 n7 c7
   have ho8:=(ho7.base (b':=W1.heap.size) HB6.out.size).keep (keep_set2 hX7 (.bool s7) (.slice A7 n7 c7))
   have hB8:=((HB6.out.trans (hb7.mono HB6.out.size)).setCell (p:=⟨gc,0,none⟩) HGC.out (.bool s7)).setCell (p:=⟨gc,1,none⟩) HGC.out (.slice A7 n7 c7)
   have HV8:=ah (show z7=Qz.gs z d by rw [hz7.out,HP.out])
   have HALL:=ah (cJ hZ8 (cJ ho8 hB8))
   clear a0 a1 hX7 hZ8 ho8 hB8 ho7 hb7
   go_wp2
   go_meet
   exact ⟨_,_,_,_,_,HALL.out.1,HALL.out.2.1,HV8,HALL.out.2.2⟩
  ·have HP:=ah (show g4=Qz.gs z d by
    have h5:=hk6.out
    rw [h5] at hneg
    unfold Qz.gs
    rw [if_neg (mt Int.sign_neg_iff.2 hneg),HG4.out])
   have hneg':0<=k6:=by omega
   clear hneg
   go_wp2
   go_meet
   exact ⟨_,_,_,_,_,HX6.out,HO6.out,HP,HB6.out⟩
 case rest =>
  clear HX6 HO6
  obtain ⟨s7,A7,n7,c7,y,hZ7,ho7,hy,hB7⟩:=hcut
  have HX7:=ah (cJ hZ7 ho7)
  have HB7:=ah hB7
  have HYN:=ah (show n7<=1000000000000 by
   rw [ho7.len,hy.out]
   have e1:Zz.zl (Qz.gs z d)=Zz.zl g4:=by
    unfold Qz.gs
    split
    ·rw [Zz.zl_neg,HG4.out]
    ·rw [HG4.out]
   rw [e1,HG4.out]
   have e2:=Zz.zl_gcd z d
   have e3:=HLZ.out
   omega)
  have HY0:=ah (show y ≠ 0 by rw [hy.out];exact Qz.gs_ne HD0.out)
  have a0:=hZ7.c0
  have a1:=hZ7.c1
  have x0:=(HCE.out _ hB7).1.c0
  have x1:=(HCE.out _ hB7).1.c1
  clear hZ7 ho7 hB7
  go_wp2_with fail
  clear a0 a1 x0 x1
  refine (exact_any (HRD.out _ HB7.out).1 HX7.out.2.rd hn HYN.out HY0.out).mono ?_
  rintro _ W8 ⟨s8,A8,n8,c8,q8,e8,rfl,ho8,hq8,hb8⟩
  have HQ8:=ah (show q8=(Rat.divInt z d).num by
   rw [<- Qz.make_num HD0.out,<- hy.out]
   rcases hq8.out with ⟨_,f2,_⟩ | ⟨f1,_,_⟩
   ·exact f2
   ·exact absurd (Int.tmod_eq_zero_of_dvd (by rw [hy.out];exact Qz.gs_left z d)) f1)
  obtain ⟨W9,HW9⟩:∃ W,W=W8.alloc (.cells #[.bool s8,.slice A8 n8 c8] 25):=⟨_,rfl⟩
  have hb9:Below W8.heap.size W8 W9:=by rw [HW9];exact bA
  have hb79:=hb8.trans (hb9.mono hb8.size)
  have HB9:=tM HB7 hb79
  have HX9:=ah (show ZC W9 W8.heap.size s8 A8 n8 c8 by rw [HW9];exact ZC.new W8 s8 A8 n8 c8)
  have HO9:=ah ((ho8.base (b':=W1.heap.size) HB7.out.size).next hb9)
  have HY9:=ah (cJ (HX7.out.1.next hb79) (HX7.out.2.next hb79))
  have a0:=HY9.out.1.c0
  have a1:=HY9.out.1.c1
  have y0:=(HCE.out _ HB9.out).2.1.c0
  have y1:=(HCE.out _ HB9.out).2.1.c1
  rw [HW9] at a0 a1 y0 y1
  have HW9:=ah HW9
  clear ho8 hq8 hb8 hb9 hb79
  go_wp2_with fail
  rw [<- HW9.out]
  clear HW9 a0 a1 y0 y1
  clear HW9
  generalize W8.heap.size=gn at *
  refine (exact_any (HRD.out _ HB9.out).2 HY9.out.2.rd hn' HYN.out HY0.out).mono ?_
  rintro _ V1 ⟨t1,D1,m1,l1,q1,e1,rfl,ho1,hq1,hv1⟩
  have HQ1:=ah (show q1=((Rat.divInt z d).den:Int) by
   rw [<- Qz.make_den HD0.out,<- hy.out]
   rcases hq1.out with ⟨_,f2,_⟩ | ⟨f1,_,_⟩
   ·exact f2
   ·exact absurd (Int.tmod_eq_zero_of_dvd (by rw [hy.out];exact Qz.gs_right z d)) f1)
  obtain ⟨V2,HV2⟩:∃ W,W=V1.alloc (.cells #[.bool t1,.slice D1 m1 l1] 25):=⟨_,rfl⟩
  have hv2:Below V1.heap.size V1 V2:=by rw [HV2];exact bA
  have hv12:=hv1.trans (hv2.mono hv1.size)
  have HU2:=tM HB9 hv12
  have hN:=HX9.out.next hv12
  have hR:=(HCE.out _ HU2.out).2.2
  have HF:=ah (show OwQ V2 w.heap.size s8 A8 n8 c8 t1 D1 m1 l1 (Rat.divInt z d) from ⟨by rw [<- HQ8.out];exact (HO9.out.next hv12).base HB.out.size,by rw [<- HQ1.out];exact (ho1.next hv2).base (nT HB.out.size HB9.out.size)⟩)
  have HF9:=ah (HF.out.keep (keep_putQ hR s8 A8 n8 c8 t1 D1 m1 l1))
  have HR9:=ah (hR.store s8 A8 n8 c8 t1 D1 m1 l1)
  have HBF:=ah (below_putQ (HB.out.trans (HU2.out.mono HB.out.size)) (show w.heap.size<=w.heap.size+1+1 by omega) s8 A8 n8 c8 t1 D1 m1 l1)
  have a0:=hN.c0
  have a1:=hN.c1
  have r0:=hR.c0
  have r1:=hR.c1
  have r2:=hR.c2
  have r3:=hR.c3
  have f0:=hR.fz 0
  have f1:=hR.fz 1
  have f2:=hR.fz 2
  have f3:=hR.fz 3
  rw [HV2] at a0 a1 r0 r1 r2 r3 f0 f1 f2 f3
  unfold putQ at HF9 HR9 HBF
  have HV2:=ah HV2
  clear ho1 hq1 hv1 hv2 hv12 hN hR
  go_wp2_with fail
  rw [<- HV2.out]
  clear HV2 a0 a1 r0 r1 r2 r3 f0 f1 f2 f3
  clear HV2
  generalize (((V2.setCell ⟨w.heap.size+1+1,0,none⟩ (.bool s8)).setCell ⟨w.heap.size+1+1,1,none⟩ (.slice A8 n8 c8)).setCell ⟨w.heap.size+1+1,2,none⟩ (.bool t1)).setCell ⟨w.heap.size+1+1,3,none⟩ (.slice D1 m1 l1)=V9 at *
  have z0:=HR9.out.c0
  have z1:=HR9.out.c1
  have z2:=HR9.out.c2
  have z3:=HR9.out.c3
  exact bodyPost_ret (by simp [results,Tryz.results83,go_sem,z0,z1,z2,z3]) rfl ⟨_,_,_,_,_,_,_,_,_,rfl,HF9.out,ah rfl,HBF.out⟩
theorem q_box1 (w:World)(s:Bool)(A:Option Addr)(n c:Nat)(s':Bool)(A':Option Addr)(n' c':Nat) :
  ∀ W1:World,W1=(w.alloc (.cells #[.bool s,.slice A n c,.bool s',.slice A' n' c'] 47)).alloc (.cells #[.bool false,.slice none 0 0,.bool false,.slice none 0 0] 47) ->
   QC W1 w.heap.size s A n c s' A' n' c'/\QC W1 (w.heap.size+1) false none 0 0 false none 0 0/\Below w.heap.size w W1:=by
 rintro W1 rfl
 exact ⟨(QC.new w s A n c s' A' n' c').next (bA),by simpa using QC.new (w.alloc (.cells #[.bool s,.slice A n c,.bool s',.slice A' n' c'] 47)) false none 0 0 false none 0 0,((Below.refl w.heap.size w).alloc nR _).alloc (by simp) _⟩
theorem qnorm_zero {s s':Bool}{A A':Option Addr}{n c n' c':Nat}{w:World}(h':RdZ w w.heap.size s' A' n' c' 0)(hn':n'<=1000000000000) :
  Calls Tryz.prog 64 #[.agg #[.bool s,.slice A n c,.bool s',.slice A' n' c']] w (RetQ0 6 w):=by
 obtain ⟨W1,HW1⟩:∃ W,W=(w.alloc (.cells #[.bool s,.slice A n c,.bool s',.slice A' n' c'] 47)).alloc (.cells #[.bool false,.slice none 0 0,.bool false,.slice none 0 0] 47):=⟨_,rfl⟩
 obtain ⟨hX,hR,hB⟩:=q_box1 w s A n c s' A' n' c' W1 HW1
 have a0:=hX.c0
 have a1:=hX.c1
 have a2:=hX.c2
 have a3:=hX.c3
 rw [HW1] at a0 a1 a2 a3
 have h1:=h'.next hB
 have HW1:=ah HW1
 go_enter Tryz.func64,Tryz.ntmps64
 go_wp2_with fail
 rw [<- HW1.out]
 clear HW1 a0 a1 a2 a3
 clear HW1
 refine (qmake_zero h1 hn').mono ?_
 rintro _ W2 ⟨rfl,hb2⟩
 have hR2:=hR.next hb2
 have hB2:=hB.trans (hb2.mono hB.size)
 have r0:=hR2.c0
 have r1:=hR2.c1
 have r2:=hR2.c2
 have r3:=hR2.c3
 have f0:=hR2.fz 0
 have f1:=hR2.fz 1
 have f2:=hR2.fz 2
 have f3:=hR2.fz 3
 have HR9:=ah (hR2.store false none 0 0 false none 0 0)
 have HB9:=ah (below_putQ hB2 (show w.heap.size<=w.heap.size+1 by omega) false none 0 0 false none 0 0)
 unfold putQ at HR9 HB9
 clear hX hR hR2 hB hB2 hb2 h1 h'
 go_wp2_with fail
 generalize (((W2.setCell ⟨w.heap.size+1,0,none⟩ (.bool false)).setCell ⟨w.heap.size+1,1,none⟩ (.slice none 0 0)).setCell ⟨w.heap.size+1,2,none⟩ (.bool false)).setCell ⟨w.heap.size+1,3,none⟩ (.slice none 0 0)=W9 at *
 have z0:=HR9.out.c0
 have z1:=HR9.out.c1
 have z2:=HR9.out.c2
 have z3:=HR9.out.c3
 exact bodyPost_ret (by simp [results,Tryz.results64,go_sem,z0,z1,z2,z3]) rfl ⟨rfl,HB9.out⟩
theorem qnorm_any {s s':Bool}{A A':Option Addr}{n c n' c':Nat}{z d:Int}{w:World}(h:RdZ w w.heap.size s A n c z)(h':RdZ w w.heap.size s' A' n' c' d)(hn:n<=1000000000000)(hn':n'<=1000000000000)(hd:d ≠ 0) :
  Calls Tryz.prog 64 #[.agg #[.bool s,.slice A n c,.bool s',.slice A' n' c']] w (RetQ (Rat.divInt z d) w):=by
 obtain ⟨W1,HW1⟩:∃ W,W=(w.alloc (.cells #[.bool s,.slice A n c,.bool s',.slice A' n' c'] 47)).alloc (.cells #[.bool false,.slice none 0 0,.bool false,.slice none 0 0] 47):=⟨_,rfl⟩
 obtain ⟨hX,hR,hB⟩:=q_box1 w s A n c s' A' n' c' W1 HW1
 have a0:=hX.c0
 have a1:=hX.c1
 have a2:=hX.c2
 have a3:=hX.c3
 rw [HW1] at a0 a1 a2 a3
 have h1:=h.next hB
 have h2:=h'.next hB
 have HW1:=ah HW1
 go_enter Tryz.func64,Tryz.ntmps64
 go_wp2_with fail
 rw [<- HW1.out]
 clear HW1 a0 a1 a2 a3
 clear HW1
 refine (qmake_any h1 h2 hn hn' hd).mono ?_
 rintro _ W2 ⟨s2,A2,n2,c2,s3,A3,n3,c3,y,rfl,ho,hy,hb2⟩
 have hR2:=hR.next hb2
 have hB2:=hB.trans (hb2.mono hB.size)
 have r0:=hR2.c0
 have r1:=hR2.c1
 have r2:=hR2.c2
 have r3:=hR2.c3
 have f0:=hR2.fz 0
 have f1:=hR2.fz 1
 have f2:=hR2.fz 2
 have f3:=hR2.fz 3
 have HR9:=ah (hR2.store s2 A2 n2 c2 s3 A3 n3 c3)
 have HO9:=ah ((ho.base (b':=w.heap.size) hB.size).keep (keep_putQ hR2 s2 A2 n2 c2 s3 A3 n3 c3))
 have HB9:=ah (below_putQ hB2 (show w.heap.size<=w.heap.size+1 by omega) s2 A2 n2 c2 s3 A3 n3 c3)
 unfold putQ at HR9 HB9 HO9
 clear hX hR hR2 hB hB2 hb2 h1 h2 h h' ho
 go_wp2_with fail
 generalize (((W2.setCell ⟨w.heap.size+1,0,none⟩ (.bool s2)).setCell ⟨w.heap.size+1,1,none⟩ (.slice A2 n2 c2)).setCell ⟨w.heap.size+1,2,none⟩ (.bool s3)).setCell ⟨w.heap.size+1,3,none⟩ (.slice A3 n3 c3)=W9 at *
 have z0:=HR9.out.c0
 have z1:=HR9.out.c1
 have z2:=HR9.out.c2
 have z3:=HR9.out.c3
 exact bodyPost_ret (by simp [results,Tryz.results64,go_sem,z0,z1,z2,z3]) rfl ⟨_,_,_,_,_,_,_,_,_,rfl,HO9.out,hy,HB9.out⟩
theorem qof_any (z:Int)(h1:-9223372036854775808<=z)(h2:z < 9223372036854775808)(w:World) :
  Calls Tryz.prog 38 #[.int .i64 z] w fun e w'=>∃ (s:Bool) (A:Option Addr) (n c:Nat) (s':Bool) (A':Option Addr) (n' c':Nat) (y:Rat),e=.returned (.agg #[.bool s,.slice A n c,.bool s',.slice A' n' c'])/\OwQ w' w.heap.size s A n c s' A' n' c' y/\Hid (y=(z:Rat))/\Below w.heap.size w w':=by
 obtain ⟨W1,HW1⟩:∃ W,W=w.alloc (.cells #[.bool false,.slice none 0 0,.bool false,.slice none 0 0] 47):=⟨_,rfl⟩
 have hR:QC W1 w.heap.size false none 0 0 false none 0 0:=by rw [HW1];exact QC.new w false none 0 0 false none 0 0
 have hB:Below w.heap.size w W1:=by rw [HW1];exact bA
 have HW1:=ah HW1
 go_enter Tryz.func38,Tryz.ntmps38
 go_wp2_with fail
 rw [<- HW1.out]
 clear HW1
 clear HW1
 refine (of_any z h1 h2 W1).mono ?_
 rintro _ W2 ⟨s2,A2,n2,c2,y2,rfl,ho2,hy2,hb2⟩
 go_wp2_with fail
 refine (of_any 1 (by decide) (by decide) W2).mono ?_
 rintro _ W3 ⟨s3,A3,n3,c3,y3,rfl,ho3,hy3,hb3⟩
 have hb13:=hb2.trans (hb3.mono hb2.size)
 have hR3:=hR.next hb13
 have hB3:=hB.trans (hb13.mono hB.size)
 have HO:=ah (show OwQ W3 w.heap.size s2 A2 n2 c2 s3 A3 n3 c3 (z:Rat) from ⟨by have:=(ho2.next hb3).base hB.size;rw [hy2.out] at this;exact this,by have:=ho3.base (b':=w.heap.size) (nT hB.size hb2.size);rw [hy3.out] at this;exact this⟩)
 have r0:=hR3.c0
 have r1:=hR3.c1
 have r2:=hR3.c2
 have r3:=hR3.c3
 have f0:=hR3.fz 0
 have f1:=hR3.fz 1
 have f2:=hR3.fz 2
 have f3:=hR3.fz 3
 have HR9:=ah (hR3.store s2 A2 n2 c2 s3 A3 n3 c3)
 have HO9:=ah (HO.out.keep (keep_putQ hR3 s2 A2 n2 c2 s3 A3 n3 c3))
 have HB9:=ah (below_putQ hB3 (Nat.le_refl w.heap.size) s2 A2 n2 c2 s3 A3 n3 c3)
 unfold putQ at HR9 HB9 HO9
 clear hR hR3 hB hB3 hb2 hb3 hb13 ho2 ho3 hy2 hy3
 go_wp2_with fail
 generalize (((W3.setCell ⟨w.heap.size,0,none⟩ (.bool s2)).setCell ⟨w.heap.size,1,none⟩ (.slice A2 n2 c2)).setCell ⟨w.heap.size,2,none⟩ (.bool s3)).setCell ⟨w.heap.size,3,none⟩ (.slice A3 n3 c3)=W9 at *
 have z0:=HR9.out.c0
 have z1:=HR9.out.c1
 have z2:=HR9.out.c2
 have z3:=HR9.out.c3
 exact bodyPost_ret (by simp [results,Tryz.results38,go_sem,z0,z1,z2,z3]) rfl ⟨_,_,_,_,_,_,_,_,_,rfl,HO9.out,ah rfl,HB9.out⟩
end Go.Proofs.YtjnklbfhelbjgaaGreat
