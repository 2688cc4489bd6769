/- Sc04. -/
import Derived.Test.YtjnklbfhelbjgaaGreatSc03
import Derived.Test.YtjnklbfhelbjgaaGreatSc00
import Derived.Deep.AppendLies
import Derived.Deep.RegionLaw
import Derived.Deep.LoopGhost
import Derived.Deep.CutBlock
import Derived.Deep.CutRange
set_option maxRecDepth 100000
set_option maxHeartbeats 32000000
set_option linter.all false
namespace Go.Proofs.YtjnklbfhelbjgaaGreat
open Go.RowKit Go.IntWalk
attribute [local go_sem ↓] Go.wp_at_zero Go.wp_at_succ
theorem sign_pos_iff (z:Int):(decide (0 < z.sign))=decide (0 < z):=by
 rw [decide_eq_decide]
 exact Int.sign_pos_iff
theorem neg_sg (s:Bool)(x:Nat):Zz.sg (decide (0 < Zz.sg s x)) x=-Zz.sg s x:=by
 by_cases h:x=0
 ·subst h;rw [Zz.sg_zero,Zz.sg_zero];rfl
 ·cases s
  ·rw [Zz.sg_false,decide_eq_true (by omega),Zz.sg_true]
  ·rw [Zz.sg_true,decide_eq_false (by omega),Zz.sg_false];omega
theorem neg_any {s:Bool}{A:Option Addr}{n c:Nat}{z:Int}{w:World}(h:RdZ w w.heap.size s A n c z)(hn:n<=17592186044416) :
  Calls Tryz.prog 87 #[.agg #[.bool s,.slice A n c]] w (RetI (-z) w):=by
 obtain ⟨hZ,hR,hB⟩:=boxed1 w s A n c
 have h1:=h.next hB
 obtain ⟨M,h,hz⟩:=h.raw
 have HSZ:=ah (Nat.lt_trans (Nat.lt_succ_self _) hR.lt)
 go_enter Tryz.func87,Tryz.ntmps87
 go_wp2_with fail
 generalize (w.alloc (.cells #[.bool s,.slice A n c] 25)).alloc (.cells #[.bool false,.slice none 0 0] 25)=W1 at *
 have HSI:=ah (sign_any (h1.next (Below.refl W1.heap.size W1).drew) hn)
 have HNO:=ah (show ∀ W:World,Below W1.heap.size W1 W->Calls Tryz.prog 142 #[.slice A n c] W (RetN (Dg.val M) W) from fun W hb=>norm_any (h.next (hB.trans (hb.mono hB.size))) hn)
 have hc0:=hZ.c0
 have hc1:=hZ.c1
 have HZ:=ah hZ
 go_region_held3 (fun w'=>w'.cell? ⟨w.heap.size,0,none⟩=some (.bool s)/\w'.cell? ⟨w.heap.size,1,none⟩=some (.slice A n c)) (go_keep)
  (first
   | (go_at_call 36;refine HSI.out.mono ?_;rintro _ W2 ⟨k,rfl,hk,hb2⟩;have HB2:=ah ((Below.refl W1.heap.size W1).drew.trans hb2);have hd0:=(HZ.out.next HB2.out).c0;have hd1:=(HZ.out.next HB2.out).c1)
   | (go_at_call 142;refine (HNO.out _ HB2.out).mono ?_;rintro _ W3 ⟨A3,m3,c3,x3,rfl,ho3,hx3,hb3⟩;have HB3:=tM HB2 hb3;have he0:=(HZ.out.next HB3.out).c0;have he1:=(HZ.out.next HB3.out).c1)
   | (go_at_call 141;refine (make1_any _ ho3).mono ?_;rintro _ W4 ⟨s4,rfl,ho4,hb4⟩;have HB4:=tM HB3 hb4;have hf0:=(HZ.out.next HB4.out).c0;have hf1:=(HZ.out.next HB4.out).c1;have hg0:=(hR.next HB4.out).c0;have hg1:=(hR.next HB4.out).c1;have hh0:=(hR.next HB4.out).fz 0;have hh1:=(hR.next HB4.out).fz 1))
 have HS1:=ah hR.lt
 have HS2:=ah hb2.size
 have hp:=put_int (hR.next HB4.out) (hB.trans (HB4.out.mono hB.size)) (Nat.le_succ _) ho4 (Nat.lt_of_lt_of_le HS1.out HB2.out.size)
 generalize (W4.setCell ⟨w.heap.size+1,0,none⟩ (.bool s4)).setCell ⟨w.heap.size+1,1,none⟩ (.slice A3 m3 c3)=W5 at hp ⊢
 obtain ⟨hZ5,ho5,hB5⟩:=hp
 clear hf0 hf1 hg0 hg1 hh0 hh1 hc0 hc1 hd0 hd1 he0 he1 hb2 hb3 hb4
 go_wp2
 exact bodyPost_ret (by simp [results,Tryz.results87,go_sem,hZ5.c0,hZ5.c1]) rfl ⟨_,_,_,_,_,rfl,ho5.base (nT (Nat.le_of_lt HSZ.out) HB2.out.size),ah (by rw [hx3.out,hk.out,sign_pos_iff,hz.out];exact neg_sg _ _),hB5⟩
theorem cmp_neg {x y:Nat}:Dg.cmp x y < 0 ↔ x < y:=by
 rcases Nat.lt_trichotomy x y with h | h | h
 ·rw [Dg.cmp_lt h];omega
 ·rw [Dg.cmp_eq h];omega
 ·rw [Dg.cmp_gt h];omega
theorem joined_any {s s':Bool}{A A':Option Addr}{n c n' c':Nat}{z z':Int}{w:World}(h:RdZ w w.heap.size s A n c z)(h':RdZ w w.heap.size s' A' n' c' z')(hn:n<=8796093022207)(hn':n'<=8796093022207)(hss:s' ≠ s) :
  Calls Tryz.prog 209 #[.agg #[.bool s,.slice A n c],.agg #[.bool s',.slice A' n' c']] w (RetI (z+z') w):=by
 obtain ⟨hZ,hY,hR,hB⟩:=boxed2 w s A n c s' A' n' c'
 obtain ⟨M,h,hz⟩:=h.raw
 obtain ⟨M',h',hz'⟩:=h'.raw
 have HSS:=ah hss
 clear hss
 have HSZ:=ah (show w.heap.size < _ from Nat.lt_trans (Nat.lt_succ_self _) (Nat.lt_trans (Nat.lt_succ_self _) hR.lt))
 go_enter Tryz.func209,Tryz.ntmps209
 go_wp2_with fail
 generalize ((w.alloc (.cells #[.bool s,.slice A n c] 25)).alloc (.cells #[.bool s',.slice A' n' c'] 25)).alloc (.cells #[.bool false,.slice none 0 0] 25)=W1 at *
 refine (cmp_any (h.next hB) (h'.next hB) (by omega) (by omega)).mono ?_
 rintro _ _ ⟨zc,rfl,hzc,d,rfl⟩
 have hZ2:=hZ.drewN d
 have hY2:=hY.drewN d
 have hR2:=hR.drewN d
 have hB2:=hB.trans ((drewN_below W1 d).mono hB.size)
 have HSZ2:Hid (w.heap.size < (W1.drewN d).heap.size):=HSZ
 clear hZ hY hR hB HSZ
 generalize W1.drewN d=W2 at *
 have hc0:=hZ2.c0
 have hc1:=hZ2.c1
 have hd0:=hY2.c0
 have hd1:=hY2.c1
 by_cases hlt:Dg.val M < Dg.val M'
 ·have hzc0:zc < 0:=by rw [hzc.out];exact cmp_neg.2 hlt
  have HLT:=ah hlt
  clear hlt hzc
  have hf0:=hZ2.fz 0
  have hf1:=hZ2.fz 1
  have hf2:=hY2.fz 0
  have hf3:=hY2.fz 1
  go_wp2_with fail
  have hbs:=(((hB2.setCell (p:=⟨w.heap.size,0,none⟩) nR (.bool s')).setCell (p:=⟨w.heap.size,1,none⟩) nR (.slice A' n' c')).setCell (p:=⟨w.heap.size+1,0,none⟩) (Nat.le_succ _) (.bool s)).setCell (p:=⟨w.heap.size+1,1,none⟩) (Nat.le_succ _) (.slice A n c)
  have hZ3:=((hZ2.store s' A' n' c').far (p:=⟨w.heap.size+1,0,none⟩) (by simp) (.bool s)).far (p:=⟨w.heap.size+1,1,none⟩) (by simp) (.slice A n c)
  have hR3:=(((hR2.far (p:=⟨w.heap.size,0,none⟩) (by simp;omega) (.bool s')).far (p:=⟨w.heap.size,1,none⟩) (by simp;omega) (.slice A' n' c')).far (p:=⟨w.heap.size+1,0,none⟩) (by simp) (.bool s)).far (p:=⟨w.heap.size+1,1,none⟩) (by simp) (.slice A n c)
  generalize (((W2.setCell ⟨w.heap.size,0,none⟩ (.bool s')).setCell ⟨w.heap.size,1,none⟩ (.slice A' n' c')).setCell ⟨w.heap.size+1,0,none⟩ (.bool s)).setCell ⟨w.heap.size+1,1,none⟩ (.slice A n c)=W3 at hbs hZ3 hR3 ⊢
  clear hf0 hf1 hf2 hf3 hc0 hc1 hd0 hd1 hZ2 hY2 hR2
  refine (nSub_any (h'.next hbs) (h.next hbs) (by omega) (by omega) (Nat.le_of_lt HLT.out)).mono ?_
  rintro _ W4 ⟨A4,m4,c4,x4,rfl,ho4,hx4,hb4⟩
  have hd0:=(hZ3.next hb4).c0
  have hd1:=(hZ3.next hb4).c1
  go_wp2_with fail
  refine (make1_any s' ho4).mono ?_
  rintro _ W5 ⟨s5,rfl,ho5,hb5⟩
  have hR5:=(hR3.next hb4).next hb5
  have hB5:=hbs.trans ((hb4.trans (hb5.mono hb4.size)).mono hbs.size)
  have HS1:=ah hR3.lt
  have hc0:=hR5.c0
  have hc1:=hR5.c1
  have hf0:=hR5.fz 0
  have hf1:=hR5.fz 1
  clear hd0 hd1 hb4 hb5 ho4 hZ3
  go_wp2
  have hp:=put_int hR5 hB5 (by omega) ho5 HS1.out
  generalize (W5.setCell ⟨w.heap.size+1+1,0,none⟩ (.bool s5)).setCell ⟨w.heap.size+1+1,1,none⟩ (.slice A4 m4 c4)=W6 at hp ⊢
  obtain ⟨hZ6,ho6,hB6⟩:=hp
  exact bodyPost_ret (by simp [results,Tryz.results209,go_sem,hZ6.c0,hZ6.c1]) rfl ⟨_,_,_,_,_,rfl,ho6.base (by have:=HS1.out;omega),ah (by rw [hx4.out,hz.out,hz'.out,Int.add_comm,Zz.sg_sub (fun e=>HSS.out e.symm) (Nat.le_of_lt HLT.out)]),hB6⟩
 ·have hzc0:0<=zc:=by rw [hzc.out];have:=mt cmp_neg.1 hlt;omega
  have HLT:=ah (Nat.le_of_not_lt hlt)
  clear hlt hzc
  go_wp2_with fail
  refine (nSub_any (h.next hB2) (h'.next hB2) (by omega) (by omega) HLT.out).mono ?_
  rintro _ W3 ⟨A3,m3,c3,x3,rfl,ho3,hx3,hb3⟩
  have hd0:=(hZ2.next hb3).c0
  have hd1:=(hZ2.next hb3).c1
  clear hc0 hc1
  go_wp2_with fail
  refine (make1_any s ho3).mono ?_
  rintro _ W4 ⟨s4,rfl,ho4,hb4⟩
  have hR4:=(hR2.next hb3).next hb4
  have hB4:=hB2.trans ((hb3.trans (hb4.mono hb3.size)).mono hB2.size)
  have HS1:=ah hR2.lt
  have hc0:=hR4.c0
  have hc1:=hR4.c1
  have hf0:=hR4.fz 0
  have hf1:=hR4.fz 1
  clear hd0 hd1 hb3 hb4 ho3 hZ2 hY2
  go_wp2
  have hp:=put_int hR4 hB4 (by omega) ho4 HS1.out
  generalize (W4.setCell ⟨w.heap.size+1+1,0,none⟩ (.bool s4)).setCell ⟨w.heap.size+1+1,1,none⟩ (.slice A3 m3 c3)=W5 at hp ⊢
  obtain ⟨hZ5,ho5,hB5⟩:=hp
  exact bodyPost_ret (by simp [results,Tryz.results209,go_sem,hZ5.c0,hZ5.c1]) rfl ⟨_,_,_,_,_,rfl,ho5.base (Nat.le_of_lt HSZ2.out),ah (by rw [hx3.out,hz.out,hz'.out,Zz.sg_sub HSS.out HLT.out]),hB5⟩
theorem add_any {s s':Bool}{A A':Option Addr}{n c n' c':Nat}{z z':Int}{w:World}(h:RdZ w w.heap.size s A n c z)(h':RdZ w w.heap.size s' A' n' c' z')(hn:n<=8796093022207)(hn':n'<=8796093022207) :
  Calls Tryz.prog 167 #[.agg #[.bool s,.slice A n c],.agg #[.bool s',.slice A' n' c']] w (RetI (z+z') w):=by
 obtain ⟨hZ,hY,hR,hB⟩:=boxed2 w s A n c s' A' n' c'
 have h1:=h.next hB
 have h1':=h'.next hB
 have HSZ:=ah (show w.heap.size < _ from Nat.lt_trans (Nat.lt_succ_self _) (Nat.lt_trans (Nat.lt_succ_self _) hR.lt))
 go_enter Tryz.func167,Tryz.ntmps167
 by_cases hss:s'=s
 ·subst hss
  obtain ⟨M,h2,hz⟩:=h1.raw
  obtain ⟨M',h2',hz'⟩:=h1'.raw
  go_wp2_with fail
  generalize ((w.alloc (.cells #[.bool s',.slice A n c] 25)).alloc (.cells #[.bool s',.slice A' n' c'] 25)).alloc (.cells #[.bool false,.slice none 0 0] 25)=W1 at *
  have HBD:=ah (Below.refl W1.heap.size W1).drew
  have HAD:=ah (nAdd_any (h2.next HBD.out) (h2'.next HBD.out) (by omega) (by omega))
  have hc0:=hZ.c0
  have hc1:=hZ.c1
  have hd0:=hY.c0
  have hd1:=hY.c1
  have HZ:=ah hZ
  have HY:=ah hY
  have HR:=ah hR
  have hq1:¬ (w.heap.size+1+1=w.heap.size):=by omega
  have hq2:¬ (w.heap.size=w.heap.size+1+1):=by omega
  go_region_held3 (fun w'=>w'.cell? ⟨w.heap.size,0,none⟩=some (.bool s')/\w'.cell? ⟨w.heap.size,1,none⟩=some (.slice A n c)/\w'.cell? ⟨w.heap.size+1,1,none⟩=some (.slice A' n' c')) (go_keep)
   (first
    | (go_at_call 208;refine HAD.out.mono ?_;rintro _ W2 ⟨A2,m2,c2,x2,rfl,ho2,hx2,hb2⟩;have HB2:=ah (HBD.out.trans hb2);have hd0:=(HZ.out.next HB2.out).c0;have hd1:=(HZ.out.next HB2.out).c1;have hd2:=(HY.out.next HB2.out).c1)
    | (go_at_call 141;refine (make1_any _ ho2).mono ?_;rintro _ W4 ⟨s4,rfl,ho4,hb4⟩;have HB4:=tM HB2 hb4;have hf0:=(HZ.out.next HB4.out).c0;have hf1:=(HZ.out.next HB4.out).c1;have hf2:=(HY.out.next HB4.out).c1;have hg0:=(HR.out.next HB4.out).c0;have hg1:=(HR.out.next HB4.out).c1;have hh0:=(HR.out.next HB4.out).fz 0;have hh1:=(HR.out.next HB4.out).fz 1))
  have HS1:=ah hR.lt
  have hp:=put_int (hR.next HB4.out) (hB.trans (HB4.out.mono hB.size)) (by omega) ho4 (Nat.lt_of_lt_of_le HS1.out HBD.out.size)
  generalize (W4.setCell ⟨w.heap.size+1+1,0,none⟩ (.bool s4)).setCell ⟨w.heap.size+1+1,1,none⟩ (.slice A2 m2 c2)=W5 at hp ⊢
  obtain ⟨hZ5,ho5,hB5⟩:=hp
  clear hf0 hf1 hf2 hg0 hg1 hh0 hh1 hc0 hc1 hd0 hd1 hd2 hb2 hb4
  go_wp2
  exact bodyPost_ret (by simp [results,Tryz.results167,go_sem,hZ5.c0,hZ5.c1]) rfl ⟨_,_,_,_,_,rfl,ho5.base (nT (Nat.le_of_lt HSZ.out) HBD.out.size),ah (by rw [hx2.out,hz.out,hz'.out,Zz.sg_add]),hB5⟩
 ·have hbe:(s == s')=false:=by simpa using fun e=>hss e.symm
  have HSS:=ah hss
  clear hss
  go_wp2_with fail
  generalize ((w.alloc (.cells #[.bool s,.slice A n c] 25)).alloc (.cells #[.bool s',.slice A' n' c'] 25)).alloc (.cells #[.bool false,.slice none 0 0] 25)=W1 at *
  refine (joined_any h1 h1' hn hn' HSS.out).mono ?_
  rintro _ W4 ⟨s4,A4,m4,c4,z4,rfl,ho4,hz4,hb4⟩
  have hR4:=hR.next hb4
  have hB4:=hB.trans (hb4.mono hB.size)
  have HS1:=ah hR.lt
  have hc0:=hR4.c0
  have hc1:=hR4.c1
  have hf0:=hR4.fz 0
  have hf1:=hR4.fz 1
  clear hb4 hZ hY hbe
  go_wp2
  have hp:=put_int hR4 hB4 (by omega) ho4 HS1.out
  generalize (W4.setCell ⟨w.heap.size+1+1,0,none⟩ (.bool s4)).setCell ⟨w.heap.size+1+1,1,none⟩ (.slice A4 m4 c4)=W5 at hp ⊢
  obtain ⟨hZ5,ho5,hB5⟩:=hp
  exact bodyPost_ret (by simp [results,Tryz.results167,go_sem,hZ5.c0,hZ5.c1]) rfl ⟨_,_,_,_,_,rfl,ho5.base (Nat.le_of_lt HSZ.out),hz4,hB5⟩
theorem sub_any {s s':Bool}{A A':Option Addr}{n c n' c':Nat}{z z':Int}{w:World}(h:RdZ w w.heap.size s A n c z)(h':RdZ w w.heap.size s' A' n' c' z')(hn:n<=8796093022207)(hn':n'<=8796093022207) :
  Calls Tryz.prog 246 #[.agg #[.bool s,.slice A n c],.agg #[.bool s',.slice A' n' c']] w (RetI (z-z') w):=by
 obtain ⟨hZ,hY,hR,hB⟩:=boxed2 w s A n c s' A' n' c'
 have h1:=h.next hB
 have h1':=h'.next hB
 have HSZ:=ah (show w.heap.size < _ from Nat.lt_trans (Nat.lt_succ_self _) (Nat.lt_trans (Nat.lt_succ_self _) hR.lt))
 go_enter Tryz.func246,Tryz.ntmps246
 go_wp2_with fail
 generalize ((w.alloc (.cells #[.bool s,.slice A n c] 25)).alloc (.cells #[.bool s',.slice A' n' c'] 25)).alloc (.cells #[.bool false,.slice none 0 0] 25)=W1 at *
 have HBD:=ah (Below.refl W1.heap.size W1).drew
 have HNE:=ah (neg_any (h1'.next HBD.out) (by omega))
 have HLN:=ah (show Zz.zl z'<=n' from h1'.len)
 have hc0:=hZ.c0
 have hc1:=hZ.c1
 have hd0:=hY.c0
 have hd1:=hY.c1
 have HZ:=ah hZ
 have HY:=ah hY
 have HR:=ah hR
 have hq1:¬ (w.heap.size+1+1=w.heap.size):=by omega
 have hq2:¬ (w.heap.size=w.heap.size+1+1):=by omega
 go_region_held3 (fun w'=>w'.cell? ⟨w.heap.size,0,none⟩=some (.bool s)/\w'.cell? ⟨w.heap.size,1,none⟩=some (.slice A n c)/\w'.cell? ⟨w.heap.size+1,0,none⟩=some (.bool s')/\w'.cell? ⟨w.heap.size+1,1,none⟩=some (.slice A' n' c')) (go_keep)
  (first
   | (go_at_call 87;refine HNE.out.mono ?_;rintro _ W2 ⟨s2,A2,m2,c2,z2,rfl,ho2,hz2,hb2⟩;have HB2:=ah (HBD.out.trans hb2);have hd0:=(HZ.out.next HB2.out).c0;have hd1:=(HZ.out.next HB2.out).c1;have hd2:=(HY.out.next HB2.out).c0;have hd3:=(HY.out.next HB2.out).c1)
   | (go_at_call 167;refine (add_any (h1.next HB2.out) ho2.rd hn (by rw [ho2.len,hz2.out,Zz.zl_neg];exact nT HLN.out hn')).mono ?_;rintro _ W4 ⟨s4,A4,m4,c4,z4,rfl,ho4,hz4,hb4⟩;have HB4:=tM HB2 hb4;have hf0:=(HZ.out.next HB4.out).c0;have hf1:=(HZ.out.next HB4.out).c1;have hf2:=(HY.out.next HB4.out).c0;have hf3:=(HY.out.next HB4.out).c1;have hg0:=(HR.out.next HB4.out).c0;have hg1:=(HR.out.next HB4.out).c1;have hh0:=(HR.out.next HB4.out).fz 0;have hh1:=(HR.out.next HB4.out).fz 1))
 have HS1:=ah hR.lt
 have hp:=put_int (hR.next HB4.out) (hB.trans (HB4.out.mono hB.size)) (by omega) ho4 (Nat.lt_of_lt_of_le HS1.out HB2.out.size)
 generalize (W4.setCell ⟨w.heap.size+1+1,0,none⟩ (.bool s4)).setCell ⟨w.heap.size+1+1,1,none⟩ (.slice A4 m4 c4)=W5 at hp ⊢
 obtain ⟨hZ5,ho5,hB5⟩:=hp
 clear hf0 hf1 hf2 hf3 hg0 hg1 hh0 hh1 hc0 hc1 hd0 hd1 hd2 hd3 hb2 hb4
 go_wp2
 exact bodyPost_ret (by simp [results,Tryz.results246,go_sem,hZ5.c0,hZ5.c1]) rfl ⟨_,_,_,_,_,rfl,ho5.base (nT (Nat.le_of_lt HSZ.out) HB2.out.size),ah (by rw [hz4.out,hz2.out,Int.sub_eq_add_neg]),hB5⟩
def DivBit (b r d j:Nat):Prop:=2 ^ j ∣ d/\d*b<=r/\r < (d+2 ^ j)*b/\d+2 ^ j<=4294967296
theorem DivBit.start {b x z:Nat}(hx:x < b)(hz:z < 4294967296):DivBit b (z+4294967296*x) 0 32:=by
 refine ⟨Nat.dvd_zero _,by omega,?_,by decide⟩
 have:=Nat.mul_le_mul_left 4294967296 (show x+1<=b by omega)
 rw [show (0+2 ^ 32)*b=4294967296*b by rw [Nat.zero_add]]
 omega
theorem DivBit.yes {b r d k:Nat}(h:DivBit b r d (k+1))(hle:(d+2 ^ k)*b<=r):DivBit b r (d+2 ^ k) k:=by
 obtain ⟨h1,h2,h3,h4⟩:=h
 rw [Nat.pow_succ] at h1 h3 h4
 have e:d+2 ^ k+2 ^ k=d+2 ^ k*2:=by omega
 exact ⟨(Nat.dvd_add_iff_left (Nat.dvd_refl _)).1 (Nat.dvd_trans (Nat.dvd_mul_right _ _) h1),hle,by rw [e];exact h3,by rw [e];exact h4⟩
theorem DivBit.no {b r d k:Nat}(h:DivBit b r d (k+1))(hle:r < (d+2 ^ k)*b):DivBit b r d k:=by
 obtain ⟨h1,h2,h3,h4⟩:=h
 rw [Nat.pow_succ] at h1 h4
 exact ⟨Nat.dvd_trans (Nat.dvd_mul_right _ _) h1,h2,hle,by omega⟩
theorem DivBit.join {b r d k:Nat}(h:DivBit b r d (k+1)):d+2 ^ k < 4294967296/\d ||| 2 ^ k=d+2 ^ k:=by
 obtain ⟨h1,_,_,h4⟩:=h
 have hp:=Nat.two_pow_pos k
 rw [Nat.pow_succ] at h4
 refine ⟨by omega,nat_join (k+1) _ _ ?_ (by rw [Nat.pow_succ];omega)⟩
 exact Nat.mod_eq_zero_of_dvd h1
theorem DivBit.fin {b r d:Nat}(h:DivBit b r d 0):d=r / b/\d*b<=r/\r-d*b < b/\d < 4294967296:=by
 obtain ⟨_,h2,h3,h4⟩:=h
 rw [Nat.pow_zero] at h3 h4
 have e:(d+1)*b=d*b+b:=by grind
 refine ⟨?_,h2,by omega,by omega⟩
 exact (Nat.div_eq_of_lt_le h2 h3).symm
theorem OwU.far {w:World}{b:Nat}{A:Option Addr}{n c:Nat}{L:List Nat}(h:OwU w b A n c L){p:Addr}(hp:p.block < b)(u:Value):OwU (w.setCell p u) b A n c L:=by
 refine ⟨⟨h.own.1,?_⟩,h.wd⟩
 rcases h.own.2 with h0 | ⟨g,cap,cur,h1,h2,h3,h4⟩
 ·exact .inl h0
 ·exact .inr ⟨g,cap,cur,h1,h2,(Below.heap_setCell w p u g (by omega)).trans h3,h4⟩
theorem or_bit {b r d i:Nat}(h:DivBit b r d (i+1))(hi:i < 32):bits .or .u32 (d:Int) ((2:Int) ^ i % 4294967296)=((d+2 ^ i:Nat):Int):=by
 have h31:=pow_le31 hi
 have e:(2:Int) ^ i % 4294967296=((2 ^ i:Nat):Int):=by
  have:((2 ^ i:Nat):Int)=(2:Int) ^ i:=by simp
  rw [<- this]
  generalize 2 ^ i=y at *
  omega
 have hj:=h.join
 rw [e,u32_or_nat _ _ (by omega) (by omega),hj.2]
theorem skip_step {L O:List Nat}{t b x:Nat}(hL:t < L.length)(hO:t < O.length)(h0:Dg.ld O t=0)(hI:Dg.val (O.drop (t+1))*b+x=Dg.val (L.drop (t+1))) :
  Dg.val (O.drop t)*b+(Dg.ld L t+4294967296*x)=Dg.val (L.drop t):=by
 rw [Dg.val_drop hL,Dg.val_drop hO,h0,<- hI]
 grind
theorem dig_step {L O:List Nat}{t b x r d:Nat}(hL:t < L.length)(hO:t < O.length)(hr:r=Dg.ld L t+4294967296*x)(hd:d=r / b)(hI:Dg.val (O.drop (t+1))*b+x=Dg.val (L.drop (t+1))) :
  Dg.val ((O.set t d).drop t)*b+(r-d*b)=Dg.val (L.drop t):=by
 have e:x*4294967296+Dg.ld L t=r:=by omega
 have hs:=Dg.short_step hL hO hI (q:=d) (by rw [e,hd])
 rw [e] at hs
 have h:=Nat.div_add_mod r b
 have e2:r-d*b=r % b:=by
  rw [hd,Nat.mul_comm (r / b) b]
  omega
 rw [e2]
 exact hs
theorem div_mod_of {q b x a:Nat}(h:q*b+x=a)(hx:x < b):q=a / b/\x=a % b:=by
 subst h
 have hb:0 < b:=by omega
 exact ⟨by rw [Nat.add_comm,Nat.add_mul_div_right _ _ hb,Nat.div_eq_of_lt hx,Nat.zero_add],by rw [Nat.add_comm,Nat.add_mul_mod_self_right,Nat.mod_eq_of_lt hx]⟩
def RetND (q r:Nat)(w:World)(e:Ending)(w':World):Prop :=
 ∃ (A A':Option Addr) (m c m' c' x y:Nat),e=.returned (.tuple #[.slice A m c,.slice A' m' c'])/\OwU w' w.heap.size A m c (Dg.dg x)/\OwU w' w.heap.size A' m' c' (Dg.dg y)/\Hid (x=q/\y=r)/\Below w.heap.size w w'
theorem refNDiv_any {A A':Option Addr}{n c n' c':Nat}{L L':List Nat}{w:World}(h:RdU w w.heap.size A n c L)(h':RdU w w.heap.size A' n' c' L')(hn:n<=4398046511103)(hn':n'<=4398046511103)(hpos:0 < Dg.val L') :
  Calls Tryz.prog 228 #[.slice A n c,.slice A' n' c'] w (RetND (Dg.val L / Dg.val L') (Dg.val L % Dg.val L') w):=by
 have HLEN:=ah h.len
 have HLEN':=ah h'.len
 go_enter Tryz.func228,Tryz.ntmps228
 go_wp2_with fail
 refine (refNorm_any h (by omega)).mono ?_
 rintro _ W1 ⟨A1,m1,c1,x1,rfl,ho1,hx1,hb1⟩
 go_wp2_with fail
 refine (refNorm_any (h'.next hb1) (by omega)).mono ?_
 rintro _ W2 ⟨A2,m2,c2,x2,rfl,ho2,hx2,hb2⟩
 have hr1:=(ho1.next hb2).rd
 have hr2:=ho2.rd
 have hm1:m1<=n:=by
  rw [<- ho1.len,hx1.out,Dg.dg_len_lt,<- HLEN.out];exact Dg.val_lt h.wd
 have hm2:m2<=n':=by
  rw [<- ho2.len,hx2.out,Dg.dg_len_lt,<- HLEN'.out];exact Dg.val_lt h'.wd
 have HV:=ah (show Dg.val (Dg.dg x1)=Dg.val L/\Dg.val (Dg.dg x2)=Dg.val L' from ⟨by rw [Dg.val_dg,hx1.out],by rw [Dg.val_dg,hx2.out]⟩)
 have hB:=hb1.trans (hb2.mono hb1.size)
 have hf1:=(ho1.next hb2).form
 clear ho1 ho2 hx1 hx2 hb1 hb2
 generalize Dg.dg x1=M1 at hr1 HV hf1
 generalize Dg.dg x2=M2 at hr2 HV
 obtain ⟨b,hb⟩:∃ b,b=Dg.val M2:=⟨_,rfl⟩
 have HBV:=ah hb
 have hb0:0 < b:=by rw [hb,HV.out.2];exact hpos
 clear hb
 have HL1:=ah hr1.len
 have HL2:=ah hr2.len
 have hmk:=make_nat m1 (by omega)
 have hB0:=(Below.refl W2.heap.size W2).alloc nR (.cells (madeCells #[.int .u32 0] m1) 171)
 have hU0:=UB.made W2 m1
 go_wp2_with fail
 generalize W2.alloc (.cells (madeCells #[.int .u32 0] m1) 171)=W3 at hB0 hU0 ⊢
 clear hmk
 obtain ⟨g,hg⟩:∃ g,g=W2.heap.size:=⟨_,rfl⟩
 rw [<- hg] at hU0 ⊢
 have HG:=ah hg
 clear hg
 have hgW:=hU0.lt
 go_wp2_with fail
 go_loopw [7,8] (fun ov iv wr=>∃ (k m c x:Nat) (A:Option Addr) (O:List Nat),iv=.int .i64 ((k:Int)-1)/\ov=.slice A m c/\k<=m1/\OwU wr W3.heap.size A m c (Dg.dg x)/\x < b/\UB wr g O/\Hid (O.length=m1/\Dg.Wd O/\(∀ z,z < k->Dg.ld O z=0)/\Dg.val (O.drop k)*b+x=Dg.val (M1.drop k))/\Below W2.heap.size W2 wr/\W3.heap.size<=wr.heap.size) (fun _ iv _=>(intOf iv+1).toNat)
 case atStart=>exact ⟨m1,0,0,0,none,_,rfl,rfl,nR,by rw [Dg.dg_zero];exact OwU.nil _ _,hb0,hU0,ah ⟨by simp,Dg.Wd.zeros _,fun z _=>Dg.ld_replicate _ _,by rw [List.drop_of_length_le (by simp),List.drop_of_length_le (by rw [HL1.out];exact nR)];simp [Dg.val]⟩,hB0,nR⟩
 case round =>
  obtain ⟨k,m,c0,x,A0,O,rfl,rfl,hk,ho,hxb,hU,hO,hbr,hs3⟩:=hrel
  have hm:m<=m2:=by
   rw [<- ho.len,Dg.dg_len_lt,<- HL2.out]
   have:=Dg.val_lt hr2.wd
   have:=HBV.out
   omega
  rcases Nat.eq_zero_or_pos k with h0 | h0
  ·subst h0
   have hO3:=hU.rd hO.out.2.1 hU.lt (k:=m1) (by rw [hO.out.1];exact nR) (by rw [hO.out.1];unfold maxLen;omega)
   rw [hO.out.1,List.take_of_length_le (by rw [hO.out.1];exact nR)] at hO3
   go_wp2_with fail
   refine (refNorm_any hO3 (by omega)).mono ?_
   rintro _ W4 ⟨A4,m4,c4,x4,rfl,ho4,hx4,hb4⟩
   go_wp2
   go_ret2
   have hO4:=hO.out.2.2.2
   rw [List.drop_zero,List.drop_zero] at hO4
   have hdm:=div_mod_of hO4 hxb
   exact ⟨_,_,_,_,_,_,_,_,rfl,ho4.base (nT hB.size hbr.size),(ho.next hb4).base (nT hB.size hB0.size),ah ⟨by rw [hx4.out,hdm.1,HBV.out,HV.out.1,HV.out.2],by rw [hdm.2,HBV.out,HV.out.1,HV.out.2]⟩,(hB.trans (hbr.mono hB.size)).trans (hb4.mono (nT hB.size hbr.size))⟩
  ·obtain ⟨t,rfl⟩:∃ t,k=t+1:=⟨k-1,by omega⟩
   rcases hf1 with ⟨_,h2,_⟩ | ⟨g1,rfl,_,hgl,hc1,_⟩
   ·omega
   obtain ⟨_,ad,e,_,hcell⟩:=hr1.at_ t (Dg.ld M1 t) (Dg.get_of_ld (by rw [HL1.out];omega))
   injection e with e
   subst e
   have hzl:Dg.ld M1 t < 4294967296:=Dg.ld_word hr1.wd t
   obtain ⟨z,hz⟩:∃ z,z=Dg.ld M1 t:=⟨_,rfl⟩
   rw [<- hz] at hcell hzl
   have HZ:=ah hz
   clear hz
   rw [add_base] at hcell
   have hcellr:=(hbr.cell (p:=⟨g1,t,none⟩) hgl).trans hcell
   go_wp2_with fail
   refine (shift_any z ho.rd ho.nilOk (by omega) hzl).mono ?_
   rintro _ W4 ⟨A4,m4,c4,r,rfl,ho4,hr,hb4⟩
   have hrb:r < 4294967296*b:=by
    have e:=hr.out
    rw [Dg.val_dg] at e
    have:=Nat.mul_le_mul_left 4294967296 (show x+1<=b by omega)
    omega
   have hm4:m4<=m2+1:=ho4.short (Nat.lt_of_lt_of_le hrb (Nat.le_of_lt (shift_lt (by rw [HBV.out,<- HL2.out];exact Dg.val_lt hr2.wd))))
   have hbr4:=hbr.trans (hb4.mono hbr.size)
   go_wp2_with fail
   refine (refCmp_any ho4.rd (hr2.next hbr4) (by omega) (by omega)).mono ?_
   rintro _ _ ⟨cv,rfl,hcv,rfl⟩
   rcases Nat.lt_or_ge r b with hlt | hge
   ·have ecv:cv=-1:=by rw [hcv.out,Dg.val_dg,<- HBV.out,Dg.cmp_lt hlt]
    subst ecv
    go_wp2
    go_roundw
    case rel =>
     have hO4:=hO.out
     exact ⟨t,m4,c4,r,A4,O,by go_num,rfl,by omega,ho4.base hs3,hlt,hU.below hb4 hU.lt,ah ⟨hO4.1,hO4.2.1,fun z hz=>hO4.2.2.1 z (by omega),by rw [hr.out,Dg.val_dg,HZ.out];exact skip_step (by rw [HL1.out];omega) (by rw [hO4.1];omega) (hO4.2.2.1 t (by omega)) hO4.2.2.2⟩,hbr4,nT hs3 hb4.size⟩
    case measure=>simp [intOf]
   ·have ecv:¬ cv < 0:=by
     rw [hcv.out,Dg.val_dg,<- HBV.out]
     unfold Dg.cmp
     rw [if_neg (by omega)]
     split <;> omega
    clear hcv
    go_wp2_with fail
    go_loopw [9,10] (fun dv jv wi=>∃ (d j:Nat),dv=.int .u32 d/\jv=.int .i64 ((j:Int)-1)/\j<=32/\Hid (DivBit b r d j)/\Below W4.heap.size W4 wi) (fun _ jv _=>(intOf jv+1).toNat)
    case atStart=>exact ⟨0,32,rfl,rfl,nR,ah (by rw [hr.out,Dg.val_dg];exact DivBit.start hxb hzl),bR⟩
    case round =>
     obtain ⟨d,j,rfl,rfl,hj,hD,hbi⟩:=hrel
     rcases Nat.eq_zero_or_pos j with h1 | h1
     ·subst h1
      have hfin:=hD.out.fin
      have hdl:=hfin.2.2.2
      have HFIN:=ah hfin
      clear hfin
      have hU4:=hU.below hb4 hU.lt
      have hUi:=hU4.below hbi hU4.lt
      have hcello:=hUi.cell (Dg.get_of_ld (L:=O) (i:=t) (by rw [hO.out.1];omega))
      have hfz:=hUi.frozen t
      have hU5:=hUi.set t d
      have hbr5:=(hbr4.trans (hbi.mono hbr4.size)).setCell (p:=⟨g,t,none⟩) (by show W2.heap.size<=g;have:=HG.out;omega) (.int .u32 d)
      have ho5:=((ho4.next hbi).base hs3).far (p:=⟨g,t,none⟩) (by show g < _;exact hgW) (.int .u32 d)
      have hsz:W4.heap.size<=(wr.setCell ⟨g,t,none⟩ (.int .u32 d)).heap.size:=by
       have:=hbi.size
       simp [World.setCell]
       exact this
      go_wp2_with fail
      generalize wr.setCell ⟨g,t,none⟩ (.int .u32 d)=W5 at hU5 hbr5 ho5 hsz ⊢
      refine (refSmall_any d (hr2.next hbr5) (by omega) hdl).mono ?_
      rintro _ W6 ⟨A6,m6,c6,x6,rfl,ho6,hx6,hb6⟩
      go_wp2_with fail
      refine (refNSub_any (ho5.next hb6).rd ho6.rd (by omega) (by rw [Dg.val_dg,Dg.val_dg,hx6.out,<- HBV.out,Nat.mul_comm];exact HFIN.out.2.1)).mono ?_
      rintro _ W7 ⟨A7,m7,c7,x7,rfl,ho7,hx7,hb7⟩
      have hx7':x7=r-d*b:=by rw [hx7.out,Dg.val_dg,Dg.val_dg,hx6.out,<- HBV.out,Nat.mul_comm]
      have hbb:=hb6.trans (hb7.mono hb6.size)
      go_wp2
      go_roundw
      case rel =>
       have hO4:=hO.out
       have hW5:W3.heap.size<=W5.heap.size:=nT hs3 (nT hb4.size hsz)
       have hr':r=Dg.ld M1 t+4294967296*x:=by rw [hr.out,Dg.val_dg,HZ.out]
       exact ⟨t,m7,c7,x7,A7,O.set t d,by go_num,rfl,by omega,ho7.base (nT hW5 hb6.size),by rw [hx7'];exact HFIN.out.2.2.1,hU5.below hbb hU5.lt,ah ⟨by rw [List.length_set];exact hO4.1,hO4.2.1.set t hdl,fun z hz=>by rw [Dg.ld_set_other d (by omega)];exact hO4.2.2.1 z (by omega),by rw [hx7'];exact dig_step (by rw [HL1.out];omega) (by rw [hO4.1];omega) hr' HFIN.out.1 hO4.2.2.2⟩,hbr5.trans (hbb.mono hbr5.size),nT hW5 hbb.size⟩
      case measure=>simp [intOf]
     ·obtain ⟨i,rfl⟩:∃ i,j=i+1:=⟨j-1,by omega⟩
      have hor:=or_bit hD.out (show i < 32 by omega)
      have hjn:=hD.out.join.1
      have hbr5:=hbr4.trans (hbi.mono hbr4.size)
      obtain ⟨y,hy⟩:∃ y,y=d+2 ^ i:=⟨_,rfl⟩
      rw [<- hy] at hor hjn
      have HY:=ah hy
      clear hy
      go_wp2_with fail
      refine (refSmall_any y (hr2.next hbr5) (by omega) hjn).mono ?_
      rintro _ W6 ⟨A6,m6,c6,x6,rfl,ho6,hx6,hb6⟩
      have hm6:m6<=m2+1:=ho6.short (by rw [hx6.out];exact Nat.mul_lt_mul'' (HL2.out ▸ Dg.val_lt hr2.wd) hjn)
      go_wp2_with fail
      refine (refCmp_any ho6.rd ((ho4.next hbi).next hb6).rd (by omega) (by omega)).mono ?_
      rintro _ _ ⟨cw,rfl,hcw,rfl⟩
      have hbi6:=hbi.trans (hb6.mono hbi.size)
      rcases Nat.lt_or_ge r (y*b) with hgt | hle
      ·have ecw:cw=1:=by rw [hcw.out,Dg.val_dg,Dg.val_dg,hx6.out,<- HBV.out,Nat.mul_comm,Dg.cmp_gt hgt]
       subst ecw
       go_wp2
       go_roundw
       case rel=>exact ⟨d,i,rfl,by go_num,by omega,ah (hD.out.no (by rw [<- HY.out];exact hgt)),hbi6⟩
       case measure=>simp [intOf]
      ·have ecw:cw<=0:=by
        rw [hcw.out,Dg.val_dg,Dg.val_dg,hx6.out,<- HBV.out,Nat.mul_comm]
        unfold Dg.cmp
        split
        ·omega
        ·rw [if_pos (by omega)];omega
       clear hcw
       go_wp2
       go_roundw
       case rel=>exact ⟨y,i,rfl,by go_num,by omega,ah (by rw [HY.out];exact hD.out.yes (by rw [<- HY.out];exact hle)),hbi6⟩
       case measure=>simp [intOf]
theorem pow_cast {j:Nat}(hj:j < 32):(2:Int) ^ j % 4294967296=((2 ^ j:Nat):Int):=by
 have h31:=pow_le31 hj
 have:((2 ^ j:Nat):Int)=(2:Int) ^ j:=by simp
 rw [<- this]
 generalize 2 ^ j=y at *
 omega
theorem left_val (M:List Nat)(s:Nat):Dg.val (List.replicate (s / 32) 0 ++ M)*2 ^ (s % 32)=Dg.val M*2 ^ s:=by
 rw [Dg.val_append,Dg.val_zeros,Nat.zero_add,List.length_replicate,show (4294967296:Nat)=2 ^ 32 from by decide,<- Nat.pow_mul]
 have e:2 ^ s=2 ^ (32*(s / 32))*2 ^ (s % 32):=by rw [<- Nat.pow_add,Nat.div_add_mod]
 rw [e]
 grind
theorem made_own (W:World)(k:Nat)(hk:k<=4398046511103):OwU (W.alloc (.cells (madeCells #[.int .u32 0] k) 171)) W.heap.size (some ⟨W.heap.size,0,none⟩) k k (List.replicate k 0):=by
 have hU0:=UB.made W k
 have:=hU0.own (k:=k) (Dg.Wd.zeros _) nR (by simp) (by simp;unfold maxLen;omega)
 simpa using this
theorem norm_some {W:World}{b m c x n:Nat}{A:Option Addr}{L:List Nat}(ho:OwU W b A m c (Dg.dg x))(hx:Hid (x=Dg.val L))(hpos:0 < Dg.val L)(hw:Dg.Wd L)(hl:L.length=n) :
  ∃ g2,A=some ⟨g2,0,none⟩/\((uc (Dg.dg x)).length=m*1/\(∀ W',Below W.heap.size W W'->∀ j u,(uc (Dg.dg x))[j]?=some u->W'.cell? ((⟨g2,0,none⟩:Addr).add j)=some u)/\0 < m)/\m<=n:=by
 have hm:m<=n:=ho.short (by rw [hx.out,<- hl];exact Dg.val_lt hw)
 have h0:0 < m:=by
  rcases Nat.eq_zero_or_pos m with e | e
  ·have hl0:=ho.len
   rw [e] at hl0
   have:=Dg.dg_nil.1 (List.eq_nil_of_length_eq_zero hl0)
   rw [hx.out] at this
   omega
  ·exact e
 rcases ho.form with ⟨_,e,_⟩ | ⟨g2,rfl,_⟩
 ·omega
 ·refine ⟨g2,rfl,⟨by rw [uc_len,ho.len,Nat.mul_one],?_,h0⟩,hm⟩
  have hlt:0 < (uc (Dg.dg x)).length:=by rw [uc_len,ho.len];exact h0
  intro W' hb
  obtain ⟨_,ad',e,hc⟩:=(ho.next hb).rd.src ⟨g2,0,none⟩ hlt
  injection e with e
  subst e
  exact hc
theorem refLeft_any (s:Nat){A:Option Addr}{n c:Nat}{L:List Nat}{w:World}(h:RdU w w.heap.size A n c L)(hn:n<=4398046511103)(hs:s<=140737488355296)(hpos:0 < Dg.val L) :
  Calls Tryz.prog 227 #[.slice A n c,.int .i64 s] w (RetN (Dg.val L*2 ^ s) w):=by
 have HLEN:=ah h.len
 obtain ⟨k,hk⟩:∃ k,k=s / 32:=⟨_,rfl⟩
 obtain ⟨j,hj⟩:∃ j,j=s % 32:=⟨_,rfl⟩
 have hsr:((s:Int)).tdiv 32=(k:Int):=by rw [Int.tdiv_eq_ediv_of_nonneg (by omega)];omega
 have hsm:((s:Int)).tmod 32=(j:Int):=by rw [Int.tmod_eq_emod_of_nonneg (by omega)];omega
 have hj32:j < 32:=by omega
 have hkb:k<=4398046511103:=by omega
 have hpc:=pow_cast hj32
 have hp31:=pow_le31 hj32
 obtain ⟨y,hy⟩:∃ y,y=2 ^ j:=⟨_,rfl⟩
 rw [<- hy] at hpc hp31
 have HV:=ah (left_val (Dg.dg (Dg.val L)) s)
 rw [<- hk,<- hj,<- hy,Dg.val_dg] at HV
 clear hy hk hj
 have hwk:IntKind.i64.wrap (k:Int)=(k:Int):=IntWalk.i64_in _ (by omega)
 have hmk:=fun W=>make_nat k (by omega) W
 have HN:=ah (show ∀ W:World,Below w.heap.size w W->Calls Tryz.prog 197 #[.slice A n c] W (RetN (Dg.val L) W) from fun W hb=>refNorm_any (h.next hb) (by omega))
 obtain ⟨i0,hi,hz0,hz1,hz2⟩:=info_parts infoW
 go_enter Tryz.func227,Tryz.ntmps227
 have HO1:=ah (fun W:World=>made_own W k (by omega))
 go_upto_region 1 with fail
 go_region_law (first
  | (refine step_append_lies _ rfl _ _ 23 rfl _ 171 i0 (.int .u32 0) 1 4 Tryz.underlying23 hi hz0 hz1 hz2 rfl (by decide) _ _ _ rfl ((HO1.out w.drew).next hb2).own ⟨g2,0,none⟩ m2 c2 (uc (Dg.dg x2)) rfl HN2.1 (HN2.2.1 _ bR) (uc_one _) HN2.2.2 (by unfold maxLen;omega) (by omega) (nT (by simp) hb2.size) _ rfl ?_;intro g3 c3 W3 hown3 hgrow3 _ _)
  | (refine step_append_lies _ rfl _ _ 23 rfl _ 171 i0 (.int .u32 0) 1 4 Tryz.underlying23 hi hz0 hz1 hz2 rfl (by decide) _ _ _ rfl (HO1.out W2).own ⟨g2,0,none⟩ m2 c2 (uc (Dg.dg x2)) rfl HN2.1 (HN2.2.1 _ (bA)) (uc_one _) HN2.2.2 (by unfold maxLen;omega) (by omega) (by simp) _ rfl ?_;intro g3 c3 W3 hown3 hgrow3 _ _)
  | (go_simp;go_at_call 197;refine (HN.out _ ?_).mono ?_;(first | exact bR.drew | exact (bR.drew).alloc nR _);rintro _ W2 ⟨A2,m2,c2,x2,rfl,ho2,hx2,hb2⟩;obtain ⟨g2,rfl,HN2,hm2⟩:=norm_some ho2 hx2 hpos (h.wd) HLEN.out))
 ·have hB:=((Below.refl w.heap.size w).alloc nR (.cells (madeCells #[.int .u32 0] k) 171)).drew.trans (hb2.mono (by simp))
  have hO3:OwU W3 w.heap.size (some ⟨g3,0,none⟩) (k+m2) c3 (List.replicate k 0 ++ Dg.dg x2):=⟨by rw [uc_append];exact hown3,(Dg.Wd.zeros _).append (Dg.dg_wd _)⟩
  have hB3:=hB.grown hgrow3 hB.size (fun k e=>by cases e;exact nR)
  go_wp2_with fail
  refine (refSmall_any y hO3.rd (by omega) (by omega)).mono ?_
  rintro _ W5 ⟨A5,m5,c5,x5,rfl,ho5,hx5,hb5⟩
  go_wp2
  go_ret
  exact ⟨_,_,_,_,rfl,ho5.base hB3.size,ah (by rw [hx5.out,hx2.out];exact HV.out),hB3.trans (hb5.mono hB3.size)⟩
 ·have hB:=((Below.refl w.heap.size w).drew.trans (hb2.mono nR)).alloc hb2.size (.cells (madeCells #[.int .u32 0] k) 171)
  have hO3:OwU W3 w.heap.size (some ⟨g3,0,none⟩) (k+m2) c3 (List.replicate k 0 ++ Dg.dg x2):=OwU.base (b:=W2.heap.size) ⟨by rw [uc_append];exact hown3,(Dg.Wd.zeros _).append (Dg.dg_wd _)⟩ hb2.size
  have hB3:=hB.grown hgrow3 hB.size (fun k e=>by cases e;exact hb2.size)
  go_wp2_with fail
  refine (refSmall_any y hO3.rd (by omega) (by omega)).mono ?_
  rintro _ W5 ⟨A5,m5,c5,x5,rfl,ho5,hx5,hb5⟩
  go_wp2
  go_ret
  exact ⟨_,_,_,_,rfl,ho5.base hB3.size,ah (by rw [hx5.out,hx2.out];exact HV.out),hB3.trans (hb5.mono hB3.size)⟩
theorem gcd_both {a b:Nat}(ha:a % 2=0)(hb:b % 2=0):Nat.gcd a b=2*Nat.gcd (a / 2) (b / 2):=by
 have e1:a=2*(a / 2):=by omega
 have e2:b=2*(b / 2):=by omega
 conv=>lhs;rw [e1,e2]
 exact Nat.gcd_mul_left _ _ _
theorem odd_half {g a:Nat}(hg:g % 2=1)(h:g ∣ 2*a):g ∣ a:=by
 obtain ⟨c,hc⟩:=h
 have h2:c % 2=0:=by
  rcases Nat.mod_two_eq_zero_or_one c with e | e
  ·exact e
  ·have:(g*c) % 2=1:=by rw [Nat.mul_mod,hg,e]
   omega
 refine ⟨c / 2,?_⟩
 have e:c=2*(c / 2):=by omega
 rw [e] at hc
 have:2*a=2*(g*(c / 2)):=by rw [hc];grind
 omega
theorem gcd_half {a b:Nat}(ha:a % 2=0)(ho:Nat.gcd a b % 2=1):Nat.gcd (a / 2) b=Nat.gcd a b:=by
 have e1:a=2*(a / 2):=by omega
 apply Nat.dvd_antisymm
 ·refine Nat.dvd_gcd ?_ (Nat.gcd_dvd_right _ _)
  exact Nat.dvd_trans (Nat.gcd_dvd_left _ _) ⟨2,by omega⟩
 ·refine Nat.dvd_gcd (odd_half ho ?_) (Nat.gcd_dvd_right _ _)
  rw [<- e1]
  exact Nat.gcd_dvd_left _ _
theorem gcd_less {a b:Nat}(h:b<=a):Nat.gcd (a-b) b=Nat.gcd a b:=by
 apply Nat.dvd_antisymm
 ·refine Nat.dvd_gcd ?_ (Nat.gcd_dvd_right _ _)
  have h1:=Nat.dvd_add (Nat.gcd_dvd_left (a-b) b) (Nat.gcd_dvd_right (a-b) b)
  rw [Nat.sub_add_cancel h] at h1
  exact h1
 ·exact Nat.dvd_gcd (Nat.dvd_sub (Nat.gcd_dvd_left _ _) (Nat.gcd_dvd_right _ _)) (Nat.gcd_dvd_right _ _)
theorem gcd_odd {a b:Nat}(h:¬ (a % 2=0/\b % 2=0)):Nat.gcd a b % 2=1:=by
 rcases Nat.mod_two_eq_zero_or_one (Nat.gcd a b) with e | e
 ·exfalso
  obtain ⟨c,hc⟩:=Nat.gcd_dvd_left a b
  obtain ⟨d,hd⟩:=Nat.gcd_dvd_right a b
  apply h
  constructor
  ·rw [hc,Nat.mul_mod,e];simp
  ·rw [hd,Nat.mul_mod,e];simp
 ·exact e
theorem own_low {W:World}{b m c x:Nat}{A:Option Addr}(ho:OwU W b A m c (Dg.dg x))(hx:0 < x) :
  ∃ g,A=some ⟨g,0,none⟩/\W.cell? ⟨g,0,none⟩=some (.int .u32 ((x % 4294967296:Nat):Int))/\0 < m:=by
 have e:=Dg.dg_pos (n:=x) (by omega)
 have hm:0 < m:=by rw [<- ho.len,e];simp
 rcases ho.form with ⟨_,h0,_⟩ | ⟨g,rfl,_⟩
 ·omega
 ·refine ⟨g,rfl,?_,hm⟩
  obtain ⟨_,ad,e2,_,hc⟩:=ho.rd.at_ 0 (x % 4294967296) (by rw [e];rfl)
  injection e2 with e2
  subst e2
  rw [add_base] at hc
  exact hc
theorem own_zero {W:World}{b m c x:Nat}{A:Option Addr}(ho:OwU W b A m c (Dg.dg x))(hx:x=0):m=0:=by
 rw [<- ho.len,hx,Dg.dg_zero];rfl
theorem refGcd_any {A A':Option Addr}{n c n' c':Nat}{L L':List Nat}{w:World}(h:RdU w w.heap.size A n c L)(h':RdU w w.heap.size A' n' c' L')(hn:n<=2199023255551)(hn':n'<=2199023255551) :
  Calls Tryz.prog 198 #[.slice A n c,.slice A' n' c'] w (RetN (Nat.gcd (Dg.val L) (Dg.val L')) w):=by
 have HLEN:=ah h.len
 have HLEN':=ah h'.len
 go_enter Tryz.func198,Tryz.ntmps198
 go_wp2_with fail
 refine (refNorm_any h (by omega)).mono ?_
 rintro _ W1 ⟨A1,m1,c1,x1,rfl,ho1,hx1,hb1⟩
 go_wp2_with fail
 refine (refNorm_any (h'.next hb1) (by omega)).mono ?_
 rintro _ W2 ⟨A2,m2,c2,x2,rfl,ho2,hx2,hb2⟩
 have hm1:m1<=n:=ho1.short (by rw [hx1.out,<- HLEN.out];exact Dg.val_lt h.wd)
 have hm2:m2<=n':=ho2.short (by rw [hx2.out,<- HLEN'.out];exact Dg.val_lt h'.wd)
 have hB:=hb1.trans (hb2.mono hb1.size)
 have hA1:=(ho1.next hb2)
 have hA2:=ho2.base (nT nR hb1.size)
 have HX:=ah (show Nat.gcd x1 x2=Nat.gcd (Dg.val L) (Dg.val L') by rw [hx1.out,hx2.out])
 clear ho1 ho2 hb1 hb2 hx1 hx2 h h' HLEN HLEN'
 rcases Nat.eq_zero_or_pos x1 with h0 | h0
 ·have e:=own_zero hA1 h0
  subst e h0
  go_wp2
  go_ret
  exact ⟨_,_,_,_,rfl,hA2,ah (by rw [<- HX.out,Nat.gcd_zero_left]),hB⟩
 ·obtain ⟨g1,rfl,hc1,hp1⟩:=own_low hA1 h0
  rcases Nat.eq_zero_or_pos x2 with h2 | h2
  ·have e:=own_zero hA2 h2
   subst e h2
   go_wp2
   go_ret
   exact ⟨_,_,_,_,rfl,hA1,ah (by rw [<- HX.out,Nat.gcd_zero_right]),hB⟩
  ·obtain ⟨g2,rfl,hc2,hp2⟩:=own_low hA2 h2
   have hq1:((m1:Int) == 0)=false:=by simp;omega
   have hq2:((m2:Int) == 0)=false:=by simp;omega
   have hlt1:x1 < 2 ^ (32*m1):=by
    have e:=Dg.dg_len_lt.1 (Nat.le_of_eq hA1.len)
    rwa [show (4294967296:Nat)=2 ^ 32 from by decide,<- Nat.pow_mul] at e
   have HLT:=ah hlt1
   clear hlt1
   go_upto_block 0 with fail
   go_cut [0,1,5] from 19 to 36 (fun av bv tv wr=>∃ (A A':Option Addr) (m c x m' c' y t:Nat),av=.slice A m c/\bv=.slice A' m' c'/\tv=.int .i64 t/\0 < x/\0 < y/\OwU wr w.heap.size A m c (Dg.dg x)/\OwU wr w.heap.size A' m' c' (Dg.dg y)/\m<=n/\m'<=n'/\t < 32*m1/\Hid (2 ^ t*Nat.gcd x y=Nat.gcd x1 x2/\Nat.gcd x y % 2=1)/\Below w.heap.size w wr)
   case first =>
    go_wp2_with fail
    go_loopw [0,1,5] (fun av bv tv wr=>∃ (A A':Option Addr) (m c x m' c' y t:Nat),av=.slice A m c/\bv=.slice A' m' c'/\tv=.int .i64 t/\0 < x/\0 < y/\OwU wr w.heap.size A m c (Dg.dg x)/\OwU wr w.heap.size A' m' c' (Dg.dg y)/\m<=n/\m'<=n'/\t < 32*m1/\Hid (2 ^ t*Nat.gcd x y=Nat.gcd x1 x2/\2 ^ t*x<=x1)/\Below w.heap.size w wr) (fun _ _ tv _=>32*m1-(intOf tv).toNat)
    case atStart=>exact ⟨_,_,m1,c1,x1,m2,c2,x2,0,rfl,rfl,rfl,h0,h2,hA1,hA2,hm1,hm2,by omega,ah (by simp),hB⟩
    case round =>
     clear hA1 hA2 hc1 hc2
     obtain ⟨A,A',m,c,x,m',c',y,t,rfl,rfl,rfl,hx,hy,hA1,hA2,hm,hm',ht,hI,hB⟩:=hrel
     obtain ⟨g1,rfl,hc1,hp1⟩:=own_low hA1 hx
     obtain ⟨g2,rfl,hc2,hp2⟩:=own_low hA2 hy
     have hbx:x % 4294967296 % 2=x % 2:=by omega
     have hby:y % 4294967296 % 2=y % 2:=by omega
     by_cases hev:x % 2=0/\y % 2=0
     ·obtain ⟨z1,hz1⟩:∃ z,z=x % 4294967296:=⟨_,rfl⟩
      obtain ⟨z2,hz2⟩:∃ z,z=y % 4294967296:=⟨_,rfl⟩
      rw [<- hz1] at hc1 hbx
      rw [<- hz2] at hc2 hby
      have e1:(z1:Int) % 2=0:=by omega
      have e2:(z2:Int) % 2=0:=by omega
      have HEV:=ah hev
      clear hz1 hz2 hbx hby hev
      go_wp2_with fail
      refine (half_any hA1.rd (by omega)).mono ?_
      rintro _ W4 ⟨A4,m4,c4,x4,rfl,ho4,hx4,hb4⟩
      go_wp2_with fail
      refine (half_any (hA2.next hb4).rd (by omega)).mono ?_
      rintro _ W5 ⟨A5,m5,c5,x5,rfl,ho5,hx5,hb5⟩
      go_wp2
      go_roundw
      case rel =>
       have ex4:x4=x / 2:=by rw [hx4.out,Dg.val_dg]
       have ex5:x5=y / 2:=by rw [hx5.out,Dg.val_dg]
       have hev:=HEV.out
       have hle:2 ^ (t+1)*x4<=x1:=by
        rw [Nat.pow_succ,Nat.mul_assoc,show 2*x4=x by omega];exact hI.out.2
       have hp4:0 < x4:=by omega
       have ht1:t+1 < 32*m1:=(Nat.pow_lt_pow_iff_right (a:=2) (by omega)).1 (Nat.lt_of_le_of_lt (nT (Nat.le_mul_of_pos_right _ hp4) hle) HLT.out)
       exact ⟨_,_,m4,c4,x4,m5,c5,x5,t+1,rfl,rfl,by go_num,hp4,by omega,(ho4.next hb5).base hB.size,ho5.base (nT hB.size hb4.size),nT (ho4.short (k:=m) (by rw [ex4];exact Nat.lt_of_le_of_lt (Nat.div_le_self _ _) (Dg.dg_len_lt.1 (Nat.le_of_eq hA1.len)))) hm,nT (ho5.short (k:=m') (by rw [ex5];exact Nat.lt_of_le_of_lt (Nat.div_le_self _ _) (Dg.dg_len_lt.1 (Nat.le_of_eq hA2.len)))) hm',ht1,ah ⟨by rw [<- hI.out.1,gcd_both hev.1 hev.2,ex4,ex5,Nat.pow_succ,Nat.mul_assoc],hle⟩,(hB.trans (hb4.mono hB.size)).trans (hb5.mono (nT hB.size hb4.size))⟩
      case measure=>simp [intOf];omega
     ·have hodd:=gcd_odd hev
      have HI2:=ah (cJ hI.out.1 hodd)
      clear hodd
      obtain ⟨z1,hz1⟩:∃ z,z=x % 4294967296:=⟨_,rfl⟩
      obtain ⟨z2,hz2⟩:∃ z,z=y % 4294967296:=⟨_,rfl⟩
      rw [<- hz1] at hc1 hbx
      rw [<- hz2] at hc2 hby
      clear hz1 hz2
      by_cases he:x % 2=0
      ·have e1:(z1:Int) % 2=0:=by omega
       have e2:¬ (z2:Int) % 2=0:=by omega
       go_wp2
       go_meet
       exact ⟨_,_,m,c,x,m',c',y,t,rfl,rfl,rfl,hx,hy,hA1,hA2,hm,hm',ht,HI2,hB⟩
      ·have e1:¬ (z1:Int) % 2=0:=by omega
       go_wp2
       go_meet
       exact ⟨_,_,m,c,x,m',c',y,t,rfl,rfl,rfl,hx,hy,hA1,hA2,hm,hm',ht,HI2,hB⟩
   case rest =>
    clear hA1 hA2 hc1 hc2 HLT
    obtain ⟨A,A',m,c,x,m',c',y,t,rfl,rfl,rfl,hx,hy,hA1,hA2,hm,hm',ht,hI,hB⟩:=hcut
    obtain ⟨G,hG⟩:∃ G,G=Nat.gcd x y:=⟨_,rfl⟩
    rw [<- hG] at hI
    have htb:t<=140737488355296:=by omega
    go_wp2_with fail
    go_loopg [0,1] (x+y) (fun gg av bv wr=>∃ (A A':Option Addr) (m c x m' c' y:Nat),av=.slice A m c/\bv=.slice A' m' c'/\x+y<=gg/\OwU wr w.heap.size A m c (Dg.dg x)/\OwU wr w.heap.size A' m' c' (Dg.dg y)/\m<=n/\m'<=n'/\Hid (Nat.gcd x y=G)/\Below w.heap.size w wr)
    case atStart=>exact ⟨A,A',m,c,x,m',c',y,rfl,rfl,nR,hA1,hA2,hm,hm',ah hG.symm,hB⟩
    case round =>
     clear hA1 hA2 hB hG hx hy hm hm'
     obtain ⟨A,A',m,c,x,m',c',y,rfl,rfl,hxy,hA1,hA2,hm,hm',hg,hB⟩:=hrel
     have HI:=ah hI.out
     rcases Nat.eq_zero_or_pos x with hx | hx
     ·have e:=own_zero hA1 hx
      subst e
      have hgy:y=G:=by rw [<- hg.out,hx,Nat.gcd_zero_left]
      have hy:0 < y:=by have:=hI.out.2;omega
      go_wp2_with fail
      refine (refLeft_any t hA2.rd (by omega) htb (by rw [Dg.val_dg];exact hy)).mono ?_
      rintro _ W4 ⟨A4,m4,c4,x4,rfl,ho4,hx4,hb4⟩
      go_wp2
      go_ret
      exact ⟨_,_,_,_,rfl,ho4.base hB.size,ah (by rw [hx4.out,Dg.val_dg,hgy,<- HX.out,<- hI.out.1,Nat.mul_comm]),hB.trans (hb4.mono hB.size)⟩
     ·obtain ⟨g1,rfl,hc1,hp1⟩:=own_low hA1 hx
      rcases Nat.eq_zero_or_pos y with hy | hy
      ·have e:=own_zero hA2 hy
       subst e
       have hgx:x=G:=by rw [<- hg.out,hy,Nat.gcd_zero_right]
       have hm0:((m:Int) == 0)=false:=by simp;omega
       go_wp2_with fail
       refine (refLeft_any t hA1.rd (by omega) htb (by rw [Dg.val_dg];exact hx)).mono ?_
       rintro _ W4 ⟨A4,m4,c4,x4,rfl,ho4,hx4,hb4⟩
       go_wp2
       go_ret
       exact ⟨_,_,_,_,rfl,ho4.base hB.size,ah (by rw [hx4.out,Dg.val_dg,hgx,<- HX.out,<- hI.out.1,Nat.mul_comm]),hB.trans (hb4.mono hB.size)⟩
      ·obtain ⟨g2,rfl,hc2,hp2⟩:=own_low hA2 hy
       have hmI:(0:Int) < (m:Int):=by omega
       have hmI':(0:Int) < (m':Int):=by omega
       go_wp2_with fail
       clear hc1 hc2
       go_loopg [0] x (fun gg av wr=>∃ (A:Option Addr) (m c z:Nat),av=.slice A m c/\0 < z/\z<=gg/\z<=x/\OwU wr w.heap.size A m c (Dg.dg z)/\OwU wr w.heap.size (some ⟨g2,0,none⟩) m' c' (Dg.dg y)/\m<=n/\Hid (Nat.gcd z y=G)/\Below w.heap.size w wr)
       case atStart=>exact ⟨_,m,c,x,rfl,hx,nR,nR,hA1,hA2,hm,hg,hB⟩
       case round =>
        clear hA1 hA2 hB hm hg hmI hp1
        obtain ⟨A,m,c,z,rfl,hz,hzg,hzx,hA1,hA2,hm,hg,hB⟩:=hrel
        obtain ⟨g1,rfl,hc1,hp1⟩:=own_low hA1 hz
        have hbx:z % 4294967296 % 2=z % 2:=by omega
        obtain ⟨z1,hz1⟩:∃ q,q=z % 4294967296:=⟨_,rfl⟩
        rw [<- hz1] at hc1 hbx
        clear hz1
        by_cases hev:z % 2=0
        ·have e1:(z1:Int) % 2=0:=by omega
         have HEV:=ah hev
         clear hbx hev
         go_wp2_with fail
         refine (half_any hA1.rd (by omega)).mono ?_
         rintro _ W4 ⟨A4,m4,c4,x4,rfl,ho4,hx4,hb4⟩
         go_wp2
         have ex4:x4=z / 2:=by rw [hx4.out,Dg.val_dg]
         have hev:=HEV.out
         go_roundg x4
         case measure=>omega
         case rel =>
          exact ⟨A4,m4,c4,x4,rfl,by omega,nR,by omega,ho4.base hB.size,hA2.next hb4,nT (ho4.short (k:=m) (by rw [ex4];exact Nat.lt_of_le_of_lt (Nat.div_le_self _ _) (Dg.dg_len_lt.1 (Nat.le_of_eq hA1.len)))) hm,ah (by rw [ex4,gcd_half hev (by rw [hg.out];exact HI.out.2),hg.out]),hB.trans (hb4.mono hB.size)⟩
        ·have ez:((z1:Int) % 2 == 0)=false:=by simp;omega
         clear hbx hev
         go_wp2_with fail
         clear hc1
         go_loopg [1] y (fun gg bv wr=>∃ (A':Option Addr) (m' c' u:Nat),bv=.slice A' m' c'/\0 < u/\u<=gg/\u<=y/\OwU wr w.heap.size (some ⟨g1,0,none⟩) m c (Dg.dg z)/\OwU wr w.heap.size A' m' c' (Dg.dg u)/\m'<=n'/\Hid (Nat.gcd z u=G)/\Below w.heap.size w wr)
         case atStart=>exact ⟨_,m',c',y,rfl,hy,nR,nR,hA1,hA2,hm',hg,hB⟩
         case round =>
          clear hA1 hA2 hB hm' hg hmI' hp2
          obtain ⟨A',m',c',u,rfl,hu,hug,huy,hA1,hA2,hm',hg,hB⟩:=hrel
          obtain ⟨g2,rfl,hc2,hp2⟩:=own_low hA2 hu
          have hby:u % 4294967296 % 2=u % 2:=by omega
          obtain ⟨z2,hz2⟩:∃ q,q=u % 4294967296:=⟨_,rfl⟩
          rw [<- hz2] at hc2 hby
          clear hz2
          by_cases hev:u % 2=0
          ·have e1:(z2:Int) % 2=0:=by omega
           have HEV:=ah hev
           clear hby hev
           go_wp2_with fail
           refine (half_any hA2.rd (by omega)).mono ?_
           rintro _ W4 ⟨A4,m4,c4,x4,rfl,ho4,hx4,hb4⟩
           go_wp2
           have ex4:x4=u / 2:=by rw [hx4.out,Dg.val_dg]
           have hev:=HEV.out
           go_roundg x4
           case measure=>omega
           case rel =>
            exact ⟨A4,m4,c4,x4,rfl,by omega,nR,by omega,hA1.next hb4,ho4.base hB.size,nT (ho4.short (k:=m') (by rw [ex4];exact Nat.lt_of_le_of_lt (Nat.div_le_self _ _) (Dg.dg_len_lt.1 (Nat.le_of_eq hA2.len)))) hm',ah (by rw [ex4,Nat.gcd_comm,gcd_half hev (by rw [Nat.gcd_comm,hg.out];exact HI.out.2),Nat.gcd_comm,hg.out]),hB.trans (hb4.mono hB.size)⟩
          ·have e1:¬ (z2:Int) % 2=0:=by omega
           clear hby hev
           go_wp2_with fail
           refine (refCmp_any hA1.rd hA2.rd (by omega) (by omega)).mono ?_
           rintro _ _ ⟨cv,rfl,hcv,rfl⟩
           rw [Dg.val_dg,Dg.val_dg] at hcv
           clear hc2 e1
           by_cases hle:u<=z
           ·have hc0:(0:Int)<=cv:=by
             rw [hcv.out];unfold Dg.cmp;rw [if_neg (by omega)];split <;> omega
            go_wp2_with fail
            refine (refNSub_any hA1.rd hA2.rd (by omega) (by rw [Dg.val_dg,Dg.val_dg];exact hle)).mono ?_
            rintro _ W4 ⟨A4,m4,c4,x4,rfl,ho4,hx4,hb4⟩
            go_wp2
            have ex4:x4=z-u:=by rw [hx4.out,Dg.val_dg,Dg.val_dg]
            go_roundg (x4+u)
            case measure=>omega
            case rel =>
             exact ⟨A4,_,m4,c4,x4,m',c',u,rfl,rfl,nR,ho4.base hB.size,hA2.next hb4,nT (ho4.short (k:=m) (by rw [ex4];exact Nat.lt_of_le_of_lt (Nat.sub_le _ _) (Dg.dg_len_lt.1 (Nat.le_of_eq hA1.len)))) hm,hm',ah (by rw [ex4,gcd_less hle,hg.out]),hB.trans (hb4.mono hB.size)⟩
           ·have hc0:cv < (0:Int):=by
             rw [hcv.out];unfold Dg.cmp;rw [if_pos (by omega)];omega
            go_wp2_with fail
            refine (refNSub_any hA2.rd hA1.rd (by omega) (by rw [Dg.val_dg,Dg.val_dg];omega)).mono ?_
            rintro _ W4 ⟨A4,m4,c4,x4,rfl,ho4,hx4,hb4⟩
            go_wp2
            have ex4:x4=u-z:=by rw [hx4.out,Dg.val_dg,Dg.val_dg]
            go_roundg (z+x4)
            case measure=>omega
            case rel =>
             exact ⟨_,A4,m,c,z,m4,c4,x4,rfl,rfl,nR,hA1.next hb4,ho4.base hB.size,hm,nT (ho4.short (k:=m') (by rw [ex4];exact Nat.lt_of_le_of_lt (Nat.sub_le _ _) (Dg.dg_len_lt.1 (Nat.le_of_eq hA2.len)))) hm',ah (by rw [ex4,Nat.gcd_comm,gcd_less (by omega),Nat.gcd_comm,hg.out]),hB.trans (hb4.mono hB.size)⟩
theorem rINorm_any {s:Bool}{A:Option Addr}{n c:Nat}{z:Int}{w:World}(h:RdZ w w.heap.size s A n c z)(hn:n<=17592186044416) :
  Calls Tryz.prog 154 #[.agg #[.bool s,.slice A n c]] w (RetI z w):=by
 obtain ⟨hZ,hR,hB⟩:=boxed1 w s A n c
 have h1:=h.next hB
 obtain ⟨M,h,hz⟩:=h1.raw
 have HSZ:=ah (Nat.lt_trans (Nat.lt_succ_self _) hR.lt)
 go_enter Tryz.func154,Tryz.ntmps154
 go_wp2_with fail
 generalize (w.alloc (.cells #[.bool s,.slice A n c] 25)).alloc (.cells #[.bool false,.slice none 0 0] 25)=W1 at *
 have hz0:=hZ.c0
 have hz1:=hZ.c1
 refine (refNorm_any h (by omega)).mono ?_
 rintro _ W2 ⟨A2,m2,c2,x2,rfl,ho2,hx2,hb2⟩
 have hZ2:=hZ.next hb2
 have hR2:=hR.next hb2
 have hB2:=hB.trans (hb2.mono hB.size)
 have hd0:=hZ2.c0
 have hd1:=hZ2.c1
 have hc0:=hR2.c0
 have hc1:=hR2.c1
 have hf0:=hR2.fz 0
 have hf1:=hR2.fz 1
 have HB:=ah hR.lt
 have HO:=ah (OwZ.mk' (t:=s) ho2)
 clear hb2 hZ hR h1 h hz0 hz1 ho2
 cases s
 ·go_wp2
  have hp:=put_int hR2 hB2 (Nat.le_succ _) (show OwZ W2 W1.heap.size false A2 m2 c2 (Zz.sg false x2) from HO.out) HB.out
  generalize (W2.setCell ⟨w.heap.size+1,0,none⟩ (.bool false)).setCell ⟨w.heap.size+1,1,none⟩ (.slice A2 m2 c2)=W9 at hp ⊢
  obtain ⟨hZ9,ho9,hB9⟩:=hp
  exact bodyPost_ret (by simp [results,Tryz.results154,go_sem,hZ9.c0,hZ9.c1]) rfl ⟨_,_,_,_,_,rfl,ho9.base (Nat.le_of_lt HSZ.out),ah (by rw [hx2.out,hz.out]),hB9⟩
 ·go_wp2
  have hp:=put_int hR2 hB2 (Nat.le_succ _) (show OwZ W2 W1.heap.size (decide (0 < m2)) A2 m2 c2 (Zz.sg true x2) from HO.out) HB.out
  generalize (W2.setCell ⟨w.heap.size+1,0,none⟩ (.bool (decide (0 < m2)))).setCell ⟨w.heap.size+1,1,none⟩ (.slice A2 m2 c2)=W9 at hp ⊢
  obtain ⟨hZ9,ho9,hB9⟩:=hp
  exact bodyPost_ret (by simp [results,Tryz.results154,go_sem,hZ9.c0,hZ9.c1]) rfl ⟨_,_,_,_,_,rfl,ho9.base (Nat.le_of_lt HSZ.out),ah (by rw [hx2.out,hz.out]),hB9⟩
theorem OwZ.nonneg {w:World}{b:Nat}{A:Option Addr}{n c x:Nat}(h:OwU w b A n c (Dg.dg x)):OwZ w b false A n c (x:Int):=⟨by simpa using h,by simp⟩
theorem rIOf_any (z:Int)(h1:-9223372036854775808<=z)(h2:z < 9223372036854775808)(w:World) :
  Calls Tryz.prog 101 #[.int .i64 z] w (RetI z w):=by
 have hB:=(Below.refl w.heap.size w).alloc nR (.cells #[.bool false,.slice none 0 0] 25)
 have hZ:=ZC.new w false none 0 0
 go_enter Tryz.func101,Tryz.ntmps101
 by_cases hz:z < 0
 ·go_wp2_with fail
  generalize w.alloc (.cells #[.bool false,.slice none 0 0] 25)=W1 at *
  refine (refOf_any z.natAbs (by omega) (by omega) W1).mono ?_
  rintro _ W2 ⟨A2,m2,c2,x2,rfl,ho2,hx2,hb2⟩
  have hZ3:=(hZ.next hb2)
  have hB3:=hB.trans (hb2.mono hB.size)
  have HO:Hid (OwZ W2 W1.heap.size true A2 m2 c2 z):=ah ⟨by rw [hx2.out] at ho2;exact ho2,(decide_eq_true hz).symm⟩
  have hc0:=hZ3.c0
  have hc1:=hZ3.c1
  have hf0:=hZ3.fz 0
  have hf1:=hZ3.fz 1
  have HB:=ah (show w.heap.size < W1.heap.size from hZ.lt)
  clear hb2 ho2
  go_wp2
  have hp:=put_int hZ3 hB3 nR HO.out HB.out
  generalize (W2.setCell ⟨w.heap.size,0,none⟩ (.bool true)).setCell ⟨w.heap.size,1,none⟩ (.slice A2 m2 c2)=W9 at hp ⊢
  obtain ⟨hZ9,ho9,hB9⟩:=hp
  exact bodyPost_ret (by simp [results,Tryz.results101,go_sem,hZ9.c0,hZ9.c1]) rfl ⟨_,_,_,_,_,rfl,ho9.base (Nat.le_of_lt HB.out),ah rfl,hB9⟩
 ·have hz0:0<=z:=by omega
  clear hz
  go_wp2_with fail
  generalize w.alloc (.cells #[.bool false,.slice none 0 0] 25)=W1 at *
  refine (refOf_any z.natAbs (by omega) (by omega) W1).mono ?_
  rintro _ W2 ⟨A2,m2,c2,x2,rfl,ho2,hx2,hb2⟩
  have hZ3:=(hZ.next hb2)
  have hB3:=hB.trans (hb2.mono hB.size)
  have HO:Hid (OwZ W2 W1.heap.size false A2 m2 c2 z):=ah ⟨by rw [hx2.out] at ho2;exact ho2,(decide_eq_false (by omega)).symm⟩
  have hc0:=hZ3.c0
  have hc1:=hZ3.c1
  have hf0:=hZ3.fz 0
  have hf1:=hZ3.fz 1
  have HB:=ah (show w.heap.size < W1.heap.size from hZ.lt)
  clear hb2 ho2
  go_wp2
  have hp:=put_int hZ3 hB3 nR HO.out HB.out
  generalize (W2.setCell ⟨w.heap.size,0,none⟩ (.bool false)).setCell ⟨w.heap.size,1,none⟩ (.slice A2 m2 c2)=W9 at hp ⊢
  obtain ⟨hZ9,ho9,hB9⟩:=hp
  exact bodyPost_ret (by simp [results,Tryz.results101,go_sem,hZ9.c0,hZ9.c1]) rfl ⟨_,_,_,_,_,rfl,ho9.base (Nat.le_of_lt HB.out),ah rfl,hB9⟩
theorem rISign_any {s:Bool}{A:Option Addr}{n c:Nat}{z:Int}{w:World}(h:RdZ w w.heap.size s A n c z)(hn:n<=17592186044416) :
  Calls Tryz.prog 69 #[.agg #[.bool s,.slice A n c]] w (RetK z.sign w):=by
 obtain ⟨M,h,hz⟩:=h.raw
 have hB:=(Below.refl w.heap.size w).alloc nR (.cells #[.bool s,.slice A n c] 25)
 have hZ:=ZC.new w s A n c
 have h1:=h.next hB
 go_enter Tryz.func69,Tryz.ntmps69
 go_wp2_with fail
 refine (refZero_any h1 hn).mono ?_
 rintro _ _ ⟨b,rfl,hk,rfl⟩
 have HS:=ah (show z.sign=if b=true then 0 else if s then -1 else 1 by
  rw [hz.out,sign_sg]
  by_cases e:b=true
  ·rw [if_pos e,if_pos (hk.out.1 e)]
  ·rw [if_neg e,if_neg fun e2=>e (hk.out.2 e2)])
 clear hk hz h1 h
 generalize w.alloc (.cells #[.bool s,.slice A n c] 25)=W1 at *
 have hc0:=hZ.c0
 have hc1:=hZ.c1
 cases b
 ·cases s
  ·go_wp2
   go_ret
   exact ⟨_,rfl,ah (by rw [HS.out];rfl),hB⟩
  ·go_wp2
   go_ret
   exact ⟨_,rfl,ah (by rw [HS.out];rfl),hB⟩
 ·go_wp2
  go_ret
  exact ⟨_,rfl,ah (by rw [HS.out];rfl),hB⟩
theorem RdZ.neg {w:World}{B:Nat}{s:Bool}{A:Option Addr}{n c:Nat}{z:Int}(h:RdZ w B s A n c z):RdZ w B (!s) A n c (-z):=by
 obtain ⟨M,h,rfl⟩:=h
 exact ⟨M,h,(Zz.sg_not _ _).symm⟩
theorem rINeg_any {s:Bool}{A:Option Addr}{n c:Nat}{z:Int}{w:World}(h:RdZ w w.heap.size s A n c z)(hn:n<=17592186044416) :
  Calls Tryz.prog 99 #[.agg #[.bool s,.slice A n c]] w (RetI (-z) w):=by
 obtain ⟨hZ,hR,hB⟩:=boxed1 w s A n c
 have h1:=h.next hB
 have HSZ:=ah (Nat.lt_trans (Nat.lt_succ_self _) hR.lt)
 go_enter Tryz.func99,Tryz.ntmps99
 go_wp2_with fail
 generalize (w.alloc (.cells #[.bool s,.slice A n c] 25)).alloc (.cells #[.bool false,.slice none 0 0] 25)=W1 at *
 refine (rINorm_any h1.neg hn).mono ?_
 rintro _ W2 ⟨s2,A2,m2,c2,z2,rfl,ho2,hz2,hb2⟩
 have hR2:=hR.next hb2
 have hB2:=hB.trans (hb2.mono hB.size)
 have hc0:=hR2.c0
 have hc1:=hR2.c1
 have hf0:=hR2.fz 0
 have hf1:=hR2.fz 1
 have HB:=ah hR.lt
 clear hb2 hZ hR h1 h
 go_wp2
 have hp:=put_int hR2 hB2 (Nat.le_succ _) ho2 HB.out
 generalize (W2.setCell ⟨w.heap.size+1,0,none⟩ (.bool s2)).setCell ⟨w.heap.size+1,1,none⟩ (.slice A2 m2 c2)=W9 at hp ⊢
 obtain ⟨hZ9,ho9,hB9⟩:=hp
 exact bodyPost_ret (by simp [results,Tryz.results99,go_sem,hZ9.c0,hZ9.c1]) rfl ⟨_,_,_,_,_,rfl,ho9.base (Nat.le_of_lt HSZ.out),hz2,hB9⟩
theorem rIAbs_any {s:Bool}{A:Option Addr}{n c:Nat}{z:Int}{w:World}(h:RdZ w w.heap.size s A n c z)(hn:n<=17592186044416) :
  Calls Tryz.prog 216 #[.agg #[.bool s,.slice A n c]] w (RetI z.natAbs w):=by
 obtain ⟨hZ,hR,hB⟩:=boxed1 w s A n c
 have h1:=h.next hB
 obtain ⟨M,h,hz⟩:=h1.raw
 have HSZ:=ah (Nat.lt_trans (Nat.lt_succ_self _) hR.lt)
 go_enter Tryz.func216,Tryz.ntmps216
 go_wp2_with fail
 generalize (w.alloc (.cells #[.bool s,.slice A n c] 25)).alloc (.cells #[.bool false,.slice none 0 0] 25)=W1 at *
 have hz0:=hZ.c0
 have hz1:=hZ.c1
 refine (refNorm_any h (by omega)).mono ?_
 rintro _ W2 ⟨A2,m2,c2,x2,rfl,ho2,hx2,hb2⟩
 have hR2:=hR.next hb2
 have hB2:=hB.trans (hb2.mono hB.size)
 have hc0:=hR2.c0
 have hc1:=hR2.c1
 have hf0:=hR2.fz 0
 have hf1:=hR2.fz 1
 have HB:=ah hR.lt
 clear hb2 hZ hR h1 h hz0 hz1
 go_wp2
 have hp:=put_int hR2 hB2 (Nat.le_succ _) (OwZ.nonneg ho2) HB.out
 generalize (W2.setCell ⟨w.heap.size+1,0,none⟩ (.bool false)).setCell ⟨w.heap.size+1,1,none⟩ (.slice A2 m2 c2)=W9 at hp ⊢
 obtain ⟨hZ9,ho9,hB9⟩:=hp
 exact bodyPost_ret (by simp [results,Tryz.results216,go_sem,hZ9.c0,hZ9.c1]) rfl ⟨_,_,_,_,_,rfl,ho9.base (Nat.le_of_lt HSZ.out),ah (by rw [hx2.out,hz.out,Zz.abs_sg]),hB9⟩
theorem rIGcd_any {s s':Bool}{A A':Option Addr}{n c n' c':Nat}{z z':Int}{w:World}(h:RdZ w w.heap.size s A n c z)(h':RdZ w w.heap.size s' A' n' c' z')(hn:n<=2199023255551)(hn':n'<=2199023255551) :
  Calls Tryz.prog 152 #[.agg #[.bool s,.slice A n c],.agg #[.bool s',.slice A' n' c']] w (RetI (Int.gcd z z') w):=by
 obtain ⟨hZ,hY,hR,hB⟩:=boxed2 w s A n c s' A' n' c'
 obtain ⟨M,h1,hz⟩:=(h.next hB).raw
 obtain ⟨M',h1',hz'⟩:=(h'.next hB).raw
 have HSZ:=ah (show w.heap.size < _ from Nat.lt_trans (Nat.lt_succ_self _) (Nat.lt_trans (Nat.lt_succ_self _) hR.lt))
 go_enter Tryz.func152,Tryz.ntmps152
 go_wp2_with fail
 generalize ((w.alloc (.cells #[.bool s,.slice A n c] 25)).alloc (.cells #[.bool s',.slice A' n' c'] 25)).alloc (.cells #[.bool false,.slice none 0 0] 25)=W1 at *
 have hc1:=hZ.c1
 have hd1:=hY.c1
 refine (refGcd_any h1 h1' hn hn').mono ?_
 rintro _ W2 ⟨A2,m2,c2,x2,rfl,ho2,hx2,hb2⟩
 clear hc1 hd1
 have hR2:=hR.next hb2
 have hB2:=hB.trans (hb2.mono hB.size)
 have HS1:=ah hR.lt
 have hc0:=hR2.c0
 have hc1:=hR2.c1
 have hf0:=hR2.fz 0
 have hf1:=hR2.fz 1
 clear hb2 hZ hY
 go_wp2
 have hp:=put_int hR2 hB2 (by omega) (OwZ.nonneg ho2) HS1.out
 generalize (W2.setCell ⟨w.heap.size+1+1,0,none⟩ (.bool false)).setCell ⟨w.heap.size+1+1,1,none⟩ (.slice A2 m2 c2)=W9 at hp ⊢
 obtain ⟨hZ9,ho9,hB9⟩:=hp
 exact bodyPost_ret (by simp [results,Tryz.results152,go_sem,hZ9.c0,hZ9.c1]) rfl ⟨_,_,_,_,_,rfl,ho9.base (Nat.le_of_lt HSZ.out),ah (by rw [hx2.out,hz.out,hz'.out];unfold Int.gcd;rw [Zz.abs_sg,Zz.abs_sg]),hB9⟩
theorem rIMul_any {s s':Bool}{A A':Option Addr}{n c n' c':Nat}{z z':Int}{w:World}(h:RdZ w w.heap.size s A n c z)(h':RdZ w w.heap.size s' A' n' c' z')(hn:n<=4398046511103)(hn':n'<=4398046511103) :
  Calls Tryz.prog 176 #[.agg #[.bool s,.slice A n c],.agg #[.bool s',.slice A' n' c']] w (RetI (z*z') w):=by
 obtain ⟨hZ,hY,hR,hB⟩:=boxed2 w s A n c s' A' n' c'
 obtain ⟨M,h1,hz⟩:=(h.next hB).raw
 obtain ⟨M',h1',hz'⟩:=(h'.next hB).raw
 have HSZ:=ah (show w.heap.size < _ from Nat.lt_trans (Nat.lt_succ_self _) (Nat.lt_trans (Nat.lt_succ_self _) hR.lt))
 go_enter Tryz.func176,Tryz.ntmps176
 go_wp2_with fail
 generalize ((w.alloc (.cells #[.bool s,.slice A n c] 25)).alloc (.cells #[.bool s',.slice A' n' c'] 25)).alloc (.cells #[.bool false,.slice none 0 0] 25)=W1 at *
 have HBD:=ah (Below.refl W1.heap.size W1).drew
 have HMU:=ah (refNMul_any (h1.next HBD.out) (h1'.next HBD.out) hn hn')
 have HLN:=ah (show ∀ (W:World) (b:Nat) (A:Option Addr) (m c x:Nat),OwU W b A m c (Dg.dg x)->Hid (x=Dg.val M*Dg.val M')->m<=17592186044416 from fun W b A m c x ho hx=>by
  have e:=prod_len h1.wd h1'.wd
  rw [h1.len,h1'.len] at e
  have e2:=ho.len
  rw [hx.out] at e2
  omega)
 have hc0:=hZ.c0
 have hc1:=hZ.c1
 have hd0:=hY.c0
 have hd1:=hY.c1
 have HZ:=ah hZ
 have HY:=ah hY
 have HR:=ah hR
 have hq1:¬ (w.heap.size+1+1=w.heap.size):=by omega
 have hq2:¬ (w.heap.size=w.heap.size+1+1):=by omega
 go_region_held3 (fun w'=>w'.cell? ⟨w.heap.size,0,none⟩=some (.bool s)/\w'.cell? ⟨w.heap.size,1,none⟩=some (.slice A n c)/\w'.cell? ⟨w.heap.size+1,0,none⟩=some (.bool s')/\w'.cell? ⟨w.heap.size+1,1,none⟩=some (.slice A' n' c')) (go_keep)
  (first
   | (go_at_call 215;refine HMU.out.mono ?_;rintro _ W2 ⟨A2,m2,c2,x2,rfl,ho2,hx2,hb2⟩;have HB2:=ah (HBD.out.trans hb2);have hd0:=(HZ.out.next HB2.out).c0;have hd1:=(HZ.out.next HB2.out).c1;have hd2:=(HY.out.next HB2.out).c0;have hd3:=(HY.out.next HB2.out).c1)
   | (go_at_call 154;refine (rINorm_any (z:=Zz.sg (s != s') (Dg.val (Dg.dg x2))) ⟨_,ho2.rd,rfl⟩ (HLN.out _ _ _ _ _ _ ho2 hx2)).mono ?_;rintro _ W4 ⟨s4,A4,m4,c4,z4,rfl,ho4,hz4,hb4⟩;have HB4:=tM HB2 hb4;have hf0:=(HZ.out.next HB4.out).c0;have hf1:=(HZ.out.next HB4.out).c1;have hf2:=(HY.out.next HB4.out).c0;have hf3:=(HY.out.next HB4.out).c1;have hg0:=(HR.out.next HB4.out).c0;have hg1:=(HR.out.next HB4.out).c1;have hh0:=(HR.out.next HB4.out).fz 0;have hh1:=(HR.out.next HB4.out).fz 1))
 have HS1:=ah hR.lt
 have HFA:=ah (show z4=z*z' by rw [hz4.out,Dg.val_dg,hx2.out,hz.out,hz'.out,Zz.sg_mul])
 clear hf0 hf1 hf2 hf3 hg0 hg1 hh0 hh1 hc0 hc1 hd0 hd1 hd2 hd3 hb2 hb4 hq1 hq2
 have hR4:=hR.next HB4.out
 have hB4:=hB.trans (HB4.out.mono hB.size)
 have hp:=put_int hR4 hB4 (by omega) ho4 (Nat.lt_of_lt_of_le HS1.out HB2.out.size)
 generalize (W4.setCell ⟨w.heap.size+1+1,0,none⟩ (.bool s4)).setCell ⟨w.heap.size+1+1,1,none⟩ (.slice A4 m4 c4)=W9 at hp ⊢
 obtain ⟨hZ9,ho9,hB9⟩:=hp
 go_wp2
 exact bodyPost_ret (by simp [results,Tryz.results176,go_sem,hZ9.c0,hZ9.c1]) rfl ⟨_,_,_,_,_,rfl,ho9.base (nT (Nat.le_of_lt HSZ.out) HB2.out.size),HFA,hB9⟩
end Go.Proofs.YtjnklbfhelbjgaaGreat
